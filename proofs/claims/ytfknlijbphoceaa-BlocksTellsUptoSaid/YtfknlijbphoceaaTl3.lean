/-
  The law BlocksTells, walked.
-/
import Derived.Test.YtfknlijbphoceaaTl2
import Derived.Test.YtfknlijbphoceaaRckq
import Derived.Test.YtfknlijbphoceaaBkOwn
import Derived.Test.YtfknlijbphoceaaDf3
import Derived.Deep.RegionWith
import Derived.Deep.RegionLaw
namespace Go.Proofs.Ytfknlijbphoceaa
open Go.RowKit

def rdE (b : List UInt8) : Int := if b.length % 18 = 0 then okE (readL b) else 8
def rdR (b : List UInt8) : BL := if b.length % 18 = 0 ∧ okL (readL b) = true then readL b else []
theorem readL_len (b : List UInt8) : (readL b).length = b.length / 18 := by simp [readL, rdL]
theorem bread_any (b : List UInt8) (n : Nat) (hnb : n = b.length) (A : Option Addr) (c : Nat) (w : World) (B : Nat) (hr : Reads w B 1 A n (bts b)) (hB : B ≤ w.heap.size) (hc : n ≤ c) (hcm : c ≤ 9223372036854775807) (hn : n ≤ 5000000000000) :
    Calls Try.prog 18 #[.slice A n c] w (RReadPost w b) := by
  by_cases h : b.length % 18 = 0
  · refine (bkRead_any b n hnb A c w B hr hB hc hcm hn (n / 18) (by omega)).mono ?_
    rintro e w' ⟨⟨v, rfl, hv⟩, hb⟩
    refine ⟨v, by rw [if_pos h], ?_, hb⟩
    by_cases hk : okL (readL b) = true
    · rw [if_pos hk] at hv
      rw [if_pos ⟨h, hk⟩, readL_len, ← hnb]
      exact hv
    · rw [if_neg hk] at hv
      subst hv
      rw [if_neg (fun e => hk e.2)]
      exact World.ownsRow_nil _ _ _ _
  · refine (bkRead_short n A c w (by omega)).mono ?_
    rintro e w' ⟨rfl, rfl⟩
    refine ⟨.slice none 0 0, by rw [if_neg h], ?_, Below.refl _ _⟩
    rw [if_neg (fun e => h e.1)]
    exact World.ownsRow_nil _ _ _ _
/-- what a list's reading keeps -/
theorem keepR {W W' : World} {A : Option Addr} {n : Nat} {L : BL} (h : Reads W W.heap.size 2 A n (bcells L)) (hb : Below W.heap.size W W') : Reads W' W'.heap.size 2 A n (bcells L) := (h.below hb).more hb.size
theorem pieceQ {W : World} {n : Nat} {L : List UInt8} {v : Value} (h : PieceIn n L v W) (q : Nat) : PieceIn n L v (W.drewN q) := by
  obtain ⟨h1, A, c, h2, h3, h4, h5⟩ := h
  exact ⟨h1, A, c, h2, h3, h4, h5.drewN q⟩
theorem cvP {W : World} {n c : Nat} {A : Option Addr} {L : List UInt8} (h : PieceIn n L (.slice A n c) W) : (convert 47 9 (.slice A n c)).run Try.prog W = .ok (.string ⟨L.toArray⟩) W := by
  obtain ⟨h1, A', c', h2, _, _, h5⟩ := h
  injection h2 with e1 _ e2
  subst e1 e2
  exact strE_of h5 h1 Try.underlying47 Try.underlying5 Try.underlying9
theorem cvR {W : World} {n c B : Nat} {A : Option Addr} {L : List UInt8} (h : Reads W B 1 A n (bts L)) (hn : n = L.length) : (convert 47 9 (.slice A n c)).run Try.prog W = .ok (.string ⟨L.toArray⟩) W :=
  strE_of h hn Try.underlying47 Try.underlying5 Try.underlying9
theorem keepQ {W : World} {A : Option Addr} {n : Nat} {L : BL} (h : Reads W W.heap.size 2 A n (bcells L)) (q : Nat) : Reads (W.drewN q) (W.drewN q).heap.size 2 A n (bcells L) := h.drewN q

set_option maxRecDepth 100000 in
set_option maxHeartbeats 8000000 in
theorem blocksTells_any (l : BL) (n : Nat) (hnl : n = l.length) (A : Option Addr) (c : Nat) (hnc : n ≤ c) (hcm : c ≤ 9223372036854775807) (i cn : Int) (d : List UInt8) (b : List UInt8) (m : Nat) (hmb : m = b.length) (A' : Option Addr) (c' : Nat) (hmc : m ≤ c') (hcm' : c' ≤ 9223372036854775807) (w : World)
    (hr : Reads w w.heap.size 2 A n (bcells l)) (hr' : Reads w w.heap.size 1 A' m (bts b)) (hn : n ≤ 5000000000000) (hm : m ≤ 5000000000000) :
    LawCalls Try.prog 7 #[.slice A n c, .int .i64 i, .int .i64 cn, .string ⟨d.toArray⟩, .slice A' m c'] w := by
  have kk : ∀ {W : World}, Below w.heap.size w W → w.heap.size ≤ W.heap.size := fun h => h.size
  have f1 := fun W (hb : Below w.heap.size w W) => (bkPut_any l n hnl A c i d W w.heap.size (hr.below hb) hb.size hn).mono (fun e w' h => PutPost.own h)
  have f2 := fun W (hb : Below w.heap.size w W) => (rput_any l n hnl A c hnc hcm i d W w.heap.size (hr.below hb) hb.size hn).mono (fun e w' h => PutPost.own h)
  have f3 := fun W (hb : Below w.heap.size w W) => bkFree_any l n hnl A c i cn W w.heap.size (hr.below hb) hb.size hn
  have f4 := fun W (hb : Below w.heap.size w W) => rfree_any l n hnl A c i cn W w.heap.size (hr.below hb) hb.size hn
  have f5 := fun W (hb : Below w.heap.size w W) => get_any l n hnl A c i W w.heap.size (hr.below hb) hb.size (by omega)
  have f6 := fun W (hb : Below w.heap.size w W) => rget_any l n hnl A c i W w.heap.size (hr.below hb) hb.size (by omega)
  have f7 := fun W (hb : Below w.heap.size w W) => bkOctets_any l n hnl A c W w.heap.size (hr.below hb) hb.size hn
  have f8 := fun W (hb : Below w.heap.size w W) => bread_any b m hmb A' c' W w.heap.size (hr'.below hb) hb.size hmc hcm' hm
  have f9 := fun W (hb : Below w.heap.size w W) => rread_any b m hmb A' c' W w.heap.size (hr'.below hb) hb.size hmc hm
  have fc := fun W (hb : Below w.heap.size w W) => checkBk_any l n hnl A c W w.heap.size (hr.below hb) hb.size (by omega)
  have frc := fun W (hb : Below w.heap.size w W) => rcheck_any l n hnl A c W w.heap.size (hr.below hb) hb.size (by omega)
  unfold FreePost at f3 f4
  unfold RReadPost at f8 f9
  unfold CheckBk at fc frc
  have frq := fun W q0 (hb : Below w.heap.size w W) => rcheckq_any l n hnl A c (W.drewN q0) w.heap.size ((hr.below hb).drewN q0) (by omega)
  obtain ⟨zp, hzp⟩ : ∃ z, z = putE l i d := ⟨_, rfl⟩
  obtain ⟨Lp, hLp⟩ : ∃ L, L = putR l i d := ⟨_, rfl⟩
  obtain ⟨Mp, hMp⟩ : ∃ M, M = Lp.length := ⟨_, rfl⟩
  obtain ⟨zf, hzf⟩ : ∃ z, z = freeE l i cn := ⟨_, rfl⟩
  obtain ⟨Lf, hLf⟩ : ∃ L, L = freeR l i cn := ⟨_, rfl⟩
  obtain ⟨Mf, hMf⟩ : ∃ M, M = Lf.length := ⟨_, rfl⟩
  obtain ⟨sg, hsg⟩ : ∃ s, s = getL l i := ⟨_, rfl⟩
  obtain ⟨bg, hbg⟩ : ∃ s, s = hasL l i := ⟨_, rfl⟩
  obtain ⟨zr, hzr⟩ : ∃ z, z = (if b.length % 18 = 0 then okE (readL b) else 8) := ⟨_, rfl⟩
  obtain ⟨Lr, hLr⟩ : ∃ L, L = (if b.length % 18 = 0 ∧ okL (readL b) = true then readL b else []) := ⟨_, rfl⟩
  obtain ⟨Mr, hMr⟩ : ∃ M, M = Lr.length := ⟨_, rfl⟩
  obtain ⟨zk, hzk⟩ : ∃ z, z = okE l := ⟨_, rfl⟩
  have hMps : Mp ≤ 1025 := by rw [hMp, hLp]; exact okE_small l i d
  have hMfs : Mf ≤ 5000000000000 := by
    rw [hMf, hLf]
    unfold freeR freeL
    split
    · have := List.length_filter_le (fun x => !inB i cn x) l; omega
    · simp
  have hMrs : Mr ≤ 5000000000000 := by
    rw [hMr, hLr]
    split
    · rw [readL_len]; omega
    · simp
  rw [← hzp, ← hLp, ← hMp] at f1 f2
  rw [← hzf, ← hLf, ← hMf] at f3 f4
  rw [← hsg, ← hbg] at f5 f6
  rw [← hzr, ← hLr, ← hMr] at f8 f9
  rw [← hzk] at fc frc frq
  have sp := fun W A1 c1 A2 c2 (h1 : Reads W W.heap.size 2 A1 Mp (bcells Lp)) (h2 : Reads W W.heap.size 2 A2 Mp (bcells Lp)) => rsame_any Lp Lp Mp Mp hMp hMp A1 A2 c1 c2 W W.heap.size W.heap.size h1 h2 (by omega)
  have sf := fun W A1 c1 A2 c2 (h1 : Reads W W.heap.size 2 A1 Mf (bcells Lf)) (h2 : Reads W W.heap.size 2 A2 Mf (bcells Lf)) => rsame_any Lf Lf Mf Mf hMf hMf A1 A2 c1 c2 W W.heap.size W.heap.size h1 h2 (by omega)
  have sr := fun W A1 c1 A2 c2 (h1 : Reads W W.heap.size 2 A1 Mr (bcells Lr)) (h2 : Reads W W.heap.size 2 A2 Mr (bcells Lr)) => rsame_any Lr Lr Mr Mr hMr hMr A1 A2 c1 c2 W W.heap.size W.heap.size h1 h2 (by omega)
  have slp := fun W A2 c2 (hb : Below w.heap.size w W) (h2 : Reads W W.heap.size 2 A2 Mp (bcells Lp)) => bsame_any l Lp n Mp hnl hMp A A2 c c2 W w.heap.size W.heap.size (hr.below hb) h2 (by omega)
  have srp := fun W A2 c2 (hb : Below w.heap.size w W) (h2 : Reads W W.heap.size 2 A2 Mp (bcells Lp)) => rsame_any l Lp n Mp hnl hMp A A2 c c2 W w.heap.size W.heap.size (hr.below hb) h2 (by omega)
  rw [beq_self_eq_true] at sp sf sr
  obtain ⟨blp, hblp⟩ : ∃ s, s = (l == Lp) := ⟨_, rfl⟩
  rw [← hblp] at slp srp
  have HF1 := Lib.hid f1
  have HF2 := Lib.hid f2
  have HF3 := Lib.hid f3
  have HF4 := Lib.hid f4
  have HF5 := Lib.hid f5
  have HF6 := Lib.hid f6
  have HF7 := Lib.hid f7
  have HF8 := Lib.hid f8
  have HF9 := Lib.hid f9
  have HFC := Lib.hid fc
  have HFRC := Lib.hid frc
  have HRQ := Lib.hid frq
  have HSP := Lib.hid sp
  have HSF := Lib.hid sf
  have HSR := Lib.hid sr
  have HSLP := Lib.hid slp
  have HSRP := Lib.hid srp
  have HOCT := Lib.hid (fun (hok : okL l = true) W (hb : Below w.heap.size w W) => roct_any l n hnl A c W w.heap.size (hr.below hb) hb.size (by have := okL_small l hok; omega) (fun x hx => (okL_len l hok x hx).1))
  have HZK := Lib.hid hzk
  have HLN := Lib.hid (fun (hok : okL l = true) => (show 18 * n = (bkOct l).length by rw [hnl]; exact (read_oct l hok).1.symm))
  clear f1 f2 f3 f4 f5 f6 f7 f8 f9 fc frc frq sp sf sr slp srp hzp hLp hMp hzf hLf hMf hsg hbg hzr hLr hMr hzk hblp hnl hmb hr hr' kk
  go_enter Try.func7, Try.ntmps7
  go_wp2_with fail
  refine (HF1.out _ (Below.refl w.heap.size w)).mono ?_
  rintro e w1 ⟨v1, rfl, ho1, hb1⟩
  obtain ⟨A1, c1, rfl, _, _, hr1⟩ := own_form ho1
  have hB1 := Lib.hid ((Below.refl w.heap.size w).trans (hb1.mono (Below.refl w.heap.size w).size))
  have R1 := Lib.hid hr1
  clear hb1 ho1 hr1
  go_wp2_with fail
  refine (HF2.out _ hB1.out).mono ?_
  rintro e w2 ⟨v2, rfl, ho2, hb2⟩
  obtain ⟨A2, c2, rfl, _, _, hr2⟩ := own_form ho2
  replace R1 := Lib.hid (keepR R1.out hb2)
  have hB2 := Lib.hid (hB1.out.trans (hb2.mono hB1.out.size))
  have R2 := Lib.hid hr2
  clear hb2 hB1 ho2 hr2
  go_wp2_with fail
  refine (HF3.out _ hB2.out).mono ?_
  rintro e w3 ⟨v3, rfl, ho3, hb3⟩
  obtain ⟨A3, c3, rfl, _, _, hr3⟩ := own_form ho3
  replace R1 := Lib.hid (keepR R1.out hb3)
  replace R2 := Lib.hid (keepR R2.out hb3)
  have hB3 := Lib.hid (hB2.out.trans (hb3.mono hB2.out.size))
  have R3 := Lib.hid hr3
  clear hb3 hB2 ho3 hr3
  go_wp2_with fail
  refine (HF4.out _ hB3.out).mono ?_
  rintro e w4 ⟨v4, rfl, ho4, hb4⟩
  obtain ⟨A4, c4, rfl, _, _, hr4⟩ := own_form ho4
  replace R1 := Lib.hid (keepR R1.out hb4)
  replace R2 := Lib.hid (keepR R2.out hb4)
  replace R3 := Lib.hid (keepR R3.out hb4)
  have hB4 := Lib.hid (hB3.out.trans (hb4.mono hB3.out.size))
  have R4 := Lib.hid hr4
  clear hb4 hB3 ho4 hr4
  go_wp2_with fail
  refine (HF5.out _ hB4.out).mono ?_
  rintro e w5 ⟨rfl, hb5⟩
  replace R1 := Lib.hid (keepR R1.out hb5)
  replace R2 := Lib.hid (keepR R2.out hb5)
  replace R3 := Lib.hid (keepR R3.out hb5)
  replace R4 := Lib.hid (keepR R4.out hb5)
  have hB5 := Lib.hid (hB4.out.trans (hb5.mono hB4.out.size))
  clear hb5 hB4
  go_wp2_with fail
  refine (HF6.out _ hB5.out).mono ?_
  rintro e w6 ⟨rfl, hb6⟩
  replace R1 := Lib.hid (keepR R1.out hb6)
  replace R2 := Lib.hid (keepR R2.out hb6)
  replace R3 := Lib.hid (keepR R3.out hb6)
  replace R4 := Lib.hid (keepR R4.out hb6)
  have hB6 := Lib.hid (hB5.out.trans (hb6.mono hB5.out.size))
  clear hb6 hB5
  go_wp2_with fail
  refine (HF7.out _ hB6.out).mono ?_
  rintro e w7 ⟨v7, m7, rfl, hp7, hb7⟩
  obtain ⟨hm7, A7, c7, rfl, _, _, _⟩ := id hp7
  have HM7 := Lib.hid hm7
  replace R1 := Lib.hid (keepR R1.out hb7)
  replace R2 := Lib.hid (keepR R2.out hb7)
  replace R3 := Lib.hid (keepR R3.out hb7)
  replace R4 := Lib.hid (keepR R4.out hb7)
  have hB7 := Lib.hid (hB6.out.trans (hb7.mono hB6.out.size))
  have P7 := Lib.hid hp7
  clear hb7 hB6 hp7 hm7
  rw [← HZK.out]
  go_wp2_with fail
  refine (HF8.out _ hB7.out).mono ?_
  rintro e w8 ⟨v8, rfl, ho8, hb8⟩
  obtain ⟨A8, c8, rfl, _, _, hr8⟩ := own_form ho8
  replace R1 := Lib.hid (keepR R1.out hb8)
  replace R2 := Lib.hid (keepR R2.out hb8)
  replace R3 := Lib.hid (keepR R3.out hb8)
  replace R4 := Lib.hid (keepR R4.out hb8)
  replace P7 := Lib.hid (P7.out.below hb8)
  have hB8 := Lib.hid (hB7.out.trans (hb8.mono hB7.out.size))
  have R8 := Lib.hid hr8
  clear hb8 hB7 ho8 hr8
  go_wp2_with fail
  refine (HF9.out _ hB8.out).mono ?_
  rintro e w9 ⟨v9, rfl, ho9, hb9⟩
  obtain ⟨A9, c9, rfl, _, _, hr9⟩ := own_form ho9
  replace R1 := Lib.hid (keepR R1.out hb9)
  replace R2 := Lib.hid (keepR R2.out hb9)
  replace R3 := Lib.hid (keepR R3.out hb9)
  replace R4 := Lib.hid (keepR R4.out hb9)
  replace P7 := Lib.hid (P7.out.below hb9)
  replace R8 := Lib.hid (keepR R8.out hb9)
  have hB9 := Lib.hid (hB8.out.trans (hb9.mono hB8.out.size))
  have R9 := Lib.hid hr9
  clear hb9 hB8 ho9 hr9
  go_wp2_with fail
  refine (HSP.out _ A1 c1 A2 c2 R1.out R2.out).mono ?_
  rintro e wx ⟨rfl, q, rfl⟩
  replace R1 := Lib.hid (keepQ R1.out q)
  replace R2 := Lib.hid (keepQ R2.out q)
  replace R3 := Lib.hid (keepQ R3.out q)
  replace R4 := Lib.hid (keepQ R4.out q)
  replace P7 := Lib.hid (pieceQ P7.out q)
  replace R8 := Lib.hid (keepQ R8.out q)
  replace R9 := Lib.hid (keepQ R9.out q)
  have hB10 := Lib.hid (below_drewN hB9.out q)
  clear hB9
  generalize w9.drewN q = w10 at *
  go_wp2_with fail
  refine (num11 _ _).mono ?_
  rintro e wx ⟨rfl, rfl⟩
  go_wp2_with fail
  refine (HSF.out _ A3 c3 A4 c4 R3.out R4.out).mono ?_
  rintro e wx ⟨rfl, q, rfl⟩
  replace R1 := Lib.hid (keepQ R1.out q)
  replace R2 := Lib.hid (keepQ R2.out q)
  replace R3 := Lib.hid (keepQ R3.out q)
  replace R4 := Lib.hid (keepQ R4.out q)
  replace P7 := Lib.hid (pieceQ P7.out q)
  replace R8 := Lib.hid (keepQ R8.out q)
  replace R9 := Lib.hid (keepQ R9.out q)
  have hB11 := Lib.hid (below_drewN hB10.out q)
  clear hB10
  generalize w10.drewN q = w11 at *
  go_wp2_with fail
  refine (num11 _ _).mono ?_
  rintro e wx ⟨rfl, rfl⟩
  go_wp2_with fail
  refine (HSR.out _ A8 c8 A9 c9 R8.out R9.out).mono ?_
  rintro e wx ⟨rfl, q, rfl⟩
  replace R1 := Lib.hid (keepQ R1.out q)
  replace R2 := Lib.hid (keepQ R2.out q)
  replace R3 := Lib.hid (keepQ R3.out q)
  replace R4 := Lib.hid (keepQ R4.out q)
  replace P7 := Lib.hid (pieceQ P7.out q)
  replace R8 := Lib.hid (keepQ R8.out q)
  replace R9 := Lib.hid (keepQ R9.out q)
  have hB12 := Lib.hid (below_drewN hB11.out q)
  clear hB11
  generalize w11.drewN q = w12 at *
  go_wp2_with fail
  refine (num11 _ _).mono ?_
  rintro e wx ⟨rfl, rfl⟩
  go_wp2_with fail
  clear R2 R3 R4 R8 R9
  by_cases hok : okL l = true
  · have hz0 : zk = 0 := by rw [HZK.out]; unfold okE; rw [if_pos hok]
    have HOC := Lib.hid (HOCT.out hok)
    have HLX := Lib.hid (HLN.out hok)
    have hoc : (if okL l = true then bkOct l else []) = bkOct l := if_pos hok
    rw [hoc] at P7
    subst hz0
    have hBd := Lib.hid hB12.out.drew
    have P7d : Hid (PieceIn m7 (bkOct l) (.slice A7 m7 c7) w12.drew) := Lib.hid (pieceQ P7.out 1)
    clear hok hoc HOCT HM7
    go_region_with (first
      | (refine (HFRC.out _ hBd.out).mono ?_; rintro e wa ⟨rfl, hba⟩; have hBa := Lib.hid (hBd.out.trans (hba.mono hBd.out.size)); have P7a := Lib.hid (P7d.out.below hba); have R1a := Lib.hid (keepR R1.out ((Below.refl _ _).drew.trans hba)); have hcva := cvP P7a.out; clear hba)
      | (refine (HOC.out _ hBa.out).mono ?_; rintro e wb ⟨vb, rfl, hob, hbb⟩; obtain ⟨Ab, cb, rfl, _, _, hrb⟩ := own_form hob; have hBb := Lib.hid (hBa.out.trans (hbb.mono hBa.out.size)); have hcvb := cvP (P7a.out.below hbb); have hcvo := cvR (c := cb) hrb HLX.out; have R1b := Lib.hid (keepR R1a.out hbb); clear hob hbb hrb))
    all_goals
      clear hcva hcvb hcvo R1 R1a P7 P7d P7a hBd hBa
      have hB12 := hBb
      have R1 := R1b
      clear hBb R1b
      go_wp2_with fail
      refine (HFC.out _ hB12.out).mono ?_
      rintro e w13 ⟨rfl, hb13⟩
      replace R1 := Lib.hid (keepR R1.out hb13)
      have hB13 := Lib.hid (hB12.out.trans (hb13.mono hB12.out.size))
      clear hb13 hB12
      go_wp2_with fail
      refine (num11 _ _).mono ?_
      rintro e wx ⟨rfl, rfl⟩
      go_wp2_with fail
      refine (HFRC.out _ hB13.out).mono ?_
      rintro e w14 ⟨rfl, hb14⟩
      replace R1 := Lib.hid (keepR R1.out hb14)
      have hB14 := Lib.hid (hB13.out.trans (hb14.mono hB13.out.size))
      clear hb14 hB13
      go_wp2_with fail
      refine (num11 _ _).mono ?_
      rintro e wx ⟨rfl, rfl⟩
      go_wp2_with fail
      refine (HFRC.out _ hB14.out).mono ?_
      rintro e w15 ⟨rfl, hb15⟩
      replace R1 := Lib.hid (keepR R1.out hb15)
      have hB15 := Lib.hid (hB14.out.trans (hb15.mono hB14.out.size))
      clear hb15 hB14
      go_wp2_with fail
      refine (HSLP.out _ A1 c1 hB15.out R1.out).mono ?_
      rintro e wx ⟨rfl, q, rfl⟩
      replace R1 := Lib.hid (keepQ R1.out q)
      have hB16 := Lib.hid (below_drewN hB15.out q)
      clear hB15
      generalize w15.drewN q = w16 at *
      go_wp2_with fail
      refine (HSRP.out _ A1 c1 hB16.out R1.out).mono ?_
      rintro e wx ⟨rfl, q, rfl⟩
      replace R1 := Lib.hid (keepQ R1.out q)
      have hB17 := Lib.hid (below_drewN hB16.out q)
      clear hB16
      generalize w16.drewN q = w17 at *
      go_wp2_with fail
      refine (alive11_any _).mono ?_
      rintro e wz ⟨rfl, hbz⟩
      go_wp2_with fail
      go_ret
      exact ⟨rfl, hB17.out.trans (hbz.mono hB17.out.size)⟩
  · have hz0 : zk = 9 := by rw [HZK.out]; unfold okE; rw [if_neg hok]
    subst hz0
    have hBd := Lib.hid hB12.out.drew
    have HFRQ := Lib.hid (fun q0 => HRQ.out w12 q0 hB12.out)
    clear hok HOCT HM7 P7
    go_quiet ((go_at_call 23; exact Calls.quiet_of (HFRQ.out _)))
    have hB13 := Lib.hid (below_drewN hB12.out nq)
    replace R1 := Lib.hid (keepQ R1.out nq)
    clear hB12 hBd
    generalize w12.drewN nq = w13 at *
    go_wp2_with fail
    refine (HFC.out _ hB13.out).mono ?_
    rintro e w14 ⟨rfl, hb14⟩
    replace R1 := Lib.hid (keepR R1.out hb14)
    have hB14 := Lib.hid (hB13.out.trans (hb14.mono hB13.out.size))
    clear hb14 hB13
    go_wp2_with fail
    refine (num11 _ _).mono ?_
    rintro e wx ⟨rfl, rfl⟩
    go_wp2_with fail
    refine (HFRC.out _ hB14.out).mono ?_
    rintro e w15 ⟨rfl, hb15⟩
    replace R1 := Lib.hid (keepR R1.out hb15)
    have hB15 := Lib.hid (hB14.out.trans (hb15.mono hB14.out.size))
    clear hb15 hB14
    go_wp2_with fail
    refine (num11 _ _).mono ?_
    rintro e wx ⟨rfl, rfl⟩
    go_wp2_with fail
    refine (HFRC.out _ hB15.out).mono ?_
    rintro e w16 ⟨rfl, hb16⟩
    replace R1 := Lib.hid (keepR R1.out hb16)
    have hB16 := Lib.hid (hB15.out.trans (hb16.mono hB15.out.size))
    clear hb16 hB15
    go_wp2_with fail
    refine (HSLP.out _ A1 c1 hB16.out R1.out).mono ?_
    rintro e wx ⟨rfl, q, rfl⟩
    replace R1 := Lib.hid (keepQ R1.out q)
    have hB17 := Lib.hid (below_drewN hB16.out q)
    clear hB16
    generalize w16.drewN q = w17 at *
    go_wp2_with fail
    refine (HSRP.out _ A1 c1 hB17.out R1.out).mono ?_
    rintro e wx ⟨rfl, q, rfl⟩
    replace R1 := Lib.hid (keepQ R1.out q)
    have hB18 := Lib.hid (below_drewN hB17.out q)
    clear hB17
    generalize w17.drewN q = w18 at *
    go_wp2_with fail
    refine (alive11_any _).mono ?_
    rintro e wz ⟨rfl, hbz⟩
    go_wp2_with fail
    go_ret
    exact ⟨rfl, hB18.out.trans (hbz.mono hB18.out.size)⟩
end Go.Proofs.Ytfknlijbphoceaa
