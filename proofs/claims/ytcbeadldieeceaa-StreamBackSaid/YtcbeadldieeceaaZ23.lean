/-
  stream.Records, by its contract. (mkstrecs2.py)
-/
import Derived.Test.YtcbeadldieeceaaZ10
import Derived.Test.YtcbeadldieeceaaZ22
namespace Go.Proofs.Ytcbeadldieeceaa
open Go.RowKit

theorem own_vals (r : Rc) (h : recE r = 0) : ∀ x ∈ r.own, x.1.length ≤ 16 ∧ x.2.length ≤ 32 := by
  obtain ⟨hk, hm⟩ := recE_kind r h
  rcases hk with hk | hk | hk | hk
  · exact (propsB_small _ (mayB_1 r hk hm).2.2.2.1).2
  · rw [(mayB_2 r hk hm).2.2.2.2.2.1]; intro x hx; cases hx
  · rw [(mayB_3 r hk hm).2.2.2.2.2.1]; intro x hx; cases hx
  · rw [(mayB_4 r hk hm).2.2.2.1]; intro x hx; cases hx
/-- records of one's own: each record's own row -/
def OwnRs (w : World) (base : Nat) (ys : List RcR) : Prop := ∀ y ∈ ys, y.n = y.r.own.length ∧ w.ownsRow base 91 2 (.slice y.A y.n y.c) y.n (pcells y.r.own) ∧ recE y.r = 0 ∧ y.r.sm.ok
theorem OwnRs.below {w w' : World} {base : Nat} {ys : List RcR} (h : OwnRs w base ys) (hb : Below w.heap.size w w') : OwnRs w' base ys := fun y hy => ⟨(h y hy).1, own_below (h y hy).2.1 hb, (h y hy).2.2⟩
theorem OwnRs.keep {w w' : World} {base : Nat} {ys : List RcR} (h : OwnRs w base ys) (hb : KeepB 91 w w') : OwnRs w' base ys := fun y hy => ⟨(h y hy).1, hb.own (h y hy).2.1, (h y hy).2.2⟩
def leftN (W : World) (p : Addr) (n : Nat) : Nat := match W.cell? p with | some (.int _ x) => n - x.toNat | _ => 0
theorem leftN_of {W : World} {p : Addr} {x : Int} {n : Nat} (h : W.cell? p = some (.int .i64 x)) : leftN W p n = n - x.toNat := by unfold leftN; rw [h]
def RecsPost (w : World) (b : BS) (e : Ending) (w' : World) : Prop :=
  ∃ (ys : List RcR) (A : Option Addr) (k c : Nat), e = .returned (.tuple #[.slice A k c, .int .i64 ((recsL' b).2.1 : Int), .int .i64 (recsL' b).2.2]) ∧ ys.map RcR.r = (recsL' b).1 ∧ k = ys.length ∧ w'.ownsRow w.heap.size 47 12 (.slice A k c) k (cellsK RcR.cs ys) ∧ OwnRs w' w.heap.size ys ∧ Below w.heap.size w w'
theorem RdB.below {w w' : World} {q base : Nat} {s n : Int} {sm : Sm} {ys : List RcR} (h : RdB w q base s n sm ys) (hb : Below w.heap.size w w') : RdB w' q base s n sm ys := by
  obtain ⟨A, k, c, h1, h2, h3, h4⟩ := h
  exact ⟨A, k, c, h1, h2.below hb h2.lt, own_below h3 hb, h4⟩
theorem RdB.lt {w : World} {q base : Nat} {s n : Int} {sm : Sm} {ys : List RcR} (h : RdB w q base s n sm ys) : q < w.heap.size := by
  obtain ⟨A, k, c, h1, h2, h3, h4⟩ := h
  exact h2.lt
theorem Reads.pre1 {w : World} {B n m : Nat} {A : Option Addr} {xs : List Value} (h : Reads w B 1 A n xs) (hm : m ≤ n) : Reads w B 1 A m (xs.take m) := by
  refine ⟨by rw [List.length_take, h.1]; omega, fun hp => ?_⟩
  obtain ⟨ad, e, hb, hc⟩ := h.2 (by omega)
  refine ⟨ad, e, hb, fun j u hu => hc j u ?_⟩
  rw [List.getElem?_take] at hu
  split at hu
  · exact hu
  · cases hu
theorem Reads.from_ {w : World} {B n k c : Nat} {ad : Addr} {b : BS} (h : Reads w B 1 (some ad) n (bts b)) (hk : k ≤ n) (hc : n ≤ c) (hkc : ¬ c = k) : Reads w B 1 (some (ad.add k)) (n - k) (bts (b.drop k)) := by
  have := h.cut hk hc
  rw [if_neg hkc] at this
  simpa [bts, List.map_drop] using this
/-- between two rounds -/
structure RecsI (w : World) (b : BS) (g q : Nat) (k : Nat) (st : RSt) (ys : List RcR) (wr : World) : Prop where
  kl : Blk wr g 36 #[.slice none 0 0]
  ka : Blk wr (g + 1) 3 #[.int .i64 (st.at_ : Int)]
  ke : Blk wr (g + 1 + 1) 28 #[.int .i64 0]
  rd : RdB wr q (q + 1) st.seen st.next st.sm ys
  own : OwnRs wr w.heap.size ys
  out : ys.map RcR.r = st.out
  at_ : st.at_ ≤ b.length
  len : 3 * ys.length ≤ st.at_
  seen : 0 ≤ st.seen ∧ st.seen ≤ 2
  next : 0 ≤ st.next ∧ st.next ≤ 1024
  fuel : b.length + 1 ≤ k + st.at_
  spec : recsL' b = recsGo b k st
  bel : Below w.heap.size w wr
set_option maxRecDepth 100000 in
set_option maxHeartbeats 8000000 in
theorem recs_any (b : BS) (n : Nat) (hn : n = b.length) (A : Option Addr) (c : Nat) (w : World) (hr : Reads w w.heap.size 1 A n (bts b)) (hc : n ≤ c) (hcm : c ≤ 9223372036854775807) :
    Calls Try.prog 11 #[.slice A n c] w (RecsPost w b) := by
  have hmf : ∀ (fn : Fn) (first cap : Array Value) (w : World), (Instr.makeFunc fn first cap).run Try.prog w = .ok (.func fn first cap) w := fun _ _ _ _ => rfl
  obtain ⟨g, hg⟩ : ∃ g, g = w.heap.size := ⟨_, rfl⟩
  have HG := Lib.hid hg
  have HR := Lib.hid hr
  have HN := Lib.hid hn
  obtain ⟨W0, hW0⟩ : ∃ W, W = ((w.alloc (.cells #[.slice none 0 0] 36)).alloc (.cells #[.int .i64 0] 3)).alloc (.cells #[.int .i64 0] 28) := ⟨_, rfl⟩
  have kl : Blk W0 g 36 #[.slice none 0 0] := by rw [hW0, hg]; exact ((Blk.new w _ _).alloc _).alloc _
  have ka : Blk W0 (g + 1) 3 #[.int .i64 0] := by
    rw [hW0, hg]
    have := Blk.new (w.alloc (.cells #[.slice none 0 0] 36)) 3 #[.int .i64 0]
    simp at this
    exact this.alloc _
  have ke : Blk W0 (g + 1 + 1) 28 #[.int .i64 0] := by
    rw [hW0, hg]
    have := Blk.new ((w.alloc (.cells #[.slice none 0 0] 36)).alloc (.cells #[.int .i64 0] 3)) 28 #[.int .i64 0]
    simp at this
    exact this
  have hb0 : Below w.heap.size w W0 := by rw [hW0]; exact (((Below.refl _ _).alloc (Nat.le_refl _) _).alloc (by simp) _).alloc (by simp; omega) _
  have hs0 : W0.heap.size = g + 1 + 1 + 1 := by rw [hW0, hg]; simp
  have HKL := Lib.hid kl
  have HKA := Lib.hid ka
  have HKE := Lib.hid ke
  have HB := Lib.hid hb0
  clear kl ka ke hb0 hr hn
  go_enter_defers Try.func11, Try.ntmps11
  go_upto_region 1 with (fail)
  rw [← hW0, ← hg]
  clear hW0 hg
  have z0 : W0.cell? ⟨g, 0, none⟩ = some (.slice none 0 0) := HKL.out.cell 0
  have z1 : W0.cell? ⟨g + 1, 0, none⟩ = some (.int .i64 0) := HKA.out.cell 0
  have z2 : W0.cell? ⟨g + 1 + 1, 0, none⟩ = some (.int .i64 0) := HKE.out.cell 0
  have y0 := HKL.out.frozen 0
  have y1 := HKA.out.frozen 0
  have y2 := HKE.out.frozen 0
  by_cases hlong : 32768 < n
  · have hl2 : (32768 : Int) < (n : Int) := by omega
    have HSP : Hid (recsL' b = ([], 0, 5)) := by show _ = _; unfold recsL'; rw [if_pos (by have := HN.out; omega)]
    have kl := ((HKL.out.set_ 0 (.slice none 0 0)).far (p := ⟨g + 1, 0, none⟩) (by simp) (.int .i64 0)).far (p := ⟨g + 1 + 1, 0, none⟩) (by simp only; omega) (.int .i64 5)
    have ka := ((HKA.out.far (p := ⟨g, 0, none⟩) (by simp) (.slice none 0 0)).set_ 0 (.int .i64 0)).far (p := ⟨g + 1 + 1, 0, none⟩) (by simp) (.int .i64 5)
    have ke := ((HKE.out.far (p := ⟨g, 0, none⟩) (by simp only; omega) (.slice none 0 0)).far (p := ⟨g + 1, 0, none⟩) (by simp) (.int .i64 0)).set_ 0 (.int .i64 5)
    have hb := ((HB.out.setCell (p := ⟨g, 0, none⟩) (by have := HG.out; simp only; omega) (.slice none 0 0)).setCell (p := ⟨g + 1, 0, none⟩) (by have := HG.out; simp only; omega) (.int .i64 0)).setCell (p := ⟨g + 1 + 1, 0, none⟩) (by have := HG.out; simp only; omega) (.int .i64 5)
    have HH := Lib.hid (show _ ∧ _ ∧ _ ∧ _ from ⟨kl, ka, ke, hb⟩)
    clear kl ka ke hb hlong
    go_wp2_with fail
    obtain ⟨WE, hWE⟩ : ∃ W, W = ((W0.setCell ⟨g, 0, none⟩ (.slice none 0 0)).setCell ⟨g + 1, 0, none⟩ (.int .i64 0)).setCell ⟨g + 1 + 1, 0, none⟩ (.int .i64 5) := ⟨_, rfl⟩
    rw [← hWE] at HH ⊢
    clear hWE
    obtain ⟨kl, ka, ke, hb⟩ := HH.out
    have q0 : WE.cell? ⟨g, 0, none⟩ = some (.slice none 0 0) := kl.cell 0
    have q1 : WE.cell? ⟨g + 1, 0, none⟩ = some (.int .i64 0) := ka.cell 0
    have q2 : WE.cell? ⟨g + 1 + 1, 0, none⟩ = some (.int .i64 5) := ke.cell 0
    have hsp := HSP.out
    simp only [bodyPostD]
    simp [Leaves, results, Try.results11, go_sem, q0, q1, q2]
    exact ⟨[], none, 0, 0, by (rw [hsp]; try rfl), by (rw [hsp]; try rfl), rfl, World.ownsRow_nil _ _ _ _, (by intro y hy; cases hy), hb⟩
  have hl2 : ¬ (32768 : Int) < (n : Int) := by omega
  have hn32 : n ≤ 32768 := by omega
  obtain ⟨W1, hW1⟩ : ∃ W, W = W0.alloc (.cells #[.int .i64 0, .int .i64 0, .int .u64 0, .int .u64 0, .int .u64 0, .int .u64 0, .slice none 0 0] 74) := ⟨_, rfl⟩
  obtain ⟨q, hq⟩ : ∃ q, q = g + 1 + 1 + 1 := ⟨_, rfl⟩
  have kq : Blk W1 q 74 #[.int .i64 0, .int .i64 0, .int .u64 0, .int .u64 0, .int .u64 0, .int .u64 0, .slice none 0 0] := by rw [hW1, hq, ← hs0]; exact Blk.new _ _ _
  have HI : Hid (RecsI w b g q (b.length + 1) RSt0 [] W1) := by
    refine ⟨?_, ?_, ?_, ⟨none, 0, 0, rfl, kq, World.ownsRow_nil _ _ _ _, by omega⟩, (by intro y hy; cases hy), rfl, Nat.zero_le _, Nat.le_refl _, ⟨Int.le_refl _, by decide⟩, ⟨Int.le_refl _, by decide⟩, by simp [RSt0], ?_, ?_⟩
    · rw [hW1]; exact HKL.out.alloc _
    · rw [hW1]; exact HKA.out.alloc _
    · rw [hW1]; exact HKE.out.alloc _
    · unfold recsL'
      rw [if_neg (by have := HN.out; omega)]
    · rw [hW1]; exact HB.out.alloc (by have := HG.out; omega) _
  have HQ := Lib.hid hq
  have hq1 : ¬ q = g := by omega
  go_upto_region 5 with (fail)
  rw [← hW1, ← hq]
  clear hW1 hs0 hq kq z0 z1 z2 y0 y1 y2 HKL HKA HKE HB hlong
  go_loopw [] (fun wr => ∃ (k : Nat) (st : RSt) (ys : List RcR), Hid (RecsI w b g q k st ys wr)) (fun wr => leftN wr ⟨g + 1, 0, none⟩ n)
  case atStart => exact ⟨_, _, _, HI.out⟩
  case round =>
    clear HI
    obtain ⟨k, ⟨at_, seen, next, sm, out⟩, ys, HI⟩ := hrel
    obtain ⟨k, rfl⟩ : ∃ j, k = j + 1 := ⟨k - 1, by have := HI.out.fuel; have := HI.out.at_; simp only at *; omega⟩
    obtain ⟨Ao, ko, co, hko, hkq, hoo, _⟩ := HI.out.rd
    have c0 := hkq.cell 0
    have z1 := HI.out.ka.cell 0
    simp only [RdCells, List.getElem?_toArray, List.getElem?_cons_zero] at c0 z1
    have hat := HI.out.at_
    have hsn := HI.out.seen
    simp only at hat hsn
    by_cases hseen : seen < 2
    · by_cases hlt : at_ < n
      · have hlt2 : (at_ : Int) < (n : Int) := by omega
        have hn0 : 0 < n := by omega
        obtain ⟨ad, rfl, _, _⟩ := HR.out.2 hn0
        have hac : ¬ c = at_ := by omega
        have hac1 : (at_ : Int) ≤ (c : Int) := by omega
        have hac0 : (0 : Int) ≤ (at_ : Int) := by omega
        go_wp2_with fail
        refine (need_ok _ _ _).mono ?_
        rintro e w3 ⟨rfl, hw3⟩
        rw [hw3]
        clear hw3 w3
        have hrd := (HR.out.below HI.out.bel).from_ (k := at_) (Nat.le_of_lt hlt) hc hac
        have hpar := rparse_any (b.drop at_) (n - at_) (by have := HN.out; simp; omega) (some (ad.add at_)) (c - at_) wr w.heap.size hrd HI.out.bel.size (by omega) (by omega) (by omega)
        obtain ⟨⟨r, m, E⟩, hP⟩ : ∃ P, P = parseL (b.drop at_) := ⟨_, rfl⟩
        rw [← hP] at hpar
        have HP := Lib.hid hP
        have HPAR := Lib.hid hpar
        have HRD := Lib.hid hrd
        clear hpar hP hrd
        go_wp2_with fail
        refine HPAR.out.mono ?_
        clear HPAR
        rintro e w4 ⟨v, rfl, hown, hb4⟩
        obtain ⟨A1, c1, hv1, _, _, _⟩ := own_form hown
        simp only at hv1 hown
        subst hv1
        obtain ⟨n1, hn1⟩ : ∃ n, n = r.own.length := ⟨_, rfl⟩
        simp only
        rw [← hn1] at hown ⊢
        have HN1 := Lib.hid hn1
        have HOWN := Lib.hid hown
        have HRV : Hid (rcV r (.slice A1 n1 c1) = .agg #[.int .i64 r.kind, .string ⟨r.nm.toArray⟩, .int .i64 r.frm, .int .i64 r.gd, .slice A1 n1 c1, .int .i64 r.ix, .int .i64 r.ct, .string ⟨r.dt.toArray⟩, .int .u64 r.sm.a, .int .u64 r.sm.b, .int .u64 r.sm.c, .int .u64 r.sm.d]) := rfl
        rw [HRV.out]
        clear hn1 hown
        have HB4 := Lib.hid hb4
        obtain ⟨g6, hg6⟩ : ∃ x, x = w4.heap.size := ⟨_, rfl⟩
        obtain ⟨W5, hW5⟩ : ∃ W, W = w4.alloc (.cells #[.int .i64 r.kind, .string ⟨r.nm.toArray⟩, .int .i64 r.frm, .int .i64 r.gd, .slice A1 n1 c1, .int .i64 r.ix, .int .i64 r.ct, .string ⟨r.dt.toArray⟩, .int .u64 r.sm.a, .int .u64 r.sm.b, .int .u64 r.sm.c, .int .u64 r.sm.d] 47) := ⟨_, rfl⟩
        have k6 : Blk W5 g6 47 #[.int .i64 r.kind, .string ⟨r.nm.toArray⟩, .int .i64 r.frm, .int .i64 r.gd, .slice A1 n1 c1, .int .i64 r.ix, .int .i64 r.ct, .string ⟨r.dt.toArray⟩, .int .u64 r.sm.a, .int .u64 r.sm.b, .int .u64 r.sm.c, .int .u64 r.sm.d] := by rw [hW5, hg6]; exact Blk.new _ _ _
        have hb5 : Below wr.heap.size wr W5 := by rw [hW5]; exact hb4.alloc hb4.size _
        have ho5 := own_below HOWN.out ((Below.refl w4.heap.size w4).alloc (Nat.le_refl _) (.cells #[.int .i64 r.kind, .string ⟨r.nm.toArray⟩, .int .i64 r.frm, .int .i64 r.gd, .slice A1 n1 c1, .int .i64 r.ix, .int .i64 r.ct, .string ⟨r.dt.toArray⟩, .int .u64 r.sm.a, .int .u64 r.sm.b, .int .u64 r.sm.c, .int .u64 r.sm.d] 47))
        rw [← hW5] at ho5
        have HO5 := Lib.hid ho5
        have HB5 := Lib.hid hb5
        have HK6 := Lib.hid k6
        have hg6w : wr.heap.size ≤ g6 := by rw [hg6]; exact hb4.size
        go_upto_region 8 with (fail)
        rw [← hW5, ← hg6]
        clear hW5 hg6 hb4 hb5 ho5 k6 HOWN HB4 c0 z1
        have z1 := (HI.out.ka.below HB5.out HI.out.ka.lt).cell 0
        simp only [List.getElem?_toArray, List.getElem?_cons_zero] at z1
        have a12 := blk12 HK6.out
        obtain ⟨a0, a1, a2, a3, a4, a5, a6, a7, a8, a9, a10, a11⟩ := a12
        by_cases hE : E ≠ 0
        · have hE2 : (E == 0) = false := by simpa using hE
          have HST : Hid (stepR b ⟨at_, seen, next, sm, out⟩ = .error (at_, E)) := by
            show _ = _
            unfold stepR
            simp only
            rw [if_neg (by have := HN.out; omega), ← HP.out, if_pos hE]
          have HEE := Lib.hid hE
          clear hE
          go_wp2_with fail
          refine (need_bad _ _ _).mono ?_
          rintro e w3 ⟨rfl, hw3⟩
          rw [hw3]
          clear hw3 w3
          go_wp2_with fail
          refine leaves_cons (f := 25) (args := #[.pointer (some ⟨g, 0, none⟩), .pointer (some ⟨g + 1, 0, none⟩), .pointer (some ⟨g + 1 + 1, 0, none⟩)]) (by simp) (by simp [go_sem]) ?_
          refine (rec1_panicking g _ _ _ ((at_ : Int)) (E) [] W5 (HI.out.kl.below HB5.out HI.out.kl.lt) (HI.out.ka.below HB5.out HI.out.ka.lt) (HI.out.ke.below HB5.out HI.out.ke.lt)).mono ?_
          rintro en u' wd ⟨rfl, rfl, kld, kad, ked, hbd⟩
          have q0 : wd.cell? ⟨g, 0, none⟩ = some (.slice none 0 0) := kld.cell 0
          have q1 : wd.cell? ⟨g + 1, 0, none⟩ = some (.int .i64 ((at_ : Int))) := kad.cell 0
          have q2 : wd.cell? ⟨g + 1 + 1, 0, none⟩ = some (.int .i64 (E)) := ked.cell 0
          have hbf : Below w.heap.size w wd := (HI.out.bel.trans (HB5.out.mono HI.out.bel.size)).trans (by have := HG.out; rw [← this]; exact hbd)
          have hsp : recsL' b = ([], at_, E) := by rw [HI.out.spec]; exact recsGo_bad b k _ hseen at_ E HST.out
          simp [Leaves, settle, results, Try.results11, go_sem, q0, q1, q2]
          exact ⟨[], none, 0, 0, by (rw [hsp]; try rfl), by (rw [hsp]; try rfl), rfl, World.ownsRow_nil _ _ _ _, (by intro y hy; cases hy), hbf⟩
        obtain rfl : E = 0 := by omega
        clear hE
        go_wp2_with fail
        refine (need_ok _ _ _).mono ?_
        rintro e w3 ⟨rfl, hw3⟩
        rw [hw3]
        clear hw3 w3
        go_wp2_with fail
        obtain ⟨hrE, hm3, hmb⟩ := parse_len _ _ _ HP.out.symm
        have hrs := (parse_back _ _ _ HP.out.symm).2.1
        rw [List.length_drop] at hmb
        have hmn : at_ + m ≤ n := by have := HN.out; omega
        have hn8 : n1 ≤ 8 := by
          have := own_small r (recE_kind r hrE).1 (recE_kind r hrE).2
          have := HN1.out
          omega
        obtain ⟨raw, hraw⟩ : ∃ x, x = (b.drop at_).take m := ⟨_, rfl⟩
        have hrd5 := (HRD.out.below (HB5.out.mono HI.out.bel.size)).pre1 (m := m) (by omega)
        have hbt : (bts (b.drop at_)).take m = bts raw := by rw [hraw]; simp [bts, List.map_take]
        rw [hbt] at hrd5
        have hwq : w.heap.size ≤ q := by have := HQ.out; have := HG.out; omega
        have hq5 : q < W5.heap.size := (HI.out.rd.below HB5.out).lt
        have hval : ∀ x ∈ r.own, x.2.length ≤ 140737488351232 := fun x hx => by have := own_vals r hrE x hx; omega
        have htk := fun W (hb : Below W5.heap.size W5 W) => take_any q (q + 1) seen next sm ys hsn.1 hsn.2 HI.out.next.1 HI.out.next.2 r hrE n1 HN1.out A1 c1 W W5.heap.size hb.size ((Reads.of_own HO5.out).below hb) (by omega) hval ((HI.out.rd.below HB5.out).below hb) (by have := HI.out.len; simp only at this; omega) (by have := hb.size; omega) raw m (by rw [hraw]; simp; omega) (some (ad.add at_)) (c - at_) w.heap.size hwq (hrd5.below (hb.mono (by omega))) (by omega) (by omega) (at_ : Int)
        obtain ⟨X, hX⟩ : ∃ X : RcR, X = ⟨r, A1, n1, c1⟩ := ⟨_, rfl⟩
        rw [← hX] at htk
        have hXr : X.r = r := by rw [hX]
        have HX := Lib.hid hX
        obtain ⟨⟨s1, s2, ok⟩, hA⟩ : ∃ x, x = afterL seen next r := ⟨_, rfl⟩
        have HA := Lib.hid hA
        have HTK := Lib.hid htk
        have HRW := Lib.hid hraw
        have HXR := Lib.hid hXr
        have HRE := Lib.hid hrE
        have HRS := Lib.hid hrs
        clear htk hraw hX hXr hA hval hrd5 hbt hrE hrs
        by_cases hbad : ok = false ∨ (r.kind == 4 && !smB r.sm sm) = true
        · obtain ⟨E3, hE3, hst, htp⟩ : ∃ E3, E3 ≠ 0 ∧ stepR b ⟨at_, seen, next, sm, out⟩ = .error (at_, E3) ∧ ∀ W, Below W5.heap.size W5 W → Calls Try.prog 27 #[.pointer (some ⟨q, 0, none⟩), rcV r (.slice A1 n1 c1), .slice (some (ad.add at_)) m (c - at_), .int .i64 (at_ : Int)] W fun e w' => e = .panicked [{ v := faultV at_ E3, recovered := false }] ∧ Below q W w' := by
            by_cases hok : ok = false
            · refine ⟨35, by decide, ?_, fun W hW => (HTK.out W hW).mono (fun e w' h => ⟨?_, h.1⟩)⟩
              · unfold stepR
                simp only
                rw [if_neg (by have := HN.out; omega), ← HP.out, if_neg (by simp), if_pos (by simp only; rw [← HA.out]; exact hok)]
              · have := h.2.2
                rw [HXR.out, ← HA.out, if_pos hok] at this
                exact this
            · have h4 : (r.kind == 4 && !smB r.sm sm) = true := by
                rcases hbad with h | h
                · exact absurd h hok
                · exact h
              refine ⟨34, by decide, ?_, fun W hW => (HTK.out W hW).mono (fun e w' h => ⟨?_, h.1⟩)⟩
              · unfold stepR
                simp only
                rw [if_neg (by have := HN.out; omega), ← HP.out, if_neg (by simp), if_neg (by simp only; rw [← HA.out]; exact hok), if_pos (by simp only; exact h4)]
              · have := h.2.2
                rw [HXR.out, ← HA.out, if_neg hok, if_pos h4] at this
                exact this
          rw [HRV.out] at htp
          have HTP := Lib.hid htp
          have HST := Lib.hid hst
          have HE3 := Lib.hid hE3
          clear htp hst hE3 hbad HTK
          obtain ⟨hi, hhi⟩ : ∃ x, x = at_ + m := ⟨_, rfl⟩
          have hs4 : IntKind.i64.wrap ((at_ : Int) + (m : Int)) = (hi : Int) := by rw [IntKind.wrap_i64]; omega
          have hs1 : (0 : Int) ≤ (hi : Int) := by omega
          have hs2 : at_ ≤ hi := by omega
          have hs3 : hi ≤ c := by omega
          have hs5 : hi - at_ = m := by omega
          have HHI := Lib.hid hhi
          have hS := Lib.hid (fun (W : World) (hb : Below W5.heap.size W5 W) => (show _ ∧ _ ∧ _ ∧ _ ∧ _ ∧ _ ∧ _ ∧ _ ∧ _ ∧ _ ∧ _ ∧ _ ∧ _ from ⟨((HI.out.ka.below HB5.out HI.out.ka.lt).below hb (HI.out.ka.below HB5.out HI.out.ka.lt).lt).cell 0, blk12 (HK6.out.below hb HK6.out.lt)⟩))
          clear hhi z1 a0 a1 a2 a3 a4 a5 a6 a7 a8 a9 a10 a11
          refine wp_region_last 9 (by kernel_rfl) (by kernel_rfl) (by kernel_rfl) (by decide) [(fun v _ => v = .pointer (some ⟨q, 0, none⟩)),
              (fun v _ => v = .agg #[.int .i64 r.kind, .string ⟨r.nm.toArray⟩, .int .i64 r.frm, .int .i64 r.gd, .slice A1 n1 c1, .int .i64 r.ix, .int .i64 r.ct, .string ⟨r.dt.toArray⟩, .int .u64 r.sm.a, .int .u64 r.sm.b, .int .u64 r.sm.c, .int .u64 r.sm.d]),
              (fun v _ => v = .slice (some ad) n c),
              (fun v _ => v = .int .i64 (at_ : Int)),
              (fun v _ => v = .int .i64 (at_ : Int)),
              (fun v _ => v = .int .i64 (m : Int)),
              (fun v _ => v = .int .i64 (hi : Int)),
              (fun v _ => v = .slice (some (ad.add at_)) m (c - at_)),
              (fun v _ => v = .int .i64 (at_ : Int)),
              (fun v _ => v = undef)] ?_ ?_ ?_
          · repeat' (first | exact stays_nil | refine stays_cons ?_ ?_ | exact Stays.pure)
          · intro i oo ho hiL m2 W hb0 hmi hcl hdeps AA KK hA hK
            rcases i with _ | _ | _ | _ | _ | _ | _ | _ | _ | _ | i
            · injection ho with ho
              subst ho
              have ef5 : AA.tmps[5]?.getD undef = .pointer (some ⟨q, 0, none⟩) := by rw [hA]; exact tmps_free (by kernel_rfl)
              clear hA hdeps hcl hmi hiL
              have hK0 : KK (AA.put (some 41) _) _ := hK (.pointer (some ⟨q, 0, none⟩)) _ (Below.refl _ _) (Eq.refl _)
              clear hK
              go_simp
              exact hK0
            · injection ho with ho
              subst ho
              have ef6 : AA.tmps[6]?.getD undef = .pointer (some ⟨g6, 0, none⟩) := by rw [hA]; exact tmps_free (by kernel_rfl)
              clear hA hdeps hcl hmi hiL
              obtain ⟨z1, a0, a1, a2, a3, a4, a5, a6, a7, a8, a9, a10, a11⟩ := hS.out W hb0
              have hK0 : KK (AA.put (some 42) _) _ := hK (.agg #[.int .i64 r.kind, .string ⟨r.nm.toArray⟩, .int .i64 r.frm, .int .i64 r.gd, .slice A1 n1 c1, .int .i64 r.ix, .int .i64 r.ct, .string ⟨r.dt.toArray⟩, .int .u64 r.sm.a, .int .u64 r.sm.b, .int .u64 r.sm.c, .int .u64 r.sm.d]) _ (Below.refl _ _) (Eq.refl _)
              clear hK
              go_simp
              exact hK0
            · injection ho with ho
              subst ho
              have ef0 : AA.tmps[0]?.getD undef = .slice (some ad) n c := by rw [hA]; exact tmps_free (by kernel_rfl)
              clear hA hdeps hcl hmi hiL
              have hK0 : KK (AA.put (some 43) _) _ := hK (.slice (some ad) n c) _ (Below.refl _ _) (Eq.refl _)
              clear hK
              go_simp
              exact hK0
            · injection ho with ho
              subst ho
              have ef3 : AA.tmps[3]?.getD undef = .pointer (some ⟨(g + 1), 0, none⟩) := by rw [hA]; exact tmps_free (by kernel_rfl)
              clear hA hdeps hcl hmi hiL
              obtain ⟨z1, a0, a1, a2, a3, a4, a5, a6, a7, a8, a9, a10, a11⟩ := hS.out W hb0
              have hK0 : KK (AA.put (some 44) _) _ := hK (.int .i64 (at_ : Int)) _ (Below.refl _ _) (Eq.refl _)
              clear hK
              go_simp
              exact hK0
            · injection ho with ho
              subst ho
              have ef3 : AA.tmps[3]?.getD undef = .pointer (some ⟨(g + 1), 0, none⟩) := by rw [hA]; exact tmps_free (by kernel_rfl)
              clear hA hdeps hcl hmi hiL
              obtain ⟨z1, a0, a1, a2, a3, a4, a5, a6, a7, a8, a9, a10, a11⟩ := hS.out W hb0
              have hK0 : KK (AA.put (some 45) _) _ := hK (.int .i64 (at_ : Int)) _ (Below.refl _ _) (Eq.refl _)
              clear hK
              go_simp
              exact hK0
            · injection ho with ho
              subst ho
              have ef7 : AA.tmps[7]?.getD undef = .int .i64 (m : Int) := by rw [hA]; exact tmps_free (by kernel_rfl)
              clear hA hdeps hcl hmi hiL
              have hK0 : KK (AA.put (some 46) _) _ := hK (.int .i64 (m : Int)) _ (Below.refl _ _) (Eq.refl _)
              clear hK
              go_simp
              exact hK0
            · injection ho with ho
              subst ho
              obtain ⟨x4, hx4, hg4⟩ := hdeps ⟨4, .data⟩ (by simp) rfl
              have hg4 : x4 = .int .i64 (at_ : Int) := hg4
              subst hg4
              have e4 : AA.tmps[45]?.getD undef = .int .i64 (at_ : Int) := by rw [hA]; exact tmps_own (by kernel_rfl) hx4 (of_decide_eq_true (by kernel_rfl))
              obtain ⟨x5, hx5, hg5⟩ := hdeps ⟨5, .data⟩ (by simp) rfl
              have hg5 : x5 = .int .i64 (m : Int) := hg5
              subst hg5
              have e5 : AA.tmps[46]?.getD undef = .int .i64 (m : Int) := by rw [hA]; exact tmps_own (by kernel_rfl) hx5 (of_decide_eq_true (by kernel_rfl))
              clear hA hdeps hcl hmi hiL hx4 hx5
              have hK0 : KK (AA.put (some 47) _) _ := hK (.int .i64 (hi : Int)) _ (Below.refl _ _) (Eq.refl _)
              clear hK
              go_simp
              exact hK0
            · injection ho with ho
              subst ho
              obtain ⟨x2, hx2, hg2⟩ := hdeps ⟨2, .data⟩ (by simp) rfl
              have hg2 : x2 = .slice (some ad) n c := hg2
              subst hg2
              have e2 : AA.tmps[43]?.getD undef = .slice (some ad) n c := by rw [hA]; exact tmps_own (by kernel_rfl) hx2 (of_decide_eq_true (by kernel_rfl))
              obtain ⟨x3, hx3, hg3⟩ := hdeps ⟨3, .data⟩ (by simp) rfl
              have hg3 : x3 = .int .i64 (at_ : Int) := hg3
              subst hg3
              have e3 : AA.tmps[44]?.getD undef = .int .i64 (at_ : Int) := by rw [hA]; exact tmps_own (by kernel_rfl) hx3 (of_decide_eq_true (by kernel_rfl))
              obtain ⟨x6, hx6, hg6⟩ := hdeps ⟨6, .data⟩ (by simp) rfl
              have hg6 : x6 = .int .i64 (hi : Int) := hg6
              subst hg6
              have e6 : AA.tmps[47]?.getD undef = .int .i64 (hi : Int) := by rw [hA]; exact tmps_own (by kernel_rfl) hx6 (of_decide_eq_true (by kernel_rfl))
              clear hA hdeps hcl hmi hiL hx2 hx3 hx6
              have hK0 : KK (AA.put (some 48) _) _ := hK (.slice (some (ad.add at_)) m (c - at_)) _ (Below.refl _ _) (Eq.refl _)
              clear hK
              go_simp
              exact hK0
            · injection ho with ho
              subst ho
              have ef3 : AA.tmps[3]?.getD undef = .pointer (some ⟨(g + 1), 0, none⟩) := by rw [hA]; exact tmps_free (by kernel_rfl)
              clear hA hdeps hcl hmi hiL
              obtain ⟨z1, a0, a1, a2, a3, a4, a5, a6, a7, a8, a9, a10, a11⟩ := hS.out W hb0
              have hK0 : KK (AA.put (some 49) _) _ := hK (.int .i64 (at_ : Int)) _ (Below.refl _ _) (Eq.refl _)
              clear hK
              go_simp
              exact hK0
            · exact absurd rfl hiL
            · simp at ho
          · intro oo ho m2 W hmL hb0 hall AA KK hA hAf hK
            injection ho with ho
            subst ho
            obtain ⟨x0, m0, g0⟩ := hall 0 (by simp) (by simp)
            replace g0 : x0 = .pointer (some ⟨q, 0, none⟩) := g0
            subst g0
            obtain ⟨x1, m1, g1⟩ := hall 1 (by simp) (by simp)
            replace g1 : x1 = .agg #[.int .i64 r.kind, .string ⟨r.nm.toArray⟩, .int .i64 r.frm, .int .i64 r.gd, .slice A1 n1 c1, .int .i64 r.ix, .int .i64 r.ct, .string ⟨r.dt.toArray⟩, .int .u64 r.sm.a, .int .u64 r.sm.b, .int .u64 r.sm.c, .int .u64 r.sm.d] := g1
            subst g1
            obtain ⟨x2, m2, g2⟩ := hall 2 (by simp) (by simp)
            replace g2 : x2 = .slice (some ad) n c := g2
            subst g2
            obtain ⟨x3, m3, g3⟩ := hall 3 (by simp) (by simp)
            replace g3 : x3 = .int .i64 (at_ : Int) := g3
            subst g3
            obtain ⟨x4, m4, g4⟩ := hall 4 (by simp) (by simp)
            replace g4 : x4 = .int .i64 (at_ : Int) := g4
            subst g4
            obtain ⟨x5, m5, g5⟩ := hall 5 (by simp) (by simp)
            replace g5 : x5 = .int .i64 (m : Int) := g5
            subst g5
            obtain ⟨x6, m6, g6⟩ := hall 6 (by simp) (by simp)
            replace g6 : x6 = .int .i64 (hi : Int) := g6
            subst g6
            obtain ⟨x7, m7, g7⟩ := hall 7 (by simp) (by simp)
            replace g7 : x7 = .slice (some (ad.add at_)) m (c - at_) := g7
            subst g7
            obtain ⟨x8, m8, g8⟩ := hall 8 (by simp) (by simp)
            replace g8 : x8 = .int .i64 (at_ : Int) := g8
            subst g8
            have e0 : AA.tmps[41]?.getD undef = .pointer (some ⟨q, 0, none⟩) := by rw [hA]; exact tmps_own (by kernel_rfl) m0 (of_decide_eq_true (by kernel_rfl))
            have e1 : AA.tmps[42]?.getD undef = .agg #[.int .i64 r.kind, .string ⟨r.nm.toArray⟩, .int .i64 r.frm, .int .i64 r.gd, .slice A1 n1 c1, .int .i64 r.ix, .int .i64 r.ct, .string ⟨r.dt.toArray⟩, .int .u64 r.sm.a, .int .u64 r.sm.b, .int .u64 r.sm.c, .int .u64 r.sm.d] := by rw [hA]; exact tmps_own (by kernel_rfl) m1 (of_decide_eq_true (by kernel_rfl))
            have e7 : AA.tmps[48]?.getD undef = .slice (some (ad.add at_)) m (c - at_) := by rw [hA]; exact tmps_own (by kernel_rfl) m7 (of_decide_eq_true (by kernel_rfl))
            have e8 : AA.tmps[49]?.getD undef = .int .i64 (at_ : Int) := by rw [hA]; exact tmps_own (by kernel_rfl) m8 (of_decide_eq_true (by kernel_rfl))
            have hA2 := Lib.hid (hAf 50 rfl)
            clear hA hAf
            go_simp
            refine (HTP.out W hb0).mono ?_
            rintro e w7 ⟨rfl, h1⟩
            clear hK
            rw [hA2.out, frameM_all (by kernel_rfl) [.pointer (some ⟨q, 0, none⟩), .agg #[.int .i64 r.kind, .string ⟨r.nm.toArray⟩, .int .i64 r.frm, .int .i64 r.gd, .slice A1 n1 c1, .int .i64 r.ix, .int .i64 r.ct, .string ⟨r.dt.toArray⟩, .int .u64 r.sm.a, .int .u64 r.sm.b, .int .u64 r.sm.c, .int .u64 r.sm.d], .slice (some ad) n c, .int .i64 (at_ : Int), .int .i64 (at_ : Int), .int .i64 (m : Int), .int .i64 (hi : Int), .slice (some (ad.add at_)) m (c - at_), .int .i64 (at_ : Int), _] rfl (fun i hi => by
                rcases i with _ | _ | _ | _ | _ | _ | _ | _ | _ | _ | i
                · simpa [upd] using m0
                · simpa [upd] using m1
                · simpa [upd] using m2
                · simpa [upd] using m3
                · simpa [upd] using m4
                · simpa [upd] using m5
                · simpa [upd] using m6
                · simpa [upd] using m7
                · simpa [upd] using m8
                · exact upd_self _ _ _
                · simp at hi; omega)]
            clear m0 m1 m2 m3 m4 m5 m6 m7 m8
            simp only [putAll, Act.put, List.setIfInBounds_toArray, List.set_cons_succ, List.set_cons_zero]
            go_wp2_with fail
            have hgq : g + 1 + 1 < q := by have := HQ.out; omega
            refine leaves_cons (f := 25) (args := #[.pointer (some ⟨g, 0, none⟩), .pointer (some ⟨g + 1, 0, none⟩), .pointer (some ⟨g + 1 + 1, 0, none⟩)]) (by simp) (by simp [go_sem]) ?_
            refine (rec1_panicking g _ _ _ ((at_ : Int)) (E3) [] w7 (((HI.out.kl.below HB5.out HI.out.kl.lt).below hb0 (HI.out.kl.below HB5.out HI.out.kl.lt).lt).below h1 (by omega)) (((HI.out.ka.below HB5.out HI.out.ka.lt).below hb0 (HI.out.ka.below HB5.out HI.out.ka.lt).lt).below h1 (by omega)) (((HI.out.ke.below HB5.out HI.out.ke.lt).below hb0 (HI.out.ke.below HB5.out HI.out.ke.lt).lt).below h1 (by omega))).mono ?_
            rintro en u' wd ⟨rfl, rfl, kld, kad, ked, hbd⟩
            have q0 : wd.cell? ⟨g, 0, none⟩ = some (.slice none 0 0) := kld.cell 0
            have q1 : wd.cell? ⟨g + 1, 0, none⟩ = some (.int .i64 ((at_ : Int))) := kad.cell 0
            have q2 : wd.cell? ⟨g + 1 + 1, 0, none⟩ = some (.int .i64 (E3)) := ked.cell 0
            have hbf : Below w.heap.size w wd := ((HI.out.bel.trans (HB5.out.mono HI.out.bel.size)).trans ((hb0.mono (by omega)).trans (h1.mono hwq))).trans (by have := HG.out; rw [← this]; exact hbd)
            have hsp : recsL' b = ([], at_, E3) := by rw [HI.out.spec]; exact recsGo_bad b k _ hseen at_ E3 HST.out
            simp [Leaves, settle, results, Try.results11, go_sem, q0, q1, q2]
            exact ⟨[], none, 0, 0, by (rw [hsp]; try rfl), by (rw [hsp]; try rfl), rfl, World.ownsRow_nil _ _ _ _, (by intro y hy; cases hy), hbf⟩
        · have hok : ok = true := by
            cases ok with
            | true => rfl
            | false => exact absurd (.inl rfl) hbad
          have h4 : (r.kind == 4 && !smB r.sm sm) = false := by
            rw [← Bool.not_eq_true]
            exact fun h => hbad (.inr h)
          subst hok
          have HST : Hid (stepR b ⟨at_, seen, next, sm, out⟩ = .ok ⟨at_ + m, s1, s2, feedL sm (words raw), out ++ [r]⟩) := by
            show _ = _
            unfold stepR
            simp only
            rw [if_neg (by have := HN.out; omega), ← HP.out, if_neg (by simp), if_neg (by simp only; rw [← HA.out]; simp), if_neg (by simp only; rw [h4]; simp)]
            simp only
            rw [← HA.out, ← HRW.out]
          have htp : ∀ W, Below W5.heap.size W5 W → Calls Try.prog 27 #[.pointer (some ⟨q, 0, none⟩), rcV r (.slice A1 n1 c1), .slice (some (ad.add at_)) m (c - at_), .int .i64 (at_ : Int)] W fun e w' => e = .returned (.tuple #[]) ∧ RdB w' q (q + 1) s1 s2 (feedL sm (words raw)) (ys ++ [X]) ∧ Below q W w' ∧ KeepB 91 W w' := by
            intro W hW
            refine (HTK.out W hW).mono (fun e w' h => ?_)
            have h2 := h.2.2
            rw [HXR.out, ← HA.out, if_neg (by simp), if_neg (by rw [h4]; simp)] at h2
            exact ⟨h2.1, h2.2, h.1, h.2.1⟩
          rw [HRV.out] at htp
          have HTP := Lib.hid htp
          clear htp hbad h4 HTK
          obtain ⟨hi, hhi⟩ : ∃ x, x = at_ + m := ⟨_, rfl⟩
          have hs4 : IntKind.i64.wrap ((at_ : Int) + (m : Int)) = (hi : Int) := by rw [IntKind.wrap_i64]; omega
          have hs1 : (0 : Int) ≤ (hi : Int) := by omega
          have hs2 : at_ ≤ hi := by omega
          have hs3 : hi ≤ c := by omega
          have hs5 : hi - at_ = m := by omega
          have HHI := Lib.hid hhi
          have hS := Lib.hid (fun (W : World) (hb : Below W5.heap.size W5 W) => (show _ ∧ _ ∧ _ ∧ _ ∧ _ ∧ _ ∧ _ ∧ _ ∧ _ ∧ _ ∧ _ ∧ _ ∧ _ from ⟨((HI.out.ka.below HB5.out HI.out.ka.lt).below hb (HI.out.ka.below HB5.out HI.out.ka.lt).lt).cell 0, blk12 (HK6.out.below hb HK6.out.lt)⟩))
          clear hhi z1 a0 a1 a2 a3 a4 a5 a6 a7 a8 a9 a10 a11
          refine wp_region_last 9 (by kernel_rfl) (by kernel_rfl) (by kernel_rfl) (by decide) [(fun v _ => v = .pointer (some ⟨q, 0, none⟩)),
              (fun v _ => v = .agg #[.int .i64 r.kind, .string ⟨r.nm.toArray⟩, .int .i64 r.frm, .int .i64 r.gd, .slice A1 n1 c1, .int .i64 r.ix, .int .i64 r.ct, .string ⟨r.dt.toArray⟩, .int .u64 r.sm.a, .int .u64 r.sm.b, .int .u64 r.sm.c, .int .u64 r.sm.d]),
              (fun v _ => v = .slice (some ad) n c),
              (fun v _ => v = .int .i64 (at_ : Int)),
              (fun v _ => v = .int .i64 (at_ : Int)),
              (fun v _ => v = .int .i64 (m : Int)),
              (fun v _ => v = .int .i64 (hi : Int)),
              (fun v _ => v = .slice (some (ad.add at_)) m (c - at_)),
              (fun v _ => v = .int .i64 (at_ : Int)),
              (fun v _ => v = undef)] ?_ ?_ ?_
          · repeat' (first | exact stays_nil | refine stays_cons ?_ ?_ | exact Stays.pure)
          · intro i oo ho hiL m2 W hb0 hmi hcl hdeps AA KK hA hK
            rcases i with _ | _ | _ | _ | _ | _ | _ | _ | _ | _ | i
            · injection ho with ho
              subst ho
              have ef5 : AA.tmps[5]?.getD undef = .pointer (some ⟨q, 0, none⟩) := by rw [hA]; exact tmps_free (by kernel_rfl)
              clear hA hdeps hcl hmi hiL
              have hK0 : KK (AA.put (some 41) _) _ := hK (.pointer (some ⟨q, 0, none⟩)) _ (Below.refl _ _) (Eq.refl _)
              clear hK
              go_simp
              exact hK0
            · injection ho with ho
              subst ho
              have ef6 : AA.tmps[6]?.getD undef = .pointer (some ⟨g6, 0, none⟩) := by rw [hA]; exact tmps_free (by kernel_rfl)
              clear hA hdeps hcl hmi hiL
              obtain ⟨z1, a0, a1, a2, a3, a4, a5, a6, a7, a8, a9, a10, a11⟩ := hS.out W hb0
              have hK0 : KK (AA.put (some 42) _) _ := hK (.agg #[.int .i64 r.kind, .string ⟨r.nm.toArray⟩, .int .i64 r.frm, .int .i64 r.gd, .slice A1 n1 c1, .int .i64 r.ix, .int .i64 r.ct, .string ⟨r.dt.toArray⟩, .int .u64 r.sm.a, .int .u64 r.sm.b, .int .u64 r.sm.c, .int .u64 r.sm.d]) _ (Below.refl _ _) (Eq.refl _)
              clear hK
              go_simp
              exact hK0
            · injection ho with ho
              subst ho
              have ef0 : AA.tmps[0]?.getD undef = .slice (some ad) n c := by rw [hA]; exact tmps_free (by kernel_rfl)
              clear hA hdeps hcl hmi hiL
              have hK0 : KK (AA.put (some 43) _) _ := hK (.slice (some ad) n c) _ (Below.refl _ _) (Eq.refl _)
              clear hK
              go_simp
              exact hK0
            · injection ho with ho
              subst ho
              have ef3 : AA.tmps[3]?.getD undef = .pointer (some ⟨(g + 1), 0, none⟩) := by rw [hA]; exact tmps_free (by kernel_rfl)
              clear hA hdeps hcl hmi hiL
              obtain ⟨z1, a0, a1, a2, a3, a4, a5, a6, a7, a8, a9, a10, a11⟩ := hS.out W hb0
              have hK0 : KK (AA.put (some 44) _) _ := hK (.int .i64 (at_ : Int)) _ (Below.refl _ _) (Eq.refl _)
              clear hK
              go_simp
              exact hK0
            · injection ho with ho
              subst ho
              have ef3 : AA.tmps[3]?.getD undef = .pointer (some ⟨(g + 1), 0, none⟩) := by rw [hA]; exact tmps_free (by kernel_rfl)
              clear hA hdeps hcl hmi hiL
              obtain ⟨z1, a0, a1, a2, a3, a4, a5, a6, a7, a8, a9, a10, a11⟩ := hS.out W hb0
              have hK0 : KK (AA.put (some 45) _) _ := hK (.int .i64 (at_ : Int)) _ (Below.refl _ _) (Eq.refl _)
              clear hK
              go_simp
              exact hK0
            · injection ho with ho
              subst ho
              have ef7 : AA.tmps[7]?.getD undef = .int .i64 (m : Int) := by rw [hA]; exact tmps_free (by kernel_rfl)
              clear hA hdeps hcl hmi hiL
              have hK0 : KK (AA.put (some 46) _) _ := hK (.int .i64 (m : Int)) _ (Below.refl _ _) (Eq.refl _)
              clear hK
              go_simp
              exact hK0
            · injection ho with ho
              subst ho
              obtain ⟨x4, hx4, hg4⟩ := hdeps ⟨4, .data⟩ (by simp) rfl
              have hg4 : x4 = .int .i64 (at_ : Int) := hg4
              subst hg4
              have e4 : AA.tmps[45]?.getD undef = .int .i64 (at_ : Int) := by rw [hA]; exact tmps_own (by kernel_rfl) hx4 (of_decide_eq_true (by kernel_rfl))
              obtain ⟨x5, hx5, hg5⟩ := hdeps ⟨5, .data⟩ (by simp) rfl
              have hg5 : x5 = .int .i64 (m : Int) := hg5
              subst hg5
              have e5 : AA.tmps[46]?.getD undef = .int .i64 (m : Int) := by rw [hA]; exact tmps_own (by kernel_rfl) hx5 (of_decide_eq_true (by kernel_rfl))
              clear hA hdeps hcl hmi hiL hx4 hx5
              have hK0 : KK (AA.put (some 47) _) _ := hK (.int .i64 (hi : Int)) _ (Below.refl _ _) (Eq.refl _)
              clear hK
              go_simp
              exact hK0
            · injection ho with ho
              subst ho
              obtain ⟨x2, hx2, hg2⟩ := hdeps ⟨2, .data⟩ (by simp) rfl
              have hg2 : x2 = .slice (some ad) n c := hg2
              subst hg2
              have e2 : AA.tmps[43]?.getD undef = .slice (some ad) n c := by rw [hA]; exact tmps_own (by kernel_rfl) hx2 (of_decide_eq_true (by kernel_rfl))
              obtain ⟨x3, hx3, hg3⟩ := hdeps ⟨3, .data⟩ (by simp) rfl
              have hg3 : x3 = .int .i64 (at_ : Int) := hg3
              subst hg3
              have e3 : AA.tmps[44]?.getD undef = .int .i64 (at_ : Int) := by rw [hA]; exact tmps_own (by kernel_rfl) hx3 (of_decide_eq_true (by kernel_rfl))
              obtain ⟨x6, hx6, hg6⟩ := hdeps ⟨6, .data⟩ (by simp) rfl
              have hg6 : x6 = .int .i64 (hi : Int) := hg6
              subst hg6
              have e6 : AA.tmps[47]?.getD undef = .int .i64 (hi : Int) := by rw [hA]; exact tmps_own (by kernel_rfl) hx6 (of_decide_eq_true (by kernel_rfl))
              clear hA hdeps hcl hmi hiL hx2 hx3 hx6
              have hK0 : KK (AA.put (some 48) _) _ := hK (.slice (some (ad.add at_)) m (c - at_)) _ (Below.refl _ _) (Eq.refl _)
              clear hK
              go_simp
              exact hK0
            · injection ho with ho
              subst ho
              have ef3 : AA.tmps[3]?.getD undef = .pointer (some ⟨(g + 1), 0, none⟩) := by rw [hA]; exact tmps_free (by kernel_rfl)
              clear hA hdeps hcl hmi hiL
              obtain ⟨z1, a0, a1, a2, a3, a4, a5, a6, a7, a8, a9, a10, a11⟩ := hS.out W hb0
              have hK0 : KK (AA.put (some 49) _) _ := hK (.int .i64 (at_ : Int)) _ (Below.refl _ _) (Eq.refl _)
              clear hK
              go_simp
              exact hK0
            · exact absurd rfl hiL
            · simp at ho
          · intro oo ho m2 W hmL hb0 hall AA KK hA hAf hK
            injection ho with ho
            subst ho
            obtain ⟨x0, m0, g0⟩ := hall 0 (by simp) (by simp)
            replace g0 : x0 = .pointer (some ⟨q, 0, none⟩) := g0
            subst g0
            obtain ⟨x1, m1, g1⟩ := hall 1 (by simp) (by simp)
            replace g1 : x1 = .agg #[.int .i64 r.kind, .string ⟨r.nm.toArray⟩, .int .i64 r.frm, .int .i64 r.gd, .slice A1 n1 c1, .int .i64 r.ix, .int .i64 r.ct, .string ⟨r.dt.toArray⟩, .int .u64 r.sm.a, .int .u64 r.sm.b, .int .u64 r.sm.c, .int .u64 r.sm.d] := g1
            subst g1
            obtain ⟨x2, m2, g2⟩ := hall 2 (by simp) (by simp)
            replace g2 : x2 = .slice (some ad) n c := g2
            subst g2
            obtain ⟨x3, m3, g3⟩ := hall 3 (by simp) (by simp)
            replace g3 : x3 = .int .i64 (at_ : Int) := g3
            subst g3
            obtain ⟨x4, m4, g4⟩ := hall 4 (by simp) (by simp)
            replace g4 : x4 = .int .i64 (at_ : Int) := g4
            subst g4
            obtain ⟨x5, m5, g5⟩ := hall 5 (by simp) (by simp)
            replace g5 : x5 = .int .i64 (m : Int) := g5
            subst g5
            obtain ⟨x6, m6, g6⟩ := hall 6 (by simp) (by simp)
            replace g6 : x6 = .int .i64 (hi : Int) := g6
            subst g6
            obtain ⟨x7, m7, g7⟩ := hall 7 (by simp) (by simp)
            replace g7 : x7 = .slice (some (ad.add at_)) m (c - at_) := g7
            subst g7
            obtain ⟨x8, m8, g8⟩ := hall 8 (by simp) (by simp)
            replace g8 : x8 = .int .i64 (at_ : Int) := g8
            subst g8
            have e0 : AA.tmps[41]?.getD undef = .pointer (some ⟨q, 0, none⟩) := by rw [hA]; exact tmps_own (by kernel_rfl) m0 (of_decide_eq_true (by kernel_rfl))
            have e1 : AA.tmps[42]?.getD undef = .agg #[.int .i64 r.kind, .string ⟨r.nm.toArray⟩, .int .i64 r.frm, .int .i64 r.gd, .slice A1 n1 c1, .int .i64 r.ix, .int .i64 r.ct, .string ⟨r.dt.toArray⟩, .int .u64 r.sm.a, .int .u64 r.sm.b, .int .u64 r.sm.c, .int .u64 r.sm.d] := by rw [hA]; exact tmps_own (by kernel_rfl) m1 (of_decide_eq_true (by kernel_rfl))
            have e7 : AA.tmps[48]?.getD undef = .slice (some (ad.add at_)) m (c - at_) := by rw [hA]; exact tmps_own (by kernel_rfl) m7 (of_decide_eq_true (by kernel_rfl))
            have e8 : AA.tmps[49]?.getD undef = .int .i64 (at_ : Int) := by rw [hA]; exact tmps_own (by kernel_rfl) m8 (of_decide_eq_true (by kernel_rfl))
            clear hA hAf
            go_simp
            refine (HTP.out W hb0).mono ?_
            rintro e w7 ⟨rfl, h1, h2, h3⟩
            have HRD7 := Lib.hid h1
            have HB7 := Lib.hid ((hb0.mono (Nat.le_of_lt hq5)).trans h2)
            have HKB7 := Lib.hid ((KeepB.of_below (t := 91) hb0).trans h3)
            clear h1 h2 h3 HTP
            refine hK _ _ ?_
            clear hK
            rw [frameM_all (by kernel_rfl) [.pointer (some ⟨q, 0, none⟩), .agg #[.int .i64 r.kind, .string ⟨r.nm.toArray⟩, .int .i64 r.frm, .int .i64 r.gd, .slice A1 n1 c1, .int .i64 r.ix, .int .i64 r.ct, .string ⟨r.dt.toArray⟩, .int .u64 r.sm.a, .int .u64 r.sm.b, .int .u64 r.sm.c, .int .u64 r.sm.d], .slice (some ad) n c, .int .i64 (at_ : Int), .int .i64 (at_ : Int), .int .i64 (m : Int), .int .i64 (hi : Int), .slice (some (ad.add at_)) m (c - at_), .int .i64 (at_ : Int), .tuple #[]] rfl (fun i hi => by
                rcases i with _ | _ | _ | _ | _ | _ | _ | _ | _ | _ | i
                · simpa [upd] using m0
                · simpa [upd] using m1
                · simpa [upd] using m2
                · simpa [upd] using m3
                · simpa [upd] using m4
                · simpa [upd] using m5
                · simpa [upd] using m6
                · simpa [upd] using m7
                · simpa [upd] using m8
                · exact upd_self _ _ _
                · simp at hi; omega)]
            clear m0 m1 m2 m3 m4 m5 m6 m7 m8
            simp only [putAll, Act.put, List.setIfInBounds_toArray, List.set_cons_succ, List.set_cons_zero]
            have hgq : g + 1 + 1 < q := by have := HQ.out; omega
            have kl7 := (HI.out.kl.below HB5.out HI.out.kl.lt).below HB7.out (by omega)
            have ka7 := (HI.out.ka.below HB5.out HI.out.ka.lt).below HB7.out (by omega)
            have ke7 := (HI.out.ke.below HB5.out HI.out.ke.lt).below HB7.out (by omega)
            have z1 := ka7.cell 0
            simp only [List.getElem?_toArray, List.getElem?_cons_zero] at z1
            have zf := ka7.frozen 0
            have hz := leftN_of (n := n) (HI.out.ka.cell 0)
            have HZ := Lib.hid hz
            have hst := HST.out
            rw [← HHI.out] at hst
            have HST2 := Lib.hid hst
            have kl8 := kl7.far (p := ⟨g + 1, 0, none⟩) (by simp) (.int .i64 (hi : Int))
            have ka8 := ka7.set_ 0 (.int .i64 (hi : Int))
            have ke8 := ke7.far (p := ⟨g + 1, 0, none⟩) (by simp) (.int .i64 (hi : Int))
            have hI8 : RecsI w b g q k ⟨hi, s1, s2, feedL sm (words raw), out ++ [r]⟩ (ys ++ [X]) (w7.setCell ⟨g + 1, 0, none⟩ (.int .i64 (hi : Int))) := by
              obtain ⟨Aq, kq, cq, e1, e2, e3, e4⟩ := HRD7.out
              have hin := afterL_in seen next r HRE.out HI.out.next
              rw [← HA.out] at hin
              have hfu := HI.out.fuel
              have hle := HI.out.len
              simp only at hfu hle hin
              refine ⟨kl8, ka8, ke8, ⟨Aq, kq, cq, e1, e2.far (p := ⟨g + 1, 0, none⟩) (by simp only; omega) _, own_setCell_below e3 (p := ⟨g + 1, 0, none⟩) (by simp only; omega) _, e4⟩, ?_, ?_, (by simp only; omega), ?_, hin.1, hin.2, (by simp only; omega), ?_, ?_⟩
              · have h0 : OwnRs w7 w.heap.size (ys ++ [X]) := by
                  intro y hy
                  rcases List.mem_append.1 hy with hy | hy
                  · exact ((HI.out.own.below HB5.out).keep HKB7.out) y hy
                  · rw [List.mem_singleton.1 hy, HX.out]
                    exact ⟨HN1.out, HKB7.out.own (own_mono HO5.out HI.out.bel.size), HRE.out, HRS.out⟩
                exact h0.keep (KeepB.of_box ka7 (by decide))
              · rw [List.map_append, HI.out.out, List.map_cons, HXR.out]; rfl
              · rw [List.length_append]; simp only [List.length_cons, List.length_nil]; omega
              · rw [HI.out.spec]
                exact recsGo_ok b k _ _ hseen HST2.out
              · exact ((HI.out.bel.trans (HB5.out.mono HI.out.bel.size)).trans (HB7.out.mono hwq)).setCell (by have := HG.out; simp only; omega) _
            have HI8 := Lib.hid hI8
            have hz8 := leftN_of (n := n) (ka8.cell 0)
            have HZ8 := Lib.hid hz8
            clear kl7 ka7 ke7 kl8 ka8 ke8 hI8 hz8 hz hst
            go_wp2_with fail
            go_roundw
            case rel => exact ⟨_, _, _, HI8.out⟩
            case measure => rw [HZ8.out, HZ.out]; simp only [Int.toNat_natCast]; omega
      · have hlt2 : ¬ (at_ : Int) < (n : Int) := by omega
        have hdf : decide (at_ < n) = false := decide_eq_false hlt
        have HDF := Lib.hid hdf
        have HLT := Lib.hid hlt
        clear hlt2 hdf hlt
        go_wp2_with fail
        rw [HDF.out]
        refine (need_bad _ _ _).mono ?_
        rintro e w3 ⟨rfl, hw3⟩
        rw [hw3]
        clear hw3 w3
        go_wp2_with fail
        refine leaves_cons (f := 25) (args := #[.pointer (some ⟨g, 0, none⟩), .pointer (some ⟨g + 1, 0, none⟩), .pointer (some ⟨g + 1 + 1, 0, none⟩)]) (by simp) (by simp [go_sem]) ?_
        refine (rec1_panicking g _ _ _ ((n : Int)) (8) [] wr HI.out.kl HI.out.ka HI.out.ke).mono ?_
        rintro en u' wd ⟨rfl, rfl, kld, kad, ked, hbd⟩
        have q0 : wd.cell? ⟨g, 0, none⟩ = some (.slice none 0 0) := kld.cell 0
        have q1 : wd.cell? ⟨g + 1, 0, none⟩ = some (.int .i64 ((n : Int))) := kad.cell 0
        have q2 : wd.cell? ⟨g + 1 + 1, 0, none⟩ = some (.int .i64 (8)) := ked.cell 0
        have hbf : Below w.heap.size w wd := HI.out.bel.trans (by have := HG.out; rw [← this]; exact hbd)
        have hsp : recsL' b = ([], n, 8) := by rw [HI.out.spec, HN.out]; exact recsGo_bad b k _ hseen b.length 8 (by unfold stepR; rw [if_pos (show b.length ≤ at_ by have := HN.out; have := HLT.out; omega)])
        simp [Leaves, settle, results, Try.results11, go_sem, q0, q1, q2]
        exact ⟨[], none, 0, 0, by (rw [hsp]; try rfl), by (rw [hsp]; try rfl), rfl, World.ownsRow_nil _ _ _ _, (by intro y hy; cases hy), hbf⟩
    · have hns : ¬ seen < 2 := hseen
      have HSEEN := Lib.hid hseen
      by_cases hend : at_ = n
      · obtain ⟨⟨q0, q1, q2, q3, q4, q5, q6⟩, _⟩ := blk7 (c6 := .slice Ao ko co) hkq
        have z0 := HI.out.kl.cell 0
        have z2 := HI.out.ke.cell 0
        simp only [List.getElem?_toArray, List.getElem?_cons_zero] at z0 z2
        have y0 := HI.out.kl.frozen 0
        have y1 := HI.out.ka.frozen 0
        have y2 := HI.out.ke.frozen 0
        have HSP : Hid (recsL' b = (out, n, 0)) := by
          show _ = _
          rw [HI.out.spec, recsGo_end b k _ hns, if_pos (by simp only; rw [hend]; exact HN.out)]
          simp only
          rw [hend]
        have hgq : g + 1 + 1 < q := by have := HQ.out; omega
        have kl8 := (((HI.out.kl.set_ 0 (.slice Ao ko co)).far (p := ⟨g + 1, 0, none⟩) (by simp) (.int .i64 (n : Int))).far (p := ⟨g + 1 + 1, 0, none⟩) (by simp only; omega) (.int .i64 0)).drew
        have ka8 := (((HI.out.ka.far (p := ⟨g, 0, none⟩) (by simp) (.slice Ao ko co)).set_ 0 (.int .i64 (n : Int))).far (p := ⟨g + 1 + 1, 0, none⟩) (by simp) (.int .i64 0)).drew
        have ke8 := (((HI.out.ke.far (p := ⟨g, 0, none⟩) (by simp only; omega) (.slice Ao ko co)).far (p := ⟨g + 1, 0, none⟩) (by simp) (.int .i64 (n : Int))).set_ 0 (.int .i64 0)).drew
        have hb8 := (((HI.out.bel.setCell (p := ⟨g, 0, none⟩) (by have := HG.out; simp only; omega) (.slice Ao ko co)).setCell (p := ⟨g + 1, 0, none⟩) (by have := HG.out; simp only; omega) (.int .i64 (n : Int))).setCell (p := ⟨g + 1 + 1, 0, none⟩) (by have := HG.out; simp only; omega) (.int .i64 0)).drew
        have ho8 := own_drew (own_setCell_below (own_setCell_below (own_setCell_below hoo (p := ⟨g, 0, none⟩) (by simp only; omega) (.slice Ao ko co)) (p := ⟨g + 1, 0, none⟩) (by simp only; omega) (.int .i64 (n : Int))) (p := ⟨g + 1 + 1, 0, none⟩) (by simp only; omega) (.int .i64 0))
        have hr8 := (((HI.out.own.keep (KeepB.of_box (i := 0) (u := .slice Ao ko co) HI.out.kl (by decide))).keep (KeepB.of_box (i := 0) (u := .int .i64 (n : Int)) (HI.out.ka.far (p := ⟨g, 0, none⟩) (by simp) (.slice Ao ko co)) (by decide))).keep (KeepB.of_box (i := 0) (u := .int .i64 0) ((HI.out.ke.far (p := ⟨g, 0, none⟩) (by simp only; omega) (.slice Ao ko co)).far (p := ⟨g + 1, 0, none⟩) (by simp) (.int .i64 (n : Int))) (by decide)))
        have HH := Lib.hid (show _ ∧ _ ∧ _ ∧ _ ∧ _ ∧ _ from ⟨kl8, ka8, ke8, hb8, ho8, hr8⟩)
        have HKO := Lib.hid hko
        have HOUT := Lib.hid HI.out.out
        clear kl8 ka8 ke8 hb8 ho8 hr8 hoo hkq hko HI
        subst hend
        go_wp2_with fail
        refine (need_ok _ _ _).mono ?_
        rintro e w3 ⟨rfl, hw3⟩
        rw [hw3]
        clear hw3 w3
        go_wp2_with fail
        go_region
        go_wp2_with fail
        obtain ⟨WE, hWE⟩ : ∃ W, W = (((wr.setCell ⟨g, 0, none⟩ (.slice Ao ko co)).setCell ⟨g + 1, 0, none⟩ (.int .i64 (at_ : Int))).setCell ⟨g + 1 + 1, 0, none⟩ (.int .i64 0)).drew := ⟨_, rfl⟩
        obtain ⟨kl8, ka8, ke8, hb8, ho8, hr8⟩ := HH.out
        replace hr8 : OwnRs WE w.heap.size ys := by rw [hWE]; exact hr8
        rw [← hWE] at kl8 ka8 ke8 hb8 ho8 ⊢
        clear hWE HH
        refine leaves_cons (f := 25) (args := #[.pointer (some ⟨g, 0, none⟩), .pointer (some ⟨g + 1, 0, none⟩), .pointer (some ⟨g + 1 + 1, 0, none⟩)]) (by simp) (by simp [go_sem]) ?_
        refine (rec1_idle ⟨g, 0, none⟩ ⟨g + 1, 0, none⟩ ⟨g + 1 + 1, 0, none⟩ _).mono ?_
        rintro en u' wd ⟨rfl, rfl, hwd⟩
        have hba : Below WE.heap.size WE wd := by rw [hwd]; exact (Below.refl _ _).alloc (Nat.le_refl _) _
        have q0 : wd.cell? ⟨g, 0, none⟩ = some (.slice Ao ko co) := (kl8.below hba kl8.lt).cell 0
        have q1 : wd.cell? ⟨g + 1, 0, none⟩ = some (.int .i64 (at_ : Int)) := (ka8.below hba ka8.lt).cell 0
        have q2 : wd.cell? ⟨g + 1 + 1, 0, none⟩ = some (.int .i64 0) := (ke8.below hba ke8.lt).cell 0
        have hsp := HSP.out
        simp [Leaves, settle, results, Try.results11, go_sem, q0, q1, q2]
        exact ⟨ys, Ao, ko, co, by (rw [hsp]; try rfl), by rw [hsp]; exact HOUT.out, HKO.out, own_mono (own_below ho8 hba) (by have := HQ.out; have := HG.out; omega), hr8.below hba, hb8.trans (hba.mono hb8.size)⟩
      · have hne : ((at_ : Int) == (n : Int)) = false := by simp; omega
        have HEND := Lib.hid hend
        go_wp2_with fail
        refine (need_bad _ _ _).mono ?_
        rintro e w3 ⟨rfl, hw3⟩
        rw [hw3]
        clear hw3 w3
        go_wp2_with fail
        refine leaves_cons (f := 25) (args := #[.pointer (some ⟨g, 0, none⟩), .pointer (some ⟨g + 1, 0, none⟩), .pointer (some ⟨g + 1 + 1, 0, none⟩)]) (by simp) (by simp [go_sem]) ?_
        refine (rec1_panicking g _ _ _ ((at_ : Int)) (35) [] wr HI.out.kl HI.out.ka HI.out.ke).mono ?_
        rintro en u' wd ⟨rfl, rfl, kld, kad, ked, hbd⟩
        have q0 : wd.cell? ⟨g, 0, none⟩ = some (.slice none 0 0) := kld.cell 0
        have q1 : wd.cell? ⟨g + 1, 0, none⟩ = some (.int .i64 ((at_ : Int))) := kad.cell 0
        have q2 : wd.cell? ⟨g + 1 + 1, 0, none⟩ = some (.int .i64 (35)) := ked.cell 0
        have hbf : Below w.heap.size w wd := HI.out.bel.trans (by have := HG.out; rw [← this]; exact hbd)
        have hsp : recsL' b = ([], at_, 35) := by rw [HI.out.spec, recsGo_end b k _ (by simp only; have := HSEEN.out; omega), if_neg (by simp only; have := HN.out; have := HEND.out; omega)]
        simp [Leaves, settle, results, Try.results11, go_sem, q0, q1, q2]
        exact ⟨[], none, 0, 0, by (rw [hsp]; try rfl), by (rw [hsp]; try rfl), rfl, World.ownsRow_nil _ _ _ _, (by intro y hy; cases hy), hbf⟩
end Go.Proofs.Ytcbeadldieeceaa
