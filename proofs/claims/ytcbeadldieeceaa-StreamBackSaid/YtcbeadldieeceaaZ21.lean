/-
  record.read at kind 1. (mkrcread1.py)
-/
import Derived.Test.YtcbeadldieeceaaZ20
namespace Go.Proofs.Ytcbeadldieeceaa
open Go.RowKit

def leftAt (W : World) (p : Addr) : Nat := match W.cell? p with | some (.slice _ n _) => n | _ => 0
theorem leftAt_of {W : World} {p : Addr} {A : Option Addr} {n c : Nat} (h : W.cell? p = some (.slice A n c)) : leftAt W p = n := by unfold leftAt; rw [h]
theorem RdIn.drew {B g : Nat} {l : List BS} {ok : Bool} {W : World} (h : RdIn B g l ok W) : RdIn B g l ok W.drew := h
theorem RdIn.grown {B g : Nat} {l : List BS} {ok : Bool} {W W' : World} {row : Option Nat} (h : RdIn B g l ok W) (hg : W.grownBy W' row) (hne : some g ≠ row) (hB : B ≤ W.heap.size) (hr : ∀ r, row = some r → B ≤ r) : RdIn B g l ok W' := by
  obtain ⟨A, n, c, hk, hn, hrd, hc, hm⟩ := h
  exact ⟨A, n, c, hk.grown hg hne, hn, hrd.grown hg hB hr, hc, hm⟩
theorem RdIn.alloc {B g : Nat} {l : List BS} {ok : Bool} {W : World} (h : RdIn B g l ok W) (hB : B ≤ W.heap.size) (o : Obj) : RdIn B g l ok (W.alloc o) := by
  obtain ⟨A, n, c, hk, hn, hrd, hc, hm⟩ := h
  exact ⟨A, n, c, hk.alloc o, hn, hrd.alloc hB o, hc, hm⟩
theorem RdIn.far {B g : Nat} {l : List BS} {ok : Bool} {W : World} (h : RdIn B g l ok W) {p : Addr} (hp : g ≠ p.block) (hB : B ≤ p.block) (u : Value) : RdIn B g l ok (W.setCell p u) := by
  obtain ⟨A, n, c, hk, hn, hrd, hc, hm⟩ := h
  exact ⟨A, n, c, hk.far hp u, hn, hrd.setCell hB u, hc, hm⟩
theorem RdIn.left {B g : Nat} {l : List BS} {ok : Bool} {W : World} (h : RdIn B g l ok W) : leftAt W ⟨g, 0, none⟩ = l.length := by
  obtain ⟨A, n, c, hk, hn, hrd, hc, hm⟩ := h
  rw [← hn]
  exact leftAt_of (blk2 hk).1
def Read1Post (w : World) (nm : BS) (f g : Int) (R : Bool) (O : PL) (e : Ending) (w' : World) : Prop :=
  ∃ (v : Value) (o : PL), e = .returned (.tuple #[rcV { Rc0 with kind := 1, nm := nm, frm := f, gd := g, own := o } v, .bool R]) ∧ (R = true → o = O) ∧ w'.ownsRow w.heap.size 91 2 v o.length (pcells o) ∧ o.length ≤ 100000 ∧ (∀ x ∈ o, x.2.length ≤ 140737488351232) ∧ Below w.heap.size w w'
/-- what is still to come of the loop -/
def Loop1 (l : List BS) (ok : Bool) (acc : PL) (R : Bool) (O : PL) : Prop := (ok && (loopR l).2) = R ∧ (R = true → acc ++ (loopR l).1 = O)
theorem Loop1.next {l : List BS} {acc : PL} {R : Bool} {O : PL} (h : Loop1 l true acc R O) (hl : l ≠ []) : Loop1 l.tail.tail (txtOk l.tail true) (acc ++ [(txtV l, txtV l.tail)]) R O := by
  match l with
  | [] => exact absurd rfl hl
  | [a] =>
    obtain ⟨h1, h2⟩ := h
    refine ⟨?_, fun hR => ?_⟩
    · rw [← h1]; rfl
    · rw [← h1] at hR; cases hR
  | a :: b :: r =>
    obtain ⟨h1, h2⟩ := h
    refine ⟨?_, fun hR => ?_⟩
    · rw [← h1]; rfl
    · rw [← h2 hR]
      simp [loopR, txtV]
set_option maxRecDepth 100000 in
set_option maxHeartbeats 4000000 in
theorem rread1_any (l : List BS) (hsl : ∀ s ∈ l, s.length ≤ 140737488351232) (n : Nat) (hnl : n = l.length) (A : Option Addr) (c : Nat) (w : World) (B : Nat) (hr : Reads w B 1 A n (scells l)) (hB : B ≤ w.heap.size) (hc : n ≤ c) (hcm : c ≤ maxLen) (hn : n ≤ 100000) :
    Calls Try.prog 49 #[.int .i64 1, .slice A n c] w (Read1Post w (txtV l) (fnV (txtV l.tail)) (fnV (txtV l.tail.tail)) (numOk l.tail.tail (numOk l.tail (txtOk l true)) && (loopR l.tail.tail.tail).2) (loopR l.tail.tail.tail).1) := by
  obtain ⟨i0, hi0, hz0, hz1, hz2⟩ := info_parts Try.infoP
  have h3 := three_boxes w #[.int .i64 0, .string ⟨#[]⟩, .int .i64 0, .int .i64 0, .slice none 0 0, .int .i64 0, .int .i64 0, .string ⟨#[]⟩, .int .u64 0, .int .u64 0, .int .u64 0, .int .u64 0] #[.slice A n c, .bool true] #[.int .i64 1, .string ⟨#[]⟩, .int .i64 0, .int .i64 0, .slice none 0 0, .int .i64 0, .int .i64 0, .string ⟨#[]⟩, .int .u64 0, .int .u64 0, .int .u64 0, .int .u64 0] 47 129 47
  obtain ⟨W0, hW0⟩ : ∃ W0, W0 = ((w.alloc (.cells #[.int .i64 0, .string ⟨#[]⟩, .int .i64 0, .int .i64 0, .slice none 0 0, .int .i64 0, .int .i64 0, .string ⟨#[]⟩, .int .u64 0, .int .u64 0, .int .u64 0, .int .u64 0] 47)).alloc (.cells #[.slice A n c, .bool true] 129)).alloc (.cells #[.int .i64 1, .string ⟨#[]⟩, .int .i64 0, .int .i64 0, .slice none 0 0, .int .i64 0, .int .i64 0, .string ⟨#[]⟩, .int .u64 0, .int .u64 0, .int .u64 0, .int .u64 0] 47) := ⟨_, rfl⟩
  rw [← hW0] at h3
  obtain ⟨k1, k2, k3, hb0⟩ := h3
  have hrd : RdIn w.heap.size (w.heap.size + 1) l true W0 := ⟨A, n, c, k2, hnl, (hr.below (hb0.mono hB)).more hB, hc, hcm⟩
  have ht := rtext_any l true w.heap.size (w.heap.size + 1) (by omega) W0 hrd (by omega)
  have hl1 : l.tail.length ≤ 100000 := by rw [List.length_tail]; omega
  have hl2 : l.tail.tail.length ≤ 100000 := by rw [List.length_tail, List.length_tail]; omega
  have hl3 : l.tail.tail.tail.length ≤ 100000 := by rw [List.length_tail, List.length_tail, List.length_tail]; omega
  have hm3 : ∀ s ∈ l.tail.tail.tail, s.length ≤ 140737488351232 := fun s hs => hsl s (List.mem_of_mem_tail (List.mem_of_mem_tail (List.mem_of_mem_tail hs)))
  obtain ⟨s1, hs1⟩ : ∃ s, s = txtV l := ⟨_, rfl⟩
  obtain ⟨o1, ho1⟩ : ∃ o, o = txtOk l true := ⟨_, rfl⟩
  obtain ⟨l1, hll1⟩ : ∃ x, x = l.tail := ⟨_, rfl⟩
  rw [← hs1, ← ho1, ← hll1] at ht
  rw [← hs1, ← ho1, ← hll1]
  rw [← hll1] at hl1 hl2 hl3 hm3
  obtain ⟨n2, hn2⟩ : ∃ x, x = fnV (txtV l1) := ⟨_, rfl⟩
  obtain ⟨o2, ho2⟩ : ∃ o, o = numOk l1 o1 := ⟨_, rfl⟩
  obtain ⟨l2, hll2⟩ : ∃ x, x = l1.tail := ⟨_, rfl⟩
  have hN2 := fun W h => rnumber_any l1 o1 w.heap.size (w.heap.size + 1) (by omega) W h hl1
  rw [← hn2, ← ho2, ← hll2] at hN2
  rw [← hn2, ← ho2, ← hll2]
  rw [← hll2] at hl2 hl3 hm3
  obtain ⟨n3, hn3⟩ : ∃ x, x = fnV (txtV l2) := ⟨_, rfl⟩
  obtain ⟨o3, ho3⟩ : ∃ o, o = numOk l2 o2 := ⟨_, rfl⟩
  obtain ⟨l3, hll3⟩ : ∃ x, x = l2.tail := ⟨_, rfl⟩
  have hN3 := fun W h => rnumber_any l2 o2 w.heap.size (w.heap.size + 1) (by omega) W h hl2
  rw [← hn3, ← ho3, ← hll3] at hN3
  rw [← hn3, ← ho3, ← hll3]
  rw [← hll3] at hl3 hm3
  obtain ⟨R, hR⟩ : ∃ R, R = (o3 && (loopR l3).2) := ⟨_, rfl⟩
  obtain ⟨O, hO⟩ : ∃ O, O = (loopR l3).1 := ⟨_, rfl⟩
  rw [← hR, ← hO]
  have HL : Hid (Loop1 l3 o3 [] R O) := ⟨hR.symm, fun _ => by rw [hO]; rfl⟩
  have HM := Lib.hid hm3
  have HT := Lib.hid ht
  have HN2 := Lib.hid hN2
  have HN3 := Lib.hid hN3
  have HW0 := Lib.hid hW0
  have K1 := Lib.hid k1
  have K3 := Lib.hid k3
  have HB0 := Lib.hid hb0
  clear hW0 k1 k2 k3 hb0 hrd hr hnl hs1 ho1 hll1 hn2 ho2 hll2 hn3 ho3 hll3 hR hO hN2 hN3 ht hl1 hl2 hm3 hsl
  go_enter Try.func49, Try.ntmps49
  go_wp2_with fail
  rw [← HW0.out]
  refine HT.out.mono ?_
  clear HT
  rintro e w1 ⟨rfl, hrd1, hg1⟩
  have K1 := Lib.hid (K1.out.grown hg1 (fun e => by injection e; omega))
  have K3 := Lib.hid (K3.out.grown hg1 (fun e => by injection e; omega))
  have HB1 := Lib.hid (HB0.out.grown hg1 HB0.out.size (fun k hk => by injection hk; omega))
  have HRD := Lib.hid hrd1
  clear hrd1 hg1 HB0 HW0
  go_wp2_with fail
  refine (HN2.out _ HRD.out).mono ?_
  clear HN2
  rintro e w2 ⟨rfl, hrd2, hg2⟩
  have K1 := Lib.hid (K1.out.grown hg2 (fun e => by injection e; omega))
  have K3 := Lib.hid (K3.out.grown hg2 (fun e => by injection e; omega))
  have HB2 := Lib.hid (HB1.out.grown hg2 HB1.out.size (fun k hk => by injection hk; omega))
  have HRD := Lib.hid hrd2
  clear hrd2 hg2 HB1
  go_wp2_with fail
  refine (HN3.out _ HRD.out).mono ?_
  clear HN3
  rintro e w3 ⟨rfl, ⟨A3, m3, c3, hk2, hm3, hr3, hc3, hcm3⟩, hg3⟩
  have k1 := K1.out.grown hg3 (fun e => by injection e; omega)
  have k3 := K3.out.grown hg3 (fun e => by injection e; omega)
  have HB3 := Lib.hid (HB2.out.grown hg3 HB2.out.size (fun k hk => by injection hk; omega))
  clear K1 K3 HB2 hg3
  obtain ⟨W4, hW4⟩ : ∃ W4, W4 = ((w3.setCell ⟨w.heap.size + 1 + 1, 1, none⟩ (.string ⟨s1.toArray⟩)).setCell ⟨w.heap.size + 1 + 1, 2, none⟩ (.int .i64 n2)).setCell ⟨w.heap.size + 1 + 1, 3, none⟩ (.int .i64 n3) := ⟨_, rfl⟩
  have k3' : Blk W4 (w.heap.size + 1 + 1) 47 #[.int .i64 1, .string ⟨s1.toArray⟩, .int .i64 n2, .int .i64 n3, .slice none 0 0, .int .i64 0, .int .i64 0, .string ⟨#[]⟩, .int .u64 0, .int .u64 0, .int .u64 0, .int .u64 0] := by
    have := ((k3.set_ 1 (.string ⟨s1.toArray⟩)).set_ 2 (.int .i64 n2)).set_ 3 (.int .i64 n3)
    rw [← hW4] at this
    simpa using this
  have k1' : Blk W4 w.heap.size 47 #[.int .i64 0, .string ⟨#[]⟩, .int .i64 0, .int .i64 0, .slice none 0 0, .int .i64 0, .int .i64 0, .string ⟨#[]⟩, .int .u64 0, .int .u64 0, .int .u64 0, .int .u64 0] := by
    have := ((k1.far (p := ⟨w.heap.size + 1 + 1, 1, none⟩) (by dsimp only; omega) (.string ⟨s1.toArray⟩)).far (p := ⟨w.heap.size + 1 + 1, 2, none⟩) (by dsimp only; omega) (.int .i64 n2)).far (p := ⟨w.heap.size + 1 + 1, 3, none⟩) (by dsimp only; omega) (.int .i64 n3)
    rw [← hW4] at this
    exact this
  have k2' : Blk W4 (w.heap.size + 1) 129 #[.slice A3 m3 c3, .bool o3] := by
    have := ((hk2.far (p := ⟨w.heap.size + 1 + 1, 1, none⟩) (by dsimp only; omega) (.string ⟨s1.toArray⟩)).far (p := ⟨w.heap.size + 1 + 1, 2, none⟩) (by dsimp only; omega) (.int .i64 n2)).far (p := ⟨w.heap.size + 1 + 1, 3, none⟩) (by dsimp only; omega) (.int .i64 n3)
    rw [← hW4] at this
    exact this
  have hb4 : Below w.heap.size w W4 := by
    rw [hW4]
    exact ((HB3.out.setCell (by dsimp only; omega) _).setCell (by dsimp only; omega) _).setCell (by dsimp only; omega) _
  have hb34 : Below w.heap.size w3 W4 := by
    rw [hW4]
    exact (((Below.refl _ _).setCell (by dsimp only; omega) _).setCell (by dsimp only; omega) _).setCell (by dsimp only; omega) _
  have HRD4 : Hid (RdIn w.heap.size (w.heap.size + 1) l3 o3 W4) := ⟨A3, m3, c3, k2', hm3, hr3.below hb34, hc3, hcm3⟩
  have K1' := Lib.hid k1'
  have K3' := Lib.hid k3'
  have HB4 := Lib.hid hb4
  have HW4 := Lib.hid hW4
  obtain ⟨b0, b1, b2, b3, b4, b5, b6, b7, b8, b9, b10, b11⟩ := blk12 k3
  obtain ⟨f0, f1, f2, f3, f4, f5, f6, f7, f8, f9, f10, f11⟩ := frozen12 k3
  clear k1' k2' k3' hb4 hb34 hW4 k1 k3 hk2 hm3 hr3 hc3 hcm3 HRD HB3
  go_wp2_with fail
  rw [← HW4.out]
  clear b0 b1 b2 b3 b4 b5 b6 b7 b8 b9 b10 b11 f0 f1 f2 f3 f4 f5 f6 f7 f8 f9 f10 f11
  go_loopw [] (fun wr => ∃ (l' : List BS) (ok : Bool) (acc : PL) (k : Nat) (A' : Option Addr) (c' : Nat), Hid (RdIn w.heap.size (w.heap.size + 1) l' ok wr) ∧ Hid (Blk wr w.heap.size 47 #[.int .i64 0, .string ⟨#[]⟩, .int .i64 0, .int .i64 0, .slice none 0 0, .int .i64 0, .int .i64 0, .string ⟨#[]⟩, .int .u64 0, .int .u64 0, .int .u64 0, .int .u64 0]) ∧ Hid (Blk wr (w.heap.size + 1 + 1) 47 #[.int .i64 1, .string ⟨s1.toArray⟩, .int .i64 n2, .int .i64 n3, .slice A' k c', .int .i64 0, .int .i64 0, .string ⟨#[]⟩, .int .u64 0, .int .u64 0, .int .u64 0, .int .u64 0]) ∧
    Hid (wr.ownsRow (w.heap.size + 1 + 1 + 1) 91 2 (.slice A' k c') k (pcells acc)) ∧ Hid (k = acc.length) ∧ k + l'.length ≤ 100000 ∧ Hid (∀ x ∈ acc, x.2.length ≤ 140737488351232) ∧ Hid (∀ s ∈ l', s.length ≤ 140737488351232) ∧ Hid (Loop1 l' ok acc R O) ∧ Hid (Below w.heap.size w wr)) (fun wr => leftAt wr ⟨w.heap.size + 1, 0, none⟩)
  case atStart => exact ⟨l3, o3, [], 0, none, 0, HRD4, K1', K3', ⟨rfl, .inl ⟨rfl, rfl⟩⟩, rfl, by omega, (fun x hx => by cases hx), HM, HL, HB4⟩
  case round =>
    obtain ⟨l', ok, acc, k, A', c', HRD, K1, K3, HO, HK, hkl, HV, HM, HL, HB⟩ := hrel
    clear HRD4 K1' K3' HB4 HW4
    obtain ⟨A2, m2, c2, hk2, hm2, hr2, hc2, hcm2⟩ := HRD.out
    obtain ⟨r0, r1, rf0, rf1⟩ := blk2 hk2
    obtain ⟨a0, a1, a2, a3, a4, a5, a6, a7, a8, a9, a10, a11⟩ := blk12 K1.out
    obtain ⟨g0, g1, g2, g3, g4, g5, g6, g7, g8, g9, g10, g11⟩ := frozen12 K1.out
    obtain ⟨b0, b1, b2, b3, b4, b5, b6, b7, b8, b9, b10, b11⟩ := blk12 K3.out
    obtain ⟨f0, f1, f2, f3, f4, f5, f6, f7, f8, f9, f10, f11⟩ := frozen12 K3.out
    have HM2 := Lib.hid hm2
    clear hk2 hm2 hr2
    cases ok with
    | false =>
      have HF : Hid (R = false) := by show _ = _; rw [← HL.out.1]; rfl
      go_wp2_with fail
      go_region
      go_wp2_with fail
      refine bodyPost_ret (v := .tuple #[.agg #[.int .i64 1, .string ⟨s1.toArray⟩, .int .i64 n2, .int .i64 n3, .slice A' k c', .int .i64 0, .int .i64 0, .string ⟨#[]⟩, .int .u64 0, .int .u64 0, .int .u64 0, .int .u64 0], .bool false]) (by simp [results, Try.results49, go_sem, a0, a1, a2, a3, a4, a5, a6, a7, a8, a9, a10, a11]) rfl ?_
      refine ⟨.slice A' k c', acc, by rw [HF.out]; rfl, (fun hR => by rw [HF.out] at hR; cases hR), ?_, by rw [← HK.out]; omega, HV.out, ?_⟩
      · rw [← HK.out]
        refine own_mono (base := w.heap.size + 1 + 1 + 1) ?_ (by omega)
        with_reducible refine own_drew ?_
        repeat (with_reducible refine own_setCell_below ?_ (by dsimp only; omega) _)
        with_reducible exact HO.out
      · with_reducible refine Below.drew ?_
        repeat (with_reducible refine Below.setCell ?_ (by dsimp only; omega) _)
        with_reducible exact HB.out
    | true =>
      by_cases h0 : m2 = 0
      · subst h0
        have hl0 : l' = [] := List.eq_nil_of_length_eq_zero HM2.out.symm
        have HF : Hid (R = true) := by show _ = _; rw [← HL.out.1, hl0]; rfl
        have HAO : Hid (acc = O) := by have := HL.out.2 HF.out; rw [hl0] at this; show acc = O; rw [← this]; exact (List.append_nil _).symm
        clear hl0
        go_wp2_with fail
        go_region
        go_wp2_with fail
        refine bodyPost_ret (v := .tuple #[.agg #[.int .i64 1, .string ⟨s1.toArray⟩, .int .i64 n2, .int .i64 n3, .slice A' k c', .int .i64 0, .int .i64 0, .string ⟨#[]⟩, .int .u64 0, .int .u64 0, .int .u64 0, .int .u64 0], .bool true]) (by simp [results, Try.results49, go_sem, a0, a1, a2, a3, a4, a5, a6, a7, a8, a9, a10, a11]) rfl ?_
        refine ⟨.slice A' k c', acc, by rw [HF.out]; rfl, (fun _ => HAO.out), ?_, by rw [← HK.out]; omega, HV.out, ?_⟩
        · rw [← HK.out]
          refine own_mono (base := w.heap.size + 1 + 1 + 1) ?_ (by omega)
          with_reducible refine own_drew ?_
          repeat (with_reducible refine own_setCell_below ?_ (by dsimp only; omega) _)
          with_reducible exact HO.out
        · with_reducible refine Below.drew ?_
          repeat (with_reducible refine Below.setCell ?_ (by dsimp only; omega) _)
          with_reducible exact HB.out
      · have hd : (0 : Int) < (m2 : Int) := by omega
        have hne : l' ≠ [] := fun e => h0 (by rw [HM2.out, e]; rfl)
        have hnx := HL.out.next hne
        have HLA : Hid (leftAt wr ⟨w.heap.size + 1, 0, none⟩ = m2) := leftAt_of r0
        have hla : l'.length ≤ 100000 := by omega
        have hlb : l'.tail.length ≤ 100000 := by rw [List.length_tail]; omega
        have ht1 := fun W h => rtext_any l' true w.heap.size (w.heap.size + 1) (by omega) W h hla
        rw [show txtOk l' true = true by unfold txtOk; rw [if_neg hne]] at ht1
        have ht2 := fun W h => rtext_any l'.tail true w.heap.size (w.heap.size + 1) (by omega) W h hlb
        have HV2 : Hid (∀ x ∈ acc ++ [(txtV l', txtV l'.tail)], x.2.length ≤ 140737488351232) := by
          show ∀ x ∈ acc ++ [(txtV l', txtV l'.tail)], x.2.length ≤ 140737488351232
          intro x hx
          rcases List.mem_append.1 hx with hx | hx
          · exact HV.out x hx
          · rw [List.mem_singleton] at hx
            subst hx
            show (txtV l'.tail).length ≤ _
            unfold txtV
            cases hlt : l'.tail with
            | nil => simp
            | cons y r => exact HM.out y (List.mem_of_mem_tail (by rw [hlt]; exact List.mem_cons_self ..))
        have HM2' : Hid (∀ s ∈ l'.tail.tail, s.length ≤ 140737488351232) := fun s hs => HM.out s (List.mem_of_mem_tail (List.mem_of_mem_tail hs))
        have HLEN : Hid (l'.tail.tail.length + 1 ≤ l'.length ∧ l'.tail.tail.length < m2) := by
          show _ ∧ _
          have := HM2.out
          rw [List.length_tail, List.length_tail]
          omega
        obtain ⟨sa, hsa⟩ : ∃ s, s = txtV l' := ⟨_, rfl⟩
        obtain ⟨sb, hsb⟩ : ∃ s, s = txtV l'.tail := ⟨_, rfl⟩
        obtain ⟨la, hla'⟩ : ∃ x, x = l'.tail := ⟨_, rfl⟩
        rw [← hsa, ← hla'] at ht1
        rw [← hsb, ← hla'] at ht2
        rw [← hsa, ← hsb, ← hla'] at hnx
        rw [← hsa, ← hsb] at HV2
        rw [← hla'] at HM2' HLEN hlb
        obtain ⟨lb, hlb'⟩ : ∃ x, x = la.tail := ⟨_, rfl⟩
        obtain ⟨ob, hob⟩ : ∃ o, o = txtOk la true := ⟨_, rfl⟩
        rw [← hlb', ← hob] at ht2 hnx
        rw [← hlb'] at HM2' HLEN
        have HT1 := Lib.hid ht1
        have HT2 := Lib.hid ht2
        have HNX := Lib.hid hnx
        have h1c : ∀ u ∈ (#[.string ⟨sa.toArray⟩, .string ⟨sb.toArray⟩] : Array Value).toList, u.oneCell' = true := by simp [Value.oneCell']
        have hq1 : k + 1 ≤ maxLen := by unfold maxLen; omega
        have hq2 : (k + 1) * 32 ≤ 140737488355328 := by omega
        have HRD := Lib.hid (HRD.out.drew)
        have K1 := Lib.hid K1.out.drew
        have K3 := Lib.hid K3.out.drew
        have HO := Lib.hid (own_drew HO.out)
        have HB := Lib.hid (HB.out.drew)
        clear hne hnx ht1 ht2 hsa hsb hla' hlb' hob
        go_wp2_with fail
        go_region_law (first
          | (refine step_append_any _ rfl (.tmp 60) (.tmp 66) 24 rfl (w.heap.size + 1 + 1 + 1) 91 i0 _ 2 32 Try.underlying24 hi0 hz0 hz1 hz2 rfl (by decide) (.slice A' k c') k (pcells acc) ?hs (HO.out.alloc _) _ (some ⟨_, 0, none⟩) 1 1 _ ?hx (Reads.lit _ #[.string ⟨sa.toArray⟩, .string ⟨sb.toArray⟩] 91 rfl) h1c hq1 hq2 (by have := HB.out.size; have := K3.out.lt; simp; omega) ?_; (case hs => first | rfl | simp [Act.eval] | simp [Act.eval, Act.put]); (case hx => first | rfl | simp [Act.eval] | simp [Act.eval, Act.put]); intro v5 w5 hown5 hg5 _; have K1 := Lib.hid ((K1.out.alloc _).grown hg5 (fun e => by have := (HO.out.lt _ e.symm).1; omega)); have K3 := Lib.hid ((K3.out.alloc _).grown hg5 (fun e => by have := (HO.out.lt _ e.symm).1; omega)); have q4 := (blk12 K3.out).2.2.2.2.1; have q5 := K3.out.frozen 4; have HRD := Lib.hid ((HRD.out.alloc HB.out.size _).grown hg5 (fun e => by have := (HO.out.lt _ e.symm).1; omega) (by have := HB.out.size; simp; omega) (fun r hr => by have := (HO.out.lt _ hr).1; omega)); have HB := Lib.hid ((HB.out.alloc HB.out.size _).grown hg5 (by have := HB.out.size; simp; omega) (fun r hr => by have := (HO.out.lt _ hr).1; omega)); obtain ⟨A5, c5, rfl, _, _, _⟩ := own_form hown5; have hg5 := Lib.hid hg5; have hown5 := Lib.hid hown5)
          | (go_simp; (first | with_reducible refine (HT1.out _ HRD.out).mono ?_ | with_reducible refine (HT2.out _ HRD.out).mono ?_); rintro e w2 ⟨rfl, hrd2, hg2⟩; have HRD := Lib.hid hrd2; have K1 := Lib.hid (K1.out.grown hg2 (fun e => by injection e; omega)); have K3 := Lib.hid (K3.out.grown hg2 (fun e => by injection e; omega)); have HO := Lib.hid (HO.out.kept hg2 (.inr (fun e => by have := (HO.out.lt _ e).1; omega))); have HB := Lib.hid (HB.out.grown hg2 HB.out.size (fun k hk => by injection hk; omega)); have b4 := (blk12 K3.out).2.2.2.2.1; have hz := K3.out.lt; clear hrd2 hg2))
        all_goals
          go_wp2_with fail
          go_roundw
          case rel =>
            refine ⟨lb, ob, acc ++ [(sa, sb)], k + 1, A5, c5, ?_, ?_, ?_, ?_, ?_, by have := HLEN.out; omega, HV2, HM2', HNX, ?_⟩
            · exact HRD.out.far (by dsimp only; omega) (by dsimp only; omega) _
            · exact K1.out.far (by dsimp only; omega) _
            · have := K3.out.set_ 4 (.slice A5 (k + 1) c5)
              show Blk _ _ _ _
              simpa using this
            · show World.ownsRow _ _ _ _ _ _ _
              rw [pcells_append]
              exact own_setCell_below hown5.out (by dsimp only; omega) _
            · show k + 1 = _
              rw [List.length_append, ← HK.out]
              rfl
            · exact HB.out.setCell (by dsimp only; omega) _
          case measure =>
            have h1 := (HRD.out.far (p := ⟨w.heap.size + 1 + 1, 4, none⟩) (by dsimp only; omega) (by dsimp only; omega) (.slice A5 (k + 1) c5)).left
            have h2 := HLA.out
            have h3 := HLEN.out
            rw [h1, h2]
            omega
end Go.Proofs.Ytcbeadldieeceaa

/-
  record.read at kind 4. (mkrcread.py)
-/
namespace Go.Proofs.Ytcbeadldieeceaa
open Go.RowKit

set_option maxRecDepth 100000 in
set_option maxHeartbeats 4000000 in
theorem rread4_any (l : List BS) (n : Nat) (hnl : n = l.length) (A : Option Addr) (c : Nat) (w : World) (B : Nat) (hr : Reads w B 1 A n (scells l)) (hB : B ≤ w.heap.size) (hc : n ≤ c) (hcm : c ≤ maxLen) (hn : n ≤ 100000) (hsl : (txtV l).length ≤ 140737488351232) :
    Calls Try.prog 49 #[.int .i64 4, .slice A n c] w fun e w' => e = .returned (.tuple #[rcV { Rc0 with kind := 4, sm := readS (txtV l) } (.slice none 0 0), .bool ((txtOk l true && (readE (txtV l) == 0)) && decide (l.tail = []))]) ∧ Below w.heap.size w w' := by
  have h3 := three_boxes w #[.int .i64 0, .string ⟨#[]⟩, .int .i64 0, .int .i64 0, .slice none 0 0, .int .i64 0, .int .i64 0, .string ⟨#[]⟩, .int .u64 0, .int .u64 0, .int .u64 0, .int .u64 0] #[.slice A n c, .bool true] #[.int .i64 4, .string ⟨#[]⟩, .int .i64 0, .int .i64 0, .slice none 0 0, .int .i64 0, .int .i64 0, .string ⟨#[]⟩, .int .u64 0, .int .u64 0, .int .u64 0, .int .u64 0] 47 129 47
  obtain ⟨W0, hW0⟩ : ∃ W0, W0 = ((w.alloc (.cells #[.int .i64 0, .string ⟨#[]⟩, .int .i64 0, .int .i64 0, .slice none 0 0, .int .i64 0, .int .i64 0, .string ⟨#[]⟩, .int .u64 0, .int .u64 0, .int .u64 0, .int .u64 0] 47)).alloc (.cells #[.slice A n c, .bool true] 129)).alloc (.cells #[.int .i64 4, .string ⟨#[]⟩, .int .i64 0, .int .i64 0, .slice none 0 0, .int .i64 0, .int .i64 0, .string ⟨#[]⟩, .int .u64 0, .int .u64 0, .int .u64 0, .int .u64 0] 47) := ⟨_, rfl⟩
  rw [← hW0] at h3
  obtain ⟨k1, k2, k3, hb0⟩ := h3
  have hrd : RdIn w.heap.size (w.heap.size + 1) l true W0 := ⟨A, n, c, k2, hnl, (hr.below (hb0.mono hB)).more hB, hc, hcm⟩
  have htx := rtext_any l true w.heap.size (w.heap.size + 1) (by omega) W0 hrd (by omega)
  have HW0 := Lib.hid hW0
  have K1 := Lib.hid k1
  have K3 := Lib.hid k3
  have HB0 := Lib.hid hb0
  obtain ⟨s, hs⟩ : ∃ s, s = txtV l := ⟨_, rfl⟩
  obtain ⟨o1, ho1⟩ : ∃ o, o = txtOk l true := ⟨_, rfl⟩
  obtain ⟨l1, hl1⟩ : ∃ x, x = l.tail := ⟨_, rfl⟩
  rw [← hs, ← ho1, ← hl1] at htx
  rw [← hs] at hsl
  rw [← hs, ← ho1, ← hl1]
  obtain ⟨S, hS⟩ : ∃ S, S = readS s := ⟨_, rfl⟩
  obtain ⟨E, hE⟩ : ∃ E, E = readE s := ⟨_, rfl⟩
  rw [← hS, ← hE]
  obtain ⟨R, hR⟩ : ∃ R, R = ((o1 && (E == 0)) && decide (l1 = [])) := ⟨_, rfl⟩
  rw [← hR]
  have HR := Lib.hid hR
  have HSE : Hid (readS s = S ∧ readE s = E) := ⟨hS.symm, hE.symm⟩
  have HT := Lib.hid htx
  have HSL := Lib.hid hsl
  clear hW0 k1 k2 k3 hb0 hrd hr hnl hs ho1 hl1 hS hE hR htx hsl
  obtain ⟨sa, sb, sc, sd⟩ := S
  go_enter Try.func49, Try.ntmps49
  go_wp2_with fail
  rw [← HW0.out]
  refine HT.out.mono ?_
  clear HT
  rintro e w1 ⟨rfl, ⟨A2, n2, c2, hk2, hn2, _, _, _⟩, hg1⟩
  have k1 := K1.out.grown hg1 (fun e => by injection e; omega)
  have k3 := K3.out.grown hg1 (fun e => by injection e; omega)
  have hb1 := HB0.out.grown hg1 HB0.out.size (fun k hk => by injection hk; omega)
  have hz1 : w.heap.size + 1 + 1 < w1.heap.size := k3.lt
  have hcv := Lib.hid (Lib.run_convert_string_bytes (P := Try.prog) w1 9 27 5 ⟨s.toArray⟩ Try.underlying9 Try.underlying27 Try.underlying5)
  have hbw := bytesWorld_below w1 5 ⟨s.toArray⟩
  have hrb := bytesWorld_reads w1 5 ⟨s.toArray⟩
  have hsz : (⟨s.toArray⟩ : ByteArray).size = s.length := by show s.toArray.size = _; simp
  have hcap : (⟨s.toArray⟩ : ByteArray).size ≤ grownCap w1 (⟨s.toArray⟩ : ByteArray).size 0 5 := grownCap_ge _ _ _ _
  have hrd := read_any s (⟨s.toArray⟩ : ByteArray).size hsz (some ⟨w1.heap.size, 0, none⟩) (grownCap w1 (⟨s.toArray⟩ : ByteArray).size 0 5) (Lib.bytesWorld w1 5 ⟨s.toArray⟩) (w1.heap.size + 1) (by simpa using hrb) (by rw [Lib.bytesWorld_size]; omega) hcap (by have h5 := grownCap_le_maxLen w1 (⟨s.toArray⟩ : ByteArray).size 0 5 (by unfold maxLen; have := HSL.out; omega); unfold maxLen at h5; omega)
  rw [HSE.out.1, HSE.out.2] at hrd
  simp only [Sm.val] at hrd
  have HRD := Lib.hid hrd
  have HBW := Lib.hid hbw
  have HK1 := Lib.hid k1
  have HK3 := Lib.hid k3
  have HK2 := Lib.hid hk2
  have HB1 := Lib.hid hb1
  have HN2 := Lib.hid hn2
  clear hrd hbw hrb hsz hcap k1 k3 hk2 hb1 hn2 K1 K3 HB0 HW0 hg1
  go_wp2_with fail
  rw [hcv.out]
  go_wp2_with fail
  refine HRD.out.mono ?_
  clear HRD
  rintro e w3 ⟨rfl, hb3⟩
  have hb13 := HBW.out.trans (hb3.mono HBW.out.size)
  obtain ⟨W4, hW4⟩ : ∃ W4, W4 = w3.alloc (.cells #[.int .u64 sa, .int .u64 sb, .int .u64 sc, .int .u64 sd] 42) := ⟨_, rfl⟩
  have hz3 : w.heap.size + 1 + 1 < w3.heap.size := by have := hb13.size; omega
  have k4 : Blk W4 w3.heap.size 42 #[.int .u64 sa, .int .u64 sb, .int .u64 sc, .int .u64 sd] := by rw [hW4]; exact Blk.new _ _ _
  have k1 := (HK1.out.below hb13 (by omega)).alloc (.cells #[.int .u64 sa, .int .u64 sb, .int .u64 sc, .int .u64 sd] 42)
  rw [← hW4] at k1
  have k2 := (HK2.out.below hb13 (by omega)).alloc (.cells #[.int .u64 sa, .int .u64 sb, .int .u64 sc, .int .u64 sd] 42)
  rw [← hW4] at k2
  have k3 := (HK3.out.below hb13 (by omega)).alloc (.cells #[.int .u64 sa, .int .u64 sb, .int .u64 sc, .int .u64 sd] 42)
  rw [← hW4] at k3
  have HB4 : Hid (Below w.heap.size w W4) := by show Below _ _ _; rw [hW4]; exact (HB1.out.trans (hb13.mono HB1.out.size)).alloc (by omega) _
  have HW4 := Lib.hid hW4
  clear hb3 hb13 HK1 HK2 HK3 HBW HB1 hW4
  obtain ⟨a0, a1, a2, a3, a4, a5, a6, a7, a8, a9, a10, a11⟩ := blk12 k1
  obtain ⟨g0, g1, g2, g3, g4, g5, g6, g7, g8, g9, g10, g11⟩ := frozen12 k1
  obtain ⟨b0, b1, b2, b3, b4, b5, b6, b7, b8, b9, b10, b11⟩ := blk12 k3
  obtain ⟨f0, f1, f2, f3, f4, f5, f6, f7, f8, f9, f10, f11⟩ := frozen12 k3
  obtain ⟨r0, r1, rf0, rf1⟩ := blk2 k2
  obtain ⟨m0, m1, m2, m3, _⟩ := blk4 k4
  have K1 := Lib.hid k1
  have K2 := Lib.hid k2
  have K3 := Lib.hid k3
  clear k1 k2 k3 k4
  cases o1 with
  | false =>
    have HF : Hid (R = false) := by show _ = _; rw [HR.out]; rfl
    go_wp2_with fail
    rw [← HW4.out]
    go_region
    generalize hX : World.drew _ = X
    have k1X : Blk X w.heap.size 47 #[.int .i64 0, .string ⟨#[]⟩, .int .i64 0, .int .i64 0, .slice none 0 0, .int .i64 0, .int .i64 0, .string ⟨#[]⟩, .int .u64 0, .int .u64 0, .int .u64 0, .int .u64 0] := by
      rw [← hX]
      exact (((((K1.out.far (p := ⟨w.heap.size + 1 + 1, 8, none⟩) (by dsimp only; omega) _).far (p := ⟨w.heap.size + 1 + 1, 9, none⟩) (by dsimp only; omega) _).far (p := ⟨w.heap.size + 1 + 1, 10, none⟩) (by dsimp only; omega) _).far (p := ⟨w.heap.size + 1 + 1, 11, none⟩) (by dsimp only; omega) _).far (p := ⟨w.heap.size + 1, 1, none⟩) (by dsimp only; omega) _).drew
    have k2X : Blk X (w.heap.size + 1) 129 #[.slice A2 n2 c2, .bool false] := by
      rw [← hX]
      have := (((((K2.out.far (p := ⟨w.heap.size + 1 + 1, 8, none⟩) (by dsimp only; omega) (.int .u64 sa)).far (p := ⟨w.heap.size + 1 + 1, 9, none⟩) (by dsimp only; omega) (.int .u64 sb)).far (p := ⟨w.heap.size + 1 + 1, 10, none⟩) (by dsimp only; omega) (.int .u64 sc)).far (p := ⟨w.heap.size + 1 + 1, 11, none⟩) (by dsimp only; omega) (.int .u64 sd)).set_ 1 (.bool false)).drew
      simpa using this
    have k3X : Blk X (w.heap.size + 1 + 1) 47 #[.int .i64 4, .string ⟨#[]⟩, .int .i64 0, .int .i64 0, .slice none 0 0, .int .i64 0, .int .i64 0, .string ⟨#[]⟩, .int .u64 sa, .int .u64 sb, .int .u64 sc, .int .u64 sd] := by
      rw [← hX]
      have := (((((K3.out.set_ 8 (.int .u64 sa)).set_ 9 (.int .u64 sb)).set_ 10 (.int .u64 sc)).set_ 11 (.int .u64 sd)).far (p := ⟨w.heap.size + 1, 1, none⟩) (by dsimp only; omega) (.bool false)).drew
      simpa using this
    have HB4 : Hid (Below w.heap.size w X) := by
      show Below _ _ _
      rw [← hX]
      with_reducible refine Below.drew ?_
      repeat (with_reducible refine Below.setCell ?_ (by dsimp only; omega) _)
      with_reducible exact HB4.out
    clear hX a0 a1 a2 a3 a4 a5 a6 a7 a8 a9 a10 a11 g0 g1 g2 g3 g4 g5 g6 g7 g8 g9 g10 g11 b0 b1 b2 b3 b4 b5 b6 b7 b8 b9 b10 b11 f0 f1 f2 f3 f4 f5 f6 f7 f8 f9 f10 f11 r0 r1 rf0 rf1 m0 m1 m2 m3 K1 K2 K3 HW4
    obtain ⟨a0, a1, a2, a3, a4, a5, a6, a7, a8, a9, a10, a11⟩ := blk12 k1X
    obtain ⟨g0, g1, g2, g3, g4, g5, g6, g7, g8, g9, g10, g11⟩ := frozen12 k1X
    obtain ⟨b0, b1, b2, b3, b4, b5, b6, b7, b8, b9, b10, b11⟩ := blk12 k3X
    obtain ⟨f0, f1, f2, f3, f4, f5, f6, f7, f8, f9, f10, f11⟩ := frozen12 k3X
    obtain ⟨r0, r1, rf0, rf1⟩ := blk2 k2X
    clear k1X k2X k3X
    go_wp2_with fail
    go_region
    go_wp2_with fail
    refine bodyPost_ret (v := .tuple #[.agg #[.int .i64 4, .string ⟨#[]⟩, .int .i64 0, .int .i64 0, .slice none 0 0, .int .i64 0, .int .i64 0, .string ⟨#[]⟩, .int .u64 sa, .int .u64 sb, .int .u64 sc, .int .u64 sd], .bool false]) (by simp [results, Try.results49, go_sem, a0, a1, a2, a3, a4, a5, a6, a7, a8, a9, a10, a11]) rfl ⟨by rw [HF.out]; rfl, ?_⟩
    with_reducible refine Below.drew ?_
    repeat (with_reducible refine Below.setCell ?_ (by dsimp only; omega) _)
    with_reducible exact HB4.out
  | true =>
    by_cases hE0 : E = 0
    · subst hE0
      by_cases h0 : n2 = 0
      · have HF : Hid (R = true) := by
          show _ = _
          rw [HR.out, decide_eq_true (List.eq_nil_of_length_eq_zero (by rw [← HN2.out]; exact h0))]
          rfl
        subst h0
        go_wp2_with fail
        rw [← HW4.out]
        go_region
        generalize hX : World.drew _ = X
        have k1X : Blk X w.heap.size 47 #[.int .i64 0, .string ⟨#[]⟩, .int .i64 0, .int .i64 0, .slice none 0 0, .int .i64 0, .int .i64 0, .string ⟨#[]⟩, .int .u64 0, .int .u64 0, .int .u64 0, .int .u64 0] := by
          rw [← hX]
          exact (((((K1.out.far (p := ⟨w.heap.size + 1 + 1, 8, none⟩) (by dsimp only; omega) _).far (p := ⟨w.heap.size + 1 + 1, 9, none⟩) (by dsimp only; omega) _).far (p := ⟨w.heap.size + 1 + 1, 10, none⟩) (by dsimp only; omega) _).far (p := ⟨w.heap.size + 1 + 1, 11, none⟩) (by dsimp only; omega) _).far (p := ⟨w.heap.size + 1, 1, none⟩) (by dsimp only; omega) _).drew
        have k2X : Blk X (w.heap.size + 1) 129 #[.slice A2 0 c2, .bool true] := by
          rw [← hX]
          have := (((((K2.out.far (p := ⟨w.heap.size + 1 + 1, 8, none⟩) (by dsimp only; omega) (.int .u64 sa)).far (p := ⟨w.heap.size + 1 + 1, 9, none⟩) (by dsimp only; omega) (.int .u64 sb)).far (p := ⟨w.heap.size + 1 + 1, 10, none⟩) (by dsimp only; omega) (.int .u64 sc)).far (p := ⟨w.heap.size + 1 + 1, 11, none⟩) (by dsimp only; omega) (.int .u64 sd)).set_ 1 (.bool true)).drew
          simpa using this
        have k3X : Blk X (w.heap.size + 1 + 1) 47 #[.int .i64 4, .string ⟨#[]⟩, .int .i64 0, .int .i64 0, .slice none 0 0, .int .i64 0, .int .i64 0, .string ⟨#[]⟩, .int .u64 sa, .int .u64 sb, .int .u64 sc, .int .u64 sd] := by
          rw [← hX]
          have := (((((K3.out.set_ 8 (.int .u64 sa)).set_ 9 (.int .u64 sb)).set_ 10 (.int .u64 sc)).set_ 11 (.int .u64 sd)).far (p := ⟨w.heap.size + 1, 1, none⟩) (by dsimp only; omega) (.bool true)).drew
          simpa using this
        have HB4 : Hid (Below w.heap.size w X) := by
          show Below _ _ _
          rw [← hX]
          with_reducible refine Below.drew ?_
          repeat (with_reducible refine Below.setCell ?_ (by dsimp only; omega) _)
          with_reducible exact HB4.out
        clear hX a0 a1 a2 a3 a4 a5 a6 a7 a8 a9 a10 a11 g0 g1 g2 g3 g4 g5 g6 g7 g8 g9 g10 g11 b0 b1 b2 b3 b4 b5 b6 b7 b8 b9 b10 b11 f0 f1 f2 f3 f4 f5 f6 f7 f8 f9 f10 f11 r0 r1 rf0 rf1 m0 m1 m2 m3 K1 K2 K3 HW4
        obtain ⟨a0, a1, a2, a3, a4, a5, a6, a7, a8, a9, a10, a11⟩ := blk12 k1X
        obtain ⟨g0, g1, g2, g3, g4, g5, g6, g7, g8, g9, g10, g11⟩ := frozen12 k1X
        obtain ⟨b0, b1, b2, b3, b4, b5, b6, b7, b8, b9, b10, b11⟩ := blk12 k3X
        obtain ⟨f0, f1, f2, f3, f4, f5, f6, f7, f8, f9, f10, f11⟩ := frozen12 k3X
        obtain ⟨r0, r1, rf0, rf1⟩ := blk2 k2X
        clear k1X k2X k3X
        go_wp2_with fail
        go_region
        go_wp2_with fail
        refine bodyPost_ret (v := .tuple #[.agg #[.int .i64 4, .string ⟨#[]⟩, .int .i64 0, .int .i64 0, .slice none 0 0, .int .i64 0, .int .i64 0, .string ⟨#[]⟩, .int .u64 sa, .int .u64 sb, .int .u64 sc, .int .u64 sd], .bool true]) (by simp [results, Try.results49, go_sem, a0, a1, a2, a3, a4, a5, a6, a7, a8, a9, a10, a11]) rfl ⟨by rw [HF.out]; rfl, ?_⟩
        with_reducible refine Below.drew ?_
        repeat (with_reducible refine Below.setCell ?_ (by dsimp only; omega) _)
        with_reducible exact HB4.out
      · have HF : Hid (R = false) := by
          show _ = _
          rw [HR.out, decide_eq_false (fun e => h0 (by rw [HN2.out, e]; rfl))]
          rfl
        have hd : ((n2 : Int) == 0) = false := by simp; omega
        go_wp2_with fail
        rw [← HW4.out]
        go_region
        generalize hX : World.drew _ = X
        have k1X : Blk X w.heap.size 47 #[.int .i64 0, .string ⟨#[]⟩, .int .i64 0, .int .i64 0, .slice none 0 0, .int .i64 0, .int .i64 0, .string ⟨#[]⟩, .int .u64 0, .int .u64 0, .int .u64 0, .int .u64 0] := by
          rw [← hX]
          exact (((((K1.out.far (p := ⟨w.heap.size + 1 + 1, 8, none⟩) (by dsimp only; omega) _).far (p := ⟨w.heap.size + 1 + 1, 9, none⟩) (by dsimp only; omega) _).far (p := ⟨w.heap.size + 1 + 1, 10, none⟩) (by dsimp only; omega) _).far (p := ⟨w.heap.size + 1 + 1, 11, none⟩) (by dsimp only; omega) _).far (p := ⟨w.heap.size + 1, 1, none⟩) (by dsimp only; omega) _).drew
        have k2X : Blk X (w.heap.size + 1) 129 #[.slice A2 n2 c2, .bool true] := by
          rw [← hX]
          have := (((((K2.out.far (p := ⟨w.heap.size + 1 + 1, 8, none⟩) (by dsimp only; omega) (.int .u64 sa)).far (p := ⟨w.heap.size + 1 + 1, 9, none⟩) (by dsimp only; omega) (.int .u64 sb)).far (p := ⟨w.heap.size + 1 + 1, 10, none⟩) (by dsimp only; omega) (.int .u64 sc)).far (p := ⟨w.heap.size + 1 + 1, 11, none⟩) (by dsimp only; omega) (.int .u64 sd)).set_ 1 (.bool true)).drew
          simpa using this
        have k3X : Blk X (w.heap.size + 1 + 1) 47 #[.int .i64 4, .string ⟨#[]⟩, .int .i64 0, .int .i64 0, .slice none 0 0, .int .i64 0, .int .i64 0, .string ⟨#[]⟩, .int .u64 sa, .int .u64 sb, .int .u64 sc, .int .u64 sd] := by
          rw [← hX]
          have := (((((K3.out.set_ 8 (.int .u64 sa)).set_ 9 (.int .u64 sb)).set_ 10 (.int .u64 sc)).set_ 11 (.int .u64 sd)).far (p := ⟨w.heap.size + 1, 1, none⟩) (by dsimp only; omega) (.bool true)).drew
          simpa using this
        have HB4 : Hid (Below w.heap.size w X) := by
          show Below _ _ _
          rw [← hX]
          with_reducible refine Below.drew ?_
          repeat (with_reducible refine Below.setCell ?_ (by dsimp only; omega) _)
          with_reducible exact HB4.out
        clear hX a0 a1 a2 a3 a4 a5 a6 a7 a8 a9 a10 a11 g0 g1 g2 g3 g4 g5 g6 g7 g8 g9 g10 g11 b0 b1 b2 b3 b4 b5 b6 b7 b8 b9 b10 b11 f0 f1 f2 f3 f4 f5 f6 f7 f8 f9 f10 f11 r0 r1 rf0 rf1 m0 m1 m2 m3 K1 K2 K3 HW4
        obtain ⟨a0, a1, a2, a3, a4, a5, a6, a7, a8, a9, a10, a11⟩ := blk12 k1X
        obtain ⟨g0, g1, g2, g3, g4, g5, g6, g7, g8, g9, g10, g11⟩ := frozen12 k1X
        obtain ⟨b0, b1, b2, b3, b4, b5, b6, b7, b8, b9, b10, b11⟩ := blk12 k3X
        obtain ⟨f0, f1, f2, f3, f4, f5, f6, f7, f8, f9, f10, f11⟩ := frozen12 k3X
        obtain ⟨r0, r1, rf0, rf1⟩ := blk2 k2X
        clear k1X k2X k3X
        go_wp2_with fail
        go_region
        go_wp2_with fail
        refine bodyPost_ret (v := .tuple #[.agg #[.int .i64 4, .string ⟨#[]⟩, .int .i64 0, .int .i64 0, .slice none 0 0, .int .i64 0, .int .i64 0, .string ⟨#[]⟩, .int .u64 sa, .int .u64 sb, .int .u64 sc, .int .u64 sd], .bool false]) (by simp [results, Try.results49, go_sem, a0, a1, a2, a3, a4, a5, a6, a7, a8, a9, a10, a11]) rfl ⟨by rw [HF.out]; rfl, ?_⟩
        with_reducible refine Below.drew ?_
        repeat (with_reducible refine Below.setCell ?_ (by dsimp only; omega) _)
        with_reducible exact HB4.out
    · have hd : (E == 0) = false := by simp [hE0]
      have HF : Hid (R = false) := by show _ = _; rw [HR.out, hd]; rfl
      go_wp2_with fail
      rw [← HW4.out]
      go_region
      generalize hX : World.drew _ = X
      have k1X : Blk X w.heap.size 47 #[.int .i64 0, .string ⟨#[]⟩, .int .i64 0, .int .i64 0, .slice none 0 0, .int .i64 0, .int .i64 0, .string ⟨#[]⟩, .int .u64 0, .int .u64 0, .int .u64 0, .int .u64 0] := by
        rw [← hX]
        exact (((((K1.out.far (p := ⟨w.heap.size + 1 + 1, 8, none⟩) (by dsimp only; omega) _).far (p := ⟨w.heap.size + 1 + 1, 9, none⟩) (by dsimp only; omega) _).far (p := ⟨w.heap.size + 1 + 1, 10, none⟩) (by dsimp only; omega) _).far (p := ⟨w.heap.size + 1 + 1, 11, none⟩) (by dsimp only; omega) _).far (p := ⟨w.heap.size + 1, 1, none⟩) (by dsimp only; omega) _).drew
      have k2X : Blk X (w.heap.size + 1) 129 #[.slice A2 n2 c2, .bool false] := by
        rw [← hX]
        have := (((((K2.out.far (p := ⟨w.heap.size + 1 + 1, 8, none⟩) (by dsimp only; omega) (.int .u64 sa)).far (p := ⟨w.heap.size + 1 + 1, 9, none⟩) (by dsimp only; omega) (.int .u64 sb)).far (p := ⟨w.heap.size + 1 + 1, 10, none⟩) (by dsimp only; omega) (.int .u64 sc)).far (p := ⟨w.heap.size + 1 + 1, 11, none⟩) (by dsimp only; omega) (.int .u64 sd)).set_ 1 (.bool false)).drew
        simpa using this
      have k3X : Blk X (w.heap.size + 1 + 1) 47 #[.int .i64 4, .string ⟨#[]⟩, .int .i64 0, .int .i64 0, .slice none 0 0, .int .i64 0, .int .i64 0, .string ⟨#[]⟩, .int .u64 sa, .int .u64 sb, .int .u64 sc, .int .u64 sd] := by
        rw [← hX]
        have := (((((K3.out.set_ 8 (.int .u64 sa)).set_ 9 (.int .u64 sb)).set_ 10 (.int .u64 sc)).set_ 11 (.int .u64 sd)).far (p := ⟨w.heap.size + 1, 1, none⟩) (by dsimp only; omega) (.bool false)).drew
        simpa using this
      have HB4 : Hid (Below w.heap.size w X) := by
        show Below _ _ _
        rw [← hX]
        with_reducible refine Below.drew ?_
        repeat (with_reducible refine Below.setCell ?_ (by dsimp only; omega) _)
        with_reducible exact HB4.out
      clear hX a0 a1 a2 a3 a4 a5 a6 a7 a8 a9 a10 a11 g0 g1 g2 g3 g4 g5 g6 g7 g8 g9 g10 g11 b0 b1 b2 b3 b4 b5 b6 b7 b8 b9 b10 b11 f0 f1 f2 f3 f4 f5 f6 f7 f8 f9 f10 f11 r0 r1 rf0 rf1 m0 m1 m2 m3 K1 K2 K3 HW4
      obtain ⟨a0, a1, a2, a3, a4, a5, a6, a7, a8, a9, a10, a11⟩ := blk12 k1X
      obtain ⟨g0, g1, g2, g3, g4, g5, g6, g7, g8, g9, g10, g11⟩ := frozen12 k1X
      obtain ⟨b0, b1, b2, b3, b4, b5, b6, b7, b8, b9, b10, b11⟩ := blk12 k3X
      obtain ⟨f0, f1, f2, f3, f4, f5, f6, f7, f8, f9, f10, f11⟩ := frozen12 k3X
      obtain ⟨r0, r1, rf0, rf1⟩ := blk2 k2X
      clear k1X k2X k3X
      go_wp2_with fail
      go_region
      go_wp2_with fail
      refine bodyPost_ret (v := .tuple #[.agg #[.int .i64 4, .string ⟨#[]⟩, .int .i64 0, .int .i64 0, .slice none 0 0, .int .i64 0, .int .i64 0, .string ⟨#[]⟩, .int .u64 sa, .int .u64 sb, .int .u64 sc, .int .u64 sd], .bool false]) (by simp [results, Try.results49, go_sem, a0, a1, a2, a3, a4, a5, a6, a7, a8, a9, a10, a11]) rfl ⟨by rw [HF.out]; rfl, ?_⟩
      with_reducible refine Below.drew ?_
      repeat (with_reducible refine Below.setCell ?_ (by dsimp only; omega) _)
      with_reducible exact HB4.out
end Go.Proofs.Ytcbeadldieeceaa

/-
  record.read at any kind.
-/
namespace Go.Proofs.Ytcbeadldieeceaa
open Go.RowKit

def RdPost (w : World) (m : Option Rc) (e : Ending) (w' : World) : Prop :=
  ∃ (v : Value) (r : Rc) (R : Bool), e = .returned (.tuple #[rcV r v, .bool R]) ∧ m = (if R = true then some r else none) ∧ w'.ownsRow w.heap.size 91 2 v r.own.length (pcells r.own) ∧ r.own.length ≤ 100000 ∧ (∀ x ∈ r.own, x.2.length ≤ 140737488351232) ∧ Below w.heap.size w w'
theorem rread_any (k : Int) (hk : k = 1 ∨ k = 2 ∨ k = 3 ∨ k = 4) (l : List BS) (hsl : ∀ s ∈ l, s.length ≤ 140737488351232) (n : Nat) (hnl : n = l.length) (A : Option Addr) (c : Nat) (w : World) (B : Nat) (hr : Reads w B 1 A n (scells l)) (hB : B ≤ w.heap.size) (hc : n ≤ c) (hcm : c ≤ maxLen) (hn : n ≤ 100000) :
    Calls Try.prog 49 #[.int .i64 k, .slice A n c] w (RdPost w (madeL k l)) := by
  rcases hk with rfl | rfl | rfl | rfl
  · refine (rread1_any l hsl n hnl A c w B hr hB hc hcm hn).mono ?_
    rintro e w' ⟨v, o, he, ho, h1, h2, h3, h4⟩
    refine ⟨v, _, _, he, ?_, h1, h2, h3, h4⟩
    rw [made1]
    split
    · rename_i h
      rw [ho h]
    · rfl
  · refine (rread2_any l n hnl A c w B hr hB hc hcm hn).mono ?_
    rintro e w' ⟨he, hb⟩
    exact ⟨_, _, _, he, made2 l, World.ownsRow_nil _ _ _ _, Nat.zero_le _, (fun x hx => by cases hx), hb⟩
  · refine (rread3_any l n hnl A c w B hr hB hc hcm hn).mono ?_
    rintro e w' ⟨he, hb⟩
    exact ⟨_, _, _, he, made3 l, World.ownsRow_nil _ _ _ _, Nat.zero_le _, (fun x hx => by cases hx), hb⟩
  · have hs : (txtV l).length ≤ 140737488351232 := by
      unfold txtV
      cases l with
      | nil => simp
      | cons s l => exact hsl s (List.mem_cons_self ..)
    refine (rread4_any l n hnl A c w B hr hB hc hcm hn hs).mono ?_
    rintro e w' ⟨he, hb⟩
    exact ⟨_, _, _, he, made4 l, World.ownsRow_nil _ _ _ _, Nat.zero_le _, (fun x hx => by cases hx), hb⟩
end Go.Proofs.Ytcbeadldieeceaa
