/-
  props.Get; the law's num and alive; PropsForce, walked.
-/
import Derived.Test.YthfjfkjlgdnohaaPrOver
import Derived.Test.YthfjfkjlgdnohaaFrame
namespace Go.Proofs.Ythfjfkjlgdnohaa
open Go.RowKit Go.Maps

def getV (l : PL) (n : BS) : Value := .tuple #[.string ⟨((getP l n).getD []).toArray⟩, .bool (getP l n).isSome]
theorem find_none {l : PL} {n : BS} (h : ∀ x ∈ l, x.1 ≠ n) : getP l n = none := by
  unfold getP
  rw [List.find?_eq_none.2]
  · rfl
  · intro x hx e
    exact h x hx (beq_iff_eq.1 e)
theorem find_at {l : PL} {n : BS} {k : Nat} {x : BS × BS} (h : ∀ y ∈ l.take k, y.1 ≠ n) (hx : l[k]? = some x) (he : x.1 = n) : getP l n = some x.2 := by
  obtain ⟨hk, hxk⟩ := List.getElem?_eq_some_iff.1 hx
  have : l = l.take k ++ x :: l.drop (k + 1) := by
    rw [← hxk, ← List.drop_eq_getElem_cons hk, List.take_append_drop]
  rw [this]
  clear this hx hxk hk
  generalize l.take k = a at h ⊢
  induction a with
  | nil => rw [List.nil_append, getP_cons, if_pos he]
  | cons y a ih => rw [List.cons_append, getP_cons, if_neg (h y (List.mem_cons_self ..)), ih (fun z hz => h z (List.mem_cons_of_mem _ hz))]
set_option maxRecDepth 100000 in
set_option maxHeartbeats 1000000 in
theorem get_any (l : PL) (nm : BS) (n : Nat) (hnl : n = l.length) (A : Option Addr) (c : Nat) (w : World) (B : Nat) (hr : Reads w B 2 A n (pcells l)) (hB : B ≤ w.heap.size) (hn : n ≤ 5000000000000) :
    Calls Try.prog 38 #[.slice A n c, .string ⟨nm.toArray⟩] w fun e w' => e = .returned (getV l nm) ∧ Below w.heap.size w w' := by
  have HN := Lib.hid hnl
  obtain ⟨V, hV⟩ : ∃ V, V = getV l nm := ⟨_, rfl⟩
  rw [← hV]
  have HV := Lib.hid hV
  clear hnl hV
  go_enter Try.func38, Try.ntmps38
  go_wp2_with fail
  go_loopw [10] (fun i wr => ∃ k : Nat, k ≤ n ∧ i = .int .i64 (k : Int) ∧ Hid (∀ y ∈ l.take k, y.1 ≠ nm) ∧ Below w.heap.size w wr) (fun i _ => n - (intOf i).toNat)
  case atStart => exact ⟨0, Nat.zero_le _, rfl, (show ∀ y ∈ _, _ by simp), Below.refl _ _⟩
  case round =>
    obtain ⟨k, hk, rfl, hno, hbw⟩ := hrel
    by_cases hlt : k < n
    · have hki : (k : Int) < (n : Int) := by omega
      have hkl : k < l.length := by have := HN.out; omega
      obtain ⟨ad, rfl, hadB, c0, c1⟩ := (hr.below (hbw.mono hB)).prop HN.out hlt
      obtain ⟨x, hx⟩ : ∃ x, x = l[k]'hkl := ⟨_, rfl⟩
      rw [← hx] at c0 c1
      have htk := List.take_succ_eq_append_getElem hkl
      rw [← hx] at htk
      have HTK := Lib.hid htk
      have HX := Lib.hid (show l[k]? = some x by rw [hx]; exact List.getElem?_eq_getElem _)
      obtain ⟨xn, xv⟩ := x
      simp only [strV] at c0 c1
      have hb1 := hbw.alloc hbw.size (.cells #[.string ⟨xn.toArray⟩, .string ⟨xv.toArray⟩] 99)
      clear hx htk hr
      by_cases hxn : xn = nm
      · have hd : (xn == nm) = true := by simp [hxn]
        have hG := find_at hno.out HX.out hxn
        have HVV : Hid (V = .tuple #[.string ⟨xv.toArray⟩, .bool true]) := by show _ = _; rw [HV.out]; unfold getV; rw [hG]; rfl
        clear hxn hG
        go_wp2_with fail
        go_ret2
        exact ⟨by rw [HVV.out]; rfl, hb1⟩
      · have hd : (xn == nm) = false := by simp [hxn]
        have HX2 := Lib.hid hxn
        clear hxn
        go_wp2_with fail
        go_roundw
        case rel =>
          refine ⟨k + 1, by omega, by go_num, ?_, hb1⟩
          show ∀ y ∈ _, _
          intro y hy
          rw [HTK.out, List.mem_append, List.mem_singleton] at hy
          rcases hy with hy | rfl
          · exact hno.out y hy
          · exact HX2.out
        case measure => simp [intOf]; omega
    · have HVV : Hid (V = .tuple #[.string ByteArray.empty, .bool false]) := by
        show _ = _
        rw [HV.out]
        unfold getV
        have := hno.out
        rw [List.take_of_length_le (by have := HN.out; omega)] at this
        rw [find_none this]
        rfl
      clear hr
      go_wp2_with fail
      go_ret2
      exact ⟨by rw [HVV.out]; rfl, hbw⟩
set_option maxRecDepth 100000 in
theorem num12_any (x : Int) (w : World) : Calls Try.prog 27 #[.int .i64 x] w fun e w' => e = .returned (.int .i64 x) ∧ w' = w := by
  go_enter Try.func27, Try.ntmps27
  go_wp2_with fail
  go_ret
  exact ⟨rfl, rfl⟩
/-- props.Over at two lists -/
theorem over2_any (a b : PL) (n m : Nat) (hna : n = a.length) (hmb : m = b.length) (A1 A2 : Option Addr) (c1 c2 : Nat) (w : World) (B : Nat) (hB : B ≤ w.heap.size) (hr1 : Reads w B 2 A1 n (pcells a)) (hr2 : Reads w B 2 A2 m (pcells b)) (h1 : strOk a) (h2 : strOk b) (hn : n ≤ 5000000000000) (hm : m ≤ 5000000000000) :
    Calls Try.prog 24 #[.slice (some ⟨w.heap.size, 0, none⟩) 2 2] (w.alloc (.cells #[.slice A1 n c1, .slice A2 m c2] 22)) fun e w' => OverPost w (allP (a ++ b)) (overE [a, b]) e w' := by
  have hal : (w.alloc (.cells #[.slice A1 n c1, .slice A2 m c2] 22)).heap.size = w.heap.size + 1 := by show (w.heap.push _).size = _; rw [Array.size_push]
  have hb0 : Below w.heap.size w (w.alloc (.cells #[.slice A1 n c1, .slice A2 m c2] 22)) := (Below.refl _ w).alloc (Nat.le_refl _) _
  have hu := over_any [(.slice A1 n c1, a), (.slice A2 m c2, b)] 2 rfl (some ⟨w.heap.size, 0, none⟩) 2 (w.alloc (.cells #[.slice A1 n c1, .slice A2 m c2] 22)) (w.heap.size + 1) (Reads.lit w #[.slice A1 n c1, .slice A2 m c2] 22 rfl) (by omega)
    (fun p hp => by
      rcases List.mem_cons.1 hp with rfl | hp
      · refine ⟨⟨A1, n, c1, rfl, hna, hn, ?_⟩, h1⟩
        have := hr1.below (hb0.mono hB)
        exact ⟨this.1, fun hn => by obtain ⟨ad, e, hb, hc⟩ := this.2 hn; exact ⟨ad, e, by omega, hc⟩⟩
      · rw [List.mem_singleton] at hp
        subst hp
        refine ⟨⟨A2, m, c2, rfl, hmb, hm, ?_⟩, h2⟩
        have := hr2.below (hb0.mono hB)
        exact ⟨this.1, fun hn => by obtain ⟨ad, e, hb, hc⟩ := this.2 hn; exact ⟨ad, e, by omega, hc⟩⟩)
    (by omega)
  refine hu.mono ?_
  rintro e w' ⟨v, rfl, hv, hb⟩
  simp only [List.map_cons, List.map_nil, List.flatten_cons, List.flatten_nil, List.append_nil] at hv ⊢
  refine ⟨v, rfl, ?_, hb0.trans (hb.mono (by omega))⟩
  split
  · rename_i hE
    rw [if_pos hE] at hv
    exact own_mono hv (by omega)
  · rename_i hE
    rw [if_neg hE] at hv
    exact hv
set_option maxRecDepth 100000 in
theorem alive12_any (w : World) : Calls Try.prog 28 #[] w fun e w' => e = .returned (.bool true) ∧ Below w.heap.size w w' := by
  obtain ⟨W1, hW1⟩ : ∃ W, W = (w.alloc (.cells #[.string ⟨#[97]⟩, .string ⟨#[49]⟩] 99)).alloc (.cells #[.string ⟨#[97]⟩, .string ⟨#[50]⟩] 99) := ⟨_, rfl⟩
  have hb1 : Below w.heap.size w W1 := by rw [hW1]; exact ((Below.refl _ w).alloc (Nat.le_refl _) _).alloc (by simp) _
  have hs1 : W1.heap.size = w.heap.size + 2 := by rw [hW1]; simp
  have r2 : Reads W1 W1.heap.size 2 (some ⟨w.heap.size + 1, 0, none⟩) 1 (pcells [([97], [50])]) := by
    rw [hs1, hW1]
    have := Reads.lit (w.alloc (.cells #[.string ⟨#[97]⟩, .string ⟨#[49]⟩] 99)) #[.string ⟨#[97]⟩, .string ⟨#[50]⟩] 99 (n := 1) (size := 2) rfl
    have hz : (w.alloc (.cells #[.string ⟨#[97]⟩, .string ⟨#[49]⟩] 99)).heap.size = w.heap.size + 1 := by simp
    rw [hz] at this
    exact this
  have r1 : Reads W1 W1.heap.size 2 (some ⟨w.heap.size, 0, none⟩) 1 (pcells [([97], [49])]) := by
    have := Reads.lit w #[.string ⟨#[97]⟩, .string ⟨#[49]⟩] 99 (n := 1) (size := 2) rfl
    have := this.below (w' := W1) (by rw [hW1]; exact (Below.refl _ _).alloc (by simp) _)
    exact ⟨this.1, fun hn => by obtain ⟨ad, e, hb, hc⟩ := this.2 hn; exact ⟨ad, e, by omega, hc⟩⟩
  have ho := over2_any [([97], [49])] [([97], [50])] 1 1 rfl rfl _ _ 1 1 W1 _ (Nat.le_refl _) r1 r2 (by intro x hx; rw [List.mem_singleton] at hx; subst hx; simp) (by intro x hx; rw [List.mem_singleton] at hx; subst hx; simp) (by omega) (by omega)
  have hE : overE [[([97], [49])], [([97], [50])]] = 0 := by decide +kernel
  have hF : allP ([([97], [49])] ++ [([97], [50])]) = [(([97] : BS), ([50] : BS))] := by decide +kernel
  rw [hE, hF] at ho
  clear hE hF r1 r2
  rw [hs1] at ho
  go_enter Try.func28, Try.ntmps28
  go_wp2_with fail
  rw [← hW1]
  refine ho.mono ?_
  clear ho
  rintro e w1 ⟨v, rfl, hv, hbv⟩
  rw [if_pos rfl] at hv
  obtain ⟨A', k, rfl, hk1, hk2, hr⟩ := own_form hv
  obtain ⟨ad, rfl, _, _, hc1⟩ := hr.prop rfl (k := 0) (by simp)
  simp only [strV, List.getElem_cons_zero, Nat.zero_mul, add_zero] at hc1
  have hbb := hb1.trans (hbv.mono (by omega))
  clear hr hv hbv hb1 hs1
  go_wp2_with fail
  refine (num12_any 0 _).mono ?_
  rintro e w2 ⟨rfl, rfl⟩
  go_wp2_with fail
  go_ret
  exact ⟨rfl, hbb⟩
end Go.Proofs.Ythfjfkjlgdnohaa
