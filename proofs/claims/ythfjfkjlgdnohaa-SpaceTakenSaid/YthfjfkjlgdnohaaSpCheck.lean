/-
  space.Check, space.Free, space.Take, by their contracts.
-/
import Derived.Test.YthfjfkjlgdnohaaSpUnion
import Derived.Test.YthfjfkjlgdnohaaFirst
namespace Go.Proofs.Ythfjfkjlgdnohaa
open Go.RowKit Go.Maps

/-- a predicate that is a function value, at elements of one cell: called in a world that keeps what it captured -/
structure PredC (P : Program) (g : Nat) (caps : Array Value) {α : Type} (f : α → Value) (p : α → Bool) (Keep : World → Prop) : Prop where
  call : ∀ x W, Keep W → Calls P g (#[f x] ++ caps) W fun e W' => e = .returned (.bool (p x)) ∧ Below W.heap.size W W'
  below : ∀ W W', Keep W → Below W.heap.size W W' → Keep W'
set_option maxRecDepth 100000 in
theorem spOdd_any (x T : Int) (p0 : Addr) (w : World) (hp : w.cell? p0 = some (.int .i64 T)) : Calls Try.prog 74 #[.int .i64 x, .pointer (some p0)] w fun e w' => e = .returned (.bool (decide (x < 2 ∨ T ≤ x))) ∧ Below w.heap.size w w' := by
  have hk := Lib.hid (show decide (x < 2 ∨ T ≤ x) = true ↔ (x < 2 ∨ T ≤ x) from decide_eq_true_iff)
  obtain ⟨b, hb⟩ : ∃ b, b = decide (x < 2 ∨ T ≤ x) := ⟨_, rfl⟩
  rw [← hb] at hk ⊢
  clear hb
  go_enter Try.func74, Try.ntmps74
  go_wp2
  all_goals go_ret
  all_goals refine ⟨congrArg Ending.returned (congrArg Value.bool ?_), Below.refl _ _⟩
  all_goals rw [Bool.eq_iff_iff, hk.out]
  all_goals simp
  all_goals omega
set_option maxRecDepth 100000 in
set_option maxHeartbeats 1000000 in
theorem fiI_index {α : Type} (f : α → Value) (p : α → Bool) (l : List α) (n : Nat) (hnl : n = l.length) (A : Option Addr) (c : Nat) (p0 : Addr) (Keep : World → Prop) (w : World) (B : Nat)
    (hr : Reads w B 1 A n (l.map f)) (hB : B ≤ w.heap.size) (hn : n ≤ 17592186044000) (hp : PredC Try.prog 74 #[.pointer (some p0)] f p Keep) (hk0 : Keep w) :
    Calls Try.prog 107 #[.slice A n c, .func (.func 74) #[] #[.pointer (some p0)]] w fun e w' => e = .returned (.int .i64 (firstI p l)) ∧ Below w.heap.size w w' := by
  have HN := Lib.hid hnl
  have HP := Lib.hid hp
  clear hnl hp
  go_enter Try.func107, Try.ntmps107
  go_wp2_with fail
  go_loopw [8] (fun j wr => ∃ k : Nat, k ≤ n ∧ j = .int .i64 (k : Int) ∧ Hid (∀ y ∈ l.take k, p y = false) ∧ Below w.heap.size w wr ∧ Keep wr) (fun j _ => n - (intOf j).toNat)
  case atStart => exact ⟨0, Nat.zero_le _, rfl, (show ∀ y ∈ _, _ by simp), Below.refl _ _, hk0⟩
  case round =>
    obtain ⟨k, hk, rfl, hno, hbw, hkw⟩ := hrel
    by_cases hlt : k < n
    · have hki : (k : Int) < (n : Int) := by omega
      have hkl : k < l.length := by have := HN.out; omega
      obtain ⟨ad, u, rfl, _, hxu, hcell⟩ := (hr.below (hbw.mono hB)).at_ hlt
      obtain ⟨x, hx⟩ : ∃ x, x = l[k]'hkl := ⟨_, rfl⟩
      have hux : u = f x := by
        rw [List.getElem?_map, List.getElem?_eq_getElem hkl] at hxu
        rw [hx]
        exact (Option.some.inj hxu).symm
      subst hux
      clear hxu
      have htk := List.take_succ_eq_append_getElem hkl
      rw [← hx] at htk
      have HTK := Lib.hid htk
      have HX := Lib.hid (show l[k]? = some x by rw [hx]; exact List.getElem?_eq_getElem _)
      have hc := HP.out.call x wr hkw
      obtain ⟨b, hb⟩ : ∃ b, b = p x := ⟨_, rfl⟩
      rw [← hb] at hc
      have HBX := Lib.hid hb
      clear hx htk hr hb
      obtain ⟨fx, hfx⟩ : ∃ v, v = f x := ⟨_, rfl⟩
      rw [← hfx] at hc hcell
      clear hfx
      simp only [List.append_toArray, List.cons_append, List.nil_append] at hc
      go_wp2_with fail
      refine hc.mono ?_
      clear hc
      rintro e w1 ⟨rfl, hb1⟩
      have hkw1 := HP.out.below wr w1 hkw hb1
      have hbw1 := hbw.trans (hb1.mono hbw.size)
      cases b with
      | true =>
        go_wp2_with fail
        go_ret
        have hf := firstP_eq p l k x hno.out HX.out HBX.out.symm
        exact ⟨by unfold firstI; rw [hf, if_pos hkl]; rfl, hbw1⟩
      | false =>
        go_wp2_with fail
        go_roundw
        case rel =>
          refine ⟨k + 1, by omega, by go_num, ?_, hbw1, hkw1⟩
          show ∀ y ∈ l.take (k + 1), p y = false
          intro y hy
          rw [HTK.out] at hy
          rcases List.mem_append.1 hy with hy | hy
          · exact hno.out y hy
          · simp at hy; subst hy; exact HBX.out.symm
        case measure => simp [intOf]; omega
    · have hkn : k = n := by omega
      have HF : Hid (firstI p l = -1) := by
        show _ = _
        unfold firstI
        rw [firstP_none p l (fun y hy => hno.out y (by rw [List.take_of_length_le (by rw [hkn, HN.out]; exact Nat.le_refl _)]; exact hy)), if_neg (Nat.lt_irrefl _)]
      clear hr hkn
      go_wp2_with fail
      go_ret
      exact ⟨by rw [HF.out]; rfl, hbw⟩
theorem fiI_contains {α : Type} (f : α → Value) (p : α → Bool) (l : List α) (n : Nat) (hnl : n = l.length) (A : Option Addr) (c : Nat) (p0 : Addr) (Keep : World → Prop) (w : World) (B : Nat)
    (hr : Reads w B 1 A n (l.map f)) (hB : B ≤ w.heap.size) (hn : n ≤ 17592186044000) (hp : PredC Try.prog 74 #[.pointer (some p0)] f p Keep) (hk0 : Keep w) :
    Calls Try.prog 73 #[.slice A n c, .func (.func 74) #[] #[.pointer (some p0)]] w fun e w' => e = .returned (.bool (l.any p)) ∧ Below w.heap.size w w' := by
  have hcall := Lib.hid (fiI_index f p l n hnl A c p0 Keep w B hr hB hn hp hk0)
  have HA := Lib.hid (firstI_any p l)
  clear hnl hr hp
  go_enter Try.func73, Try.ntmps73
  go_wp2_with fail
  refine hcall.out.mono ?_
  rintro e w1 ⟨rfl, hb⟩
  go_wp2_with fail
  go_ret
  exact ⟨by rw [← HA.out]; rfl, hb⟩
theorem Reads.lift {w : World} {B B' size n : Nat} {A : Option Addr} {xs : List Value} (h : Reads w B size A n xs) (hB : B ≤ B') : Reads w B' size A n xs :=
  ⟨h.1, fun hn => by obtain ⟨ad, e, hb, hc⟩ := h.2 hn; exact ⟨ad, e, by omega, hc⟩⟩
theorem ints_length (l : List Int) : (ints l).length = l.length := by simp [ints]
set_option maxRecDepth 100000 in
set_option maxHeartbeats 1000000 in
theorem spCheck_any (T : Int) (l : List Int) (n : Nat) (hnl : n = l.length) (A : Option Addr) (c : Nat) (w : World) (B : Nat) (hr : Reads w B 1 A n (ints l)) (hB : B ≤ w.heap.size) (hwf : wfZ l) (hn : n ≤ 17592186044000) :
    Calls Try.prog 34 #[.int .i64 T, .slice A n c] w fun e w' => e = .returned (.int .i64 (usedE T l)) ∧ Below w.heap.size w w' := by
  by_cases hT : T < 2 ∨ 8192 < T
  · have HE : Hid (usedE T l = 4) := by
      show _ = _
      unfold usedE
      rw [if_pos (.inl hT)]
    have hb0 := Lib.hid ((Below.refl w.heap.size w).alloc (Nat.le_refl _) (.cells #[.int .i64 T] 3))
    clear hr hnl hwf
    go_enter Try.func34, Try.ntmps34
    rcases hT with hT | hT
    · go_wp2_with fail
      go_ret
      exact ⟨by rw [HE.out]; rfl, hb0.out⟩
    · have hT2 : ¬ T < 2 := by omega
      go_wp2_with fail
      go_ret
      exact ⟨by rw [HE.out]; rfl, hb0.out⟩
  have hT1 : ¬ T < 2 := by omega
  have hT2 : ¬ 8192 < T := by omega
  obtain ⟨q, hq⟩ : ∃ q, q = fun x : Int => decide (x < 2 ∨ T ≤ x) := ⟨_, rfl⟩
  have hUE : Hid (∀ b, l.any q = b → usedE T l = if b = true then 4 else if l.Nodup then 0 else 6) := by
    show ∀ b, _ → _
    rintro b rfl
    unfold usedE
    rw [hq]
    cases h : l.any fun x => decide (x < 2 ∨ T ≤ x) with
    | true => rw [if_pos (.inr rfl), if_pos rfl]
    | false => rw [if_neg (by simp; omega)]; rfl
  obtain ⟨W0, hW0⟩ : ∃ W0, W0 = w.alloc (.cells #[.int .i64 T] 3) := ⟨_, rfl⟩
  have k0 : W0.cell? ⟨w.heap.size, 0, none⟩ = some (.int .i64 T) := by rw [hW0]; exact (Blk.new w _ _).cell 0
  have hsz0 : W0.heap.size = w.heap.size + 1 := by rw [hW0]; show (w.heap.push _).size = _; rw [Array.size_push]
  have hb0 : Below w.heap.size w W0 := by rw [hW0]; exact (Below.refl _ w).alloc (Nat.le_refl _) _
  have hcon := fiI_contains (Value.int .i64) q l n hnl A c ⟨w.heap.size, 0, none⟩ (fun W => W.cell? ⟨w.heap.size, 0, none⟩ = some (.int .i64 T) ∧ w.heap.size < W.heap.size) W0 B (hr.below (hb0.mono hB)) (by omega) (by omega)
    ⟨fun x W hk => by rw [hq]; exact spOdd_any x T _ W hk.1, fun W W' hk hb => ⟨(hb.cell hk.2).trans hk.1, by have := hb.size; omega⟩⟩ ⟨k0, by omega⟩
  obtain ⟨b, hb⟩ : ∃ b, b = l.any q := ⟨_, rfl⟩
  rw [← hb] at hcon
  have HUE := Lib.hid (hUE.out b hb.symm)
  have HN := Lib.hid hnl
  have HB0 := Lib.hid hb0
  have HK0 := Lib.hid k0
  have HU : Hid (∀ W, Below w.heap.size w W → Calls Try.prog 36 #[.slice (some ⟨W.heap.size, 0, none⟩) 1 1] (W.alloc (.cells #[.slice A n c] 54)) fun e w' => ∃ v, e = .returned v ∧ w'.ownsRow (W.heap.size + 1) 3 1 v (sortU l).length (ints (sortU l)) ∧ Below (W.heap.size + 1) (W.alloc (.cells #[.slice A n c] 54)) w') := by
    show ∀ W, _ → _
    intro W hW
    have hbl := (Blk.new W 54 #[.slice A n c])
    have hal : (W.alloc (.cells #[.slice A n c] 54)).heap.size = W.heap.size + 1 := by show (W.heap.push _).size = _; rw [Array.size_push]
    have hc := union_any [(.slice A n c, l)] 1 rfl (some ⟨W.heap.size, 0, none⟩) 1 (W.alloc (.cells #[.slice A n c] 54)) (W.heap.size + 1) (Reads.lit W #[.slice A n c] 54 rfl) (by omega)
      (fun p hp => by
        rw [List.mem_singleton] at hp
        subst hp
        have hbB : Below B w (W.alloc (.cells #[.slice A n c] 54)) := (hW.mono hB).trans ((Below.refl B W).alloc (by have := hW.size; omega) _)
        exact ⟨⟨A, n, c, rfl, hnl, (hr.below hbB).lift (by have := hW.size; omega)⟩, hwf⟩)
      (by simp; omega) (by omega)
    rw [hal] at hc
    refine hc.mono ?_
    rintro e w' ⟨v, rfl, hrow, _, hb⟩
    simp only [List.flatMap_cons, List.flatMap_nil, List.append_nil] at hrow
    exact ⟨v, rfl, hrow, hb⟩
  clear hb hUE hr hnl hT hq hb0 k0
  go_enter Try.func34, Try.ntmps34
  go_wp2_with fail
  rw [← hW0]
  refine hcon.mono ?_
  clear hcon
  rintro e w1 ⟨rfl, hb1⟩
  have hbb := HB0.out.trans (hb1.mono HB0.out.size)
  cases b with
  | true =>
    go_wp2_with fail
    go_ret
    exact ⟨by rw [HUE.out]; rfl, hbb⟩
  | false =>
    have hu := HU.out w1 hbb
    go_wp2_with fail
    refine hu.mono ?_
    clear hu
    rintro e w2 ⟨v, rfl, hrow, hb2⟩
    have hb3 := Lib.hid ((hbb.alloc hbb.size (.cells #[.slice A n c] 54)).trans (hb2.mono (by have := hbb.size; omega)))
    obtain ⟨A2, c2, rfl, h1, h2, hr2⟩ := own_form hrow
    obtain ⟨m, hm⟩ : ∃ m, m = (sortU l).length := ⟨_, rfl⟩
    rw [← hm] at h1
    have HL := Lib.hid (length_sortU l)
    have HM := Lib.hid hm
    rw [← hm]
    clear hrow hr2 hb2 hm
    by_cases hmn : m = n
    · have HF : Hid (usedE T l = 0) := by
        show _ = _
        rw [HUE.out, if_neg (by simp), if_pos (HL.out.2.1 (by rw [← HM.out, hmn, HN.out]))]
      have hd : ((m : Int) != (n : Int)) = false := by simp [hmn]
      clear hmn
      go_wp2_with fail
      go_ret
      exact ⟨by rw [HF.out]; rfl, hb3.out⟩
    · have HF : Hid (usedE T l = 6) := by
        show _ = _
        rw [HUE.out, if_neg (by simp), if_neg (fun h => hmn (by rw [HM.out, HL.out.2.2 h, HN.out]))]
      have hd : ((m : Int) != (n : Int)) = true := by simp; omega
      clear hmn
      go_wp2_with fail
      go_ret
      exact ⟨by rw [HF.out]; rfl, hb3.out⟩
end Go.Proofs.Ythfjfkjlgdnohaa
