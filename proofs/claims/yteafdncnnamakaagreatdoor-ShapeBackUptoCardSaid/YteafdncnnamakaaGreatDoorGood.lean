/-
  A region that draws its order and only reads and makes memory: what is said of each operation's value holds whatever comes behind it.
-/
import Derived.Test.YteafdncnnamakaaGreatDoorInv
namespace Go.Proofs.YteafdncnnamakaaGreatDoor
open Go.RowKit

section
variable {P : Program} {ops : Array Oper}

/-- what is said of each operation's value, by a list -/
def Says (Gs : List (Value → World → Prop)) (i : Nat) (v : Value) (W : World) : Prop := match Gs[i]? with
  | some p => p v W
  | none => True
def Stays (p : Value → World → Prop) : Prop := ∀ v W W', p v W → Below W.heap.size W W' → p v W'
theorem Stays.pure {q : Value → Prop} : Stays (fun v _ => q v) := fun _ _ _ h _ => h
theorem Stays.own (base : Nat) (e : TypeId) (size n : Nat) (xs : List Value) : Stays (fun v W => W.ownsRow base e size v n xs) := fun _ _ _ h hb => own_below h hb

theorem wp_region_good {id : Nat} {a0 : Act} {w : World} {Q : Exit → Act → World → Prop} (hm : P.follows .mixedOrders = true) (hok : regionOk ops a0.tmps.size = true) (Gs : List (Value → World → Prop)) (hst : ∀ p ∈ Gs, Stays p)
    (hstep : ∀ i o, ops[i]? = some o → ∀ (m : Nat → Option Value) (W : World), Below w.heap.size w W → (∀ e ∈ o.after, Region.binds .any e = true → ∃ v, m e.on = some v ∧ Says Gs e.on v W) →
      ∀ (A : Act) (K : Act → World → Prop), A = frameM a0 ops m → (∀ v W', Below W.heap.size W W' → Says Gs i v W' → K (A.put o.dst v) W') → if Region.wanted o (yielded ops A.tmps) = true then o.wp P A W K Q else K (A.put o.dst undef) W)
    (hend : ∀ (m : Nat → Option Value) (W : World), Below w.heap.size w W → (∀ i, i < ops.size → ∃ v, m i = some v ∧ Says Gs i v W) → Q .normal (frameM a0 ops m) W) :
    (Code.region id ops true).wp P Q a0 w := by
  have hsay : ∀ i v W W', Says Gs i v W → Below W.heap.size W W' → Says Gs i v W' := by
    intro i v W W' h hb
    unfold Says at h ⊢
    cases hG : Gs[i]? with
    | none => trivial
    | some p => rw [hG] at h; exact hst p (List.mem_of_getElem? hG) v W W' h hb
  refine wp_region_inv hm hok (fun m W => Below w.heap.size w W ∧ ∀ i v, m i = some v → Says Gs i v W) ⟨(Below.refl _ _).drew, fun _ _ h => by cases h⟩ ?_ ?_
  · intro i o ho m W hJ hmi hdeps A K hA hK
    refine hstep i o ho m W hJ.1 (fun e he hb => ?_) A K hA (fun v W' hb hS => hK v W' ⟨below_step hJ.1 hb, fun j u hu => ?_⟩)
    · have := hdeps e he hb
      cases hme : m e.on with
      | none => rw [hme] at this; cases this
      | some v => exact ⟨v, rfl, hJ.2 _ _ hme⟩
    · by_cases hj : j = i
      · subst hj
        rw [upd_self] at hu
        cases hu
        exact hS
      · rw [upd_ne m v hj] at hu
        exact hsay j u W W' (hJ.2 j u hu) hb
  · intro m W hJ hall
    refine hend m W hJ.1 fun i hi => ?_
    have := hall i hi
    cases hmi : m i with
    | none => rw [hmi] at this; cases this
    | some v => exact ⟨v, rfl, hJ.2 _ _ hmi⟩

/-- the same; each step is told besides that it has not come up, and that whatever has come up had all that it waits for -/
theorem wp_region_good2 {id : Nat} {a0 : Act} {w : World} {Q : Exit → Act → World → Prop} (hm : P.follows .mixedOrders = true) (hok : regionOk ops a0.tmps.size = true) (Gs : List (Value → World → Prop)) (hst : ∀ p ∈ Gs, Stays p)
    (hstep : ∀ i o, ops[i]? = some o → ∀ (m : Nat → Option Value) (W : World), Below w.heap.size w W → m i = none → (∀ j o', ops[j]? = some o' → (m j).isSome = true → ∀ e ∈ o'.after, Region.binds .any e = true → (m e.on).isSome = true) → (∀ e ∈ o.after, Region.binds .any e = true → ∃ v, m e.on = some v ∧ Says Gs e.on v W) →
      ∀ (A : Act) (K : Act → World → Prop), A = frameM a0 ops m → (∀ v W', Below W.heap.size W W' → Says Gs i v W' → K (A.put o.dst v) W') → if Region.wanted o (yielded ops A.tmps) = true then o.wp P A W K Q else K (A.put o.dst undef) W)
    (hend : ∀ (m : Nat → Option Value) (W : World), Below w.heap.size w W → (∀ i, i < ops.size → ∃ v, m i = some v ∧ Says Gs i v W) → Q .normal (frameM a0 ops m) W) :
    (Code.region id ops true).wp P Q a0 w := by
  have hsay : ∀ i v W W', Says Gs i v W → Below W.heap.size W W' → Says Gs i v W' := by
    intro i v W W' h hb
    unfold Says at h ⊢
    cases hG : Gs[i]? with
    | none => trivial
    | some p => rw [hG] at h; exact hst p (List.mem_of_getElem? hG) v W W' h hb
  refine wp_region_inv hm hok (fun m W => Below w.heap.size w W ∧ (∀ i v, m i = some v → Says Gs i v W) ∧ (∀ j o', ops[j]? = some o' → (m j).isSome = true → ∀ e ∈ o'.after, Region.binds .any e = true → (m e.on).isSome = true)) ⟨(Below.refl _ _).drew, fun _ _ h => (by cases h), fun _ _ _ h => (by cases h)⟩ ?_ ?_
  · intro i o ho m W hJ hmi hdeps A K hA hK
    refine hstep i o ho m W hJ.1 hmi hJ.2.2 (fun e he hb => ?_) A K hA (fun v W' hb hS => hK v W' ⟨below_step hJ.1 hb, fun j u hu => ?_, fun j o' ho' hj e he hbi => ?_⟩)
    · have := hdeps e he hb
      cases hme : m e.on with
      | none => rw [hme] at this; cases this
      | some v => exact ⟨v, rfl, hJ.2.1 _ _ hme⟩
    · by_cases hj : j = i
      · subst hj
        rw [upd_self] at hu
        cases hu
        exact hS
      · rw [upd_ne m v hj] at hu
        exact hsay j u W W' (hJ.2.1 j u hu) hb
    · by_cases hei : e.on = i
      · rw [hei, upd_self]; rfl
      · rw [upd_ne m v hei]
        by_cases hji : j = i
        · subst hji
          rw [ho] at ho'
          cases ho'
          exact hdeps e he hbi
        · rw [upd_ne m v hji] at hj
          exact hJ.2.2 j o' ho' hj e he hbi
  · intro m W hJ hall
    refine hend m W hJ.1 fun i hi => ?_
    have := hall i hi
    cases hmi : m i with
    | none => rw [hmi] at this; cases this
    | some v => exact ⟨v, rfl, hJ.2.1 _ _ hmi⟩
end
theorem none_up {ops : Array Oper} {m : Nat → Option Value} (hcl : ∀ j o', ops[j]? = some o' → (m j).isSome = true → ∀ e ∈ o'.after, Region.binds .any e = true → (m e.on).isSome = true) {j : Nat} {o : Oper} (ho : ops[j]? = some o) {e : Edge} (he : e ∈ o.after) (hb : Region.binds .any e = true) (hi : m e.on = none) : m j = none := by
  cases hj : m j with
  | none => rfl
  | some v =>
    have := hcl j o ho (by rw [hj]; rfl) e he hb
    rw [hi] at this
    cases this
theorem tmps_pre2 {ops : Array Oper} {a0 : Act} {m : Nat → Option Value} {k i : Nat} (hw : ownerOf ops k = some i) (hm : m i = none) : (frameM a0 ops m).tmps[k]?.getD undef = a0.tmps[k]?.getD undef := by
  by_cases hk : k < a0.tmps.size <;> simp [frameM, hk, hw, hm]
theorem stays_nil : ∀ p ∈ ([] : List (Value → World → Prop)), Stays p := fun _ h => by cases h
theorem stays_cons {p : Value → World → Prop} {l : List (Value → World → Prop)} (hp : Stays p) (hl : ∀ q ∈ l, Stays q) : ∀ q ∈ p :: l, Stays q := by
  intro q hq
  rcases List.mem_cons.1 hq with rfl | h
  · exact hp
  · exact hl q h
theorem own_lit (W : World) (cs : Array Value) (T : TypeId) (n : Nat) (h : cs.size = n) (hm : n ≤ maxLen) : (W.alloc (.cells cs T)).ownsRow W.heap.size T 1 (.slice (some ⟨W.heap.size, 0, none⟩) n n) n cs.toList := by
  subst h
  refine ⟨by simp, .inr ⟨W.heap.size, cs.size, cs, rfl, Nat.le_refl _, heap_alloc_new W _, Nat.le_refl _, hm, by simp, ?_⟩⟩
  rw [Nat.mul_one, List.take_of_length_le (by simp)]
end Go.Proofs.YteafdncnnamakaaGreatDoor
