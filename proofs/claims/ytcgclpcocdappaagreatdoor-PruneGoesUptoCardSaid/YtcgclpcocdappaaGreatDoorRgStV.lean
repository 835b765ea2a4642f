/-
  A drawn region with one store at an operation S into memory that an operation V of the region has made.
-/
import Derived.Test.YtcgclpcocdappaaGreatDoorPrnBaseGz
namespace Go.Proofs.YtcgclpcocdappaaGreatDoor
open Go.RowKit

section
variable {P : Program} {ops : Array Oper}
/-- the operations that may stand behind the store: late; all others stand ahead of it -/
theorem wp_region_storeV {id : Nat} {a0 : Act} {w : World} {Q : Exit → Act → World → Prop} (S V : Nat) (late : List Nat) (hVS : V ≠ S) (hVl : V ∉ late) (hm : P.follows .mixedOrders = true) (hok : regionOk ops a0.tmps.size = true) (Gs : List (Value → World → Prop)) (hst : ∀ p ∈ Gs, Stays p)
    (hlt : ∀ i, i < ops.size → i ≠ S → i ∉ late → ∀ m, ClosedM ops m → (m S).isSome = true → (m i).isSome = true)
    (hstep : ∀ i o, ops[i]? = some o → i ≠ S → i ∉ late → ∀ (m : Nat → Option Value) (W : World), Below w.heap.size w W → m i = none → ClosedM ops m → (∀ e ∈ o.after, Region.binds .any e = true → ∃ v, m e.on = some v ∧ Says Gs e.on v W) →
      ∀ (A : Act) (K : Act → World → Prop), A = frameM a0 ops m → (∀ v W', Below W.heap.size W W' → Says Gs i v W' → K (A.put o.dst v) W') → if Region.wanted o (yielded ops A.tmps) = true then o.wp P A W K Q else K (A.put o.dst undef) W)
    (hlate : ∀ i o, ops[i]? = some o → i ∈ late → ∀ (m : Nat → Option Value) (W W9 : World), m i = none → (∀ e ∈ o.after, Region.binds .any e = true → e.on ≠ S → ∃ v, m e.on = some v ∧ Says Gs e.on v W9) →
      ∀ (A : Act) (K : Act → World → Prop), A = frameM a0 ops m → (∀ v, (∀ W', Says Gs i v W') → K (A.put o.dst v) W) → if Region.wanted o (yielded ops A.tmps) = true then o.wp P A W K Q else K (A.put o.dst undef) W)
    (R : Option Value → World → World → Prop)
    (hstore : ∀ o, ops[S]? = some o → ∀ (m : Nat → Option Value) (W : World), Below w.heap.size w W → m S = none → (∀ e ∈ o.after, Region.binds .any e = true → ∃ v, m e.on = some v ∧ Says Gs e.on v W) →
      ∀ (A : Act) (K : Act → World → Prop), A = frameM a0 ops m → (∀ W', R (m V) W W' → K (A.put o.dst undef) W') → if Region.wanted o (yielded ops A.tmps) = true then o.wp P A W K Q else K (A.put o.dst undef) W)
    (hSlt : S < ops.size) (hSs : ∀ v W, Says Gs S v W)
    (hend : ∀ (m : Nat → Option Value) (W9 W : World), Below w.heap.size w W9 → R (m V) W9 W → (∀ i, i < ops.size → i ≠ S → ∃ v, m i = some v ∧ Says Gs i v W9) → m S = some undef → Q .normal (frameM a0 ops m) W) :
    (Code.region id ops true).wp P Q a0 w := by
  have hsay : ∀ i v W W', Says Gs i v W → Below W.heap.size W W' → Says Gs i v W' := by
    intro i v W W' h hb
    unfold Says at h ⊢
    cases hG : Gs[i]? with
    | none => trivial
    | some p => rw [hG] at h; exact hst p (List.mem_of_getElem? hG) v W W' h hb
  refine wp_region_inv hm hok (fun m W => ∃ W9, Below w.heap.size w W9 ∧ (∀ i v, m i = some v → Says Gs i v W9) ∧ ClosedM ops m ∧ ((m S = none ∧ W = W9) ∨ (m S = some undef ∧ R (m V) W9 W)))
    ⟨_, (Below.refl _ _).drew, fun _ _ h => (by cases h), fun _ _ _ h => (by cases h), .inl ⟨rfl, rfl⟩⟩ ?_ ?_
  · intro i o ho m W hJ hmi hdeps A K hA hK
    obtain ⟨W9, hb, hs, hcl, hW⟩ := hJ
    have his : i < ops.size := (Array.getElem?_eq_some_iff.1 ho).1
    have hdv : ∀ e ∈ o.after, Region.binds .any e = true → ∃ v, m e.on = some v ∧ Says Gs e.on v W9 := fun e he hbi => by
      have := hdeps e he hbi
      cases hme : m e.on with
      | none => rw [hme] at this; cases this
      | some v => exact ⟨v, rfl, hs _ _ hme⟩
    have hsu : ∀ v W', Below W9.heap.size W9 W' → Says Gs i v W' → ∀ j u, upd m i v j = some u → Says Gs j u W' := fun v W' hbw hS j u hu => by
      by_cases hji : j = i
      · subst hji; rw [upd_self] at hu; injection hu with hu; subst hu; exact hS
      · rw [upd_ne m v hji] at hu; exact hsay j u W9 W' (hs j u hu) hbw
    by_cases hiS : i = S
    · subst hiS
      rcases hW with ⟨_, rfl⟩ | ⟨h, _⟩
      · refine hstore o ho m W hb hmi hdv A K hA fun W' hR => hK undef W' ⟨W, hb, hsu undef W (Below.refl _ _) (hSs _ _), hcl.upd ho hdeps undef, .inr ⟨upd_self _ _ _, by rw [upd_ne m undef hVS]; exact hR⟩⟩
      · rw [hmi] at h; cases h
    · by_cases hil : i ∈ late
      · refine hlate i o ho hil m W W9 hmi (fun e he hbi _ => hdv e he hbi) A K hA fun v hv => hK v W ⟨W9, hb, hsu v W9 (Below.refl _ _) (hv _), hcl.upd ho hdeps v, ?_⟩
        rw [upd_ne m v (fun e => hiS e.symm), upd_ne m v (fun e : V = i => hVl (e ▸ hil))]
        exact hW
      · rcases hW with ⟨hn, rfl⟩ | ⟨h, _⟩
        · refine hstep i o ho hiS hil m W hb hmi hcl hdv A K hA fun v W' hbw hS => hK v W' ⟨W', below_step hb hbw, hsu v W' hbw hS, hcl.upd ho hdeps v, .inl ⟨?_, rfl⟩⟩
          rw [upd_ne m v (fun e => hiS e.symm)]
          exact hn
        · have := hlt i his hiS hil m hcl (by rw [h]; rfl)
          rw [hmi] at this
          cases this
  · intro m W hJ hall
    obtain ⟨W9, hb, hs, hcl, hW⟩ := hJ
    have hS := hall S hSlt
    rcases hW with ⟨hn, _⟩ | ⟨h, hR⟩
    · rw [hn] at hS; cases hS
    · refine hend m W9 W hb hR (fun i hi _ => ?_) h
      have := hall i hi
      cases hmi : m i with
      | none => rw [hmi] at this; cases this
      | some v => exact ⟨v, rfl, hs _ _ hmi⟩
end
section
variable {ops : Array Oper}
theorem early1 {S : Nat} {late : List Nat} (h : ((List.range ops.size).all fun j => j == S || (late.contains j || (reachL ops ops.size (depsOf ops S)).contains j)) = true) :
    ∀ i, i < ops.size → i ≠ S → i ∉ late → ∀ m, ClosedM ops m → (m S).isSome = true → (m i).isSome = true := by
  intro i hi h1 h3 m hcl hS
  have h4 := List.all_eq_true.1 h i (List.mem_range.2 hi)
  simp only [Bool.or_eq_true, beq_iff_eq, List.contains_iff_mem] at h4
  rcases h4 with h4 | h4 | h4
  · exact absurd h4 h1
  · exact absurd h4 h3
  · exact reach_closed hcl hS i h4
end
end Go.Proofs.YtcgclpcocdappaaGreatDoor
