/-
  A region that draws its order, by an invariant, inside a fence: each operation is looked at once, whatever the order.
-/
import Derived.Test.YthfjfkjlgdnohaaInv
import Derived.OrdersIn
import Derived.TacticsIn
namespace Go.Proofs.Ythfjfkjlgdnohaa
open Go.RowKit

section
variable {F : Fence} {n : Nat} {P : Program} {ops : Array Oper}

/-- the end of a list of one operation -/
def endK (K : Act → World → Prop) (Q : Exit → Act → World → Prop) : Exit → Act → World → Prop
  | .normal, a, w => K a w
  | e, a, w => Q e a w
theorem wpIn_endK {o : Oper} {a : Act} {w : World} {K : Act → World → Prop} {Q : Exit → Act → World → Prop} (hh : o.wpIn F n P a w K (endK K Q)) : o.wpIn F n P a w K Q := by
  unfold Oper.wpIn at *
  refine ⟨hh.1, ?_⟩
  have hh := hh.2
  generalize (o.semAt F.round a.eval).run P w = r at *
  cases r with
  | ok x w' =>
    cases x <;> simp only [Oper.uponIn] at hh ⊢ <;>
      first
        | exact hh
        | exact ⟨hh.1, CallsIn.mono hh.2 (fun e w'' he => by cases e <;> exact he)⟩
        | exact ⟨hh.1, RoundIn.mono hh.2 (fun e w'' he => by cases e <;> exact he)⟩
  | halt x w' => cases x <;> simp only [Oper.uponIn] at hh ⊢ <;> exact hh

theorem wpIn_region_inv {id : Nat} {a0 : Act} {w : World} {Q : Exit → Act → World → Prop} (hm : P.follows .mixedOrders = true) (hok : regionOk ops a0.tmps.size = true) (J : (Nat → Option Value) → World → Prop)
    (h0 : J (fun _ => none) w.drew)
    (hstep : ∀ i o, ops[i]? = some o → ∀ m w, J m w → m i = none → (∀ e ∈ o.after, Region.binds .any e = true → (m e.on).isSome = true) → 
      ∀ (A : Act) (QK : Exit → Act → World → Prop), A = frameM a0 ops m → (∀ v w', J (upd m i v) w' → QK .normal (A.put o.dst v) w') → wpListIn F n P ops QK [o] A w)
    (hend : ∀ m w, J m w → (∀ i, i < ops.size → (m i).isSome = true) → Q .normal (frameM a0 ops m) w) :
    (Code.region id ops true).wpIn F n P Q a0 w := by
  refine wpIn_region_any hm ?_
  have key : ∀ (fuel : Nat) (listed : Array Bool) (m : Nat → Option Value) (w : World), J m w → listed.size = ops.size → (∀ i, i < ops.size → listed.getD i true = (m i).isSome) →
      ((List.range ops.size).filter fun i => (m i).isNone).length ≤ fuel → wpAnyIn F n P .any ops Q fuel listed (frameM a0 ops m) w := by
    intro fuel
    induction fuel with
    | zero =>
      intro listed m w hJ hsz hl hc
      have hall : ∀ i, i < ops.size → (m i).isSome = true := by
        intro i hi
        have he : (List.range ops.size).filter (fun i => (m i).isNone) = [] := List.eq_nil_of_length_eq_zero (by omega)
        have := List.filter_eq_nil_iff.1 he i (List.mem_range.2 hi)
        cases hmi : m i with
        | none => rw [hmi] at this; exact absurd rfl this
        | some _ => rfl
      refine ⟨?_, hend m w hJ hall⟩
      apply List.eq_nil_iff_forall_not_mem.2
      intro j hj
      obtain ⟨hu, o, ho, _⟩ := mem_ready.1 hj
      have hjs : j < ops.size := (Array.getElem?_eq_some_iff.1 ho).1
      rw [hl j hjs, hall j hjs] at hu
      cases hu
    | succ fuel ih =>
      intro listed m w hJ hsz hl hc
      refine ⟨fun hr => hend m w hJ ?_, fun i hi => ?_⟩
      · intro i
        induction i using Nat.strongRecOn with
        | ind i ihi =>
          intro hi
          cases hmi : m i with
          | some _ => rfl
          | none =>
            exfalso
            have ho : ops[i]? = some ops[i] := Array.getElem?_eq_getElem hi
            have : i ∈ Region.ready .any ops listed := by
              refine mem_ready.2 ⟨by rw [hl i hi, hmi]; rfl, ops[i], ho, fun e he hb => ?_⟩
              have hlt := (regionOk_spec hok ho).2 e he hb
              have h2 := ihi e.on hlt (by omega)
              have h3 := hl e.on (by omega)
              rw [h2] at h3
              have h4 : e.on < listed.size := by omega
              simp [Array.getD, h4] at h3 ⊢
              exact h3
            rw [hr] at this
            cases this
      · obtain ⟨hu, o, ho, hdeps⟩ := mem_ready.1 hi
        have his : i < ops.size := (Array.getElem?_eq_some_iff.1 ho).1
        have hmi : m i = none := by
          rw [hl i his] at hu
          cases hmi : m i with
          | none => rfl
          | some _ => rw [hmi] at hu; cases hu
        have hs := hstep i o ho m w hJ hmi (fun e he hb => by
          have h1 := hdeps e he hb
          have hlt := (regionOk_spec hok ho).2 e he hb
          have h2 := hl e.on (by omega)
          have h4 : e.on < listed.size := by omega
          simp [Array.getD, h4] at h1 h2
          rw [← h2]; exact h1)
        have next : ∀ v w', J (upd m i v) w' → wpAnyIn F n P .any ops Q fuel (listed.setIfInBounds i true) ((frameM a0 ops m).put o.dst v) w' := by
          intro v w' hJ'
          rw [frameM_put hok ho]
          refine ih _ _ _ hJ' (by simpa using hsz) ?_ ?_
          · intro j hj
            by_cases hji : j = i
            · subst hji
              simp [upd_self, Array.getD, hsz, hj]
            · rw [upd_ne m v hji, ← hl j hj]
              exact getD_set_ne true (fun h => hji h.symm)
          · have hlt : ((List.range ops.size).filter fun j => (upd m i v j).isNone).length < ((List.range ops.size).filter fun j => (m j).isNone).length := by
              have hsub : (List.range ops.size).filter (fun j => (upd m i v j).isNone) = ((List.range ops.size).filter fun j => (m j).isNone).filter fun j => decide (j ≠ i) := by
                rw [List.filter_filter]
                apply List.filter_congr
                intro j _
                by_cases hji : j = i
                · subst hji; simp [upd_self]
                · simp [upd_ne m v hji, hji]
              rw [hsub]
              exact List.length_filter_lt_length_iff_exists.2 ⟨i, List.mem_filter.2 ⟨List.mem_range.2 his, by rw [hmi]; rfl⟩, by simp⟩
            omega
        have hs' := hs (frameM a0 ops m) (endK (wpAnyIn F n P .any ops Q fuel (listed.setIfInBounds i true)) Q) rfl (fun v w' h => next v w' h)
        unfold wpOpIn
        rw [ho]
        show if Region.wanted o (yielded ops (frameM a0 ops m).tmps) = true then _ else _
        unfold wpListIn at hs'
        by_cases hw : Region.wanted o (yielded ops (frameM a0 ops m).tmps) = true
        · rw [if_pos hw] at hs' ⊢
          exact wpIn_endK (Oper.wpIn_mono (fun a w h => h) hs')
        · rw [if_neg hw] at hs' ⊢
          exact ⟨hs'.1, hs'.2⟩
  have h := key ops.size (Array.replicate ops.size false) (fun _ => none) w.drew h0 (by simp) (fun i hi => by simp [Array.getD, hi]) (Nat.le_trans (List.length_filter_le _ _) (by simp))
  rw [frameM_none] at h
  exact h
/-- the same; each step is told besides that whatever has come up had all that it waits for -/
theorem wpIn_region_inv2 {id : Nat} {a0 : Act} {w : World} {Q : Exit → Act → World → Prop} (hm : P.follows .mixedOrders = true) (hok : regionOk ops a0.tmps.size = true) (J : (Nat → Option Value) → World → Prop)
    (h0 : J (fun _ => none) w.drew)
    (hstep : ∀ i o, ops[i]? = some o → ∀ m w, J m w → m i = none → (∀ j o', ops[j]? = some o' → (m j).isSome = true → ∀ e ∈ o'.after, Region.binds .any e = true → (m e.on).isSome = true) → (∀ e ∈ o.after, Region.binds .any e = true → (m e.on).isSome = true) → 
      ∀ (A : Act) (QK : Exit → Act → World → Prop), A = frameM a0 ops m → (∀ v w', J (upd m i v) w' → QK .normal (A.put o.dst v) w') → wpListIn F n P ops QK [o] A w)
    (hend : ∀ m w, J m w → (∀ i, i < ops.size → (m i).isSome = true) → Q .normal (frameM a0 ops m) w) :
    (Code.region id ops true).wpIn F n P Q a0 w := by
  refine wpIn_region_inv hm hok (fun m W => J m W ∧ (∀ j o', ops[j]? = some o' → (m j).isSome = true → ∀ e ∈ o'.after, Region.binds .any e = true → (m e.on).isSome = true)) ⟨h0, fun _ _ _ h => by cases h⟩ ?_ (fun m W hJ hall => hend m W hJ.1 hall)
  intro i o ho m W hJ hmi hdeps A QK hA hK
  refine hstep i o ho m W hJ.1 hmi hJ.2 hdeps A QK hA (fun v W' hJ' => hK v W' ⟨hJ', fun j o' ho' hj e he hbi => ?_⟩)
  by_cases hei : e.on = i
  · rw [hei, upd_self]; rfl
  · rw [upd_ne m v hei]
    by_cases hji : j = i
    · subst hji
      rw [ho] at ho'
      cases ho'
      exact hdeps e he hbi
    · rw [upd_ne m v hji] at hj
      exact hJ.2 j o' ho' hj e he hbi
end
/-! ### A region that ends: 'append' of one built element behind a loaded slice, and the store of it (a6 builds, a7 appends, a8 stores) -/
structure TailJ (W WA : World) (p : Addr) (val : Nat → Option Value) (S : Value → World → Prop) (a6 a7 a8 : Nat) (m : Nat → Option Value) (X : World) : Prop where
  det : Det val m
  pre : m a6 = none → X = W
  mid : (m a6).isSome = true → m a7 = none → X = WA
  app : ∀ v, m a7 = some v → m a8 = none → S v X
  fin : ∀ v u, m a7 = some v → m a8 = some u → ∃ Y, S v Y ∧ X = Y.setCell p v
section
variable {W WA X : World} {p : Addr} {val : Nat → Option Value} {S : Value → World → Prop} {a6 a7 a8 : Nat} {m : Nat → Option Value}
theorem TailJ.start : TailJ W WA p val S a6 a7 a8 (fun _ => none) W := ⟨Det.start _, fun _ => rfl, fun h => (by cases h), fun _ h => (by cases h), fun _ _ h => (by cases h)⟩
theorem TailJ.pure (h : TailJ W WA p val S a6 a7 a8 m X) {i : Nat} {v : Value} (h6 : a6 ≠ i) (h7 : a7 ≠ i) (h8 : a8 ≠ i) (hv : ∀ x, val i = some x → v = x) : TailJ W WA p val S a6 a7 a8 (upd m i v) X :=
  ⟨h.det.up hv, by rw [upd_ne m v h6]; exact h.pre, by rw [upd_ne m v h6, upd_ne m v h7]; exact h.mid, by rw [upd_ne m v h7, upd_ne m v h8]; exact h.app, by rw [upd_ne m v h7, upd_ne m v h8]; exact h.fin⟩
theorem TailJ.world (h : TailJ W WA p val S a6 a7 a8 m X) (h7 : m a7 = none) : X = W ∨ X = WA := by
  cases h6 : m a6 with
  | none => exact .inl (h.pre h6)
  | some v => exact .inr (h.mid (by rw [h6]; rfl) h7)
theorem TailJ.six (h : TailJ W WA p val S a6 a7 a8 m X) {v : Value} (h67 : a7 ≠ a6) (h7 : m a7 = none) (hv : ∀ x, val a6 = some x → v = x) : TailJ W WA p val S a6 a7 a8 (upd m a6 v) WA :=
  ⟨h.det.up hv, by rw [upd_self]; intro h; (cases h), fun _ _ => rfl, by rw [upd_ne m v h67, h7]; intro _ h; (cases h), by rw [upd_ne m v h67, h7]; intro _ _ h; (cases h)⟩
theorem TailJ.seven (h : TailJ W WA p val S a6 a7 a8 m X) {v : Value} {Y : World} (h67 : a6 ≠ a7) (h78 : a8 ≠ a7) (h6 : (m a6).isSome = true) (h8 : m a8 = none) (hv : val a7 = none) (hS : S v Y) : TailJ W WA p val S a6 a7 a8 (upd m a7 v) Y :=
  ⟨h.det.up (fun x hx => by rw [hv] at hx; cases hx), by rw [upd_ne m v h67]; intro h; (rw [h] at h6; cases h6), by rw [upd_self]; intro _ h; (cases h), by rw [upd_self]; intro u h _; (cases h; exact hS), by rw [upd_self, upd_ne m v h78, h8]; intro _ _ _ h; (cases h)⟩
theorem TailJ.eight (h : TailJ W WA p val S a6 a7 a8 m X) {v u : Value} (h68 : a6 ≠ a8) (h78 : a7 ≠ a8) (h6 : (m a6).isSome = true) (h7 : m a7 = some v) (h8 : m a8 = none) (hv : val a8 = none) : TailJ W WA p val S a6 a7 a8 (upd m a8 u) (X.setCell p v) :=
  ⟨h.det.up (fun x hx => by rw [hv] at hx; cases hx), by rw [upd_ne m u h68]; intro h; (rw [h] at h6; cases h6), by rw [upd_ne m u h78, h7]; intro _ h; (cases h), by rw [upd_self]; intro _ _ h; (cases h), by rw [upd_ne m u h78, h7]; intro v' u' e _; (cases e; exact ⟨X, h.app v h7 h8, rfl⟩)⟩
end
end Go.Proofs.Ythfjfkjlgdnohaa
