/-
  A region that draws its order, by an invariant: each operation is looked at once, whatever the order.
-/
import Derived.Orders
import Derived.WalkKit
import Derived.Test.YtcbeadldieeceaaZ1
import Derived.Test.YtcbeadldieeceaaZ2
namespace Go.Proofs.Ytcbeadldieeceaa
open Go.RowKit

section
variable {P : Program} {ops : Array Oper}

/-- which operation writes slot k -/
def ownerOf (ops : Array Oper) (k : Nat) : Option Nat := (List.range ops.size).find? fun i => (ops[i]?.bind (·.dst)) == some k
/-- no two operations write one slot, all slots are there, each waits for earlier ones alone -/
def regionOk (ops : Array Oper) (n : Nat) : Bool :=
  (List.range ops.size).all fun i => match ops[i]? with
    | some o => (match o.dst with | some d => decide (ownerOf ops d = some i) && decide (d < n) | none => true) && o.after.all fun e => !(Region.binds .any e) || decide (e.on < i)
    | none => true
def upd (m : Nat → Option Value) (i : Nat) (v : Value) : Nat → Option Value := fun j => if j = i then some v else m j
theorem upd_self (m : Nat → Option Value) (i : Nat) (v : Value) : upd m i v i = some v := by simp [upd]
theorem upd_ne (m : Nat → Option Value) {i j : Nat} (v : Value) (h : j ≠ i) : upd m i v j = m j := by simp [upd, h]
/-- the frame when the operations that m knows have come up -/
def frameM (a0 : Act) (ops : Array Oper) (m : Nat → Option Value) : Act :=
  { tmps := a0.tmps.mapIdx fun k x => match ownerOf ops k with | some i => (m i).getD x | none => x, defers := a0.defers }

theorem ownerOf_spec {k i : Nat} (h : ownerOf ops k = some i) : ∃ o, ops[i]? = some o ∧ o.dst = some k := by
  unfold ownerOf at h
  have := List.find?_some h
  simp only [beq_iff_eq] at this
  cases ho : ops[i]? with
  | none => rw [ho] at this; cases this
  | some o => rw [ho] at this; exact ⟨o, rfl, this⟩

theorem regionOk_spec {n : Nat} (h : regionOk ops n = true) {i : Nat} {o : Oper} (ho : ops[i]? = some o) : (∀ d, o.dst = some d → ownerOf ops d = some i ∧ d < n) ∧ ∀ e ∈ o.after, Region.binds .any e = true → e.on < i := by
  have hi : i < ops.size := (Array.getElem?_eq_some_iff.1 ho).1
  have := List.all_eq_true.1 h i (List.mem_range.2 hi)
  rw [ho] at this
  simp only [Bool.and_eq_true, Array.all_eq_true_iff_forall_mem, Bool.or_eq_true, Bool.not_eq_true', decide_eq_true_eq] at this
  refine ⟨fun d hd => ?_, fun e he hb => ?_⟩
  · have h1 := this.1
    rw [hd] at h1
    simpa using h1
  · rcases this.2 e he with h | h
    · rw [hb] at h; cases h
    · exact h

theorem frameM_put {a0 : Act} {m : Nat → Option Value} (h : regionOk ops a0.tmps.size = true) {i : Nat} {o : Oper} (ho : ops[i]? = some o) (v : Value) :
    (frameM a0 ops m).put o.dst v = frameM a0 ops (upd m i v) := by
  obtain ⟨h1, _⟩ := regionOk_spec h ho
  cases hd : o.dst with
  | none =>
    unfold Act.put frameM
    simp only [Act.mk.injEq, and_true]
    apply Array.ext
    · simp
    · intro k hk1 hk2
      simp only [Array.getElem_mapIdx]
      cases hw : ownerOf ops k with
      | none => rfl
      | some j =>
        obtain ⟨o', ho', hd'⟩ := ownerOf_spec hw
        have hji : j ≠ i := by rintro rfl; rw [ho] at ho'; cases ho'; rw [hd] at hd'; cases hd'
        simp only [upd_ne m v hji]
  | some d =>
    obtain ⟨hw, hlt⟩ := h1 d hd
    unfold Act.put frameM
    simp only [Act.mk.injEq, and_true]
    apply Array.ext
    · simp
    · intro k hk1 hk2
      by_cases hkd : d = k
      · subst hkd
        simp [hw, upd_self]
      · rw [Array.getElem_setIfInBounds_ne (by simpa using hk1) hkd]
        simp only [Array.getElem_mapIdx]
        cases hw' : ownerOf ops k with
        | none => rfl
        | some j =>
          have hji : j ≠ i := by
            rintro rfl
            obtain ⟨o', ho', hd'⟩ := ownerOf_spec hw'
            rw [ho] at ho'; cases ho'; rw [hd] at hd'; cases hd'; exact hkd rfl
          simp only [upd_ne m v hji]

theorem frameM_none (a0 : Act) : frameM a0 ops (fun _ => none) = a0 := by
  cases a0 with
  | mk tmps defers =>
    unfold frameM
    simp only [Act.mk.injEq, and_true]
    apply Array.ext
    · simp
    · intro k hk1 hk2
      simp only [Array.getElem_mapIdx]
      cases ownerOf ops k <;> rfl

theorem eval_own {a0 : Act} {m : Nat → Option Value} {k i : Nat} {v : Value} (hw : ownerOf ops k = some i) (hv : m i = some v) (hk : k < a0.tmps.size) : (frameM a0 ops m).eval (.tmp k) = v := by
  simp [Act.eval, frameM, hk, hw, hv]
theorem eval_free {a0 : Act} {m : Nat → Option Value} {k : Nat} (hw : ownerOf ops k = none) : (frameM a0 ops m).eval (.tmp k) = a0.eval (.tmp k) := by
  by_cases hk : k < a0.tmps.size
  · simp [Act.eval, frameM, hk, hw]
  · simp [Act.eval, frameM, hk]

theorem tmps_own {a0 : Act} {m : Nat → Option Value} {k i : Nat} {v : Value} (hw : ownerOf ops k = some i) (hv : m i = some v) (hk : k < a0.tmps.size) : (frameM a0 ops m).tmps[k]?.getD undef = v := by
  simp [frameM, hk, hw, hv]
theorem tmps_free {a0 : Act} {m : Nat → Option Value} {k : Nat} (hw : ownerOf ops k = none) : (frameM a0 ops m).tmps[k]?.getD undef = a0.tmps[k]?.getD undef := by
  by_cases hk : k < a0.tmps.size
  · simp [frameM, hk, hw]
  · simp [frameM, hk]
theorem wp_region_inv {id : Nat} {a0 : Act} {w : World} {Q : Exit → Act → World → Prop} (hm : P.follows .mixedOrders = true) (hok : regionOk ops a0.tmps.size = true) (J : (Nat → Option Value) → World → Prop)
    (h0 : J (fun _ => none) w.drew)
    (hstep : ∀ i o, ops[i]? = some o → ∀ m w, J m w → m i = none → (∀ e ∈ o.after, Region.binds .any e = true → (m e.on).isSome = true) → 
      ∀ (A : Act) (K : Act → World → Prop), A = frameM a0 ops m → (∀ v w', J (upd m i v) w' → K (A.put o.dst v) w') → if Region.wanted o (yielded ops A.tmps) = true then o.wp P A w K Q else K (A.put o.dst undef) w)
    (hend : ∀ m w, J m w → (∀ i, i < ops.size → (m i).isSome = true) → Q .normal (frameM a0 ops m) w) :
    (Code.region id ops true).wp P Q a0 w := by
  refine wp_region_any hm ?_
  have key : ∀ (fuel : Nat) (listed : Array Bool) (m : Nat → Option Value) (w : World), J m w → listed.size = ops.size → (∀ i, i < ops.size → listed.getD i true = (m i).isSome) →
      ((List.range ops.size).filter fun i => (m i).isNone).length ≤ fuel → wpAny P .any ops Q fuel listed (frameM a0 ops m) w := by
    intro fuel
    induction fuel with
    | zero =>
      intro listed m w hJ hsz hl hc
      have hall : ∀ i, i < ops.size → (m i).isSome = true := by
        intro i hi
        have he : (List.range ops.size).filter (fun i => (m i).isNone) = [] := List.eq_nil_of_length_eq_zero (by omega)
        have := List.filter_eq_nil_iff.1 he i (List.mem_range.2 hi)
        cases hmi : m i with
        | none => rw [hmi] at this; exact absurd rfl this
        | some _ => rfl
      refine ⟨?_, hend m w hJ hall⟩
      apply List.eq_nil_iff_forall_not_mem.2
      intro j hj
      obtain ⟨hu, o, ho, _⟩ := mem_ready.1 hj
      have hjs : j < ops.size := (Array.getElem?_eq_some_iff.1 ho).1
      rw [hl j hjs, hall j hjs] at hu
      cases hu
    | succ fuel ih =>
      intro listed m w hJ hsz hl hc
      refine ⟨fun hr => hend m w hJ ?_, fun i hi => ?_⟩
      · -- nothing is ready: all have come up
        intro i
        induction i using Nat.strongRecOn with
        | ind i ihi =>
          intro hi
          cases hmi : m i with
          | some _ => rfl
          | none =>
            exfalso
            have ho : ops[i]? = some ops[i] := Array.getElem?_eq_getElem hi
            have : i ∈ Region.ready .any ops listed := by
              refine mem_ready.2 ⟨by rw [hl i hi, hmi]; rfl, ops[i], ho, fun e he hb => ?_⟩
              have hlt := (regionOk_spec hok ho).2 e he hb
              have h2 := ihi e.on hlt (by omega)
              have h3 := hl e.on (by omega)
              rw [h2] at h3
              have h4 : e.on < listed.size := by omega
              simp [Array.getD, h4] at h3 ⊢
              exact h3
            rw [hr] at this
            cases this
      · obtain ⟨hu, o, ho, hdeps⟩ := mem_ready.1 hi
        have his : i < ops.size := (Array.getElem?_eq_some_iff.1 ho).1
        have hmi : m i = none := by
          rw [hl i his] at hu
          cases hmi : m i with
          | none => rfl
          | some _ => rw [hmi] at hu; cases hu
        have hs := hstep i o ho m w hJ hmi (fun e he hb => by
          have h1 := hdeps e he hb
          have hlt := (regionOk_spec hok ho).2 e he hb
          have h2 := hl e.on (by omega)
          have h4 : e.on < listed.size := by omega
          simp [Array.getD, h4] at h1 h2
          rw [← h2]; exact h1)
        have next : ∀ v w', J (upd m i v) w' → wpAny P .any ops Q fuel (listed.setIfInBounds i true) ((frameM a0 ops m).put o.dst v) w' := by
          intro v w' hJ'
          rw [frameM_put hok ho]
          refine ih _ _ _ hJ' (by simpa using hsz) ?_ ?_
          · intro j hj
            by_cases hji : j = i
            · subst hji
              simp [upd_self, Array.getD, hsz, hj]
            · rw [upd_ne m v hji, ← hl j hj]
              exact getD_set_ne true (fun h => hji h.symm)
          · have hlt : ((List.range ops.size).filter fun j => (upd m i v j).isNone).length < ((List.range ops.size).filter fun j => (m j).isNone).length := by
              have hsub : (List.range ops.size).filter (fun j => (upd m i v j).isNone) = ((List.range ops.size).filter fun j => (m j).isNone).filter fun j => decide (j ≠ i) := by
                rw [List.filter_filter]
                apply List.filter_congr
                intro j _
                by_cases hji : j = i
                · subst hji; simp [upd_self]
                · simp [upd_ne m v hji, hji]
              rw [hsub]
              exact List.length_filter_lt_length_iff_exists.2 ⟨i, List.mem_filter.2 ⟨List.mem_range.2 his, by rw [hmi]; rfl⟩, by simp⟩
            omega
        unfold wpOp
        rw [ho]
        show if Region.wanted o (yielded ops (frameM a0 ops m).tmps) = true then _ else _
        have hs' := hs (frameM a0 ops m) (wpAny P .any ops Q fuel (listed.setIfInBounds i true)) rfl (fun v w' h => next v w' h)
        by_cases hw : Region.wanted o (yielded ops (frameM a0 ops m).tmps) = true
        · rw [if_pos hw] at hs' ⊢
          exact .inl hs'
        · rw [if_neg hw] at hs' ⊢
          exact hs'
  have h := key ops.size (Array.replicate ops.size false) (fun _ => none) w.drew h0 (by simp) (fun i hi => by simp [Array.getD, hi]) (Nat.le_trans (List.length_filter_le _ _) (by simp))
  rw [frameM_none] at h
  exact h

/-! ### Values that are determined -/
def Det (val : Nat → Option Value) (m : Nat → Option Value) : Prop := ∀ i v x, val i = some x → m i = some v → v = x
theorem Det.start (val : Nat → Option Value) : Det val (fun _ => none) := fun _ _ _ _ h => by cases h
theorem Det.up {val m : Nat → Option Value} (h : Det val m) {i : Nat} {v : Value} (hv : ∀ x, val i = some x → v = x) : Det val (upd m i v) := by
  intro j u x hx hu
  by_cases hj : j = i
  · subst hj
    rw [upd_self] at hu
    cases hu
    exact hv x hx
  · rw [upd_ne m v hj] at hu
    exact h j u x hx hu
theorem Det.get {val m : Nat → Option Value} (h : Det val m) {i : Nat} {x : Value} (hx : val i = some x) (hs : (m i).isSome = true) : m i = some x := by
  cases hm : m i with
  | none => rw [hm] at hs; cases hs
  | some v => rw [h i v x hx hm]


/-! ### The frame behind the region, written out -/
def putAll : Act → List Oper → List Value → Act
  | a, o :: os, v :: vs => putAll (a.put o.dst v) os vs
  | a, _, _ => a
theorem frameM_congr {a0 : Act} {m m' : Nat → Option Value} (h : ∀ i, i < ops.size → m i = m' i) : frameM a0 ops m = frameM a0 ops m' := by
  unfold frameM
  simp only [Act.mk.injEq, and_true]
  apply Array.ext
  · simp
  · intro k hk1 hk2
    simp only [Array.getElem_mapIdx]
    cases hw : ownerOf ops k with
    | none => rfl
    | some j =>
      obtain ⟨o, ho, _⟩ := ownerOf_spec hw
      simp only [h j (Array.getElem?_eq_some_iff.1 ho).1]
theorem putAll_frame {a0 : Act} (hok : regionOk ops a0.tmps.size = true) : ∀ (os : List Oper) (vs : List Value) (k : Nat) (m : Nat → Option Value), (∀ j, os[j]? = ops[k + j]?) → os.length = vs.length →
    putAll (frameM a0 ops m) os vs = frameM a0 ops (fun i => if k ≤ i ∧ i < k + vs.length then vs[i - k]? else m i) := by
  intro os
  induction os with
  | nil =>
    intro vs k m _ hl
    have : vs = [] := List.eq_nil_of_length_eq_zero hl.symm
    subst this
    show frameM a0 ops m = _
    congr 1
    funext i
    rw [if_neg (by simp)]
  | cons o os ih =>
    intro vs k m ho hl
    match vs, hl with
    | v :: vs, hl =>
      have h0 : ops[k]? = some o := by simpa using (ho 0).symm
      show putAll ((frameM a0 ops m).put o.dst v) os vs = _
      rw [frameM_put hok h0, ih vs (k + 1) _ (fun j => by have := ho (j + 1); simpa [Nat.add_assoc, Nat.add_comm 1 j] using this) (by simpa using hl)]
      congr 1
      funext i
      by_cases h1 : i = k
      · subst h1
        rw [if_neg (by omega), upd_self, if_pos ⟨Nat.le_refl _, by simp⟩]
        simp
      · by_cases h2 : k + 1 ≤ i ∧ i < k + 1 + vs.length
        · rw [if_pos h2, if_pos ⟨by omega, by simp; omega⟩]
          obtain ⟨d, rfl⟩ : ∃ d, i = k + 1 + d := ⟨i - (k + 1), by omega⟩
          rw [show k + 1 + d - (k + 1) = d by omega, show k + 1 + d - k = d + 1 by omega]
          rfl
        · rw [if_neg h2, upd_ne m v h1, if_neg (by simp; omega)]
theorem frameM_all {a0 : Act} {l : List Oper} (hok : regionOk l.toArray a0.tmps.size = true) {m : Nat → Option Value} (vs : List Value) (hl : l.length = vs.length) (h : ∀ i, i < l.length → m i = vs[i]?) :
    frameM a0 l.toArray m = putAll a0 l vs := by
  have := putAll_frame (ops := l.toArray) hok l vs 0 (fun _ => none) (fun j => by simp) hl
  rw [frameM_none] at this
  rw [this]
  exact frameM_congr fun i hi => by
    have hi' : i < l.length := by simpa using hi
    simp [h i hi', ← hl, hi']
end
end Go.Proofs.Ytcbeadldieeceaa

/-
  A region that draws its order and only reads and makes memory: what is said of each operation's value holds whatever comes behind it.
-/
namespace Go.Proofs.Ytcbeadldieeceaa
open Go.RowKit

section
variable {P : Program} {ops : Array Oper}

/-- what is said of each operation's value, by a list -/
def Says (Gs : List (Value → World → Prop)) (i : Nat) (v : Value) (W : World) : Prop := match Gs[i]? with
  | some p => p v W
  | none => True
def Stays (p : Value → World → Prop) : Prop := ∀ v W W', p v W → Below W.heap.size W W' → p v W'
theorem Stays.pure {q : Value → Prop} : Stays (fun v _ => q v) := fun _ _ _ h _ => h
theorem Stays.own (base : Nat) (e : TypeId) (size n : Nat) (xs : List Value) : Stays (fun v W => W.ownsRow base e size v n xs) := fun _ _ _ h hb => own_below h hb

theorem wp_region_good {id : Nat} {a0 : Act} {w : World} {Q : Exit → Act → World → Prop} (hm : P.follows .mixedOrders = true) (hok : regionOk ops a0.tmps.size = true) (Gs : List (Value → World → Prop)) (hst : ∀ p ∈ Gs, Stays p)
    (hstep : ∀ i o, ops[i]? = some o → ∀ (m : Nat → Option Value) (W : World), Below w.heap.size w W → (∀ e ∈ o.after, Region.binds .any e = true → ∃ v, m e.on = some v ∧ Says Gs e.on v W) →
      ∀ (A : Act) (K : Act → World → Prop), A = frameM a0 ops m → (∀ v W', Below W.heap.size W W' → Says Gs i v W' → K (A.put o.dst v) W') → if Region.wanted o (yielded ops A.tmps) = true then o.wp P A W K Q else K (A.put o.dst undef) W)
    (hend : ∀ (m : Nat → Option Value) (W : World), Below w.heap.size w W → (∀ i, i < ops.size → ∃ v, m i = some v ∧ Says Gs i v W) → Q .normal (frameM a0 ops m) W) :
    (Code.region id ops true).wp P Q a0 w := by
  have hsay : ∀ i v W W', Says Gs i v W → Below W.heap.size W W' → Says Gs i v W' := by
    intro i v W W' h hb
    unfold Says at h ⊢
    cases hG : Gs[i]? with
    | none => trivial
    | some p => rw [hG] at h; exact hst p (List.mem_of_getElem? hG) v W W' h hb
  refine wp_region_inv hm hok (fun m W => Below w.heap.size w W ∧ ∀ i v, m i = some v → Says Gs i v W) ⟨(Below.refl _ _).drew, fun _ _ h => by cases h⟩ ?_ ?_
  · intro i o ho m W hJ hmi hdeps A K hA hK
    refine hstep i o ho m W hJ.1 (fun e he hb => ?_) A K hA (fun v W' hb hS => hK v W' ⟨below_step hJ.1 hb, fun j u hu => ?_⟩)
    · have := hdeps e he hb
      cases hme : m e.on with
      | none => rw [hme] at this; cases this
      | some v => exact ⟨v, rfl, hJ.2 _ _ hme⟩
    · by_cases hj : j = i
      · subst hj
        rw [upd_self] at hu
        cases hu
        exact hS
      · rw [upd_ne m v hj] at hu
        exact hsay j u W W' (hJ.2 j u hu) hb
  · intro m W hJ hall
    refine hend m W hJ.1 fun i hi => ?_
    have := hall i hi
    cases hmi : m i with
    | none => rw [hmi] at this; cases this
    | some v => exact ⟨v, rfl, hJ.2 _ _ hmi⟩

/-- the same; each step is told besides that it has not come up, and that whatever has come up had all that it waits for -/
theorem wp_region_good2 {id : Nat} {a0 : Act} {w : World} {Q : Exit → Act → World → Prop} (hm : P.follows .mixedOrders = true) (hok : regionOk ops a0.tmps.size = true) (Gs : List (Value → World → Prop)) (hst : ∀ p ∈ Gs, Stays p)
    (hstep : ∀ i o, ops[i]? = some o → ∀ (m : Nat → Option Value) (W : World), Below w.heap.size w W → m i = none → (∀ j o', ops[j]? = some o' → (m j).isSome = true → ∀ e ∈ o'.after, Region.binds .any e = true → (m e.on).isSome = true) → (∀ e ∈ o.after, Region.binds .any e = true → ∃ v, m e.on = some v ∧ Says Gs e.on v W) →
      ∀ (A : Act) (K : Act → World → Prop), A = frameM a0 ops m → (∀ v W', Below W.heap.size W W' → Says Gs i v W' → K (A.put o.dst v) W') → if Region.wanted o (yielded ops A.tmps) = true then o.wp P A W K Q else K (A.put o.dst undef) W)
    (hend : ∀ (m : Nat → Option Value) (W : World), Below w.heap.size w W → (∀ i, i < ops.size → ∃ v, m i = some v ∧ Says Gs i v W) → Q .normal (frameM a0 ops m) W) :
    (Code.region id ops true).wp P Q a0 w := by
  have hsay : ∀ i v W W', Says Gs i v W → Below W.heap.size W W' → Says Gs i v W' := by
    intro i v W W' h hb
    unfold Says at h ⊢
    cases hG : Gs[i]? with
    | none => trivial
    | some p => rw [hG] at h; exact hst p (List.mem_of_getElem? hG) v W W' h hb
  refine wp_region_inv hm hok (fun m W => Below w.heap.size w W ∧ (∀ i v, m i = some v → Says Gs i v W) ∧ (∀ j o', ops[j]? = some o' → (m j).isSome = true → ∀ e ∈ o'.after, Region.binds .any e = true → (m e.on).isSome = true)) ⟨(Below.refl _ _).drew, fun _ _ h => (by cases h), fun _ _ _ h => (by cases h)⟩ ?_ ?_
  · intro i o ho m W hJ hmi hdeps A K hA hK
    refine hstep i o ho m W hJ.1 hmi hJ.2.2 (fun e he hb => ?_) A K hA (fun v W' hb hS => hK v W' ⟨below_step hJ.1 hb, fun j u hu => ?_, fun j o' ho' hj e he hbi => ?_⟩)
    · have := hdeps e he hb
      cases hme : m e.on with
      | none => rw [hme] at this; cases this
      | some v => exact ⟨v, rfl, hJ.2.1 _ _ hme⟩
    · by_cases hj : j = i
      · subst hj
        rw [upd_self] at hu
        cases hu
        exact hS
      · rw [upd_ne m v hj] at hu
        exact hsay j u W W' (hJ.2.1 j u hu) hb
    · by_cases hei : e.on = i
      · rw [hei, upd_self]; rfl
      · rw [upd_ne m v hei]
        by_cases hji : j = i
        · subst hji
          rw [ho] at ho'
          cases ho'
          exact hdeps e he hbi
        · rw [upd_ne m v hji] at hj
          exact hJ.2.2 j o' ho' hj e he hbi
  · intro m W hJ hall
    refine hend m W hJ.1 fun i hi => ?_
    have := hall i hi
    cases hmi : m i with
    | none => rw [hmi] at this; cases this
    | some v => exact ⟨v, rfl, hJ.2.1 _ _ hmi⟩
end
theorem none_up {ops : Array Oper} {m : Nat → Option Value} (hcl : ∀ j o', ops[j]? = some o' → (m j).isSome = true → ∀ e ∈ o'.after, Region.binds .any e = true → (m e.on).isSome = true) {j : Nat} {o : Oper} (ho : ops[j]? = some o) {e : Edge} (he : e ∈ o.after) (hb : Region.binds .any e = true) (hi : m e.on = none) : m j = none := by
  cases hj : m j with
  | none => rfl
  | some v =>
    have := hcl j o ho (by rw [hj]; rfl) e he hb
    rw [hi] at this
    cases this
theorem tmps_pre2 {ops : Array Oper} {a0 : Act} {m : Nat → Option Value} {k i : Nat} (hw : ownerOf ops k = some i) (hm : m i = none) : (frameM a0 ops m).tmps[k]?.getD undef = a0.tmps[k]?.getD undef := by
  by_cases hk : k < a0.tmps.size <;> simp [frameM, hk, hw, hm]
theorem stays_nil : ∀ p ∈ ([] : List (Value → World → Prop)), Stays p := fun _ h => by cases h
theorem stays_cons {p : Value → World → Prop} {l : List (Value → World → Prop)} (hp : Stays p) (hl : ∀ q ∈ l, Stays q) : ∀ q ∈ p :: l, Stays q := by
  intro q hq
  rcases List.mem_cons.1 hq with rfl | h
  · exact hp
  · exact hl q h
theorem own_lit (W : World) (cs : Array Value) (T : TypeId) (n : Nat) (h : cs.size = n) (hm : n ≤ maxLen) : (W.alloc (.cells cs T)).ownsRow W.heap.size T 1 (.slice (some ⟨W.heap.size, 0, none⟩) n n) n cs.toList := by
  subst h
  refine ⟨by simp, .inr ⟨W.heap.size, cs.size, cs, rfl, Nat.le_refl _, heap_alloc_new W _, Nat.le_refl _, hm, by simp, ?_⟩⟩
  rw [Nat.mul_one, List.take_of_length_le (by simp)]
end Go.Proofs.Ytcbeadldieeceaa

/-
  Pieces that are joined: what holds of a slice of bytes as long as nobody writes it; a literal list of them; Join of such.
-/
namespace Go.Proofs.Ytcbeadldieeceaa
open Go.RowKit

def PieceIn (n : Nat) (l : List UInt8) (v : Value) (W : World) : Prop := n = l.length ∧ ∃ A c, v = .slice A n c ∧ n ≤ c ∧ c ≤ maxLen ∧ Reads W W.heap.size 1 A n (bts l)
theorem PieceIn.stays (n : Nat) (l : List UInt8) : Stays (PieceIn n l) := by
  rintro v W W' ⟨h1, A, c, h2, h3, h4, h5⟩ hb
  exact ⟨h1, A, c, h2, h3, h4, (h5.below hb).more hb.size⟩
theorem PieceIn.below {n : Nat} {l : List UInt8} {v : Value} {W W' : World} (h : PieceIn n l v W) (hb : Below W.heap.size W W') : PieceIn n l v W' := PieceIn.stays n l v W W' h hb
theorem PieceIn.own {n base : Nat} {l : List UInt8} {v : Value} {W : World} (h : W.ownsRow base 5 1 v n (bts l)) (hl : n = l.length) : PieceIn n l v W := by
  obtain ⟨A, c, rfl, h1, h2, h3⟩ := own_form h
  exact ⟨hl, A, c, rfl, h1, h2, h3⟩
theorem PieceIn.reads {n B c : Nat} {A : Option Addr} {l : List UInt8} {W : World} (h : Reads W B 1 A n (bts l)) (hB : B ≤ W.heap.size) (hc : n ≤ c) (hm : c ≤ maxLen) (hl : n = l.length) : PieceIn n l (.slice A n c) W :=
  ⟨hl, A, c, rfl, hc, hm, h.more hB⟩
theorem PieceIn.lit (W : World) (l : List UInt8) (n : Nat) (hl : n = l.length) (hm : n ≤ maxLen) (cs : Array Value) (T : TypeId) (hcs : cs.toList = bts l) : PieceIn n l (.slice (some ⟨W.heap.size, 0, none⟩) n n) (W.alloc (.cells cs T)) := by
  refine ⟨hl, _, _, rfl, Nat.le_refl _, hm, ?_⟩
  have hs : cs.size = n * 1 := by rw [← Array.length_toList, hcs, bts_length, hl, Nat.mul_one]
  have := Reads.lit W cs T (n := n) (size := 1) hs
  rw [hcs] at this
  exact this.more (by simp)
def AllIn (W : World) : List Value → List (List UInt8) → Prop
  | [], [] => True
  | y :: ys, l :: ls => PieceIn l.length l y W ∧ AllIn W ys ls
  | _, _ => False
theorem AllIn.below {W W' : World} (hb : Below W.heap.size W W') : ∀ (ys : List Value) (ls : List (List UInt8)), AllIn W ys ls → AllIn W' ys ls
  | [], [], _ => trivial
  | _ :: ys, _ :: ls, h => ⟨h.1.below hb, AllIn.below hb ys ls h.2⟩
  | [], _ :: _, h => h.elim
  | _ :: _, [], h => h.elim
def Pcs (ls : List (List UInt8)) (n : Nat) (v : Value) (W : World) : Prop := ∃ g ys, v = .slice (some ⟨g, 0, none⟩) n n ∧ Blk W g 27 (List.toArray ys) ∧ ys.length = n ∧ AllIn W ys ls
theorem Pcs.stays (ls : List (List UInt8)) (n : Nat) : Stays (Pcs ls n) := by
  rintro v W W' ⟨g, ys, h1, h2, h3, h4⟩ hb
  exact ⟨g, ys, h1, h2.below hb h2.lt, h3, AllIn.below hb _ _ h4⟩
theorem Pcs.new {W : World} {ys : List Value} {ls : List (List UInt8)} {n : Nat} (hn : ys.length = n) (h : AllIn W ys ls) :
    Pcs ls n (.slice (some ⟨W.heap.size, 0, none⟩) n n) (W.alloc (.cells (List.toArray ys) 27)) := by
  have hb : Below W.heap.size W (W.alloc (.cells (List.toArray ys) 27)) := (Below.refl _ _).alloc (Nat.le_refl _) _
  exact ⟨_, ys, rfl, Blk.new _ _ _, hn, AllIn.below hb _ _ h⟩
theorem pieces_of {W : World} : ∀ (ys : List Value) (ls : List (List UInt8)), AllIn W ys ls → ∃ ps : List Piece, ys = ps.map Piece.val ∧ (∀ p ∈ ps, p.ok W W.heap.size) ∧ ps.map Piece.b = ls
  | [], [], _ => ⟨[], rfl, fun _ h => (by cases h), rfl⟩
  | [], _ :: _, h => h.elim
  | _ :: _, [], h => h.elim
  | y :: ys, l :: ls, h => by
    obtain ⟨ps, e1, e2, e3⟩ := pieces_of ys ls h.2
    obtain ⟨⟨_, A, c, rfl, _, _, hr⟩, _⟩ := h
    refine ⟨⟨A, c, l⟩ :: ps, by rw [e1]; rfl, ?_, by rw [List.map_cons, e3]⟩
    intro p hp
    rcases List.mem_cons.1 hp with rfl | hp
    · exact hr
    · exact e2 p hp
theorem join_pcs {W : World} {ls : List (List UInt8)} {n T g : Nat} {ys : List Value} (hb : Blk W g 27 (List.toArray ys)) (hn : ys.length = n) (hf : AllIn W ys ls) (hT : T = ls.flatten.length) (hn2 : n ≤ 1048576) (hT2 : T ≤ 140737488351232) :
    Calls Try.prog 61 #[.slice (some ⟨g, 0, none⟩) n n] W fun e w' => ∃ v, e = .returned v ∧ w'.ownsRow W.heap.size 5 1 v T (bts ls.flatten) ∧ Below W.heap.size W w' := by
  obtain ⟨ps, rfl, h1, h2⟩ := pieces_of ys ls hf
  have hc : catL ps = ls.flatten := by rw [← h2]; rfl
  have hs : T = sumL ps := by rw [hT, ← hc, catL_length]
  rw [← hc]
  have hl : ps.length = n := by simpa using hn
  have hr : Reads W W.heap.size 1 (some ⟨g, 0, none⟩) n (ps.map Piece.val) := (Reads.of_blk hb _ (by simp [hl]) (fun j u hu => by simpa using hu)).more (by have := hb.lt; omega)
  exact join_any ps n hl.symm _ _ W W.heap.size hr h1 (Nat.le_refl _) T hs hn2 hT2
end Go.Proofs.Ytcbeadldieeceaa

/-
  A running sum: four numbers.
-/
namespace Go.Proofs.Ytcbeadldieeceaa

structure Sm where
  a : Int
  b : Int
  c : Int
  d : Int
def Sm.val (s : Sm) : Value := .agg #[.int .u64 s.a, .int .u64 s.b, .int .u64 s.c, .int .u64 s.d]
structure Sm.ok (s : Sm) : Prop where
  a : 0 ≤ s.a ∧ s.a < 18446744073709551616
  b : 0 ≤ s.b ∧ s.b < 18446744073709551616
  c : 0 ≤ s.c ∧ s.c < 18446744073709551616
  d : 0 ≤ s.d ∧ s.d < 18446744073709551616
end Go.Proofs.Ytcbeadldieeceaa

/-
  fletch.Octets, by its contract.
-/
namespace Go.Proofs.Ytcbeadldieeceaa
open Go.RowKit

/-- the octets of four numbers -/
def octL (sa sb sc sd : Int) : List UInt8 := putL (IntKind.i64.wrap sa) 8 ++ (putL (IntKind.i64.wrap sb) 8 ++ (putL (IntKind.i64.wrap sc) 8 ++ putL (IntKind.i64.wrap sd) 8))
theorem octL_length (sa sb sc sd : Int) : (octL sa sb sc sd).length = 32 := by simp [octL, putL_length]
def Four (B0 : Nat) (sa sb sc sd : Int) (v : Value) (W : World) : Prop := ∃ g y0 y1 y2 y3, v = .slice (some ⟨g, 0, none⟩) 4 4 ∧ Blk W g 27 #[y0, y1, y2, y3] ∧
  W.ownsRow B0 5 1 y0 8 (bts (putL (IntKind.i64.wrap sa) 8)) ∧ W.ownsRow B0 5 1 y1 8 (bts (putL (IntKind.i64.wrap sb) 8)) ∧ W.ownsRow B0 5 1 y2 8 (bts (putL (IntKind.i64.wrap sc) 8)) ∧ W.ownsRow B0 5 1 y3 8 (bts (putL (IntKind.i64.wrap sd) 8))
theorem Four.stays (B0 : Nat) (sa sb sc sd : Int) : Stays (Four B0 sa sb sc sd) := by
  intro v W W' h hb
  obtain ⟨g, y0, y1, y2, y3, h1, h2, h3, h4, h5, h6⟩ := h
  exact ⟨g, y0, y1, y2, y3, h1, h2.below hb h2.lt, own_below h3 hb, own_below h4 hb, own_below h5 hb, own_below h6 hb⟩
theorem four_new {W : World} {B0 : Nat} {sa sb sc sd : Int} {y0 y1 y2 y3 : Value} (h0 : W.ownsRow B0 5 1 y0 8 (bts (putL (IntKind.i64.wrap sa) 8))) (h1 : W.ownsRow B0 5 1 y1 8 (bts (putL (IntKind.i64.wrap sb) 8)))
    (h2 : W.ownsRow B0 5 1 y2 8 (bts (putL (IntKind.i64.wrap sc) 8))) (h3 : W.ownsRow B0 5 1 y3 8 (bts (putL (IntKind.i64.wrap sd) 8))) :
    Four B0 sa sb sc sd (.slice (some ⟨W.heap.size, 0, none⟩) 4 4) (W.alloc (.cells #[y0, y1, y2, y3] 27)) := by
  have hb : Below W.heap.size W (W.alloc (.cells #[y0, y1, y2, y3] 27)) := (Below.refl _ _).alloc (Nat.le_refl _) _
  exact ⟨_, y0, y1, y2, y3, rfl, Blk.new _ _ _, own_below h0 hb, own_below h1 hb, own_below h2 hb, own_below h3 hb⟩
theorem own_piece {W : World} {B0 : Nat} {y : Value} {l : List UInt8} {n : Nat} (h : W.ownsRow B0 5 1 y n (bts l)) (hl : l.length = n) : ∃ p : Piece, p.val = y ∧ p.ok W W.heap.size ∧ p.b = l := by
  subst hl
  obtain ⟨A, c, rfl, _, _, hr⟩ := own_form h
  exact ⟨⟨A, c, l⟩, rfl, hr, rfl⟩
theorem join_four {W : World} {g B0 : Nat} {sa sb sc sd : Int} {y0 y1 y2 y3 : Value} (hb : Blk W g 27 #[y0, y1, y2, y3]) (h0 : W.ownsRow B0 5 1 y0 8 (bts (putL (IntKind.i64.wrap sa) 8))) (h1 : W.ownsRow B0 5 1 y1 8 (bts (putL (IntKind.i64.wrap sb) 8)))
    (h2 : W.ownsRow B0 5 1 y2 8 (bts (putL (IntKind.i64.wrap sc) 8))) (h3 : W.ownsRow B0 5 1 y3 8 (bts (putL (IntKind.i64.wrap sd) 8))) :
    Calls Try.prog 61 #[.slice (some ⟨g, 0, none⟩) 4 4] W fun e w' => ∃ v, e = .returned v ∧ w'.ownsRow W.heap.size 5 1 v 32 (bts (octL sa sb sc sd)) ∧ Below W.heap.size W w' := by
  obtain ⟨p0, rfl, k0, e0⟩ := own_piece h0 (putL_length _ _)
  obtain ⟨p1, rfl, k1, e1⟩ := own_piece h1 (putL_length _ _)
  obtain ⟨p2, rfl, k2, e2⟩ := own_piece h2 (putL_length _ _)
  obtain ⟨p3, rfl, k3, e3⟩ := own_piece h3 (putL_length _ _)
  have hr : Reads W W.heap.size 1 (some ⟨g, 0, none⟩) 4 ([p0, p1, p2, p3].map Piece.val) := (Reads.of_blk hb _ (by simp) (fun j u hu => by simpa using hu)).more (by have := hb.lt; omega)
  have hc : catL [p0, p1, p2, p3] = octL sa sb sc sd := by simp [catL, octL, e0, e1, e2, e3]
  have hs : sumL [p0, p1, p2, p3] = 32 := by rw [← catL_length, hc, octL_length]
  rw [← hc]
  exact join_any [p0, p1, p2, p3] 4 rfl _ _ W W.heap.size hr (by simp [k0, k1, k2, k3]) (Nat.le_refl _) 32 hs.symm (by omega) (by omega)

set_option maxRecDepth 100000 in
set_option maxHeartbeats 1000000 in
theorem octets_any (s : Sm) (w0 : World) :
    Calls Try.prog 83 #[s.val] w0 fun e w' => ∃ v, e = .returned v ∧ w'.ownsRow w0.heap.size 5 1 v 32 (bts (octL s.a s.b s.c s.d)) ∧ Below w0.heap.size w0 w' := by
  obtain ⟨sa, sb, sc, sd⟩ := s
  show Calls _ _ #[.agg #[.int .u64 sa, .int .u64 sb, .int .u64 sc, .int .u64 sd]] _ _
  go_enter Try.func83, Try.ntmps83
  go_wp2_with fail
  have hk := Blk.new w0 42 #[.int .u64 sa, .int .u64 sb, .int .u64 sc, .int .u64 sd]
  have hbel := (Below.refl w0.heap.size w0).alloc (Nat.le_refl _) (.cells #[.int .u64 sa, .int .u64 sb, .int .u64 sc, .int .u64 sd] 42)
  generalize w0.alloc (.cells #[.int .u64 sa, .int .u64 sb, .int .u64 sc, .int .u64 sd] 42) = w1 at hk hbel ⊢
  have hB0 : w0.heap.size ≤ w1.heap.size := hbel.size
  have hS := Lib.hid (fun (W' : World) (hB : Below w1.heap.size w1 W') => (by obtain ⟨d0, d1, d2, d3, _⟩ := blk4 (hk.below hB hk.lt); exact ⟨d0, d1, d2, d3⟩ :
    W'.cell? ⟨w0.heap.size, 0, none⟩ = some (.int .u64 sa) ∧ W'.cell? ⟨w0.heap.size, 1, none⟩ = some (.int .u64 sb) ∧ W'.cell? ⟨w0.heap.size, 2, none⟩ = some (.int .u64 sc) ∧ W'.cell? ⟨w0.heap.size, 3, none⟩ = some (.int .u64 sd)))
  clear hk
  refine wp_region_good (by kernel_rfl) (by kernel_rfl) [(fun v _ => v = .pointer (some ⟨w0.heap.size, 0, none⟩)),
    (fun v _ => v = .int .u64 sa),
    (fun v _ => v = .int .i64 (IntKind.i64.wrap sa)),
    (fun v W => W.ownsRow w0.heap.size 5 1 v 8 (bts (putL (IntKind.i64.wrap sa) 8))),
    (fun v _ => v = .pointer (some ⟨w0.heap.size, 1, none⟩)),
    (fun v _ => v = .int .u64 sb),
    (fun v _ => v = .int .i64 (IntKind.i64.wrap sb)),
    (fun v W => W.ownsRow w0.heap.size 5 1 v 8 (bts (putL (IntKind.i64.wrap sb) 8))),
    (fun v _ => v = .pointer (some ⟨w0.heap.size, 2, none⟩)),
    (fun v _ => v = .int .u64 sc),
    (fun v _ => v = .int .i64 (IntKind.i64.wrap sc)),
    (fun v W => W.ownsRow w0.heap.size 5 1 v 8 (bts (putL (IntKind.i64.wrap sc) 8))),
    (fun v _ => v = .pointer (some ⟨w0.heap.size, 3, none⟩)),
    (fun v _ => v = .int .u64 sd),
    (fun v _ => v = .int .i64 (IntKind.i64.wrap sd)),
    (fun v W => W.ownsRow w0.heap.size 5 1 v 8 (bts (putL (IntKind.i64.wrap sd) 8))),
    (fun v W => Four w0.heap.size sa sb sc sd v W),
    (fun v W => W.ownsRow w0.heap.size 5 1 v 32 (bts (octL sa sb sc sd))),
    (fun v W => W.ownsRow w0.heap.size 5 1 v 32 (bts (octL sa sb sc sd)))] ?_ ?_ ?_
  · repeat' (first | exact stays_nil | refine stays_cons ?_ ?_ | exact Stays.pure | exact Stays.own _ _ _ _ _ | exact Four.stays _ _ _ _ _)
  · intro i o ho m W hb0 hdeps AA KK hA hK
    rcases i with _ | _ | _ | _ | _ | _ | _ | _ | _ | _ | _ | _ | _ | _ | _ | _ | _ | _ | _ | i
    · injection ho with ho
      subst ho
      have ef1 : AA.tmps[1]?.getD undef = .pointer (some ⟨w0.heap.size, 0, none⟩) := by rw [hA]; exact tmps_free (by kernel_rfl)
      clear hA hdeps
      have hK0 : KK (AA.put (some 3) _) _ := hK (.pointer (some ⟨w0.heap.size, 0, none⟩)) _ (Below.refl _ _) (Eq.refl _)
      clear hK
      go_simp
      exact hK0
    · injection ho with ho
      subst ho
      obtain ⟨x0, hx0, hg0⟩ := hdeps ⟨0, .data⟩ (by simp) rfl
      have hg0 : x0 = .pointer (some ⟨w0.heap.size, 0, none⟩) := hg0
      subst hg0
      have e0 : AA.tmps[3]?.getD undef = .pointer (some ⟨w0.heap.size, 0, none⟩) := by rw [hA]; exact tmps_own (by kernel_rfl) hx0 (of_decide_eq_true (by kernel_rfl))
      clear hA hdeps hx0
      obtain ⟨c0, c1, c2, c3⟩ := hS.out W hb0
      have hK0 : KK (AA.put (some 4) _) _ := hK (.int .u64 sa) _ (Below.refl _ _) (Eq.refl _)
      clear hK
      go_simp
      exact hK0
    · injection ho with ho
      subst ho
      obtain ⟨x1, hx1, hg1⟩ := hdeps ⟨1, .data⟩ (by simp) rfl
      have hg1 : x1 = .int .u64 sa := hg1
      subst hg1
      have e1 : AA.tmps[4]?.getD undef = .int .u64 sa := by rw [hA]; exact tmps_own (by kernel_rfl) hx1 (of_decide_eq_true (by kernel_rfl))
      clear hA hdeps hx1
      have hK0 : KK (AA.put (some 5) _) _ := hK (.int .i64 (IntKind.i64.wrap sa)) _ (Below.refl _ _) (Eq.refl _)
      clear hK
      go_simp
      exact hK0
    · injection ho with ho
      subst ho
      obtain ⟨x2, hx2, hg2⟩ := hdeps ⟨2, .data⟩ (by simp) rfl
      have hg2 : x2 = .int .i64 (IntKind.i64.wrap sa) := hg2
      subst hg2
      have e2 : AA.tmps[5]?.getD undef = .int .i64 (IntKind.i64.wrap sa) := by rw [hA]; exact tmps_own (by kernel_rfl) hx2 (of_decide_eq_true (by kernel_rfl))
      clear hA hdeps hx2
      have hKK := Lib.hid hK
      clear hK
      go_simp
      refine (put_any (IntKind.i64.wrap sa) 8 8 (by decide) _).mono ?_
      rintro e w5 ⟨v, rfl, hown, hbn⟩
      exact hKK.out _ _ hbn (own_mono hown (Nat.le_trans hB0 hb0.size))
    · injection ho with ho
      subst ho
      have ef1 : AA.tmps[1]?.getD undef = .pointer (some ⟨w0.heap.size, 0, none⟩) := by rw [hA]; exact tmps_free (by kernel_rfl)
      clear hA hdeps
      have hK0 : KK (AA.put (some 7) _) _ := hK (.pointer (some ⟨w0.heap.size, 1, none⟩)) _ (Below.refl _ _) (Eq.refl _)
      clear hK
      go_simp
      exact hK0
    · injection ho with ho
      subst ho
      obtain ⟨x4, hx4, hg4⟩ := hdeps ⟨4, .data⟩ (by simp) rfl
      have hg4 : x4 = .pointer (some ⟨w0.heap.size, 1, none⟩) := hg4
      subst hg4
      have e4 : AA.tmps[7]?.getD undef = .pointer (some ⟨w0.heap.size, 1, none⟩) := by rw [hA]; exact tmps_own (by kernel_rfl) hx4 (of_decide_eq_true (by kernel_rfl))
      clear hA hdeps hx4
      obtain ⟨c0, c1, c2, c3⟩ := hS.out W hb0
      have hK0 : KK (AA.put (some 8) _) _ := hK (.int .u64 sb) _ (Below.refl _ _) (Eq.refl _)
      clear hK
      go_simp
      exact hK0
    · injection ho with ho
      subst ho
      obtain ⟨x5, hx5, hg5⟩ := hdeps ⟨5, .data⟩ (by simp) rfl
      have hg5 : x5 = .int .u64 sb := hg5
      subst hg5
      have e5 : AA.tmps[8]?.getD undef = .int .u64 sb := by rw [hA]; exact tmps_own (by kernel_rfl) hx5 (of_decide_eq_true (by kernel_rfl))
      clear hA hdeps hx5
      have hK0 : KK (AA.put (some 9) _) _ := hK (.int .i64 (IntKind.i64.wrap sb)) _ (Below.refl _ _) (Eq.refl _)
      clear hK
      go_simp
      exact hK0
    · injection ho with ho
      subst ho
      obtain ⟨x6, hx6, hg6⟩ := hdeps ⟨6, .data⟩ (by simp) rfl
      have hg6 : x6 = .int .i64 (IntKind.i64.wrap sb) := hg6
      subst hg6
      have e6 : AA.tmps[9]?.getD undef = .int .i64 (IntKind.i64.wrap sb) := by rw [hA]; exact tmps_own (by kernel_rfl) hx6 (of_decide_eq_true (by kernel_rfl))
      clear hA hdeps hx6
      have hKK := Lib.hid hK
      clear hK
      go_simp
      refine (put_any (IntKind.i64.wrap sb) 8 8 (by decide) _).mono ?_
      rintro e w5 ⟨v, rfl, hown, hbn⟩
      exact hKK.out _ _ hbn (own_mono hown (Nat.le_trans hB0 hb0.size))
    · injection ho with ho
      subst ho
      have ef1 : AA.tmps[1]?.getD undef = .pointer (some ⟨w0.heap.size, 0, none⟩) := by rw [hA]; exact tmps_free (by kernel_rfl)
      clear hA hdeps
      have hK0 : KK (AA.put (some 11) _) _ := hK (.pointer (some ⟨w0.heap.size, 2, none⟩)) _ (Below.refl _ _) (Eq.refl _)
      clear hK
      go_simp
      exact hK0
    · injection ho with ho
      subst ho
      obtain ⟨x8, hx8, hg8⟩ := hdeps ⟨8, .data⟩ (by simp) rfl
      have hg8 : x8 = .pointer (some ⟨w0.heap.size, 2, none⟩) := hg8
      subst hg8
      have e8 : AA.tmps[11]?.getD undef = .pointer (some ⟨w0.heap.size, 2, none⟩) := by rw [hA]; exact tmps_own (by kernel_rfl) hx8 (of_decide_eq_true (by kernel_rfl))
      clear hA hdeps hx8
      obtain ⟨c0, c1, c2, c3⟩ := hS.out W hb0
      have hK0 : KK (AA.put (some 12) _) _ := hK (.int .u64 sc) _ (Below.refl _ _) (Eq.refl _)
      clear hK
      go_simp
      exact hK0
    · injection ho with ho
      subst ho
      obtain ⟨x9, hx9, hg9⟩ := hdeps ⟨9, .data⟩ (by simp) rfl
      have hg9 : x9 = .int .u64 sc := hg9
      subst hg9
      have e9 : AA.tmps[12]?.getD undef = .int .u64 sc := by rw [hA]; exact tmps_own (by kernel_rfl) hx9 (of_decide_eq_true (by kernel_rfl))
      clear hA hdeps hx9
      have hK0 : KK (AA.put (some 13) _) _ := hK (.int .i64 (IntKind.i64.wrap sc)) _ (Below.refl _ _) (Eq.refl _)
      clear hK
      go_simp
      exact hK0
    · injection ho with ho
      subst ho
      obtain ⟨x10, hx10, hg10⟩ := hdeps ⟨10, .data⟩ (by simp) rfl
      have hg10 : x10 = .int .i64 (IntKind.i64.wrap sc) := hg10
      subst hg10
      have e10 : AA.tmps[13]?.getD undef = .int .i64 (IntKind.i64.wrap sc) := by rw [hA]; exact tmps_own (by kernel_rfl) hx10 (of_decide_eq_true (by kernel_rfl))
      clear hA hdeps hx10
      have hKK := Lib.hid hK
      clear hK
      go_simp
      refine (put_any (IntKind.i64.wrap sc) 8 8 (by decide) _).mono ?_
      rintro e w5 ⟨v, rfl, hown, hbn⟩
      exact hKK.out _ _ hbn (own_mono hown (Nat.le_trans hB0 hb0.size))
    · injection ho with ho
      subst ho
      have ef1 : AA.tmps[1]?.getD undef = .pointer (some ⟨w0.heap.size, 0, none⟩) := by rw [hA]; exact tmps_free (by kernel_rfl)
      clear hA hdeps
      have hK0 : KK (AA.put (some 15) _) _ := hK (.pointer (some ⟨w0.heap.size, 3, none⟩)) _ (Below.refl _ _) (Eq.refl _)
      clear hK
      go_simp
      exact hK0
    · injection ho with ho
      subst ho
      obtain ⟨x12, hx12, hg12⟩ := hdeps ⟨12, .data⟩ (by simp) rfl
      have hg12 : x12 = .pointer (some ⟨w0.heap.size, 3, none⟩) := hg12
      subst hg12
      have e12 : AA.tmps[15]?.getD undef = .pointer (some ⟨w0.heap.size, 3, none⟩) := by rw [hA]; exact tmps_own (by kernel_rfl) hx12 (of_decide_eq_true (by kernel_rfl))
      clear hA hdeps hx12
      obtain ⟨c0, c1, c2, c3⟩ := hS.out W hb0
      have hK0 : KK (AA.put (some 16) _) _ := hK (.int .u64 sd) _ (Below.refl _ _) (Eq.refl _)
      clear hK
      go_simp
      exact hK0
    · injection ho with ho
      subst ho
      obtain ⟨x13, hx13, hg13⟩ := hdeps ⟨13, .data⟩ (by simp) rfl
      have hg13 : x13 = .int .u64 sd := hg13
      subst hg13
      have e13 : AA.tmps[16]?.getD undef = .int .u64 sd := by rw [hA]; exact tmps_own (by kernel_rfl) hx13 (of_decide_eq_true (by kernel_rfl))
      clear hA hdeps hx13
      have hK0 : KK (AA.put (some 17) _) _ := hK (.int .i64 (IntKind.i64.wrap sd)) _ (Below.refl _ _) (Eq.refl _)
      clear hK
      go_simp
      exact hK0
    · injection ho with ho
      subst ho
      obtain ⟨x14, hx14, hg14⟩ := hdeps ⟨14, .data⟩ (by simp) rfl
      have hg14 : x14 = .int .i64 (IntKind.i64.wrap sd) := hg14
      subst hg14
      have e14 : AA.tmps[17]?.getD undef = .int .i64 (IntKind.i64.wrap sd) := by rw [hA]; exact tmps_own (by kernel_rfl) hx14 (of_decide_eq_true (by kernel_rfl))
      clear hA hdeps hx14
      have hKK := Lib.hid hK
      clear hK
      go_simp
      refine (put_any (IntKind.i64.wrap sd) 8 8 (by decide) _).mono ?_
      rintro e w5 ⟨v, rfl, hown, hbn⟩
      exact hKK.out _ _ hbn (own_mono hown (Nat.le_trans hB0 hb0.size))
    · injection ho with ho
      subst ho
      obtain ⟨x3, hx3, hg3⟩ := hdeps ⟨3, .data⟩ (by simp) rfl
      have hg3 : W.ownsRow w0.heap.size 5 1 x3 8 (bts (putL (IntKind.i64.wrap sa) 8)) := hg3
      have e3 : AA.tmps[6]?.getD undef = x3 := by rw [hA]; exact tmps_own (by kernel_rfl) hx3 (of_decide_eq_true (by kernel_rfl))
      obtain ⟨x7, hx7, hg7⟩ := hdeps ⟨7, .data⟩ (by simp) rfl
      have hg7 : W.ownsRow w0.heap.size 5 1 x7 8 (bts (putL (IntKind.i64.wrap sb) 8)) := hg7
      have e7 : AA.tmps[10]?.getD undef = x7 := by rw [hA]; exact tmps_own (by kernel_rfl) hx7 (of_decide_eq_true (by kernel_rfl))
      obtain ⟨x11, hx11, hg11⟩ := hdeps ⟨11, .data⟩ (by simp) rfl
      have hg11 : W.ownsRow w0.heap.size 5 1 x11 8 (bts (putL (IntKind.i64.wrap sc) 8)) := hg11
      have e11 : AA.tmps[14]?.getD undef = x11 := by rw [hA]; exact tmps_own (by kernel_rfl) hx11 (of_decide_eq_true (by kernel_rfl))
      obtain ⟨x15, hx15, hg15⟩ := hdeps ⟨15, .data⟩ (by simp) rfl
      have hg15 : W.ownsRow w0.heap.size 5 1 x15 8 (bts (putL (IntKind.i64.wrap sd) 8)) := hg15
      have e15 : AA.tmps[18]?.getD undef = x15 := by rw [hA]; exact tmps_own (by kernel_rfl) hx15 (of_decide_eq_true (by kernel_rfl))
      clear hA hdeps hx3 hx7 hx11 hx15
      obtain ⟨A3, c3, rfl, _, _, _⟩ := own_form hg3
      obtain ⟨A7, c7, rfl, _, _, _⟩ := own_form hg7
      obtain ⟨A11, c11, rfl, _, _, _⟩ := own_form hg11
      obtain ⟨A15, c15, rfl, _, _, _⟩ := own_form hg15
      have hK0 : KK (AA.put (some 19) _) _ := hK _ _ ((Below.refl _ _).alloc (Nat.le_refl _) _) (four_new hg3 hg7 hg11 hg15)
      clear hK
      go_simp
      exact hK0
    · injection ho with ho
      subst ho
      obtain ⟨x16, hx16, hg16⟩ := hdeps ⟨16, .data⟩ (by simp) rfl
      have hg16 : Four w0.heap.size sa sb sc sd x16 W := hg16
      have hk16 := hg16
      obtain ⟨g, y0, y1, y2, y3, rfl, hblk, ho0, ho1, ho2, ho3⟩ := hg16
      have e16 : AA.tmps[19]?.getD undef = .slice (some ⟨g, 0, none⟩) 4 4 := by rw [hA]; exact tmps_own (by kernel_rfl) hx16 (of_decide_eq_true (by kernel_rfl))
      clear hA hdeps hx16
      have hKK := Lib.hid hK
      clear hK
      go_simp
      refine (join_four hblk ho0 ho1 ho2 ho3).mono ?_
      rintro e w5 ⟨v, rfl, hown, hbn⟩
      exact hKK.out _ _ hbn (own_mono hown (Nat.le_trans hB0 hb0.size))
    · injection ho with ho
      subst ho
      obtain ⟨x17, hx17, hg17⟩ := hdeps ⟨17, .data⟩ (by simp) rfl
      have hg17 : W.ownsRow w0.heap.size 5 1 x17 32 (bts (octL sa sb sc sd)) := hg17
      have e17 : AA.tmps[20]?.getD undef = x17 := by rw [hA]; exact tmps_own (by kernel_rfl) hx17 (of_decide_eq_true (by kernel_rfl))
      clear hA hdeps hx17
      have hK0 : KK (AA.put (some 2) _) _ := hK _ _ (Below.refl _ _) hg17
      clear hK
      go_simp
      exact hK0
    · simp at ho
  · intro m W hbx hall
    obtain ⟨x0, m0, g0⟩ := hall 0 (by simp)
    have g0 : x0 = .pointer (some ⟨w0.heap.size, 0, none⟩) := g0
    subst g0
    obtain ⟨x1, m1, g1⟩ := hall 1 (by simp)
    have g1 : x1 = .int .u64 sa := g1
    subst g1
    obtain ⟨x2, m2, g2⟩ := hall 2 (by simp)
    have g2 : x2 = .int .i64 (IntKind.i64.wrap sa) := g2
    subst g2
    obtain ⟨x3, m3, g3⟩ := hall 3 (by simp)
    have g3 : W.ownsRow w0.heap.size 5 1 x3 8 (bts (putL (IntKind.i64.wrap sa) 8)) := g3
    obtain ⟨x4, m4, g4⟩ := hall 4 (by simp)
    have g4 : x4 = .pointer (some ⟨w0.heap.size, 1, none⟩) := g4
    subst g4
    obtain ⟨x5, m5, g5⟩ := hall 5 (by simp)
    have g5 : x5 = .int .u64 sb := g5
    subst g5
    obtain ⟨x6, m6, g6⟩ := hall 6 (by simp)
    have g6 : x6 = .int .i64 (IntKind.i64.wrap sb) := g6
    subst g6
    obtain ⟨x7, m7, g7⟩ := hall 7 (by simp)
    have g7 : W.ownsRow w0.heap.size 5 1 x7 8 (bts (putL (IntKind.i64.wrap sb) 8)) := g7
    obtain ⟨x8, m8, g8⟩ := hall 8 (by simp)
    have g8 : x8 = .pointer (some ⟨w0.heap.size, 2, none⟩) := g8
    subst g8
    obtain ⟨x9, m9, g9⟩ := hall 9 (by simp)
    have g9 : x9 = .int .u64 sc := g9
    subst g9
    obtain ⟨x10, m10, g10⟩ := hall 10 (by simp)
    have g10 : x10 = .int .i64 (IntKind.i64.wrap sc) := g10
    subst g10
    obtain ⟨x11, m11, g11⟩ := hall 11 (by simp)
    have g11 : W.ownsRow w0.heap.size 5 1 x11 8 (bts (putL (IntKind.i64.wrap sc) 8)) := g11
    obtain ⟨x12, m12, g12⟩ := hall 12 (by simp)
    have g12 : x12 = .pointer (some ⟨w0.heap.size, 3, none⟩) := g12
    subst g12
    obtain ⟨x13, m13, g13⟩ := hall 13 (by simp)
    have g13 : x13 = .int .u64 sd := g13
    subst g13
    obtain ⟨x14, m14, g14⟩ := hall 14 (by simp)
    have g14 : x14 = .int .i64 (IntKind.i64.wrap sd) := g14
    subst g14
    obtain ⟨x15, m15, g15⟩ := hall 15 (by simp)
    have g15 : W.ownsRow w0.heap.size 5 1 x15 8 (bts (putL (IntKind.i64.wrap sd) 8)) := g15
    obtain ⟨x16, m16, g16⟩ := hall 16 (by simp)
    have g16 : Four w0.heap.size sa sb sc sd x16 W := g16
    obtain ⟨x17, m17, g17⟩ := hall 17 (by simp)
    have g17 : W.ownsRow w0.heap.size 5 1 x17 32 (bts (octL sa sb sc sd)) := g17
    obtain ⟨x18, m18, g18⟩ := hall 18 (by simp)
    have g18 : W.ownsRow w0.heap.size 5 1 x18 32 (bts (octL sa sb sc sd)) := g18
    rw [frameM_all (by kernel_rfl) [.pointer (some ⟨w0.heap.size, 0, none⟩), .int .u64 sa, .int .i64 (IntKind.i64.wrap sa), x3, .pointer (some ⟨w0.heap.size, 1, none⟩), .int .u64 sb, .int .i64 (IntKind.i64.wrap sb), x7, .pointer (some ⟨w0.heap.size, 2, none⟩), .int .u64 sc, .int .i64 (IntKind.i64.wrap sc), x11, .pointer (some ⟨w0.heap.size, 3, none⟩), .int .u64 sd, .int .i64 (IntKind.i64.wrap sd), x15, x16, x17, x18] rfl (fun i hi => by
        rcases i with _ | _ | _ | _ | _ | _ | _ | _ | _ | _ | _ | _ | _ | _ | _ | _ | _ | _ | _ | i
        · exact m0
        · exact m1
        · exact m2
        · exact m3
        · exact m4
        · exact m5
        · exact m6
        · exact m7
        · exact m8
        · exact m9
        · exact m10
        · exact m11
        · exact m12
        · exact m13
        · exact m14
        · exact m15
        · exact m16
        · exact m17
        · exact m18
        · simp at hi; omega)]
    clear hall m0 m1 m2 m3 m4 m5 m6 m7 m8 m9 m10 m11 m12 m13 m14 m15 m16 m17 m18
    simp only [putAll, Act.put, List.setIfInBounds_toArray, List.set_cons_succ, List.set_cons_zero]
    repeat go_step
    go_ret
    exact ⟨_, rfl, g18, hbel.trans (hbx.mono hB0)⟩
end Go.Proofs.Ytcbeadldieeceaa

/-
  fletch.Read, by its contract.
-/
namespace Go.Proofs.Ytcbeadldieeceaa
open Go.RowKit

set_option maxRecDepth 100000 in
theorem big_any (b : List UInt8) (n : Nat) (hnb : n = b.length) (h8 : n ≤ 8) (A : Option Addr) (c : Nat) (w : World) (B : Nat) (hr : Reads w B 1 A n (bts b)) :
    Calls Try.prog 88 #[.slice A n c] w fun e w' => e = .returned (.int .u64 (numN b : Int)) ∧ w = w' := by
  subst hnb
  have e8 : (b.length : Int) ≤ 8 := by omega
  go_enter Try.func88, Try.ntmps88
  go_wp2_with fail
  go_loop [3, 8] (fun n i => ∃ k m : Nat, k ≤ b.length ∧ i = .int .i64 (k : Int) ∧ n = .int .u64 (m : Int) ∧ Hid (m = numN (b.take k))) (fun _ i => b.length - (intOf i).toNat)
  case atStart => exact ⟨0, 0, Nat.zero_le _, rfl, rfl, (show _ = _ by simp [numN])⟩
  case round =>
    obtain ⟨k, m, hk, rfl, rfl, hm⟩ := hrel
    by_cases hlt : k < b.length
    · obtain ⟨ad, u, rfl, _, hu, hcu⟩ := hr.at_ (by omega : k < b.length)
      obtain rfl : u = .int .u8 ((b[k]).toNat : Int) := by rw [bts_get, List.getElem?_eq_getElem hlt] at hu; simpa using hu.symm
      have hm7 : m < 72057594037927936 := by have h1 := numN_take_lt b k hk; have h2 := pow_le8 (k := k) (by omega); rw [← hm.out] at h1; omega
      have hy := (b[k]).toNat_lt
      obtain ⟨y, hyy⟩ : ∃ y, y = (b[k]).toNat := ⟨_, rfl⟩
      rw [← hyy] at hcu hy
      have HY := Lib.hid hyy
      clear hyy hu hr
      go_wp2_with fail
      go_round
      case rel => exact ⟨k + 1, m * 256 + y, by omega, by go_num, by rw [or_u64 m y hm7 hy], (show _ = _ by rw [numN_take b k hlt, hm.out, HY.out])⟩
      case measure => simp [intOf]; omega
    · obtain rfl : k = b.length := by omega
      rw [List.take_length] at hm
      have hml : m < 18446744073709551616 := by
        have h1 := numN_lt b
        have h2 : 256 ^ b.length ≤ 256 ^ 8 := Nat.pow_le_pow_right (by omega) (by omega)
        have h3 : (256 : Nat) ^ 8 = 18446744073709551616 := by decide
        rw [hm.out]; omega
      clear hr
      go_wp2_with fail
      go_ret
      exact ⟨by rw [hm.out]; rfl, rfl⟩

/-- the eight octets at place k -/
def octAt (b : List UInt8) (k : Nat) : Nat := numN ((b.drop (8 * k)).take 8)
def readS (b : List UInt8) : Sm := if b.length = 32 then ⟨octAt b 0, octAt b 1, octAt b 2, octAt b 3⟩ else ⟨0, 0, 0, 0⟩
def readE (b : List UInt8) : Int := if b.length < 32 then 8 else if 32 < b.length then 5 else 0

set_option maxRecDepth 100000 in
theorem read_any (b : List UInt8) (n : Nat) (hnb : n = b.length) (A : Option Addr) (c : Nat) (w : World) (B : Nat) (hr : Reads w B 1 A n (bts b)) (hB : B ≤ w.heap.size) (hc : n ≤ c) (hn : c ≤ 9223372036854775807) :
    Calls Try.prog 67 #[.slice A n c] w fun e w' => e = .returned (.tuple #[(readS b).val, .int .i64 (readE b)]) ∧ Below w.heap.size w w' := by
  subst hnb
  by_cases h1 : b.length < 32
  · have hi : (b.length : Int) < 32 := by omega
    have ev : (readS b).val = .agg #[.int .u64 0, .int .u64 0, .int .u64 0, .int .u64 0] := by simp only [readS]; rw [if_neg (by omega)]; rfl
    have ee : readE b = 8 := by simp [readE, h1]
    rw [ev, ee]
    go_enter Try.func67, Try.ntmps67
    go_wp2_with fail
    refine bodyPost_ret (v := .tuple #[.agg #[.int .u64 0, .int .u64 0, .int .u64 0, .int .u64 0], .int .i64 8]) (by simp [results, Try.results67, go_sem]) rfl ⟨rfl, (Below.refl _ _).alloc (Nat.le_refl _) _⟩
  by_cases h2 : 32 < b.length
  · have hi : ¬ (b.length : Int) < 32 := by omega
    have hi2 : (32 : Int) < (b.length : Int) := by omega
    have ev : (readS b).val = .agg #[.int .u64 0, .int .u64 0, .int .u64 0, .int .u64 0] := by simp only [readS]; rw [if_neg (by omega)]; rfl
    have ee : readE b = 5 := by simp [readE, h1, h2]
    rw [ev, ee]
    go_enter Try.func67, Try.ntmps67
    go_wp2_with fail
    refine bodyPost_ret (v := .tuple #[.agg #[.int .u64 0, .int .u64 0, .int .u64 0, .int .u64 0], .int .i64 5]) (by simp [results, Try.results67, go_sem]) rfl ⟨rfl, (Below.refl _ _).alloc (Nat.le_refl _) _⟩
  obtain hb : b.length = 32 := by omega
  obtain ⟨ad, rfl, _, _⟩ := hr.2 (by omega)
  have hget : ∀ k, k < 4 → Reads w B 1 (some (ad.add (8 * k))) 8 (bts ((b.drop (8 * k)).take 8)) := fun k hk => by
    have h1 := hr.cut (k := 8 * k) (cap := c) (by omega) hc
    rw [if_neg (by omega), ← Nat.mul_one (8 * k)] at h1
    simp only [Nat.mul_one, Option.map_some] at h1
    have h2 := h1.pre (k := 8) (by omega)
    rw [Nat.mul_one, ← bts_drop, ← bts_take] at h2
    exact h2
  have hlen : ∀ k, k < 4 → 8 = ((b.drop (8 * k)).take 8).length := fun k hk => by simp; omega
  obtain ⟨n0, hn0⟩ : ∃ n : Nat, n = octAt b 0 := ⟨_, rfl⟩
  obtain ⟨n1, hn1⟩ : ∃ n : Nat, n = octAt b 1 := ⟨_, rfl⟩
  obtain ⟨n2, hn2⟩ : ∃ n : Nat, n = octAt b 2 := ⟨_, rfl⟩
  obtain ⟨n3, hn3⟩ : ∃ n : Nat, n = octAt b 3 := ⟨_, rfl⟩
  have k0 : ∀ (W : World) (c' : Nat), Below w.heap.size w W → Calls Try.prog 88 #[.slice (some ad) 8 c'] W fun e w' => e = .returned (.int .u64 (n0 : Int)) ∧ W = w' := fun W c' hb => by
    have := big_any _ 8 (hlen 0 (by omega)) (by omega) _ c' W B ((hget 0 (by omega)).below (hb.mono hB))
    rw [hn0]; simpa [add_zero, octAt] using this
  have k1 : ∀ (W : World) (c' : Nat), Below w.heap.size w W → Calls Try.prog 88 #[.slice (some (ad.add 8)) 8 c'] W fun e w' => e = .returned (.int .u64 (n1 : Int)) ∧ W = w' := fun W c' hb => by
    rw [hn1]; exact big_any _ 8 (hlen 1 (by omega)) (by omega) _ c' W B ((hget 1 (by omega)).below (hb.mono hB))
  have k2 : ∀ (W : World) (c' : Nat), Below w.heap.size w W → Calls Try.prog 88 #[.slice (some (ad.add 16)) 8 c'] W fun e w' => e = .returned (.int .u64 (n2 : Int)) ∧ W = w' := fun W c' hb => by
    rw [hn2]; exact big_any _ 8 (hlen 2 (by omega)) (by omega) _ c' W B ((hget 2 (by omega)).below (hb.mono hB))
  have k3 : ∀ (W : World) (c' : Nat), Below w.heap.size w W → Calls Try.prog 88 #[.slice (some (ad.add 24)) 8 c'] W fun e w' => e = .returned (.int .u64 (n3 : Int)) ∧ W = w' := fun W c' hb => by
    rw [hn3]; exact big_any _ 8 (hlen 3 (by omega)) (by omega) _ c' W B ((hget 3 (by omega)).below (hb.mono hB))
  have ev : (readS b).val = .agg #[.int .u64 n0, .int .u64 n1, .int .u64 n2, .int .u64 n3] := by simp only [readS]; rw [if_pos hb, hn0, hn1, hn2, hn3]; rfl
  have ee : readE b = 0 := by simp [readE, hb]
  rw [ev, ee]
  rw [hb] at hc
  have hcc : (32 : Int) ≤ (c : Int) := by omega
  rw [hb]
  clear hb ev ee h1 h2 hn0 hn1 hn2 hn3 hget hlen hr
  go_enter Try.func67, Try.ntmps67
  go_wp2_with fail
  refine wp_loop_rounds 5 ?_
  rw [rounds_succ]; go_wp2_with fail
  refine (k0 _ _ (by go_grown)).mono ?_
  rintro e w1 ⟨rfl, rfl⟩
  go_wp2_with fail
  rw [rounds_succ]; go_wp2_with fail
  refine (k1 _ _ (by go_grown)).mono ?_
  rintro e w1 ⟨rfl, rfl⟩
  go_wp2_with fail
  rw [rounds_succ]; go_wp2_with fail
  refine (k2 _ _ (by go_grown)).mono ?_
  rintro e w1 ⟨rfl, rfl⟩
  go_wp2_with fail
  rw [rounds_succ]; go_wp2_with fail
  refine (k3 _ _ (by go_grown)).mono ?_
  rintro e w1 ⟨rfl, rfl⟩
  go_wp2_with fail
  rw [rounds_succ]; go_wp2_with fail
  refine bodyPost_ret (v := .tuple #[.agg #[.int .u64 n0, .int .u64 n1, .int .u64 n2, .int .u64 n3], .int .i64 0]) (by simp [results, Try.results67, go_sem]) rfl ⟨rfl, by go_grown⟩
end Go.Proofs.Ytcbeadldieeceaa
