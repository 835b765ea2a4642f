/-
  A region that draws its order, with calls that make rows of bytes and appends that may write in them.
-/
import Derived.Test.YthfjfkjlgdnohaaZ2
namespace Go.Proofs.Ythfjfkjlgdnohaa
open Go.RowKit

def Live (user : Nat → Option Nat) (m : Nat → Option Value) (j : Nat) : Prop := ∀ u, user j = some u → m u = none
structure RowsJ (w : World) (val : Nat → Option Value) (row : Nat → Option (Nat × List UInt8)) (user : Nat → Option Nat) (m : Nat → Option Value) (W : World) : Prop where
  bel : Below w.heap.size w W
  det : Det val m
  own : ∀ i v r, m i = some v → row i = some r → Live user m i → W.ownsRow w.heap.size 5 1 v r.1 (bts r.2)
  sep : ∀ i j vi vj ri rj, i ≠ j → m i = some vi → m j = some vj → row i = some ri → row j = some rj → Live user m i → Live user m j → ∀ k, vi.ownBlock = some k → vj.ownBlock ≠ some k
section
variable {w W W' : World} {val : Nat → Option Value} {row : Nat → Option (Nat × List UInt8)} {user : Nat → Option Nat} {m : Nat → Option Value}
theorem Live.of_upd {i j : Nat} {v : Value} (h : Live user (upd m i v) j) : Live user m j ∧ user j ≠ some i := by
  refine ⟨fun u hu => ?_, fun hu => ?_⟩
  · have := h u hu
    by_cases he : u = i
    · subst he; rw [upd_self] at this; cases this
    · rwa [upd_ne m v he] at this
  · have := h i hu
    rw [upd_self] at this
    cases this
theorem RowsJ.start : RowsJ w val row user (fun _ => none) w.drew := ⟨(Below.refl _ _).drew, Det.start _, fun _ _ _ h => (by cases h), fun _ _ _ _ _ _ _ h => (by cases h)⟩
theorem RowsJ.pure (h : RowsJ w val row user m W) (hb : Below W.heap.size W W') {i : Nat} {v : Value} (hi : row i = none) (hv : ∀ x, val i = some x → v = x) : RowsJ w val row user (upd m i v) W' := by
  refine ⟨below_step h.bel hb, h.det.up hv, ?_, ?_⟩
  · intro j u r hm hr hl
    have hj : j ≠ i := by rintro rfl; rw [hi] at hr; cases hr
    rw [upd_ne m v hj] at hm
    exact own_below (h.own j u r hm hr hl.of_upd.1) hb
  · intro j k vj vk rj rk hne hmj hmk hrj hrk hlj hlk
    have h1 : j ≠ i := by rintro rfl; rw [hi] at hrj; cases hrj
    have h2 : k ≠ i := by rintro rfl; rw [hi] at hrk; cases hrk
    rw [upd_ne m v h1] at hmj
    rw [upd_ne m v h2] at hmk
    exact h.sep j k vj vk rj rk hne hmj hmk hrj hrk hlj.of_upd.1 hlk.of_upd.1
theorem RowsJ.new (h : RowsJ w val row user m W) (hb : Below W.heap.size W W') {i : Nat} {v : Value} {r : Nat × List UInt8} (hi : row i = some r) (hv : val i = none) (ho : W'.ownsRow W.heap.size 5 1 v r.1 (bts r.2)) : RowsJ w val row user (upd m i v) W' := by
  have hfar : ∀ j vj rj, m j = some vj → row j = some rj → Live user m j → ∀ k, vj.ownBlock = some k → k < W.heap.size := fun j vj rj h1 h2 h3 k hk => ((h.own j vj rj h1 h2 h3).lt k hk).2
  refine ⟨below_step h.bel hb, h.det.up (fun x hx => by rw [hv] at hx; cases hx), ?_, ?_⟩
  · intro j u rj hm hr hl
    by_cases hj : j = i
    · subst hj
      rw [upd_self] at hm
      cases hm
      rw [hi] at hr
      cases hr
      exact own_mono ho h.bel.size
    · rw [upd_ne m v hj] at hm
      exact own_below (h.own j u rj hm hr hl.of_upd.1) hb
  · intro j k vj vk rj rk hne hmj hmk hrj hrk hlj hlk x hx hx2
    by_cases hj : j = i
    · subst hj
      rw [upd_self] at hmj
      cases hmj
      rw [upd_ne m _ (fun e => hne e.symm)] at hmk
      have h1 := (ho.lt x hx).1
      have h2 := hfar k vk rk hmk hrk hlk.of_upd.1 x hx2
      omega
    · rw [upd_ne m v hj] at hmj
      by_cases hk : k = i
      · subst hk
        rw [upd_self] at hmk
        cases hmk
        have h1 := (ho.lt x hx2).1
        have h2 := hfar j vj rj hmj hrj hlj.of_upd.1 x hx
        omega
      · rw [upd_ne m v hk] at hmk
        exact h.sep j k vj vk rj rk hne hmj hmk hrj hrk hlj.of_upd.1 hlk.of_upd.1 x hx hx2
theorem Live.of {p i : Nat} (hu : user p = some i) (hmi : m i = none) : Live user m p := by
  intro u hp
  rw [hu] at hp
  cases hp
  exact hmi
theorem RowsJ.take (h : RowsJ w val row user m W) {p i : Nat} {vp v : Value} {rp r : Nat × List UInt8} (hu : user p = some i) (hrp : row p = some rp) (hri : row i = some r) (hmp : m p = some vp) (hmi : m i = none) (hv : val i = none)
    (hg : W.grownBy W' vp.ownBlock) (ho : W'.ownsRow w.heap.size 5 1 v r.1 (bts r.2)) (hat : v.ownBlock = vp.ownBlock ∨ v.ownBlock = some W.heap.size) : RowsJ w val row user (upd m i v) W' := by
  have hlp := Live.of hu hmi
  have hop := h.own p vp rp hmp hrp hlp
  have hfar : ∀ j vj rj, m j = some vj → row j = some rj → Live user m j → ∀ k, vj.ownBlock = some k → k < W.heap.size := fun j vj rj h1 h2 h3 k hk => ((h.own j vj rj h1 h2 h3).lt k hk).2
  have hap : ∀ j vj rj, j ≠ i → m j = some vj → row j = some rj → Live user (upd m i v) j → ∀ x, vj.ownBlock = some x → v.ownBlock ≠ some x := by
    intro j vj rj hj hm hr hl x hx hx2
    have hjp : j ≠ p := by rintro rfl; exact hl.of_upd.2 hu
    rcases hat with e | e
    · rw [e] at hx2
      exact h.sep j p vj vp rj rp hjp hm hmp hr hrp hl.of_upd.1 hlp x hx hx2
    · rw [e] at hx2
      cases hx2
      have := hfar j vj rj hm hr hl.of_upd.1 _ hx
      omega
  refine ⟨h.bel.grown hg h.bel.size (fun k hk => (hop.lt k hk).1), h.det.up (fun x hx => by rw [hv] at hx; cases hx), ?_, ?_⟩
  · intro j u rj hm hr hl
    by_cases hj : j = i
    · subst hj
      rw [upd_self] at hm
      cases hm
      rw [hri] at hr
      cases hr
      exact ho
    · rw [upd_ne m v hj] at hm
      have hjp : j ≠ p := by rintro rfl; exact hl.of_upd.2 hu
      refine (h.own j u rj hm hr hl.of_upd.1).kept hg ?_
      cases hub : u.ownBlock with
      | none => exact .inl rfl
      | some x =>
        refine .inr fun e => ?_
        exact h.sep j p u vp rj rp hjp hm hmp hr hrp hl.of_upd.1 hlp x hub e.symm
  · intro j k vj vk rj rk hne hmj hmk hrj hrk hlj hlk x hx hx2
    by_cases hj : j = i
    · subst hj
      rw [upd_self] at hmj
      cases hmj
      rw [upd_ne m _ (fun e => hne e.symm)] at hmk
      exact hap k vk rk (fun e => hne e.symm) hmk hrk hlk x hx2 hx
    · rw [upd_ne m v hj] at hmj
      by_cases hk : k = i
      · subst hk
        rw [upd_self] at hmk
        cases hmk
        exact hap j vj rj hj hmj hrj hlj x hx hx2
      · rw [upd_ne m v hk] at hmk
        exact h.sep j k vj vk rj rk hne hmj hmk hrj hrk hlj.of_upd.1 hlk.of_upd.1 x hx hx2
end
end Go.Proofs.Ythfjfkjlgdnohaa
