/-
  Rows that are written over, in themselves: what can be read of them stays good.
-/
import Derived.Test.YteafdncnnamakaaGreatDoorFs
import Derived.Test.YteafdncnnamakaaGreatDoorCls
import Derived.Deep.MidRow
namespace Go.Proofs.YteafdncnnamakaaGreatDoor
open Go.RowKit

def setL (xs : List Value) : Nat → List Value → List Value
  | _, [] => xs
  | o, u :: r => setL (xs.set o u) (o + 1) r
theorem setL_get (cs : List Value) : ∀ (xs : List Value) (o j : Nat), o + cs.length ≤ xs.length → (setL xs o cs)[j]? = if o ≤ j ∧ j < o + cs.length then cs[j - o]? else xs[j]? := by
  induction cs with
  | nil => intro xs o j h; simp only [setL, List.length_nil]; rw [if_neg (by omega)]
  | cons u r ih =>
    intro xs o j h
    simp only [List.length_cons] at h
    rw [setL, ih _ _ _ (by rw [List.length_set]; omega), List.getElem?_set]
    by_cases h1 : o = j
    · subst h1
      rw [if_neg (by omega), if_pos rfl, if_pos (by omega), if_pos ⟨Nat.le_refl _, by simp⟩]
      simp
    · rw [if_neg h1]
      by_cases h2 : o + 1 ≤ j ∧ j < o + 1 + r.length
      · rw [if_pos h2, if_pos ⟨by omega, by simp only [List.length_cons]; omega⟩, show j - o = (j - (o + 1)) + 1 by omega]
        rfl
      · rw [if_neg h2, if_neg (by simp only [List.length_cons]; omega)]
theorem setL_low (cs : List Value) : ∀ (xs : List Value) (o j : Nat), j < o → (setL xs o cs)[j]? = xs[j]? := by
  induction cs with
  | nil => intro xs o j h; rfl
  | cons u r ih => intro xs o j h; rw [setL, ih _ _ _ (by omega), List.getElem?_set, if_neg (by omega)]
theorem setL_length (cs : List Value) : ∀ (xs : List Value) (o : Nat), (setL xs o cs).length = xs.length := by
  induction cs with
  | nil => intro xs o; rfl
  | cons u r ih => intro xs o; rw [setL, ih, List.length_set]
theorem grown_trans {a b c : World} {r : Option Nat} (h : a.grownBy b r) (k : b.grownBy c r) : a.grownBy c r :=
  ⟨k.os.trans h.os, k.tape.trans h.tape, k.output.trans h.output, Nat.le_trans h.size k.size, fun x hx hr => (k.block x (Nat.lt_of_lt_of_le hx h.size) hr).trans (h.block x hx hr)⟩
theorem stored_all {base size n cap g : Nat} {e : TypeId} (cs : List Value) : ∀ (w : World) (xs : List Value) (o : Nat), w.ownsRow base e size (.slice (some ⟨g, 0, none⟩) n cap) n xs →
    (w.setCells g o cs).ownsRow base e size (.slice (some ⟨g, 0, none⟩) n cap) n (setL xs o cs) ∧ w.grownBy (w.setCells g o cs) (some g) := by
  induction cs with
  | nil => intro w xs o h; exact ⟨h, rfl, rfl, rfl, Nat.le_refl _, fun _ _ _ => rfl⟩
  | cons u r ih =>
    intro w xs o h
    obtain ⟨h1, h2⟩ := h.stored o u
    obtain ⟨h3, h4⟩ := ih _ _ (o + 1) h1
    exact ⟨h3, grown_trans h2 h4⟩
/-- a row of lo ..< hi -/
def RowW (w : World) (lo hi : Nat) (T : TypeId) (k : Nat) (v : Value) (n : Nat) (xs : List Value) : Prop := w.ownsRow lo T k v n xs ∧ ∀ g, v.ownBlock = some g → g < hi
def RowX (w : World) (lo hi : Nat) (T : TypeId) (k : Nat) (v : Value) : Prop := ∃ n xs, RowW w lo hi T k v n xs
theorem RowX.nil (w : World) (lo hi : Nat) (T : TypeId) (k : Nat) : RowX w lo hi T k (.slice none 0 0) := ⟨0, [], World.ownsRow_nil _ _ _ _, fun g h => by simp [Value.ownBlock] at h⟩
section
variable {w w' : World} {lo hi base size n cap g : Nat} {e : TypeId} {xs : List Value}
theorem RowW.kept {T : TypeId} {k m : Nat} {v : Value} {ys : List Value} (h : RowW w lo hi T k v m ys) (hg : w.grownBy w' (some g)) (hne : v.ownBlock ≠ some g) : RowW w' lo hi T k v m ys := ⟨h.1.kept hg (.inr hne), h.2⟩
theorem own_blk {T : TypeId} {k m c : Nat} {ys : List Value} (h : w.ownsRow lo T k (.slice (some ⟨g, 0, none⟩) m c) m ys) : ∃ cur, Blk w g T cur := by
  rcases h.2 with ⟨h0, _⟩ | ⟨g', cap', cur, hv, _, hg, _⟩
  · cases h0
  · cases hv
    exact ⟨cur, hg⟩
/-- a row is as it was, or it is the row that is written -/
theorem RowW.or (hrow : w.ownsRow base e size (.slice (some ⟨g, 0, none⟩) n cap) n xs) {T : TypeId} {k m : Nat} {v : Value} {ys : List Value} (h : RowW w lo hi T k v m ys) (o : Nat) (cs : List Value) :
    RowW (w.setCells g o cs) lo hi T k v m ys ∨ T = e ∧ v.ownBlock = some g ∧ RowW (w.setCells g o cs) lo hi T k v m (setL ys o cs) := by
  by_cases hb : v.ownBlock = some g
  · refine .inr ?_
    rcases h.1.2 with ⟨rfl, _⟩ | ⟨g', cap', cur, hv, hlo, hg, h1, h2, h3, h4⟩
    · simp [Value.ownBlock] at hb
    · subst hv
      have : g' = g := by simpa [Value.ownBlock] using hb
      subst this
      obtain ⟨cur2, hk⟩ := own_blk hrow
      have hk' : Blk w g' T cur := hg
      have hT : T = e := by
        unfold Blk at hk hk'
        rw [hk'] at hk
        injection hk with hk
        injection hk
      exact ⟨hT, rfl, (stored_all cs w ys o h.1).1, h.2⟩
  · exact .inl (h.kept (stored_all cs w xs o hrow).2 hb)
theorem RowX.set (hrow : w.ownsRow base e size (.slice (some ⟨g, 0, none⟩) n cap) n xs) {T : TypeId} {k : Nat} {v : Value} (h : RowX w lo hi T k v) (o : Nat) (cs : List Value) : RowX (w.setCells g o cs) lo hi T k v := by
  obtain ⟨m, ys, h⟩ := h
  rcases h.or hrow o cs with h | ⟨_, _, h⟩
  · exact ⟨m, ys, h⟩
  · exact ⟨m, _, h⟩
theorem len_of {T : TypeId} {k m : Nat} {v : Value} {ys : List Value} (h : RowW w lo hi T k v m ys) : ys.length = m * k := h.1.1
theorem RowX.below {T : TypeId} {k : Nat} {v : Value} (h : RowX w lo hi T k v) (hb : Below w.heap.size w w') : RowX w' lo hi T k v := by
  obtain ⟨n, xs, h⟩ := h
  exact ⟨n, xs, own_below h.1 hb, h.2⟩
end
/-- what changed lies in lo ..< hi -/
structure OnlyIn (lo hi : Nat) (w w' : World) : Prop where
  low : Below lo w w'
  high : ∀ k, hi ≤ k → k < w.heap.size → w'.heap[k]? = w.heap[k]?
theorem OnlyIn.refl (lo hi : Nat) (w : World) : OnlyIn lo hi w w := ⟨Below.refl _ _, fun _ _ _ => rfl⟩
theorem OnlyIn.trans {lo hi : Nat} {a b c : World} (h : OnlyIn lo hi a b) (k : OnlyIn lo hi b c) : OnlyIn lo hi a c :=
  ⟨h.low.trans k.low, fun x hx hs => (k.high x hx (Nat.lt_of_lt_of_le hs h.low.size)).trans (h.high x hx hs)⟩
theorem OnlyIn.of_below {lo hi : Nat} {w w' : World} (h : Below w.heap.size w w') (hlo : lo ≤ w.heap.size) : OnlyIn lo hi w w' := ⟨h.mono hlo, fun k _ hs => h.block k hs⟩
theorem OnlyIn.grown {lo hi g : Nat} {w w' : World} (h : w.grownBy w' (some g)) (h1 : lo ≤ g) (h2 : g < hi) (hlo : lo ≤ w.heap.size) : OnlyIn lo hi w w' :=
  ⟨⟨h.os, h.tape, h.output, h.size, fun k hk => h.block k (by omega) (by simp; omega)⟩, fun k hk hs => h.block k hs (by simp; omega)⟩
theorem own_only {lo hi base size n : Nat} {e : TypeId} {v : Value} {xs : List Value} {w w' : World} (h : w.ownsRow base e size v n xs) (hb : hi ≤ base) (ho : OnlyIn lo hi w w') : w'.ownsRow base e size v n xs := by
  refine ⟨h.1, ?_⟩
  rcases h.2 with h0 | ⟨g, cap, cur, h1, h2, h3, h4⟩
  · exact .inl h0
  · refine .inr ⟨g, cap, cur, h1, h2, ?_, h4⟩
    rw [ho.high g (by omega) (Blk.lt (cs := cur) (t := e) h3)]
    exact h3
theorem FS.own.only {α : Type} {w w' : World} {lo hi base k : Nat} {t : TypeId} {enc : α → List Value} {s : FS α} (h : s.own w base t k enc) (hb : hi ≤ base) (ho : OnlyIn lo hi w w') : s.own w' base t k enc := ⟨h.1, own_only h.2 hb ho⟩
section
variable {w w' : World} {base lo hi : Nat}
theorem RowW.of_own {T : TypeId} {k n : Nat} {v : Value} {xs : List Value} (h : w.ownsRow lo T k v n xs) : RowW w lo w.heap.size T k v n xs := ⟨h, fun g hg => (h.lt g hg).2⟩
theorem FS.own.rowx {α : Type} {k : Nat} {t : TypeId} {enc : α → List Value} {s : FS α} (h : s.own w lo t k enc) : RowX w lo w.heap.size t k s.val := ⟨_, _, RowW.of_own h.2⟩
end
/-! ### an element of a row -/
theorem RowW.el {w : World} {lo hi k n : Nat} {T : TypeId} {v : Value} {xs : List Value} (h : RowW w lo hi T k v n xs) {i : Nat} (hi' : i < n) :
    ∃ g c, v = .slice (some ⟨g, 0, none⟩) n c ∧ lo ≤ g ∧ g < hi ∧ n ≤ maxLen ∧ (∀ j, j < n * k → w.cell? ⟨g, j, none⟩ = xs[j]?) ∧ w.there g (i * k) k ∧ w.ownsRow lo T k (.slice (some ⟨g, 0, none⟩) n c) n xs := by
  obtain ⟨ho, hh⟩ := h
  rcases ho.2 with ⟨_, h0⟩ | ⟨g, cap, cur, hv, hlo, hg, hnc, hcm, hcs, htk⟩
  · omega
  · subst hv
    have hle : (i + 1) * k ≤ n * k := Nat.mul_le_mul_right _ hi'
    rw [Nat.add_mul, Nat.one_mul] at hle
    have hk2 : n * k ≤ cap * k := Nat.mul_le_mul_right _ hnc
    have hc : ∀ j, w.cell? ⟨g, j, none⟩ = cur[j]? := fun j => cell_of_row w g j cur T (0, 0) hg
    refine ⟨g, cap, rfl, hlo, hh g rfl, by omega, fun j hj => ?_, fun j hj => ⟨?_, (Blk.frozen (w := w) (g := g) (t := T) (cs := cur) hg) _⟩, ho⟩
    · rw [hc, ← htk, List.getElem?_take, if_pos hj, Array.getElem?_toList]
    · rw [hc]
      simp
      omega
end Go.Proofs.YteafdncnnamakaaGreatDoor
