/-
  Rows that are written over, in themselves: what can be read of them stays good.
  A table of sessions whose rows are written over, in themselves.
  The law SessionOwn: its walk.
-/
import Derived.Test.YtjdebhemoeojiaaDoorFs
import Derived.Test.YtjdebhemoeojiaaDoorCls
import Derived.Deep.MidRow
import Derived.Test.YtjdebhemoeojiaaDoorSeNext
import Derived.Deep.Cut
import Derived.Test.YtjdebhemoeojiaaDoorYLaw
import Derived.Test.YtjdebhemoeojiaaDoorYRf
import Derived.Test.YtjdebhemoeojiaaDoorSeRf6p
namespace Go.Proofs.YtjdebhemoeojiaaDoor
open Go.RowKit

def setL (xs : List Value) : Nat → List Value → List Value
  | _, [] => xs
  | o, u :: r => setL (xs.set o u) (o + 1) r
theorem setL_get (cs : List Value) : ∀ (xs : List Value) (o j : Nat), o + cs.length ≤ xs.length → (setL xs o cs)[j]? = if o ≤ j ∧ j < o + cs.length then cs[j - o]? else xs[j]? := by
  induction cs with
  | nil => intro xs o j h; simp only [setL, List.length_nil]; rw [if_neg (by omega)]
  | cons u r ih =>
    intro xs o j h
    simp only [List.length_cons] at h
    rw [setL, ih _ _ _ (by rw [List.length_set]; omega), List.getElem?_set]
    by_cases h1 : o = j
    · subst h1
      rw [if_neg (by omega), if_pos rfl, if_pos (by omega), if_pos ⟨Nat.le_refl _, by simp⟩]
      simp
    · rw [if_neg h1]
      by_cases h2 : o + 1 ≤ j ∧ j < o + 1 + r.length
      · rw [if_pos h2, if_pos ⟨by omega, by simp only [List.length_cons]; omega⟩, show j - o = (j - (o + 1)) + 1 by omega]
        rfl
      · rw [if_neg h2, if_neg (by simp only [List.length_cons]; omega)]
theorem setL_low (cs : List Value) : ∀ (xs : List Value) (o j : Nat), j < o → (setL xs o cs)[j]? = xs[j]? := by
  induction cs with
  | nil => intro xs o j h; rfl
  | cons u r ih => intro xs o j h; rw [setL, ih _ _ _ (by omega), List.getElem?_set, if_neg (by omega)]
theorem setL_length (cs : List Value) : ∀ (xs : List Value) (o : Nat), (setL xs o cs).length = xs.length := by
  induction cs with
  | nil => intro xs o; rfl
  | cons u r ih => intro xs o; rw [setL, ih, List.length_set]
theorem grown_trans {a b c : World} {r : Option Nat} (h : a.grownBy b r) (k : b.grownBy c r) : a.grownBy c r :=
  ⟨k.os.trans h.os, k.tape.trans h.tape, k.output.trans h.output, Nat.le_trans h.size k.size, fun x hx hr => (k.block x (Nat.lt_of_lt_of_le hx h.size) hr).trans (h.block x hx hr)⟩
theorem stored_all {base size n cap g : Nat} {e : TypeId} (cs : List Value) : ∀ (w : World) (xs : List Value) (o : Nat), w.ownsRow base e size (.slice (some ⟨g, 0, none⟩) n cap) n xs →
    (w.setCells g o cs).ownsRow base e size (.slice (some ⟨g, 0, none⟩) n cap) n (setL xs o cs) ∧ w.grownBy (w.setCells g o cs) (some g) := by
  induction cs with
  | nil => intro w xs o h; exact ⟨h, rfl, rfl, rfl, Nat.le_refl _, fun _ _ _ => rfl⟩
  | cons u r ih =>
    intro w xs o h
    obtain ⟨h1, h2⟩ := h.stored o u
    obtain ⟨h3, h4⟩ := ih _ _ (o + 1) h1
    exact ⟨h3, grown_trans h2 h4⟩
/-- a row of lo ..< hi -/
def RowW (w : World) (lo hi : Nat) (T : TypeId) (k : Nat) (v : Value) (n : Nat) (xs : List Value) : Prop := w.ownsRow lo T k v n xs ∧ ∀ g, v.ownBlock = some g → g < hi
def RowX (w : World) (lo hi : Nat) (T : TypeId) (k : Nat) (v : Value) : Prop := ∃ n xs, RowW w lo hi T k v n xs
theorem RowX.nil (w : World) (lo hi : Nat) (T : TypeId) (k : Nat) : RowX w lo hi T k (.slice none 0 0) := ⟨0, [], World.ownsRow_nil _ _ _ _, fun g h => by simp [Value.ownBlock] at h⟩
section
variable {w w' : World} {lo hi base size n cap g : Nat} {e : TypeId} {xs : List Value}
theorem RowW.kept {T : TypeId} {k m : Nat} {v : Value} {ys : List Value} (h : RowW w lo hi T k v m ys) (hg : w.grownBy w' (some g)) (hne : v.ownBlock ≠ some g) : RowW w' lo hi T k v m ys := ⟨h.1.kept hg (.inr hne), h.2⟩
theorem own_blk {T : TypeId} {k m c : Nat} {ys : List Value} (h : w.ownsRow lo T k (.slice (some ⟨g, 0, none⟩) m c) m ys) : ∃ cur, Blk w g T cur := by
  rcases h.2 with ⟨h0, _⟩ | ⟨g', cap', cur, hv, _, hg, _⟩
  · cases h0
  · cases hv
    exact ⟨cur, hg⟩
/-- a row is as it was, or it is the row that is written -/
theorem RowW.or (hrow : w.ownsRow base e size (.slice (some ⟨g, 0, none⟩) n cap) n xs) {T : TypeId} {k m : Nat} {v : Value} {ys : List Value} (h : RowW w lo hi T k v m ys) (o : Nat) (cs : List Value) :
    RowW (w.setCells g o cs) lo hi T k v m ys ∨ T = e ∧ v.ownBlock = some g ∧ RowW (w.setCells g o cs) lo hi T k v m (setL ys o cs) := by
  by_cases hb : v.ownBlock = some g
  · refine .inr ?_
    rcases h.1.2 with ⟨rfl, _⟩ | ⟨g', cap', cur, hv, hlo, hg, h1, h2, h3, h4⟩
    · simp [Value.ownBlock] at hb
    · subst hv
      have : g' = g := by simpa [Value.ownBlock] using hb
      subst this
      obtain ⟨cur2, hk⟩ := own_blk hrow
      have hk' : Blk w g' T cur := hg
      have hT : T = e := by
        unfold Blk at hk hk'
        rw [hk'] at hk
        injection hk with hk
        injection hk
      exact ⟨hT, rfl, (stored_all cs w ys o h.1).1, h.2⟩
  · exact .inl (h.kept (stored_all cs w xs o hrow).2 hb)
theorem RowX.set (hrow : w.ownsRow base e size (.slice (some ⟨g, 0, none⟩) n cap) n xs) {T : TypeId} {k : Nat} {v : Value} (h : RowX w lo hi T k v) (o : Nat) (cs : List Value) : RowX (w.setCells g o cs) lo hi T k v := by
  obtain ⟨m, ys, h⟩ := h
  rcases h.or hrow o cs with h | ⟨_, _, h⟩
  · exact ⟨m, ys, h⟩
  · exact ⟨m, _, h⟩
theorem len_of {T : TypeId} {k m : Nat} {v : Value} {ys : List Value} (h : RowW w lo hi T k v m ys) : ys.length = m * k := h.1.1
theorem RowX.below {T : TypeId} {k : Nat} {v : Value} (h : RowX w lo hi T k v) (hb : Below w.heap.size w w') : RowX w' lo hi T k v := by
  obtain ⟨n, xs, h⟩ := h
  exact ⟨n, xs, own_below h.1 hb, h.2⟩
end
/-- what changed lies in lo ..< hi -/
structure OnlyIn (lo hi : Nat) (w w' : World) : Prop where
  low : Below lo w w'
  high : ∀ k, hi ≤ k → k < w.heap.size → w'.heap[k]? = w.heap[k]?
theorem OnlyIn.refl (lo hi : Nat) (w : World) : OnlyIn lo hi w w := ⟨Below.refl _ _, fun _ _ _ => rfl⟩
theorem OnlyIn.trans {lo hi : Nat} {a b c : World} (h : OnlyIn lo hi a b) (k : OnlyIn lo hi b c) : OnlyIn lo hi a c :=
  ⟨h.low.trans k.low, fun x hx hs => (k.high x hx (Nat.lt_of_lt_of_le hs h.low.size)).trans (h.high x hx hs)⟩
theorem OnlyIn.of_below {lo hi : Nat} {w w' : World} (h : Below w.heap.size w w') (hlo : lo ≤ w.heap.size) : OnlyIn lo hi w w' := ⟨h.mono hlo, fun k _ hs => h.block k hs⟩
theorem OnlyIn.grown {lo hi g : Nat} {w w' : World} (h : w.grownBy w' (some g)) (h1 : lo ≤ g) (h2 : g < hi) (hlo : lo ≤ w.heap.size) : OnlyIn lo hi w w' :=
  ⟨⟨h.os, h.tape, h.output, h.size, fun k hk => h.block k (by omega) (by simp; omega)⟩, fun k hk hs => h.block k hs (by simp; omega)⟩
theorem own_only {lo hi base size n : Nat} {e : TypeId} {v : Value} {xs : List Value} {w w' : World} (h : w.ownsRow base e size v n xs) (hb : hi ≤ base) (ho : OnlyIn lo hi w w') : w'.ownsRow base e size v n xs := by
  refine ⟨h.1, ?_⟩
  rcases h.2 with h0 | ⟨g, cap, cur, h1, h2, h3, h4⟩
  · exact .inl h0
  · refine .inr ⟨g, cap, cur, h1, h2, ?_, h4⟩
    rw [ho.high g (by omega) (Blk.lt (cs := cur) (t := e) h3)]
    exact h3
theorem FS.own.only {α : Type} {w w' : World} {lo hi base k : Nat} {t : TypeId} {enc : α → List Value} {s : FS α} (h : s.own w base t k enc) (hb : hi ≤ base) (ho : OnlyIn lo hi w w') : s.own w' base t k enc := ⟨h.1, own_only h.2 hb ho⟩
section
variable {w w' : World} {base lo hi : Nat}
theorem RowW.of_own {T : TypeId} {k n : Nat} {v : Value} {xs : List Value} (h : w.ownsRow lo T k v n xs) : RowW w lo w.heap.size T k v n xs := ⟨h, fun g hg => (h.lt g hg).2⟩
theorem FS.own.rowx {α : Type} {k : Nat} {t : TypeId} {enc : α → List Value} {s : FS α} (h : s.own w lo t k enc) : RowX w lo w.heap.size t k s.val := ⟨_, _, RowW.of_own h.2⟩
end
/-! ### an element of a row -/
theorem RowW.el {w : World} {lo hi k n : Nat} {T : TypeId} {v : Value} {xs : List Value} (h : RowW w lo hi T k v n xs) {i : Nat} (hi' : i < n) :
    ∃ g c, v = .slice (some ⟨g, 0, none⟩) n c ∧ lo ≤ g ∧ g < hi ∧ n ≤ maxLen ∧ (∀ j, j < n * k → w.cell? ⟨g, j, none⟩ = xs[j]?) ∧ w.there g (i * k) k ∧ w.ownsRow lo T k (.slice (some ⟨g, 0, none⟩) n c) n xs := by
  obtain ⟨ho, hh⟩ := h
  rcases ho.2 with ⟨_, h0⟩ | ⟨g, cap, cur, hv, hlo, hg, hnc, hcm, hcs, htk⟩
  · omega
  · subst hv
    have hle : (i + 1) * k ≤ n * k := Nat.mul_le_mul_right _ hi'
    rw [Nat.add_mul, Nat.one_mul] at hle
    have hk2 : n * k ≤ cap * k := Nat.mul_le_mul_right _ hnc
    have hc : ∀ j, w.cell? ⟨g, j, none⟩ = cur[j]? := fun j => cell_of_row w g j cur T (0, 0) hg
    refine ⟨g, cap, rfl, hlo, hh g rfl, by omega, fun j hj => ?_, fun j hj => ⟨?_, (Blk.frozen (w := w) (g := g) (t := T) (cs := cur) hg) _⟩, ho⟩
    · rw [hc, ← htk, List.getElem?_take, if_pos hj, Array.getElem?_toList]
    · rw [hc]
      simp
      omega
end Go.Proofs.YtjdebhemoeojiaaDoor
namespace Go.Proofs.YtjdebhemoeojiaaDoor
open Go.RowKit

/-- the sessions' row, and what each of them stands on -/
def OpnW (w : World) (lo hi : Nat) (v : Value) (n : Nat) : Prop := ∃ xs, RowW w lo hi 33 5 v n xs ∧ ∀ i, i < n → ∃ b, xs[i * 5 + 3]? = some b ∧ RowX w lo hi 5 1 b
def HadW (w : World) (lo hi : Nat) (v : Value) (n : Nat) : Prop := ∃ xs, RowW w lo hi 38 2 v n xs
section
variable {w w' : World} {lo hi base size n cap g : Nat} {e : TypeId} {xs : List Value}
/-- a store into a row that is no sessions' -/
theorem OpnW.set (hrow : w.ownsRow base e size (.slice (some ⟨g, 0, none⟩) n cap) n xs) (hne : 33 ≠ e) {v : Value} {m : Nat} (h : OpnW w lo hi v m) (o : Nat) (cs : List Value) : OpnW (w.setCells g o cs) lo hi v m := by
  obtain ⟨ys, h, hs⟩ := h
  rcases h.or hrow o cs with h | ⟨he, _, _⟩
  · exact ⟨ys, h, fun i hi => let ⟨b, h1, h2⟩ := hs i hi; ⟨b, h1, h2.set hrow o cs⟩⟩
  · exact absurd he hne
/-- a session's cells, written over -/
theorem OpnW.setOne (hrow : w.ownsRow base 33 size (.slice (some ⟨g, 0, none⟩) n cap) n xs) {v : Value} {m : Nat} (h : OpnW w lo hi v m) (j : Nat) (a0 a1 a2 a4 : Value) (hj : j < m) : OpnW (w.setCells g (j * 5) [a0, a1, a2, .slice none 0 0, a4]) lo hi v m := by
  obtain ⟨ys, h, hs⟩ := h
  rcases h.or hrow (j * 5) [a0, a1, a2, .slice none 0 0, a4] with h' | ⟨he, hb, h'⟩
  · exact ⟨ys, h', fun i hi => let ⟨b, h1, h2⟩ := hs i hi; ⟨b, h1, h2.set hrow _ _⟩⟩
  · refine ⟨_, h', fun i hi => ?_⟩
    obtain ⟨b, h1, h2⟩ := hs i hi
    have hl := len_of h
    have hle : (j + 1) * 5 ≤ m * 5 := Nat.mul_le_mul_right _ hj
    rw [setL_get _ _ _ _ (by simp only [List.length_cons, List.length_nil]; omega)]
    by_cases hi2 : i = j
    · subst hi2
      rw [if_pos (by simp only [List.length_cons, List.length_nil]; omega), show i * 5 + 3 - i * 5 = 3 by omega]
      exact ⟨_, rfl, RowX.nil _ _ _ _ _⟩
    · rw [if_neg (by simp only [List.length_cons, List.length_nil]; omega)]
      exact ⟨b, h1, h2.set hrow _ _⟩
theorem HadW.set (hrow : w.ownsRow base e size (.slice (some ⟨g, 0, none⟩) n cap) n xs) {v : Value} {m : Nat} (h : HadW w lo hi v m) (o : Nat) (cs : List Value) : HadW (w.setCells g o cs) lo hi v m := by
  obtain ⟨ys, h⟩ := h
  rcases h.or hrow o cs with h | ⟨_, _, h⟩
  · exact ⟨ys, h⟩
  · exact ⟨_, h⟩
theorem OpnW.below {v : Value} {m : Nat} (h : OpnW w lo hi v m) (hb : Below w.heap.size w w') : OpnW w' lo hi v m := by
  obtain ⟨ys, h, hs⟩ := h
  exact ⟨ys, ⟨own_below h.1 hb, h.2⟩, fun i hi => let ⟨b, h1, h2⟩ := hs i hi; ⟨b, h1, h2.below hb⟩⟩
theorem HadW.below {v : Value} {m : Nat} (h : HadW w lo hi v m) (hb : Below w.heap.size w w') : HadW w' lo hi v m := by
  obtain ⟨ys, h⟩ := h
  exact ⟨ys, own_below h.1 hb, h.2⟩
end
/-- what is known of a table's rows while they are written over -/
structure SpS (lo hi : Nat) (S : Value) (sn : Nat) (H : Value) (en : Nat) (W0 w : World) : Prop where
  opn : OpnW w lo hi S sn
  had : HadW w lo hi H en
  only : OnlyIn lo hi W0 w
section
variable {lo hi size n cap g sn en : Nat} {S H : Value} {W0 w : World} {e : TypeId} {xs : List Value}
theorem SpS.store (h : SpS lo hi S sn H en W0 w) (hrow : w.ownsRow lo e size (.slice (some ⟨g, 0, none⟩) n cap) n xs) (hlo : lo ≤ g) (hhi : g < hi) (hW : lo ≤ w.heap.size) (hne : 33 ≠ e) (o : Nat) (cs : List Value) : SpS lo hi S sn H en W0 (w.setCells g o cs) :=
  ⟨h.opn.set hrow hne o cs, h.had.set hrow o cs, h.only.trans (.grown (stored_all cs w xs o hrow).2 hlo hhi hW)⟩
theorem SpS.storeOne (h : SpS lo hi S sn H en W0 w) (hrow : w.ownsRow lo 33 size (.slice (some ⟨g, 0, none⟩) n cap) n xs) (hlo : lo ≤ g) (hhi : g < hi) (hW : lo ≤ w.heap.size) (j : Nat) (hj : j < sn) (a0 a1 a2 a4 : Value) : SpS lo hi S sn H en W0 (w.setCells g (j * 5) [a0, a1, a2, .slice none 0 0, a4]) :=
  ⟨h.opn.setOne hrow j a0 a1 a2 a4 hj, h.had.set hrow _ _, h.only.trans (.grown (stored_all _ w xs _ hrow).2 hlo hhi hW)⟩
/-- a session of the row -/
theorem OpnW.at {A : Option Addr} {c : Nat} (h : OpnW w lo hi (.slice A sn c) sn) {i : Nat} (hi' : i < sn) :
    ∃ g yA yn yc xs, A = some ⟨g, 0, none⟩ ∧ lo ≤ g ∧ g < hi ∧ sn ≤ maxLen ∧ w.cell? ⟨g, i * 5 + 3, none⟩ = some (.slice yA yn yc) ∧ w.there g (i * 5) 5 ∧ w.ownsRow lo 33 5 (.slice (some ⟨g, 0, none⟩) sn c) sn xs ∧ ∃ ys, RowW w lo hi 5 1 (.slice yA yn yc) yn ys := by
  obtain ⟨xs, h, hs⟩ := h
  obtain ⟨g, c', he, h1, h2, h3, h4, h5, h6⟩ := h.el hi'
  injection he with e1 _ e3
  subst e1 e3
  obtain ⟨b, hb, m, ys, hy⟩ := hs i hi'
  obtain ⟨A1, c1, rfl, _, _, _⟩ := own_form hy.1
  exact ⟨g, A1, m, c1, xs, rfl, h1, h2, h3, (h4 _ (by have : (i + 1) * 5 ≤ sn * 5 := Nat.mul_le_mul_right _ hi'; omega)).trans hb, h5, h6, ys, hy⟩
theorem HadW.at {A : Option Addr} {c : Nat} (h : HadW w lo hi (.slice A en c) en) {i : Nat} (hi' : i < en) :
    ∃ g xs, A = some ⟨g, 0, none⟩ ∧ lo ≤ g ∧ g < hi ∧ en ≤ maxLen ∧ w.there g (i * 2) 2 ∧ w.ownsRow lo 38 2 (.slice (some ⟨g, 0, none⟩) en c) en xs := by
  obtain ⟨xs, h⟩ := h
  obtain ⟨g, c', he, h1, h2, h3, h4, h5, h6⟩ := h.el hi'
  injection he with e1 _ e3
  subst e1 e3
  exact ⟨g, xs, rfl, h1, h2, h3, h5, h6⟩
/-- a byte of a row, as the walk asks for it -/
theorem there_one {g i : Nat} (h : w.there g (i * 1) 1) : (∃ u, w.cell? ⟨g, i, none⟩ = some u) ∧ w.frozen? ⟨g, i, none⟩ = false := by
  have h0 := h 0 (by omega)
  rw [Nat.mul_one, Nat.add_zero] at h0
  exact ⟨Option.isSome_iff_exists.1 h0.1, h0.2⟩
end
/-- a table of one's own may be written over -/
theorem TabO.sps {w : World} {lo : Nat} {t : TabR} (h : TabO w lo t) : SpS lo w.heap.size t.opn.val t.opn.n t.had.val t.had.n w w := by
  refine ⟨⟨_, RowW.of_own h.opn.2, fun i hi => ?_⟩, ⟨_, RowW.of_own h.had.2⟩, OnlyIn.refl _ _ _⟩
  have hl : i < t.opn.l.length := by rw [← h.opn.1]; exact hi
  refine ⟨(t.opn.l[i]'hl).rest.val, ?_, FS.own.rowx (h.each _ (List.getElem_mem hl))⟩
  rw [cellsK_get (k := 5) (fun x => by cases x; rfl) t.opn.l i hl 3 (by omega)]
  rfl
theorem SpS.later {w W : World} {lo hi sn en : Nat} {S H : Value} (h : SpS lo hi S sn H en w w) (hb : Below w.heap.size w W) : SpS lo hi S sn H en W W := ⟨h.opn.below hb, h.had.below hb, OnlyIn.refl _ _ _⟩
theorem TabO.only {w w' : World} {base lo hi : Nat} {t : TabR} (h : TabO w base t) (hb : hi ≤ base) (ho : OnlyIn lo hi w w') : TabO w' base t := ⟨h.opn.only hb ho, fun y hy => FS.own.only (h.each y hy) hb ho, h.had.only hb ho⟩
theorem Blk.only {w w' : World} {lo hi g : Nat} {T : TypeId} {cs : Array Value} (h : Blk w g T cs) (hb : hi ≤ g) (ho : OnlyIn lo hi w w') : Blk w' g T cs := (ho.high g hb h.lt).trans h
end Go.Proofs.YtjdebhemoeojiaaDoor
namespace Go.Proofs.YtjdebhemoeojiaaDoor
open Go.RowKit

set_option maxRecDepth 100000 in
set_option maxHeartbeats 16000000 in
theorem sessionOwn_any (t : TabR) (x z : BS) (h : Int) (w : World) (hr : t.rd w w.heap.size) (hz : t.sz) (h1 : t.opn.n ≤ 1048576) (h2 : t.had.n ≤ 1048576) (hxl : x.length ≤ 4000000000) (hzl : z.length ≤ 4000000000) (hmx : HasMax w) :
    Calls Tryd.prog 3 #[t.val, .string ⟨x.toArray⟩, .string ⟨z.toArray⟩, .int .i64 h] w fun e w' => e = .returned (.bool true) ∧ Below w.heap.size w w' := by
  have hzc := TabR.szc hr hz h1 h2
  have how := fun W (hb : Below w.heap.size w W) => rown26_any t W w.heap.size (hr.below hb) hb.size hz
  have hro := fun W (hb : Below w.heap.size w W) => ropen_any t x z hxl hzl W w.heap.size (hr.below hb) hb.size hz ⟨by omega, by omega⟩
  have hrf := fun W (hb : Below w.heap.size w W) => rfind26_any t x h W w.heap.size (hr.below hb) hb.size hz
  obtain ⟨T, hT0⟩ : ∃ T, T = t.con := ⟨_, rfl⟩
  rw [← hT0] at hzc how hro hrf
  have HRT := Lib.hid hr
  have HTC := Lib.hid hT0.symm
  obtain ⟨V, hV⟩ : ∃ V, V = openE T x z := ⟨_, rfl⟩
  obtain ⟨NV, hNV⟩ : ∃ V, V = (openC T x z).2 := ⟨_, rfl⟩
  obtain ⟨FV, hFV⟩ : ∃ V, V = (findS T x h).2 := ⟨_, rfl⟩
  rw [← hV, ← hNV] at hro
  rw [← hFV] at hrf
  have HVV := Lib.hid hV
  have HNV := Lib.hid hNV
  have HFV := Lib.hid hFV
  obtain ⟨⟨tA, tn, tc, tl⟩, ⟨tB, tm, td, tk⟩⟩ := t
  clear hT0 hV hNV hFV
  have HOW : Hid (∀ W, Below w.heap.size w W → Calls Tryd.prog 9 #[.agg #[.slice tA tn tc, .slice tB tm td]] W fun e w' => ∃ s : TabR, e = .returned s.val ∧ TabO w' W.heap.size s ∧ s.con = T ∧ Below W.heap.size W w') := how
  have HRO : Hid (∀ W, Below w.heap.size w W → Calls Tryd.prog 13 #[.agg #[.slice tA tn tc, .slice tB tm td], .string ⟨x.toArray⟩, .string ⟨z.toArray⟩] W fun e w' => ∃ s : TabR, e = .returned (.tuple #[s.val, .int .i64 NV, .int .i64 V]) ∧ TabO w' W.heap.size s ∧ s.con = (openC T x z).1 ∧ Below W.heap.size W w') := hro
  have HRF : Hid (∀ W, Below w.heap.size w W → Calls Tryd.prog 14 #[.agg #[.slice tA tn tc, .slice tB tm td], .string ⟨x.toArray⟩, .int .i64 h] W fun e w' => ∃ s : SesR, e = .returned (.tuple #[.agg (encSes s).toArray, .int .i64 FV]) ∧ SesO w' W.heap.size s ∧ s.con = (findS T x h).1 ∧ Below W.heap.size W w') := hrf
  show Calls Tryd.prog 3 #[.agg #[.slice tA tn tc, .slice tB tm td], .string ⟨x.toArray⟩, .string ⟨z.toArray⟩, .int .i64 h] w fun e w' => e = .returned (.bool true) ∧ Below w.heap.size w w'
  have hb1 := (Below.refl w.heap.size w).alloc (Nat.le_refl _) (.cells #[.slice tA tn tc, .slice tB tm td] 25)
  have kT := Blk.new w 25 #[.slice tA tn tc, .slice tB tm td]
  obtain ⟨W1, hW1⟩ : ∃ W, W = w.alloc (.cells #[.slice tA tn tc, .slice tB tm td] 25) := ⟨_, rfl⟩
  have hsz1 : W1.heap.size = w.heap.size + 1 := by rw [hW1]; simp
  rw [← hW1] at hb1 kT
  have hal := alive27_any W1 (hmx.below hb1)
  have HB1 := Lib.hid hb1
  have HSZ1 := Lib.hid hsz1
  have HMX := Lib.hid hmx
  have HZC := Lib.hid hzc
  have KT1 := Lib.hid kT
  have HZT := Lib.hid hz
  clear hb1 kT hr hz hsz1 how hro hrf hmx hzc h1 h2
  go_enter Tryd.func3, Tryd.ntmps3
  go_wp2_with fail
  rw [← hW1]
  clear hW1
  refine hal.mono ?_
  clear hal
  rintro e w2 ⟨rfl, hb2⟩
  have HB2 := Lib.hid (HB1.out.trans (hb2.mono HB1.out.size))
  have KT2 := Lib.hid (KT1.out.below hb2 KT1.out.lt)
  have HSZ2 : Hid (w.heap.size + 1 ≤ w2.heap.size) := by show _ ≤ _; have := hb2.size; have := HSZ1.out; omega
  clear hb2 KT1 HB1 HSZ1
  have hc := HOW.out w2 HB2.out
  obtain ⟨⟨c0, c1⟩, -⟩ := blk2T KT2.out
  clear HOW
  go_wp2_with fail
  refine hc.mono ?_
  clear hc c0 c1
  rintro e w3 ⟨⟨⟨iA, sn, sc, il⟩, ⟨iB, en, ec, ik⟩⟩, he, hO3, hc3, hb3⟩
  replace he : e = .returned (.agg #[.slice iA sn sc, .slice iB en ec]) := he
  subst he
  have hba := (Below.refl w3.heap.size w3).alloc (Nat.le_refl _) (.cells #[.slice iA sn sc, .slice iB en ec] 25)
  have kg := Blk.new w3 25 #[.slice iA sn sc, .slice iB en ec]
  obtain ⟨W4, hW4⟩ : ∃ W, W = w3.alloc (.cells #[.slice iA sn sc, .slice iB en ec] 25) := ⟨_, rfl⟩
  rw [← hW4] at hba kg
  obtain ⟨gi, hgi⟩ : ∃ g, g = w3.heap.size := ⟨_, rfl⟩
  rw [← hgi] at kg
  have hszW4 : W4.heap.size = gi + 1 := by rw [hW4, hgi]; simp
  have hb24 := hb3.trans (hba.mono hb3.size)
  have HO4 := Lib.hid (hO3.below hba)
  have HSPI : Hid (SpS w2.heap.size gi (.slice iA sn sc) sn (.slice iB en ec) en W4 W4) := by
    show SpS _ _ _ _ _ _ _ _
    have hs := hO3.sps
    rw [← hgi] at hs
    exact SpS.later hs hba
  have HCI := Lib.hid hc3
  have HB4 := Lib.hid (HB2.out.trans (hb24.mono HB2.out.size))
  have KT4 := Lib.hid (KT2.out.below hb24 KT2.out.lt)
  have KI4 := Lib.hid kg
  have HG4 : Hid (w.heap.size + 1 ≤ w2.heap.size ∧ w2.heap.size ≤ gi ∧ W4.heap.size = gi + 1) := by show _ ∧ _ ∧ _; have := HSZ2.out; have := hb3.size; omega
  have hsd := hO3.szd (N := 1048576) (by rw [hc3]; exact HZC.out) (by omega)
  have HSD := Lib.hid hsd
  have hop := open_any ⟨⟨iA, sn, sc, il⟩, ⟨iB, en, ec, ik⟩⟩ x z hxl hzl W4 W4.heap.size HO4.out.rd (Nat.le_refl _) hsd.1 ⟨by have := hsd.2.1; omega, by have := hsd.2.2; omega⟩ (HMX.out.below HB4.out)
  rw [hc3, ← HVV.out, ← HNV.out] at hop
  replace hop : Calls Tryd.prog 10 #[.agg #[.slice iA sn sc, .slice iB en ec], .string ⟨x.toArray⟩, .string ⟨z.toArray⟩] W4 fun e w' => ∃ s : TabR, e = .returned (.tuple #[s.val, .int .i64 NV, .int .i64 V]) ∧ TabO w' W4.heap.size s ∧ s.con = (openC T x z).1 ∧ Below W4.heap.size W4 w' := hop
  clear hO3 hc3 hb3 hba kg hb24 hsd hszW4 KT2 HB2 HSZ2
  go_wp2_with fail
  rw [← hW4]
  clear hW4
  rw [← hgi]
  clear hgi
  refine hop.mono ?_
  clear hop
  rintro e w5 ⟨⟨⟨aA, an, ac, al⟩, ⟨aB, am, ad, ak⟩⟩, he, hO5, hc5, hb5⟩
  replace he : e = .returned (.tuple #[.agg #[.slice aA an ac, .slice aB am ad], .int .i64 NV, .int .i64 V]) := he
  subst he
  have hba := (Below.refl w5.heap.size w5).alloc (Nat.le_refl _) (.cells #[.slice aA an ac, .slice aB am ad] 25)
  have kg := Blk.new w5 25 #[.slice aA an ac, .slice aB am ad]
  obtain ⟨W6, hW6⟩ : ∃ W, W = w5.alloc (.cells #[.slice aA an ac, .slice aB am ad] 25) := ⟨_, rfl⟩
  rw [← hW6] at hba kg
  obtain ⟨ga, hga⟩ : ∃ g, g = w5.heap.size := ⟨_, rfl⟩
  rw [← hga] at kg
  have hszW6 : W6.heap.size = ga + 1 := by rw [hW6, hga]; simp
  have hb46 := hb5.trans (hba.mono hb5.size)
  have HOA6 := Lib.hid (hO5.below hba)
  have HOI6 := Lib.hid (HO4.out.below hb46)
  have HSPI : Hid (SpS w2.heap.size gi (.slice iA sn sc) sn (.slice iB en ec) en W6 W6) := SpS.later HSPI.out hb46
  have HCA := Lib.hid hc5
  have HB6 := Lib.hid (HB4.out.trans (hb46.mono HB4.out.size))
  have KT6 := Lib.hid (KT4.out.below hb46 KT4.out.lt)
  have KI6 := Lib.hid (KI4.out.below hb46 KI4.out.lt)
  have KA6 := Lib.hid kg
  have hgia : gi < ga := by have := hb5.size; have := HG4.out; omega
  have HG6 : Hid (W6.heap.size = ga + 1) := hszW6
  obtain ⟨⟨d0, d1⟩, -⟩ := blk2T (KI4.out.below hb5 KI4.out.lt)
  have hgilt : gi < w5.heap.size := by omega
  have hfi := sfind_any ⟨⟨iA, sn, sc, il⟩, ⟨iB, en, ec, ik⟩⟩ x h W6 W6.heap.size HOI6.out.rd (Nat.le_refl _) HSD.out.1 (HMX.out.below HB6.out)
  rw [HCI.out, ← HFV.out] at hfi
  replace hfi : Calls Tryd.prog 11 #[.agg #[.slice iA sn sc, .slice iB en ec], .string ⟨x.toArray⟩, .int .i64 h] W6 fun e w' => ∃ s : SesR, e = .returned (.tuple #[.agg (encSes s).toArray, .int .i64 FV]) ∧ SesO w' W6.heap.size s ∧ s.con = (findS T x h).1 ∧ Below W6.heap.size W6 w' := hfi
  clear hO5 hc5 hb5 hba kg hb46 hszW6 KT4 KI4 HB4 HO4
  go_wp2_with fail
  rw [← hW6]
  clear hW6 d0 d1
  rw [← hga]
  clear hga hgilt
  refine hfi.mono ?_
  clear hfi
  rintro e w7 ⟨⟨qt, qh, qi, ⟨qA, qn, qc, ql⟩, qb⟩, he, hO7, hc7, hb7⟩
  replace he : e = .returned (.tuple #[.agg #[.string ⟨qt.toArray⟩, .int .i64 qh, .string ⟨qi.toArray⟩, .slice qA qn qc, .bool qb], .int .i64 FV]) := he
  subst he
  have hba := (Below.refl w7.heap.size w7).alloc (Nat.le_refl _) (.cells #[.string ⟨qt.toArray⟩, .int .i64 qh, .string ⟨qi.toArray⟩, .slice qA qn qc, .bool qb] 33)
  have kg := Blk.new w7 33 #[.string ⟨qt.toArray⟩, .int .i64 qh, .string ⟨qi.toArray⟩, .slice qA qn qc, .bool qb]
  obtain ⟨W8, hW8⟩ : ∃ W, W = w7.alloc (.cells #[.string ⟨qt.toArray⟩, .int .i64 qh, .string ⟨qi.toArray⟩, .slice qA qn qc, .bool qb] 33) := ⟨_, rfl⟩
  rw [← hW8] at hba kg
  obtain ⟨gs, hgs⟩ : ∃ g, g = w7.heap.size := ⟨_, rfl⟩
  rw [← hgs] at kg
  have hszW8 : W8.heap.size = gs + 1 := by rw [hW8, hgs]; simp
  have hb68 := hb7.trans (hba.mono hb7.size)
  have HOS8 := Lib.hid (hO7.below hba)
  have HOA8 := Lib.hid (HOA6.out.below hb68)
  have HOI8 := Lib.hid (HOI6.out.below hb68)
  have HSPI : Hid (SpS w2.heap.size gi (.slice iA sn sc) sn (.slice iB en ec) en W8 W8) := SpS.later HSPI.out hb68
  have HCS := Lib.hid hc7
  have HB8 := Lib.hid (HB6.out.trans (hb68.mono HB6.out.size))
  have KT8 := Lib.hid (KT6.out.below hb68 KT6.out.lt)
  have KI8 := Lib.hid (KI6.out.below hb68 KI6.out.lt)
  have KA8 := Lib.hid (KA6.out.below hb68 KA6.out.lt)
  have KS8 := Lib.hid kg
  have hgas : ga < gs := by have := hb7.size; have := HG6.out; omega
  have HG8 : Hid (W8.heap.size = gs + 1) := hszW8
  obtain ⟨⟨d0, d1⟩, -⟩ := blk2T (KI6.out.below hb7 KI6.out.lt)
  obtain ⟨⟨c0, c1⟩, -⟩ := blk2T (KT6.out.below hb7 KT6.out.lt)
  have hgilt : gi < w7.heap.size := by omega
  have hwlt : w.heap.size < w7.heap.size := by have := HG4.out; omega
  have hsa := same26_any ⟨⟨iA, sn, sc, il⟩, ⟨iB, en, ec, ik⟩⟩ ⟨⟨tA, tn, tc, tl⟩, ⟨tB, tm, td, tk⟩⟩ (HCI.out.trans HTC.out.symm) W8 W8.heap.size (Nat.le_refl _) HOI8.out.rd ((HRT.out.below HB8.out).more HB8.out.size) HSD.out.1
  replace hsa : Calls Tryd.prog 12 #[.agg #[.slice iA sn sc, .slice iB en ec], .agg #[.slice tA tn tc, .slice tB tm td]] W8 fun e w' => e = .returned (.bool true) ∧ Below W8.heap.size W8 w' := hsa
  clear hO7 hc7 hb7 hba kg hb68 hszW8 KT6 KI6 KA6 HB6 HOI6 HOA6
  go_wp2_with fail
  rw [← hW8]
  clear hW8 d0 d1 c0 c1
  rw [← hgs]
  clear hgs hgilt hwlt
  refine hsa.mono ?_
  clear hsa
  rintro e w9 ⟨rfl, hb9⟩
  have HI : Hid (SpS w2.heap.size gi (.slice iA sn sc) sn (.slice iB en ec) en w9 w9) := SpS.later HSPI.out hb9
  have HOS9 := Lib.hid (HOS8.out.below hb9)
  have HOA9 := Lib.hid (HOA8.out.below hb9)
  have HB9 := Lib.hid (HB8.out.trans (hb9.mono HB8.out.size))
  have KT9 := Lib.hid (KT8.out.below hb9 KT8.out.lt)
  have KI9 := Lib.hid (KI8.out.below hb9 KI8.out.lt)
  have KA9 := Lib.hid (KA8.out.below hb9 KA8.out.lt)
  have KS9 := Lib.hid (KS8.out.below hb9 KS8.out.lt)
  have hlo9 : w2.heap.size ≤ w9.heap.size := by have := hb9.size; have := HG8.out; have := HG4.out; omega
  have HBX : Hid (∀ W', OnlyIn w2.heap.size gi w9 W' → W'.cell? ⟨gi, 0, none⟩ = some (.slice iA sn sc) ∧ W'.cell? ⟨gi, 1, none⟩ = some (.slice iB en ec)) := by
    show ∀ W', _ → _
    intro W' ho
    exact (blk2T (Blk.only KI9.out (Nat.le_refl _) ho)).1
  clear hb9 KT8 KI8 KA8 KS8 HB8 HOI8 HOA8 HOS8 HSPI
  have hsn9 : sn ≤ 1048576 := HSD.out.2.1
  have hen9 : en ≤ 1048576 := HSD.out.2.2
  go_wp2_with fail
  go_loopw [16] (fun a wr => ∃ i : Nat, i ≤ sn ∧ a = .int .i64 (i : Int) ∧ Hid (SpS w2.heap.size gi (.slice iA sn sc) sn (.slice iB en ec) en w9 wr)) (fun a _ => sn - (intOf a).toNat)
  case atStart => exact ⟨0, Nat.zero_le _, rfl, HI.out⟩
  case round =>
    clear HI
    obtain ⟨i, hi', rfl, HI⟩ := hrel
    obtain ⟨d0, d1⟩ := HBX.out _ HI.out.only
    by_cases hlt : i < sn
    · obtain ⟨g, yA, yn, yc, xs, hSe, hglo, hghi, hmx9, p3, hth, hrow, ys, hy⟩ := HI.out.opn.at hlt
      obtain ⟨g0, hg0⟩ : ∃ g0, g0 = g := ⟨_, rfl⟩
      subst hg0
      subst hSe
      have hki : (i : Int) < (sn : Int) := by omega
      clear hy hrow hth
      go_wp2_with fail
      go_loopw [17] (fun a wr => ∃ m : Nat, m ≤ maxLen ∧ a = .int .i64 (m : Int) ∧ Hid (SpS w2.heap.size gi (.slice (some ⟨g0, 0, none⟩) sn sc) sn (.slice iB en ec) en w9 wr)) (fun a _ => maxLen - (intOf a).toNat)
      case atStart => exact ⟨0, Nat.zero_le _, rfl, HI.out⟩
      case round =>
        clear HI
        obtain ⟨m, hm, rfl, HI⟩ := hrel
        obtain ⟨d0, d1⟩ := HBX.out _ HI.out.only
        obtain ⟨g, yA, yn, yc, xs, hSe, hglo, hghi, hmx9, p3, hth, hrow, ys, hy⟩ := HI.out.opn.at hlt
        injection hSe with hSe
        injection hSe with hSe
        subst hSe
        have hWl : w2.heap.size ≤ wr.heap.size := Nat.le_trans hlo9 HI.out.only.low.size
        by_cases hmn : m < yn
        · obtain ⟨gb, cb, hbe, hb1, hb2, hb3, -, hbt, hbo⟩ := hy.el hmn
          injection hbe with hbe _ hbe2
          subst hbe hbe2
          have hmi : (m : Int) < (yn : Int) := by omega
          have HI2 : Hid (SpS w2.heap.size gi (.slice (some ⟨g0, 0, none⟩) sn sc) sn (.slice iB en ec) en w9 (wr.setCell ⟨gb, m, none⟩ (.int .u8 77))) := HI.out.store hbo hb1 hb2 hWl (by decide) m [.int .u8 77]
          obtain ⟨⟨u9, f0⟩, f1⟩ := there_one hbt
          have hm9 : m < 9223372036854775807 := by unfold maxLen at hb3; omega
          clear hy hrow hth hbt hbo HI
          go_wp2_with fail
          go_roundw
          case rel => exact ⟨m + 1, by omega, by go_num, HI2.out⟩
          case measure => simp [intOf]; unfold maxLen at hb3 ⊢; omega
        · have hmi : ¬ (m : Int) < (yn : Int) := by omega
          have HI2 := Lib.hid (HI.out.storeOne hrow hglo hghi hWl i hlt (.string ⟨#[115, 112, 111, 105, 108, 116]⟩) (.int .i64 0) (.string ⟨#[]⟩) (.bool false))
          have HTH := Lib.hid hth
          clear hy hrow hth HI
          obtain ⟨W5, hW5⟩ : ∃ W, W = wr.setCells g0 (i * 5) (#[.string ⟨#[115, 112, 111, 105, 108, 116]⟩, .int .i64 0, .string ⟨#[]⟩, .slice none 0 0, .bool false] : Array Value).toList := ⟨_, rfl⟩
          rw [show ([.string ⟨#[115, 112, 111, 105, 108, 116]⟩, .int .i64 0, .string ⟨#[]⟩, .slice none 0 0, .bool false] : List Value) = (#[.string ⟨#[115, 112, 111, 105, 108, 116]⟩, .int .i64 0, .string ⟨#[]⟩, .slice none 0 0, .bool false] : Array Value).toList from rfl, ← hW5] at HI2
          go_wp2_with (refine wpList_store_mid rfl 33 (.tmp 76) (.tmp 75) rfl g0 (i * 5) #[.string ⟨#[115, 112, 111, 105, 108, 116]⟩, .int .i64 0, .string ⟨#[]⟩, .slice none 0 0, .bool false] (by simp [go_sem]) rfl HTH.out (by kernel_rfl) (by simp [Value.oneCell']) ?_; rw [← hW5]; clear hW5)
          go_roundw
          case rel => exact ⟨i + 1, by omega, by go_num, HI2.out⟩
          case measure => simp [intOf]; omega
    · have hki : ¬ (i : Int) < (sn : Int) := by omega
      clear hi'
      go_wp2_with fail
      go_loopw [18] (fun a wr => ∃ m : Nat, m ≤ en ∧ a = .int .i64 (m : Int) ∧ Hid (SpS w2.heap.size gi (.slice iA sn sc) sn (.slice iB en ec) en w9 wr)) (fun a _ => en - (intOf a).toNat)
      case atStart => exact ⟨0, Nat.zero_le _, rfl, HI.out⟩
      case round =>
        clear HI d0 d1
        obtain ⟨m, hm, rfl, HI⟩ := hrel
        obtain ⟨d0, d1⟩ := HBX.out _ HI.out.only
        have hWl : w2.heap.size ≤ wr.heap.size := Nat.le_trans hlo9 HI.out.only.low.size
        by_cases hlt : m < en
        · obtain ⟨g, xs, hSe, hglo, hghi, hmx9, hth, hrow⟩ := HI.out.had.at hlt
          subst hSe
          have hmi : (m : Int) < (en : Int) := by omega
          have HI2 := Lib.hid (HI.out.store hrow hglo hghi hWl (by decide) (m * 2) [.string ⟨#[115, 112, 111, 105, 108, 116]⟩, .int .i64 0])
          have HTH := Lib.hid hth
          clear hrow hth HI
          obtain ⟨W5, hW5⟩ : ∃ W, W = wr.setCells g (m * 2) (#[.string ⟨#[115, 112, 111, 105, 108, 116]⟩, .int .i64 0] : Array Value).toList := ⟨_, rfl⟩
          rw [show ([.string ⟨#[115, 112, 111, 105, 108, 116]⟩, .int .i64 0] : List Value) = (#[.string ⟨#[115, 112, 111, 105, 108, 116]⟩, .int .i64 0] : Array Value).toList from rfl, ← hW5] at HI2
          go_wp2_with (refine wpList_store_mid rfl 38 (.tmp 88) (.tmp 87) rfl g (m * 2) #[.string ⟨#[115, 112, 111, 105, 108, 116]⟩, .int .i64 0] (by simp [go_sem]) rfl HTH.out (by kernel_rfl) (by simp [Value.oneCell']) ?_; rw [← hW5]; clear hW5)
          go_roundw
          case rel => exact ⟨m + 1, by omega, by go_num, HI2.out⟩
          case measure => simp [intOf]; omega
        · have hmi : ¬ (m : Int) < (en : Int) := by omega
          have HBR : Hid (Below w.heap.size w wr) := HB9.out.trans (HI.out.only.low.mono (by have := HG4.out; omega))
          have KTR := Lib.hid (KT9.out.below HI.out.only.low (by have := HG4.out; omega))
          have KAR := Lib.hid (Blk.only KA9.out (by omega) HI.out.only)
          have KSR := Lib.hid (Blk.only KS9.out (by omega) HI.out.only)
          have HOAR := Lib.hid (TabO.only HOA9.out (by have := HG4.out; omega) HI.out.only)
          have HOSR : Hid (SesO wr W6.heap.size ⟨qt, qh, qi, ⟨qA, qn, qc, ql⟩, qb⟩) := FS.own.only HOS9.out (by have := HG6.out; omega) HI.out.only
          have hc := HRO.out wr HBR.out
          obtain ⟨⟨c0, c1⟩, -⟩ := blk2T KTR.out
          clear HI hWl HRO KT9 KA9 KS9 HOA9 HOS9 HB9 HBX KI9
          go_wp2_with fail
          refine hc.mono ?_
          clear hc c0 c1 d0 d1
          rintro e w11 ⟨⟨⟨bA, bn, bc, bl⟩, ⟨bB, bm, bd, bk⟩⟩, he, hO11, hc11, hb11⟩
          replace he : e = .returned (.tuple #[.agg #[.slice bA bn bc, .slice bB bm bd], .int .i64 NV, .int .i64 V]) := he
          subst he
          have hba := (Below.refl w11.heap.size w11).alloc (Nat.le_refl _) (.cells #[.slice bA bn bc, .slice bB bm bd] 25)
          have kg := Blk.new w11 25 #[.slice bA bn bc, .slice bB bm bd]
          obtain ⟨W12, hW12⟩ : ∃ W, W = w11.alloc (.cells #[.slice bA bn bc, .slice bB bm bd] 25) := ⟨_, rfl⟩
          rw [← hW12] at hba kg
          obtain ⟨gb, hgb⟩ : ∃ g, g = w11.heap.size := ⟨_, rfl⟩
          rw [← hgb] at kg
          have hszW12 : W12.heap.size = gb + 1 := by rw [hW12, hgb]; simp
          have hb12 := hb11.trans (hba.mono hb11.size)
          have HOB12 := Lib.hid (hO11.below hba)
          have HOA12 := Lib.hid (HOAR.out.below hb12)
          have HOS12 := Lib.hid (HOSR.out.below hb12)
          have HCB := Lib.hid hc11
          have HB12 := Lib.hid (HBR.out.trans (hb12.mono HBR.out.size))
          have KT12 := Lib.hid (KTR.out.below hb12 KTR.out.lt)
          have KA12 := Lib.hid (KAR.out.below hb12 KAR.out.lt)
          have KS12 := Lib.hid (KSR.out.below hb12 KSR.out.lt)
          have KB12 := Lib.hid kg
          have hgsb : gs < gb := by have := hb11.size; have := KSR.out.lt; omega
          have hwlt : w.heap.size < w11.heap.size := by have := KTR.out.lt; have := hb11.size; omega
          have hc := HRF.out W12 HB12.out
          obtain ⟨⟨c0, c1⟩, -⟩ := blk2T (KTR.out.below hb11 KTR.out.lt)
          clear hO11 hc11 hb11 hba kg hb12 KTR KAR KSR HBR HOAR HOSR HRF
          go_wp2_with fail
          rw [← hW12]
          clear hW12 c0 c1
          rw [← hgb]
          clear hgb hwlt
          refine hc.mono ?_
          clear hc
          rintro e w13 ⟨⟨ot, oh, oi, ⟨oA, on, oc, ol⟩, ob⟩, he, hO13, hc13, hb13⟩
          replace he : e = .returned (.tuple #[.agg #[.string ⟨ot.toArray⟩, .int .i64 oh, .string ⟨oi.toArray⟩, .slice oA on oc, .bool ob], .int .i64 FV]) := he
          subst he
          have hba := (Below.refl w13.heap.size w13).alloc (Nat.le_refl _) (.cells #[.string ⟨ot.toArray⟩, .int .i64 oh, .string ⟨oi.toArray⟩, .slice oA on oc, .bool ob] 33)
          have kg := Blk.new w13 33 #[.string ⟨ot.toArray⟩, .int .i64 oh, .string ⟨oi.toArray⟩, .slice oA on oc, .bool ob]
          obtain ⟨W14, hW14⟩ : ∃ W, W = w13.alloc (.cells #[.string ⟨ot.toArray⟩, .int .i64 oh, .string ⟨oi.toArray⟩, .slice oA on oc, .bool ob] 33) := ⟨_, rfl⟩
          rw [← hW14] at hba kg
          obtain ⟨go, hgo⟩ : ∃ g, g = w13.heap.size := ⟨_, rfl⟩
          rw [← hgo] at kg
          have hszW14 : W14.heap.size = go + 1 := by rw [hW14, hgo]; simp
          have hb14 := hb13.trans (hba.mono hb13.size)
          have HOO14 := Lib.hid (hO13.below hba)
          have HOB14 := Lib.hid (HOB12.out.below hb14)
          have HOA14 := Lib.hid (HOA12.out.below hb14)
          have HOS14 := Lib.hid (HOS12.out.below hb14)
          have HCO := Lib.hid hc13
          have HB14 := Lib.hid (HB12.out.trans (hb14.mono HB12.out.size))
          have KA14 := Lib.hid (KA12.out.below hb14 KA12.out.lt)
          have KS14 := Lib.hid (KS12.out.below hb14 KS12.out.lt)
          have KB14 := Lib.hid (KB12.out.below hb14 KB12.out.lt)
          have KO14 := Lib.hid kg
          have hgbo : gb < go := by have := hb13.size; have := KB12.out.lt; omega
          obtain ⟨⟨d0, d1⟩, -⟩ := blk2T (KA12.out.below hb13 KA12.out.lt)
          obtain ⟨⟨c0, c1⟩, -⟩ := blk2T (KB12.out.below hb13 KB12.out.lt)
          have hl1 : ga < w13.heap.size := by omega
          have hl2 : gb < w13.heap.size := by omega
          have hsz := HOA14.out.szd (N := 1048577) (by rw [HCA.out]; exact openC_szc HZC.out x z hxl hzl) (by omega)
          have hsa := same26_any ⟨⟨aA, an, ac, al⟩, ⟨aB, am, ad, ak⟩⟩ ⟨⟨bA, bn, bc, bl⟩, ⟨bB, bm, bd, bk⟩⟩ (HCA.out.trans HCB.out.symm) W14 W14.heap.size (Nat.le_refl _) HOA14.out.rd HOB14.out.rd hsz.1
          replace hsa : Calls Tryd.prog 12 #[.agg #[.slice aA an ac, .slice aB am ad], .agg #[.slice bA bn bc, .slice bB bm bd]] W14 fun e w' => e = .returned (.bool true) ∧ Below W14.heap.size W14 w' := hsa
          have hdV : decide (V = V) = true := by simp
          have hdF : decide (FV = FV) = true := by simp
          clear hO13 hc13 hb13 hba kg hb14 KA12 KB12 HOA12 HOB12 HOS12 HB12 KT12 KS12 hsz hdV hdF
          go_wp2_with fail
          rw [← hW14]
          refine (num27_any _ _).mono ?_
          rintro e w15 ⟨rfl, hw15⟩
          rw [hw15]
          clear hw15 w15
          rw [hW14]
          go_wp2_with fail
          rw [← hW14]
          clear hW14 c0 c1 d0 d1
          rw [← hgo]
          clear hgo hl1 hl2
          refine hsa.mono ?_
          clear hsa
          rintro e w16 ⟨rfl, hb16⟩
          have HB16 := Lib.hid (HB14.out.trans (hb16.mono HB14.out.size))
          have KS16 := Lib.hid (KS14.out.below hb16 KS14.out.lt)
          have KO16 := Lib.hid (KO14.out.below hb16 KO14.out.lt)
          have hcs : (⟨qt, qh, qi, ⟨qA, qn, qc, ql⟩, qb⟩ : SesR).con = (⟨ot, oh, oi, ⟨oA, on, oc, ol⟩, ob⟩ : SesR).con := HCS.out.trans HCO.out.symm
          have hss := sameS_any ⟨qt, qh, qi, ⟨qA, qn, qc, ql⟩, qb⟩ ⟨ot, oh, oi, ⟨oA, on, oc, ol⟩, ob⟩ hcs w16 w16.heap.size (Nat.le_refl _) (HOS14.out.below hb16).rd (HOO14.out.below hb16).rd
          replace hss : Calls Tryd.prog 16 #[.agg #[.string ⟨qt.toArray⟩, .int .i64 qh, .string ⟨qi.toArray⟩, .slice qA qn qc, .bool qb], .agg #[.string ⟨ot.toArray⟩, .int .i64 oh, .string ⟨oi.toArray⟩, .slice oA on oc, .bool ob]] w16 fun e w' => e = .returned (.bool true) ∧ Below w16.heap.size w16 w' := hss
          obtain ⟨⟨c0, c1, c2, c3, c4⟩, -⟩ := blk5F KS16.out
          obtain ⟨⟨d0, d1, d2, d3, d4⟩, -⟩ := blk5F KO16.out
          clear hb16 hcs KS14 KO14 HB14 HOS14 HOO14
          go_wp2_with fail
          refine (num27_any _ _).mono ?_
          rintro e w17 ⟨rfl, hw17⟩
          rw [hw17]
          clear hw17 w17
          go_wp2_with fail
          refine hss.mono ?_
          clear hss c0 c1 c2 c3 c4 d0 d1 d2 d3 d4
          rintro e w18 ⟨rfl, hb18⟩
          have HB18 := Lib.hid (HB16.out.trans (hb18.mono HB16.out.size))
          clear hb18
          go_wp2_with fail
          go_ret
          exact ⟨rfl, HB18.out⟩
end Go.Proofs.YtjdebhemoeojiaaDoor
