/-
  'clear' of a piece of a row that is known whole. cmp.Compare at strings, by its contract. A row of one's own of which one field of one element is stored: the element is another one, the rest stays. Drawn regions with guards: when an operation is wanted. alive (layer 11): a block put into no content, and read. blocks.Put, by its contract. The reference's letter, Name, value, Props: by their contracts. names.Name, names.Path. 'append' into a row that is known whole and has room. props.Over, by its contract. Grants: the plain law. slices.IndexFunc and slices.DeleteFunc at elements of 2 cells, by their contracts. A slice of strings in memory.
-/
import Derived.Test.YteafdncnnamakaaGreatDoorK0
import Derived.Test.YteafdncnnamakaaGreatDoorK3
import Derived.Test.YteafdncnnamakaaGreatDoorK2
import Derived.Handy
import Derived.Test.YteafdncnnamakaaGreatDoorRows
import Derived.Test.YteafdncnnamakaaGreatDoorK5
import Derived.Test.YteafdncnnamakaaGreatDoorK4
import Derived.Test.YteafdncnnamakaaGreatDoorK1
import Derived.Shelf.SlIter.Nil
import Derived.Shelf.SortM.Plain
import Derived.Shelf.SortM.SortNone
import Derived.Maps.OwnSet
import Derived.Maps.StringElems
namespace Go.Proofs.YteafdncnnamakaaGreatDoor
open Go.RowKit
section
variable {P : Program}
theorem run_clear_rowK (w : World) (t ty e : TypeId) (z : Value) (ht : P.underlying t = some (.slice e)) (hv : ∀ w, (zeroValue e).run P w = .ok z w) (h1 : ∀ u ∈ z.cells.toList, u.oneCell' = true)
  (g o n c : Nat) (cur : List Value) (T : TypeId) (hg : w.heap[g]? = some (.cells cur.toArray T (0, 0))) (hn : 0 < n) (hfit : o + n * z.cells.size ≤ cur.length) :
  (Builtin.clear_ #[t] ty #[.slice (some ⟨g, o, none⟩) n c]).run P w = .ok (.tuple #[]) (w.setRow g (splice cur o (Builtin.zeroCells z.cells n).toList).toArray) := by
 have hzl : (Builtin.zeroCells z.cells n).toList.length = n * z.cells.size := by simp [Builtin.zeroCells]
 have hz1 : ∀ u ∈ (Builtin.zeroCells z.cells n).toList, u.oneCell' = true := by
  intro u hu
  simp only [Builtin.zeroCells, Array.toList_map, Array.toList_range, List.mem_map, List.mem_range] at hu
  obtain ⟨i, hi, rfl⟩ := hu
  have hk : 0 < z.cells.size := by
   rcases Nat.eq_zero_or_pos z.cells.size with h | h
   ·rw [h] at hi; omega
   ·exact h
  have hm := Nat.mod_lt i hk
  rw [getElem!_pos z.cells _ hm]
  exact h1 _ (by simp)
 have hst := run_storeCells_at P g o T (Builtin.zeroCells z.cells n).toList 0 cur.toArray w hg (by rw [hzl]; simpa using hfit) hz1
 obtain ⟨m, rfl⟩ : ∃ m, n = m + 1 := ⟨n - 1, by omega⟩
 simp [Builtin.clear_, run_underlying ht, hv, hst, splice]
theorem wp_clearK {o : Oper} {a : Act} {w : World} {K : Act → World → Prop} {Q : Exit → Act → World → Prop} (d : Operand) (t : TypeId)
  (ho : o.op = .call { callee := .builtin .clear, args := #[d], argTypes := #[t] }) (e : TypeId) (z : Value) (ht : P.underlying t = some (.slice e)) (hv : ∀ w, (zeroValue e).run P w = .ok z w) (h1 : ∀ u ∈ z.cells.toList, u.oneCell' = true)
  (g off n c : Nat) (hd : a.eval d = .slice (some ⟨g, off, none⟩) n c) (cur : List Value) (T : TypeId) (hg : w.heap[g]? = some (.cells cur.toArray T (0, 0))) (hfit : off + n * z.cells.size ≤ cur.length)
  (h : ∀ w' zs, zs.length = n * z.cells.size → Hid (w'.heap[g]? = some (.cells (splice cur off zs).toArray T (0, 0))) → w.grownBy w' (some g) → K (a.put o.dst (.tuple #[])) w') : o.wp P a w K Q := by
 rcases Nat.eq_zero_or_pos n with h0 | h0
 ·subst h0
  have hrun : (Builtin.clear_ #[t] o.type #[.slice (some ⟨g, off, none⟩) 0 c]).run P w = .ok (.tuple #[]) w := by simp [Builtin.clear_, run_underlying ht]
  unfold Oper.wp
  simp [execOp, ho, resolve, invoke, builtin, hd, hrun, Result.andThen]
  exact h w [] (by simp) (show _ = _ by simpa [splice] using hg) (World.grownBy.refl _ _)
 ·have hrun := run_clear_rowK (P := P) w t o.type e z ht hv h1 g off n c cur T hg h0 hfit
  unfold Oper.wp
  simp [execOp, ho, resolve, invoke, builtin, hd, hrun, Result.andThen]
  exact h _ _ (by simp [Builtin.zeroCells]) (show _ = _ from setRow_heap w g _ _ T _ hg) (grown_setRow _)
theorem wpList_clearK {w : World} {ops : Array Oper} {rest : List Oper} {o : Oper} {a : Act} {Q : Exit → Act → World → Prop} (hgd : o.guard = none) (d : Operand) (t : TypeId)
  (ho : o.op = .call { callee := .builtin .clear, args := #[d], argTypes := #[t] }) (e : TypeId) (z : Value) (ht : P.underlying t = some (.slice e)) (hv : ∀ w, (zeroValue e).run P w = .ok z w) (h1 : ∀ u ∈ z.cells.toList, u.oneCell' = true)
  (g off n c : Nat) (hd : a.eval d = .slice (some ⟨g, off, none⟩) n c) (cur : List Value) (T : TypeId) (hg : w.heap[g]? = some (.cells cur.toArray T (0, 0))) (hfit : off + n * z.cells.size ≤ cur.length)
  (h : ∀ w' zs, zs.length = n * z.cells.size → Hid (w'.heap[g]? = some (.cells (splice cur off zs).toArray T (0, 0))) → w.grownBy w' (some g) → wpList P ops Q rest (a.put o.dst (.tuple #[])) w') : wpList P ops Q (o :: rest) a w :=
 wpList_plain hgd fun _ hK => wp_clearK d t ho e z ht hv h1 g off n c hd cur T hg hfit (fun w' zs h0 h1 h2 => hK _ _ (h w' zs h0 h1 h2))
end
end Go.Proofs.YteafdncnnamakaaGreatDoor
namespace Go.Proofs.YteafdncnnamakaaGreatDoor
open Go.RowKit
def cmpS (x y : BS) : Int := if Op.bytesLess x y = true then -1 else if Op.bytesLess y x = true then 1 else 0
theorem cmpS_neg (x y : BS) : cmpS x y < 0 ↔ Op.bytesLess x y = true := by
 unfold cmpS
 split
 ·rename_i h; simp [h]
 ·rename_i h
  split
  ·simp [h]
  ·simp [h]
theorem cmpS_zero (x y : BS) : cmpS x y = 0 ↔ x = y := by
 unfold cmpS
 split
 ·rename_i h
  constructor
  ·intro e; cases e
  ·intro e; exact absurd e (bl_ne h)
 ·rename_i h
  split
  ·rename_i h2
   constructor
   ·intro e; cases e
   ·intro e; exact absurd e.symm (bl_ne h2)
  ·rename_i h2
   constructor
   ·intro _
    by_cases e : x = y
    ·exact e
    ·exact absurd (bl_tri x y (by simpa using h) e) h2
   ·intro _; rfl
set_option maxRecDepth 100000 in
theorem isNaNS_any (x : BS) (w : World) : Calls Tryz.prog 132 #[.string ⟨x.toArray⟩] w fun e w' => e = .returned (.bool false) ∧ ∃ q, w' = w.drewN q := by
 go_enter Tryz.func132, Tryz.ntmps132
 go_wp2_with fail
 go_ret
 exact ⟨rfl, 0, rfl⟩
set_option maxRecDepth 100000 in
theorem compareS_any (x y : BS) (w : World) : Calls Tryz.prog 76 #[.string ⟨x.toArray⟩, .string ⟨y.toArray⟩] w fun e w' => e = .returned (.int .i64 (cmpS x y)) ∧ ∃ q, w' = w.drewN q := by
 have hlss := lssS 9 x y
 have hgtr := gtrS 9 x y
 go_enter Tryz.func76, Tryz.ntmps76
 go_wp2_with fail
 refine (isNaNS_any x _).mono ?_
 rintro e w1 ⟨rfl, q1, rfl⟩
 go_wp2_with fail
 refine (isNaNS_any y _).mono ?_
 rintro e w1 ⟨rfl, q2, rfl⟩
 cases h1 : Op.bytesLess x y with
 | true =>
  have HV : Hid (cmpS x y = -1) := by show _ = _; unfold cmpS; rw [if_pos h1]
  rw [h1] at hlss hgtr
  clear h1
  go_wp2_with fail
  go_ret
  exact ⟨by rw [HV.out]; rfl, q1 + q2, rfl⟩
 | false =>
  by_cases h2 : x = y
  ·have HV : Hid (cmpS x y = 0) := (cmpS_zero x y).2 h2
   have hd : (Op.bytesLess x y || x == y) = true := by simp [h2]
   rw [hd] at hgtr
   rw [h1] at hlss
   clear h1 h2 hd
   go_wp2_with fail
   go_ret
   exact ⟨by rw [HV.out]; rfl, q1 + q2, rfl⟩
  ·have HV : Hid (cmpS x y = 1) := by show _ = _; unfold cmpS; rw [if_neg (by rw [h1]; simp), if_pos (bl_tri x y h1 h2)]
   have hd : (Op.bytesLess x y || x == y) = false := by rw [h1]; simpa using h2
   rw [hd] at hgtr
   rw [h1] at hlss
   clear h1 h2 hd
   go_wp2_with fail
   go_ret
   exact ⟨by rw [HV.out]; rfl, q1 + q2, rfl⟩
end Go.Proofs.YteafdncnnamakaaGreatDoor
namespace Go.Proofs.YteafdncnnamakaaGreatDoor
open Go.RowKit
theorem cellsK_setF {α : Type} {enc : α → List Value} {k : Nat} (hk : ∀ x, (enc x).length = k) (l : List α) (i j : Nat) (hj : j < k) (x' : α) (u : Value) (he : ∀ x, l[i]? = some x → enc x' = (enc x).set j u) :
  cellsK enc (l.set i x') = (cellsK enc l).set (i * k + j) u := by
 induction l generalizing i with
 | nil => simp [cellsK]
 | cons x l ih =>
  cases i with
  | zero =>
   show enc x' ++ cellsK enc l = (enc x ++ cellsK enc l).set (0 * k + j) u
   rw [he x rfl, Nat.zero_mul, Nat.zero_add, List.set_append_left _ _ (by rw [hk]; exact hj)]
  | succ i =>
   show enc x ++ cellsK enc (l.set i x') = (enc x ++ cellsK enc l).set ((i + 1) * k + j) u
   rw [ih i (fun y hy => he y hy), Nat.succ_mul, List.set_append_right _ _ (by rw [hk]; omega), hk]
   congr 2
   omega
section
variable {α : Type} {w w' : World} {base k g : Nat} {t T : TypeId} {enc : α → List Value} {s : FS α}
/-- one field of one element stored -/
theorem FS.own.field (h : s.own w base t k enc) (hk : ∀ x, (enc x).length = k) (hA : s.A = some ⟨g, 0, none⟩) (i j : Nat) (hj : j < k) (x' : α) (u : Value) (he : ∀ x, s.l[i]? = some x → enc x' = (enc x).set j u) :
  FS.own (w.setCell ⟨g, i * k + j, none⟩ u) base t k enc ⟨s.A, s.n, s.c, s.l.set i x'⟩ ∧ w.grownBy (w.setCell ⟨g, i * k + j, none⟩ u) (some g) := by
 obtain ⟨A, n, c, l⟩ := s
 simp only at hA
 subst hA
 have h2 := World.ownsRow.stored h.2 (i * k + j) u
 refine ⟨⟨by rw [List.length_set]; exact h.1, ?_⟩, h2.2⟩
 show World.ownsRow _ base t k _ n (cellsK enc (l.set i x'))
 rw [cellsK_setF hk l i j hj x' u he]
 exact h2.1
/-- a row that is not empty is a block of its own -/
theorem FS.own.blk (h : s.own w base t k enc) (h0 : 0 < s.n) : ∃ g cs, s.A = some ⟨g, 0, none⟩ ∧ base ≤ g ∧ Blk w g t cs := by
 obtain ⟨A, n, c, l⟩ := s
 rcases h.2.2 with ⟨e, e0⟩ | ⟨g, cap, cur, e, hb, hg, _⟩
 ·simp only at h0 e0
  omega
 ·unfold FS.val at e
  injection e with e1 e2 e3
  exact ⟨g, cur, e1, hb, hg⟩
/-- what is grown in a block of another element type keeps a row -/
theorem FS.own.keptT {cs : Array Value} (h : s.own w base t k enc) (hg : w.grownBy w' (some g)) (hb : Blk w g T cs) (hne : t ≠ T) : s.own w' base t k enc :=
 ⟨h.1, h.2.kept hg (.inr (own_blk_ne h.2 hb hne))⟩
end
end Go.Proofs.YteafdncnnamakaaGreatDoor
namespace Go.Proofs.YteafdncnnamakaaGreatDoor
open Go.RowKit
theorem wanted_of {ops : Array Oper} {o : Oper} {A : Act} {g k : Nat} {b : Bool} (hg : o.guard = some (g, b)) (hd : (ops[g]?).bind (·.dst) = some k) (h : A.tmps[k]?.getD undef = .bool b) : Region.wanted o (yielded ops A.tmps) = true := by
 have h1 : A.tmps[k]? = some (.bool b) := by
  cases hk : A.tmps[k]? with
  | none => rw [hk] at h; cases h
  | some x => rw [hk] at h; exact congrArg some h
 simp [Region.wanted, hg, yielded, hd, h1]
theorem unwanted_of {ops : Array Oper} {o : Oper} {A : Act} {g k : Nat} {b : Bool} (hg : o.guard = some (g, b)) (hd : (ops[g]?).bind (·.dst) = some k) (h : A.tmps[k]?.getD undef = .bool (!b) ∨ A.tmps[k]?.getD undef = undef) : ¬ Region.wanted o (yielded ops A.tmps) = true := by
 have hy : ∀ v, A.tmps[k]?.getD undef = v → yielded ops A.tmps g = match v with | .bool b => some b | _ => none := by
  rintro v rfl
  unfold yielded
  rw [hd]
  simp only [Option.bind_some]
  cases A.tmps[k]? with
  | none => rfl
  | some v => cases v <;> rfl
 rcases h with h | h
 ·simp [Region.wanted, hg, hy _ h]
 ·have := hy _ h
  simp [Region.wanted, hg, this, undef]
/-- what lies in the slot of an operation that has come up -/
theorem tO {ops : Array Oper} {a0 A : Act} {m : Nat → Option Value} {k i : Nat} {v : Value} (hA : A = frameM a0 ops m) (hv : m i = some v) (hw : ownerOf ops k = some i := by kernel_rfl) (hk : k < a0.tmps.size := by exact of_decide_eq_true (by kernel_rfl)) : A.tmps[k]?.getD undef = v := by
 rw [hA]
 exact tmps_own hw hv hk
/-- what lies in a slot of no operation's -/
theorem tF {ops : Array Oper} {a0 A : Act} {m : Nat → Option Value} {k : Nat} {v : Value} (hA : A = frameM a0 ops m) (hw : ownerOf ops k = none := by kernel_rfl) (hv : a0.tmps[k]?.getD undef = v := by rfl) : A.tmps[k]?.getD undef = v := by
 rw [hA, ← hv]
 exact tmps_free hw
/-- an operation whose value is said -/
theorem dV {m : Nat → Option Value} {j : Nat} {p : Value → Prop} {val : Value} (h : ∃ v, m j = some v ∧ p v) (hp : ∀ v, p v → v = val := by exact fun _ h => h) : m j = some val := by
 obtain ⟨v, h1, h2⟩ := h
 rw [h1, hp v h2]
end Go.Proofs.YteafdncnnamakaaGreatDoor
namespace Go.Proofs.YteafdncnnamakaaGreatDoor
open Go.RowKit
set_option maxRecDepth 100000 in
theorem cloneB_any (xs : List Value) (n : Nat) (A : Option Addr) (c : Nat) (w : World) (B : Nat) (hr : Reads w B 2 A n xs) (hB : B ≤ w.heap.size) (h1 : ∀ u ∈ xs, u.oneCell' = true) (hn : n ≤ 5000000000000) :
  Calls Tryz.prog 108 #[.slice A n c] w fun e w' => ∃ v, e = .returned v ∧ w'.ownsRow w.heap.size 141 2 v n xs ∧ Below w.heap.size w w' := by
 obtain ⟨i0, hi0, hz0, hz1, hz2⟩ := info_parts Tryz.infoB
 rcases A with _ | ad
 ·obtain rfl : n = 0 := by
   rcases Nat.eq_zero_or_pos n with h | h
   ·exact h
   ·obtain ⟨_, h, _⟩ := hr.2 h; cases h
  obtain rfl : xs = [] := List.eq_nil_of_length_eq_zero (by simpa using hr.1)
  have heq := fun W => Lib.run_eql_slice_nil (P := Tryz.prog) W 45 141 none 0 c 0 0 Tryz.underlying45
  go_enter Tryz.func108, Tryz.ntmps108
  go_wp2_with fail
  go_ret
  exact ⟨_, rfl, World.ownsRow_nil _ _ _ _, Below.refl _ _⟩
 ·have heq := fun W => Lib.run_eql_slice_nil (P := Tryz.prog) W 45 141 (some ad) n c 0 0 Tryz.underlying45
  have hown : (w.alloc (.cells #[] 141)).ownsRow w.heap.size 141 2 (.slice (some ⟨w.heap.size, 0, none⟩) 0 0) 0 [] := World.ownsRow_made w #[] 0 (Nat.le_refl _) (by simp [maxLen]) rfl
  have hra := hr.alloc hB (.cells #[] 141)
  go_enter Tryz.func108, Tryz.ntmps108
  go_wp2_with (at_builtin; (refine wpList_append_any _ rfl (.tmp 5) (.tmp 6) _ rfl w.heap.size 141 i0 _ 2 24 Tryz.underlying45 hi0 hz0 hz1 hz2 rfl (by omega) (.slice (some ⟨w.heap.size, 0, none⟩) 0 0) 0 [] rfl hown B (some ad) n c xs rfl hra h1 (by unfold maxLen; omega) (by omega) (by simp) ?_); intro v1 w2 hown1 hg1 hat1)
  go_ret
  refine ⟨v1, rfl, by simpa using hown1, ((Below.refl _ _).alloc (Nat.le_refl _) _).grown hg1 (by simp) (fun k hk => ?_)⟩
  simp [Value.ownBlock] at hk
  omega
end Go.Proofs.YteafdncnnamakaaGreatDoor
namespace Go.Proofs.YteafdncnnamakaaGreatDoor
open Go.RowKit
def cmpI (x y : Int) : Int := if x < y then -1 else if y < x then 1 else 0
theorem cmpI_neg (x y : Int) : cmpI x y < 0 ↔ x < y := by unfold cmpI; split <;> (try split) <;> omega
theorem cmpI_zero (x y : Int) : cmpI x y = 0 ↔ x = y := by unfold cmpI; split <;> (try split) <;> omega
set_option maxRecDepth 100000 in
theorem isNaN_any (x : Int) (w : World) : Calls Tryz.prog 169 #[.int .i64 x] w fun e w' => e = .returned (.bool false) ∧ ∃ q, w' = w.drewN q := by
 go_enter Tryz.func169, Tryz.ntmps169
 go_wp2_with fail
 go_ret
 exact ⟨rfl, 0, rfl⟩
set_option maxRecDepth 100000 in
theorem compare_any (x y : Int) (w : World) : Calls Tryz.prog 149 #[.int .i64 x, .int .i64 y] w fun e w' => e = .returned (.int .i64 (cmpI x y)) ∧ ∃ q, w' = w.drewN q := by
 go_enter Tryz.func149, Tryz.ntmps149
 go_wp2_with fail
 refine (isNaN_any x _).mono ?_
 rintro e w1 ⟨rfl, q1, rfl⟩
 go_wp2_with fail
 refine (isNaN_any y _).mono ?_
 rintro e w1 ⟨rfl, q2, rfl⟩
 by_cases h1 : x < y
 ·go_wp2_with fail
  go_ret
  exact ⟨by unfold cmpI; rw [if_pos h1]; rfl, q1 + q2, rfl⟩
 ·by_cases h2 : y < x
  ·go_wp2_with fail
   go_ret
   exact ⟨by unfold cmpI; rw [if_neg (by omega), if_pos h2]; rfl, q1 + q2, rfl⟩
  ·go_wp2_with fail
   go_ret
   exact ⟨by unfold cmpI; rw [if_neg (by omega), if_neg (by omega)]; rfl, q1 + q2, rfl⟩
set_option maxRecDepth 100000 in
theorem by_any (x : Int) (s : ByteArray) (y : Int) (w : World) : Calls Tryz.prog 107 #[.agg #[.int .i64 x, .string s], .int .i64 y] w fun e w' => e = .returned (.int .i64 (cmpI x y)) ∧ Below w.heap.size w w' := by
 have hb0 := (Below.refl w.heap.size w).alloc (Nat.le_refl _) (.cells #[.int .i64 x, .string s] 141)
 have hc := (Blk.new w 141 #[.int .i64 x, .string s]).cell 0
 go_enter Tryz.func107, Tryz.ntmps107
 go_wp2_with fail
 refine (compare_any x y _).mono ?_
 rintro e w2 ⟨rfl, q, rfl⟩
 go_wp2_with fail
 go_ret
 exact ⟨rfl, below_drewN hb0 q⟩
/-! ### the plain law's words -/
def Asc (l : BL) : Prop := ∀ (i j : Nat) (x y : Int × List UInt8), i < j → l[i]? = some x → l[j]? = some y → x.1 < y.1
theorem okFrom_asc (p : Option Int) (l : BL) (h : okFrom p l = true) : Asc l ∧ ∀ q, p = some q → ∀ x ∈ l, q < x.1 := by
 induction l generalizing p with
 | nil => exact ⟨fun i j x y _ h => by simp at h, fun _ _ x hx => by simp at hx⟩
 | cons z r ih =>
  simp only [okFrom, Bool.and_eq_true] at h
  obtain ⟨⟨_, h4⟩, h5⟩ := h
  obtain ⟨i1, i2⟩ := ih _ h5
  have i3 := i2 z.1 rfl
  refine ⟨fun i j x y hij hx hy => ?_, fun q hq x hx => ?_⟩
  ·cases j with
   | zero => omega
   | succ j =>
    cases i with
    | zero =>
     cases hx
     exact i3 y (List.mem_of_getElem? (by simpa using hy))
    | succ i => exact i1 i j x y (by omega) (by simpa using hx) (by simpa using hy)
  ·subst hq
   have h6 : q < z.1 := by simpa using h4
   rcases List.mem_cons.1 hx with rfl | hx
   ·exact h6
   ·have := i3 x hx
    omega
theorem okL_asc (l : BL) (h : okL l = true) : Asc l := (okFrom_asc none l h).1
def cfB (t : Int) : Int × List UInt8 → Int := fun x => cmpI x.1 t
theorem cfB_asc (l : BL) (h : Asc l) (t : Int) : SignAsc (cfB t) l := by
 intro i j x y hij hx hy hlt
 have h1 := h i j x y hij hx hy
 unfold cfB at hlt ⊢
 rw [cmpI_neg] at hlt ⊢
 omega
def putE (l : BL) (i : Int) (d : List UInt8) : Int := if okL l = true then (if 0 ≤ i ∧ i < 1024 then (if d.length = 16 then 0 else 5) else 4) else 9
def putL11 (l : BL) (i : Int) (d : List UInt8) : BL := l.take (posF (cfB i) l) ++ [(i, d)] ++ l.drop (posF (cfB i) l + if atF (cfB i) l = true then 1 else 0)
def PutPost (w : World) (l : BL) (i : Int) (d : List UInt8) (e : Ending) (w' : World) : Prop :=
 ∃ v, e = .returned (.tuple #[v, .int .i64 (putE l i d)]) ∧ (if putE l i d = 0 then w'.ownsRow w.heap.size 141 2 v (putL11 l i d).length (bcells (putL11 l i d)) else v = .slice none 0 0) ∧ Below w.heap.size w w'
theorem bcells_one (l : BL) : ∀ u ∈ bcells l, u.oneCell' = true := by
 intro u hu
 simp only [bcells, List.mem_flatMap] at hu
 obtain ⟨x, _, hx⟩ := hu
 rcases List.mem_cons.1 hx with rfl | hx
 ·rfl
 ·rcases List.mem_cons.1 hx with rfl | hx
  ·rfl
  ·cases hx
theorem bcells_take (l : BL) (k : Nat) : bcells (l.take k) = (bcells l).take (k * 2) := cellsK_take (enc := fun x : Int × List UInt8 => [.int .i64 x.1, .string ⟨x.2.toArray⟩]) (fun _ => rfl) l k
theorem bcells_drop (l : BL) (k : Nat) : bcells (l.drop k) = (bcells l).drop (k * 2) := cellsK_drop (enc := fun x : Int × List UInt8 => [.int .i64 x.1, .string ⟨x.2.toArray⟩]) (fun _ => rfl) l k
theorem set_atB (l : BL) (p : Nat) (i : Int) (d : List UInt8) (h : (l[p]?).any (fun x => cfB i x == 0) = true) : (bcells l).set (p * 2 + 1) (.string ⟨d.toArray⟩) = bcells (l.take p ++ [(i, d)] ++ l.drop (p + 1)) := by
 cases hp : l[p]? with
 | none => rw [hp] at h; simp at h
 | some x =>
  rw [hp] at h
  have hx : x.1 = i := (cmpI_zero _ _).1 (by simpa [cfB] using h)
  obtain ⟨hlt, hpx⟩ := List.getElem?_eq_some_iff.1 hp
  have hl : l = l.take p ++ [x] ++ l.drop (p + 1) := by
   conv => lhs; rw [← List.take_append_drop p l]
   rw [List.drop_eq_getElem_cons hlt, hpx]
   simp
  conv => lhs; rw [hl]
  rw [bcells_append, bcells_append, bcells_append, bcells_append, List.append_assoc, List.append_assoc]
  rw [List.set_append_right _ _ (by rw [bcells_length, List.length_take]; omega), bcells_length, List.length_take, Nat.min_eq_left (by omega), show p * 2 + 1 - p * 2 = 1 by omega]
  subst hx
  rfl
set_option maxRecDepth 100000 in
set_option maxHeartbeats 2000000 in
theorem bkPut_any (l : BL) (n : Nat) (hnl : n = l.length) (A : Option Addr) (c : Nat) (i : Int) (d : List UInt8) (w : World) (B : Nat) (hr : Reads w B 2 A n (bcells l)) (hB : B ≤ w.heap.size) (hn : n ≤ 5000000000000) :
  Calls Tryz.prog 52 #[.slice A n c, .int .i64 i, .string ⟨d.toArray⟩] w (PutPost w l i d) := by
 have hck := checkBk_any l n hnl A c w B hr hB (by omega)
 by_cases hok : okL l = true
 ·have h1 : okE l = 0 := by unfold okE; rw [if_pos hok]
  rw [h1] at hck
  by_cases hi : 0 ≤ i ∧ i < 1024
  ·obtain ⟨hi1, hi2⟩ := hi
   by_cases hdl : d.length = 16
   ·have hpe : putE l i d = 0 := by unfold putE; rw [if_pos hok, if_pos ⟨hi1, hi2⟩, if_pos hdl]
    have hs := okL_small l hok
    have hsr := fun w' (hb : Below w.heap.size w w') => searchB_any (fun x : Int × List UInt8 => .int .i64 x.1) (fun x => .string ⟨x.2.toArray⟩) (cfB i) l (cfB_asc l (okL_asc l hok) i) n hnl A c (.int .i64 i) w' B (hr.below (hb.mono hB)) (by have := hb.size; omega) hn (fun x W _ => by_any x.1 _ i W)
    have hcl := fun w' (hb : Below w.heap.size w w') => cloneB_any (bcells l) n A c w' B (hr.below (hb.mono hB)) (by have := hb.size; omega) (bcells_one l) hn
    have hp := posF_le (cfB i) l
    obtain ⟨p, hpp⟩ : ∃ p, p = posF (cfB i) l := ⟨_, rfl⟩
    obtain ⟨t, htt⟩ : ∃ t, t = atF (cfB i) l := ⟨_, rfl⟩
    have hpl : putL11 l i d = l.take p ++ [(i, d)] ++ l.drop (p + if t = true then 1 else 0) := by unfold putL11; rw [← hpp, ← htt]
    have hat : t = (l[p]?).any (fun x => cfB i x == 0) := by rw [htt, hpp]; rfl
    rw [← hpp, ← htt] at hsr
    have hpn : p ≤ n := by omega
    have hll : (putL11 l i d).length = if t = true then n else n + 1 := by
     rw [hpl]
     simp only [List.length_append, List.length_take, List.length_drop, List.length_cons, List.length_nil]
     cases t with
     | true =>
      have : p < l.length := by
       rcases Nat.lt_or_ge p l.length with h | h
       ·exact h
       ·rw [List.getElem?_eq_none h] at hat; cases hat
      simp; omega
     | false => simp; omega
    have HPE := Lib.hid hpe
    have HPL := Lib.hid hpl
    have HAT := Lib.hid hat
    have HLL := Lib.hid hll
    have HN := Lib.hid hnl
    have HD := Lib.hid hdl
    have g3a : ((d.length : Int) == 16) = true := by simp [hdl]
    have g3b : ((d.length : Int) != 16) = false := by simp [hdl]
    clear hpp htt hpl hat hll hnl hdl hpe h1 hok hr hp
    go_enter Tryz.func52, Tryz.ntmps52
    go_wp2_with fail
    refine hck.mono ?_
    clear hck
    rintro e w1 ⟨rfl, hb1⟩
    go_wp2_with fail
    refine (hsr w1 hb1).mono ?_
    clear hsr
    rintro e w2 ⟨rfl, hb2⟩
    have hb12 := hb1.trans (hb2.mono hb1.size)
    clear hb1 hb2
    go_wp2_with fail
    refine (hcl w2 hb12).mono ?_
    clear hcl
    rintro e w3 ⟨v3, rfl, hown, hb3⟩
    have hbb := hb12.trans (hb3.mono hb12.size)
    have hsz := hb12.size
    have hsz3 : w2.heap.size ≤ w3.heap.size := hb3.size
    clear hb12 hb3 g3a g3b
    cases t with
    | true =>
     have hpn' : p < n := by
      have h1 := HAT.out
      have h2 := HN.out
      rcases Nat.lt_or_ge p l.length with h | h
      ·omega
      ·rw [List.getElem?_eq_none h] at h1; cases h1
     rcases hown.2 with ⟨_, h0⟩ | ⟨g, cap, cur, rfl, hbg, _, _, _, _, _⟩
     ·omega
     ·have hst := hown.stored (p * 2 + 1) (.string ⟨d.toArray⟩)
      have hl := HAT.out
      rw [set_atB l p i d hl.symm] at hst
      have hcell := (hown.cellAt (p * 2 + 1) (by omega)).trans (bcells_get l p (by have := HN.out; omega)).2
      generalize (l[p]'(by have := HN.out; omega)).2 = old at hcell
      have hfz := hown.frozenAt (p * 2 + 1)
      have hpi : (p : Int) < (n : Int) := by omega
      have HST := Lib.hid hst
      clear hl hst
      go_wp2_with fail
      go_ret2
      refine ⟨_, by rw [HPE.out]; rfl, ?_, hbb.setCell (by show _ ≤ g; omega) _⟩
      rw [if_pos HPE.out, HLL.out, HPL.out, if_pos trivial, if_pos trivial]
      exact own_mono HST.out.1 hsz
    | false =>
     obtain ⟨A3, c3, rfl, _, _, _⟩ := own_form hown
     have hown4 := hown.alloc (.cells #[.int .i64 i, .string ⟨d.toArray⟩] 141)
     have hnew := Blk.new w3 141 #[.int .i64 i, .string ⟨d.toArray⟩]
     have hins := insBk_any #[.int .i64 i, .string ⟨d.toArray⟩] rfl (by simp [Value.oneCell']) (bcells l) (bcells_one l) w3.heap.size 141 _ n p A3 c3 _ hpn hown4 (by show w2.heap.size ≤ _; simp; omega) hn hnew (fun e => by have := (hown.lt _ e).2; omega)
     have HLT := Lib.hid (fun k hk => (hown4.lt k hk).1)
     have HB2 := Lib.hid (hbb.alloc (by omega) (.cells #[.int .i64 i, .string ⟨d.toArray⟩] 141))
     clear hown4 hnew hown
     go_wp2_with fail
     refine hins.mono ?_
     clear hins
     rintro e w4 ⟨v4, rfl, hown5, hg⟩
     have HO := Lib.hid hown5
     have HG := Lib.hid hg
     clear hown5 hg
     go_wp2_with fail
     go_ret2
     refine ⟨v4, by rw [HPE.out]; rfl, ?_, HB2.out.grown HG.out (by simp; omega) (fun k hk => by have := HLT.out k hk; omega)⟩
     rw [if_pos HPE.out, HLL.out, HPL.out, if_neg (by simp), if_neg (by simp), bcells_append, bcells_append, bcells_take, bcells_drop]
     exact own_mono HO.out hsz
   ·have hpe : putE l i d = 5 := by unfold putE; rw [if_pos hok, if_pos ⟨hi1, hi2⟩, if_neg hdl]
    have g3a : ((d.length : Int) == 16) = false := by simp; omega
    have g3b : ((d.length : Int) != 16) = true := by simp; omega
    have HPE := Lib.hid hpe
    clear hpe hok h1 hdl hnl hr
    go_enter Tryz.func52, Tryz.ntmps52
    go_wp2_with fail
    refine hck.mono ?_
    clear hck
    rintro e w1 ⟨rfl, hb1⟩
    go_wp2_with fail
    go_ret2
    refine ⟨_, by rw [HPE.out]; rfl, ?_, hb1⟩
    rw [HPE.out, if_neg (by decide)]; rfl
  ·have hpe : putE l i d = 4 := by unfold putE; rw [if_pos hok, if_neg hi]
   have HPE := Lib.hid hpe
   clear hpe hok h1 hnl hr
   by_cases hi0 : i < 0
   ·clear hi
    go_enter Tryz.func52, Tryz.ntmps52
    go_wp2_with fail
    refine hck.mono ?_
    clear hck
    rintro e w1 ⟨rfl, hb1⟩
    go_wp2_with fail
    go_ret2
    refine ⟨_, by rw [HPE.out]; rfl, ?_, hb1⟩
    rw [HPE.out, if_neg (by decide)]; rfl
   ·have hi1 : 0 ≤ i := by omega
    have hi2 : 1024 ≤ i := by omega
    clear hi hi0
    go_enter Tryz.func52, Tryz.ntmps52
    go_wp2_with fail
    refine hck.mono ?_
    clear hck
    rintro e w1 ⟨rfl, hb1⟩
    go_wp2_with fail
    go_ret2
    refine ⟨_, by rw [HPE.out]; rfl, ?_, hb1⟩
    rw [HPE.out, if_neg (by decide)]; rfl
 ·have h1 : okE l = 9 := by unfold okE; rw [if_neg hok]
  rw [h1] at hck
  have hpe : putE l i d = 9 := by unfold putE; rw [if_neg hok]
  have HPE := Lib.hid hpe
  clear hpe hok h1 hnl hr
  go_enter Tryz.func52, Tryz.ntmps52
  go_wp2_with fail
  refine hck.mono ?_
  clear hck
  rintro e w1 ⟨rfl, hb1⟩
  go_wp2_with fail
  go_ret2
  refine ⟨_, by rw [HPE.out]; rfl, ?_, hb1⟩
  rw [HPE.out, if_neg (by decide)]; rfl
end Go.Proofs.YteafdncnnamakaaGreatDoor
namespace Go.Proofs.YteafdncnnamakaaGreatDoor
open Go.RowKit
set_option maxRecDepth 100000 in
theorem letter_any (c : UInt8) (w : World) : Calls Tryz.prog 110 #[.int .u8 (c.toNat : Int)] w fun e w' => e = .returned (.bool (okB c)) ∧ w' = w := by
 have hc : c.toNat < 256 := c.toNat_lt
 have hk := Lib.hid (okB_iff c)
 go_enter Tryz.func110, Tryz.ntmps110
 go_wp2
 all_goals go_ret
 all_goals refine ⟨congrArg Ending.returned (congrArg Value.bool ?_), rfl⟩
 all_goals rw [Bool.eq_iff_iff, hk.out]
 all_goals simp
 all_goals omega
theorem bget (s : ByteArray) (k : Nat) (h : k < s.size) : s.data.toList[k]'h = s[k]'h := rfl
set_option maxRecDepth 100000 in
set_option maxHeartbeats 1000000 in
theorem refName_s (s : ByteArray) (w : World) (hs : s.size ≤ 140737488351232) : Calls Tryz.prog 53 #[.string s] w fun e w' => e = .returned (.bool (nameB s.data.toList)) ∧ w' = w := by
 have hsz : s.data.toList.length = s.size := (Lib.size_eq s).symm
 go_enter Tryz.func53, Tryz.ntmps53
 go_wp2_with fail
 go_loopw [3] (fun i wr => ∃ k : Nat, k ≤ s.size ∧ i = .int .i64 (k : Int) ∧ Hid ((s.data.toList.take k).all okB = true) ∧ wr = w) (fun i _ => s.size - (intOf i).toNat)
 case atStart => exact ⟨0, Nat.zero_le _, rfl, rfl, rfl⟩
 case round =>
  obtain ⟨k, hk, rfl, hok, hww⟩ := hrel
  have hww := hww.symm
  subst hww
  by_cases hlt : k < s.size
  ·have hki : (k : Int) < (s.size : Int) := by omega
   have hkl : k < s.data.toList.length := by omega
   have htk := List.take_succ_eq_append_getElem hkl
   have hg := bget s k hlt
   obtain ⟨y, hy⟩ : ∃ y, y = s[k]'hlt := ⟨_, rfl⟩
   rw [hg, ← hy] at htk
   have HT := Lib.hid htk
   have HM := Lib.hid (show y ∈ s.data.toList by rw [hy, ← hg]; exact List.getElem_mem _)
   have hc := letter_any y w
   obtain ⟨b, hb⟩ : ∃ b, b = okB y := ⟨_, rfl⟩
   rw [← hb] at hc
   have HBB := Lib.hid hb
   have hyv : ((s[k]'hlt).toNat : Int) = (y.toNat : Int) := by rw [hy]
   have HSZ := Lib.hid hsz
   clear htk hg hy hb hsz
   go_wp2_with fail
   refine hc.mono ?_
   clear hc
   rintro e w1 ⟨rfl, rfl⟩
   cases b with
   | true =>
    go_wp2_with fail
    go_roundw
    case rel =>
     refine ⟨k + 1, by omega, by go_num, ?_, trivial⟩
     show List.all _ _ = _
     rw [HT.out, List.all_append, hok.out]
     simp [HBB.out.symm]
    case measure => simp [intOf]; omega
   | false =>
    have HN : Hid (nameB s.data.toList = false) := by
     show _ = _
     unfold nameB
     have : s.data.toList.all okB = false := by
      rw [← Bool.not_eq_true, List.all_eq_true]
      intro h
      have := h y HM.out
      rw [← HBB.out] at this
      cases this
     rw [this, Bool.and_false]
    go_wp2_with fail
    go_ret
    exact ⟨by rw [HN.out]; rfl, rfl⟩
  ·have HA : Hid (s.data.toList.all okB = true) := by
    show _ = _
    have := hok.out
    rwa [List.take_of_length_le (by omega)] at this
   have HN : Hid (nameB s.data.toList = (!(s.data.toList.isEmpty) && decide (s.data.toList.length ≤ 16))) := by
    show _ = _
    unfold nameB
    rw [HA.out, Bool.and_true]
   have HE : Hid (nameB s.data.toList = true ↔ 1 ≤ s.size ∧ s.size ≤ 16) := by
    show _ ↔ _
    rw [HN.out, Bool.and_eq_true, decide_eq_true_eq, hsz, Bool.not_eq_true']
    constructor
    ·rintro ⟨h1, h2⟩
     refine ⟨?_, h2⟩
     rcases Nat.eq_zero_or_pos s.size with h | h
     ·rw [← hsz] at h
      rw [List.eq_nil_of_length_eq_zero h] at h1
      cases h1
     ·exact h
    ·rintro ⟨h1, h2⟩
     refine ⟨?_, h2⟩
     rw [← Bool.not_eq_true, List.isEmpty_iff]
     intro e
     rw [e] at hsz
     simp at hsz
     omega
   clear hsz HA HN hok
   by_cases h1 : 1 ≤ s.size
   ·have h1i : (1 : Int) ≤ (s.size : Int) := by omega
    by_cases h2 : s.size ≤ 16
    ·have h2i : (s.size : Int) ≤ 16 := by omega
     have HV : Hid (nameB s.data.toList = true) := HE.out.2 ⟨h1, h2⟩
     go_wp2_with fail
     go_ret
     exact ⟨by rw [HV.out]; rfl, rfl⟩
    ·have h2i : ¬ (s.size : Int) ≤ 16 := by omega
     have HV : Hid (nameB s.data.toList = false) := by show _ = _; rw [← Bool.not_eq_true, HE.out]; omega
     go_wp2_with fail
     go_ret
     exact ⟨by rw [HV.out]; rfl, rfl⟩
   ·have h1i : ¬ (1 : Int) ≤ (s.size : Int) := by omega
    have HV : Hid (nameB s.data.toList = false) := by show _ = _; rw [← Bool.not_eq_true, HE.out]; omega
    go_wp2_with fail
    go_ret
    exact ⟨by rw [HV.out]; rfl, rfl⟩
theorem refName_any (n : BS) (w : World) (hs : n.length ≤ 140737488351232) : Calls Tryz.prog 53 #[.string ⟨n.toArray⟩] w fun e w' => e = .returned (.bool (nameB n)) ∧ w' = w := by
 have := refName_s ⟨n.toArray⟩ w (by show n.length ≤ _; exact hs)
 simpa using this
set_option maxRecDepth 100000 in
set_option maxHeartbeats 1000000 in
theorem refValue_s (s : ByteArray) (w : World) (hs : s.size ≤ 140737488351232) : Calls Tryz.prog 117 #[.string s] w fun e w' => e = .returned (.bool (valB s.data.toList)) ∧ w' = w := by
 have hsz : s.data.toList.length = s.size := (Lib.size_eq s).symm
 go_enter Tryz.func117, Tryz.ntmps117
 go_wp2_with fail
 go_loopw [3] (fun i wr => ∃ k : Nat, k ≤ s.size ∧ i = .int .i64 (k : Int) ∧ Hid (∀ c ∈ s.data.toList.take k, 32 ≤ c.toNat ∧ c.toNat ≤ 126) ∧ wr = w) (fun i _ => s.size - (intOf i).toNat)
 case atStart => exact ⟨0, Nat.zero_le _, rfl, (show ∀ c ∈ _, _ by simp), rfl⟩
 case round =>
  obtain ⟨k, hk, rfl, hok, hww⟩ := hrel
  have hww := hww.symm
  subst hww
  by_cases hlt : k < s.size
  ·have hki : (k : Int) < (s.size : Int) := by omega
   have hkl : k < s.data.toList.length := by omega
   have htk := List.take_succ_eq_append_getElem hkl
   have hg := bget s k hlt
   obtain ⟨y, hy⟩ : ∃ y, y = s[k]'hlt := ⟨_, rfl⟩
   rw [hg, ← hy] at htk
   have HT := Lib.hid htk
   have HM := Lib.hid (show y ∈ s.data.toList by rw [hy, ← hg]; exact List.getElem_mem _)
   have hyv : ((s[k]'hlt).toNat : Int) = (y.toNat : Int) := by rw [hy]
   have hy256 := y.toNat_lt
   have HSZ := Lib.hid hsz
   have hbad : Hid ((y.toNat < 32 ∨ 126 < y.toNat) → valB s.data.toList = false) := by
    show _ → _
    intro h
    unfold valB
    have : s.data.toList.all (fun c => decide (32 ≤ c) && decide (c ≤ 126)) = false := by
     rw [← Bool.not_eq_true, List.all_eq_true]
     intro h2
     have h3 := h2 y HM.out
     simp only [Bool.and_eq_true, decide_eq_true_eq, UInt8.le_iff_toNat_le] at h3
     have e1 : (32 : UInt8).toNat = 32 := rfl
     have e2 : (126 : UInt8).toNat = 126 := rfl
     omega
    rw [this, Bool.and_false]
   clear htk hg hy hsz
   by_cases h1 : y.toNat < 32
   ·have h1i : (y.toNat : Int) < 32 := by omega
    have HV := Lib.hid (hbad.out (.inl h1))
    go_wp2_with fail
    go_ret
    exact ⟨by rw [HV.out]; rfl, rfl⟩
   ·have h1i : ¬ (y.toNat : Int) < 32 := by omega
    by_cases h2 : 126 < y.toNat
    ·have h2i : (126 : Int) < (y.toNat : Int) := by omega
     have HV := Lib.hid (hbad.out (.inr h2))
     go_wp2_with fail
     go_ret
     exact ⟨by rw [HV.out]; rfl, rfl⟩
    ·have h2i : ¬ (126 : Int) < (y.toNat : Int) := by omega
     go_wp2_with fail
     go_roundw
     case rel =>
      refine ⟨k + 1, by omega, by go_num, ?_, trivial⟩
      show ∀ c ∈ _, _
      intro c hc
      rw [HT.out, List.mem_append, List.mem_singleton] at hc
      rcases hc with hc | rfl
      ·exact hok.out c hc
      ·exact ⟨by omega, by omega⟩
     case measure => simp [intOf]; omega
  ·have HV : Hid (valB s.data.toList = decide ((s.size : Int) ≤ 32)) := by
    show _ = _
    unfold valB
    have h := hok.out
    rw [List.take_of_length_le (by omega)] at h
    have : s.data.toList.all (fun c => decide (32 ≤ c) && decide (c ≤ 126)) = true := by
     rw [List.all_eq_true]
     intro c hc
     have := h c hc
     simp only [Bool.and_eq_true, decide_eq_true_eq, UInt8.le_iff_toNat_le]
     exact this
    rw [this, Bool.and_true, hsz]
    exact decide_eq_decide.2 (by omega)
   clear hsz hok
   go_wp2_with fail
   go_ret
   exact ⟨by rw [HV.out]; rfl, rfl⟩
theorem refValue_any (n : BS) (w : World) (hs : n.length ≤ 140737488351232) : Calls Tryz.prog 117 #[.string ⟨n.toArray⟩] w fun e w' => e = .returned (.bool (valB n)) ∧ w' = w := by
 have := refValue_s ⟨n.toArray⟩ w (by show n.length ≤ _; exact hs)
 simpa using this
end Go.Proofs.YteafdncnnamakaaGreatDoor
namespace Go.Proofs.YteafdncnnamakaaGreatDoor
open Go.RowKit
/-! ### Path -/
set_option maxRecDepth 100000 in
theorem path1_any (s : ByteArray) (w : World) : Calls Tryz.prog 130 #[.string s] w fun e w' => e = .returned (.bool (!nameB s.data.toList)) ∧ Below w.heap.size w w' := by
 go_enter Tryz.func130, Tryz.ntmps130
 go_wp2_with fail
 refine (name_any s w).mono ?_
 rintro e w1 ⟨rfl, hb⟩
 go_wp2_with fail
 go_ret
 exact ⟨rfl, hb⟩
/-- the cell of internal/bytealg.MaxLen holds some number -/
def HasMax (w : World) : Prop := ∃ m, w.cell? ⟨0, 0, none⟩ = some (.int .i64 m)
theorem HasMax.lt {w : World} (h : HasMax w) : 0 < w.heap.size := by
 obtain ⟨m, hm⟩ := h
 exact World.block_lt_of_cell? w _ hm
theorem HasMax.below {w w' : World} (h : HasMax w) (hb : Below w.heap.size w w') : HasMax w' := by
 obtain ⟨m, hm⟩ := h
 exact ⟨m, (hb.cell (World.block_lt_of_cell? w _ hm)).trans hm⟩
theorem HasMax.of_shaped {w : World} (h : w.ShapedOpen Tryz.prog) : HasMax w := Go.Proofs.cell_of_shapedOpen_int (zero := #[.int .i64 0]) (t := 3) h (of_decide_eq_true (by kernel_rfl)) (by kernel_rfl) rfl (by kernel_rfl) (by kernel_rfl) Tryz.underlying3
theorem path_parts (s : ByteArray) (hne : s.data.toList ≠ []) : (decide (Lib.countB s ⟨#[47]⟩ + 1 ≤ 4) && !((Lib.splitB ⟨#[47]⟩ 0 (Lib.countB s ⟨#[47]⟩) s).any fun x => !nameB x.data.toList)) = pathB s.data.toList := by
 have he : s.data.toList.isEmpty = false := by
  cases h : s.data.toList with
  | nil => exact absurd h hne
  | cons a r => rfl
 unfold pathB
 rw [he, ← splitB_parts s, List.length_map, splitB_len, List.all_map, List.all_eq_not_any_not]
 rfl
set_option maxRecDepth 100000 in
set_option maxHeartbeats 1000000 in
theorem path_any (s : ByteArray) (w : World) (hs : s.size ≤ 4000000000) (hm : HasMax w) :
  Calls Tryz.prog 70 #[.string s] w fun e w' => e = .returned (.bool (pathB s.data.toList)) ∧ Below w.heap.size w w' := by
 obtain ⟨m, hm⟩ := hm
 have hsp := Lib.hid (Tryz.strings_Split s ⟨#[47]⟩ m w (by omega) hm (Nat.le_refl _))
 have hlen := Lib.hid (splitB_len s)
 have hpp := Lib.hid (path_parts s)
 have htl := Lib.hid (toList_data s)
 have hcount := Lib.hid (Lib.countB_le ⟨#[47]⟩ (Nat.le_refl _) _ s (Nat.le_refl _))
 go_enter Tryz.func70, Tryz.ntmps70
 go_wp2_with fail
 ·have h0 : s.toList.isEmpty = true := by assumption
  rw [htl.out, List.isEmpty_iff] at h0
  go_ret
  exact ⟨by rw [h0]; rfl, Below.refl _ _⟩
 ·have h0 : s.toList.isEmpty = false := by assumption
  rw [htl.out] at h0
  have h1 := Lib.hid (hpp.out (fun e => by rw [e] at h0; cases h0))
  clear h0
  obtain ⟨L, hL⟩ : ∃ L, L = Lib.splitB ⟨#[47]⟩ 0 (Lib.countB s ⟨#[47]⟩) s := ⟨_, rfl⟩
  obtain ⟨N, hN⟩ : ∃ N, N = Lib.countB s ⟨#[47]⟩ + 1 := ⟨_, rfl⟩
  have hN2 : N ≤ 4000000001 := by have := hcount.out; omega
  rw [← hN] at hsp hlen h1
  rw [← hL] at hsp hlen h1
  have hsp := hsp.out
  clear hcount hpp hL hN
  obtain ⟨b, hbe⟩ : ∃ b, b = L.any fun x => !nameB x.data.toList := ⟨_, rfl⟩
  rw [← hbe] at h1
  obtain ⟨W, hW⟩ : ∃ W, W = w.alloc (Obj.cells (List.map Value.string L).toArray 9) := ⟨_, rfl⟩
  have hbW : Below w.heap.size w W := by rw [hW]; exact Below.alloc (Below.refl _ _) (Nat.le_refl _) _
  have hrW : Reads W (w.heap.size + 1) 1 (some ⟨w.heap.size, 0, none⟩) N (L.map Value.string) := by
   rw [hW]
   exact Reads.lit w (List.map Value.string L).toArray 9 (by simp [hlen.out])
  have hsW : W.heap.size = w.heap.size + 1 := by rw [hW]; show (w.heap.push _).size = _; rw [Array.size_push]
  have hc := Lib.hid (fiS_contains Value.string (fun x => !nameB x.data.toList) L N hlen.out.symm (some ⟨w.heap.size, 0, none⟩) N W (w.heap.size + 1) hrW (by omega) (by omega) (fun x _ W => path1_any x W))
  rw [← hbe] at hc
  rw [← hW] at hsp
  clear hW hbe
  refine hsp.mono ?_
  clear hsp
  rintro e w1 ⟨rfl, rfl⟩
  go_wp2_with fail
  ·have h4 : (N : Int) ≤ 4 := by assumption
   refine hc.out.mono ?_
   rintro e w2 ⟨rfl, hb2⟩
   go_wp2_with fail
   go_ret
   refine ⟨congrArg Ending.returned (congrArg Value.bool ?_), hbW.trans (hb2.mono (by omega))⟩
   rw [← h1.out, decide_eq_true (show N ≤ 4 by omega)]
   rfl
  ·have h4 : 4 < (N : Int) := by assumption
   go_ret
   refine ⟨congrArg Ending.returned (congrArg Value.bool ?_), hbW⟩
   rw [← h1.out, decide_eq_false (show ¬ N ≤ 4 by omega)]
   rfl
end Go.Proofs.YteafdncnnamakaaGreatDoor
namespace Go.Proofs.YteafdncnnamakaaGreatDoor
open Go.RowKit
section
variable {P : Program}
theorem run_append_rowK (w : World) (t ty elem : TypeId) (k : Nat) (g sLen sCap : Nat) (a : Addr) (xLen xCap : Nat) (cur : List Value) (T : TypeId) (cs : List Value)
  (hu : P.underlying t = some (.slice elem)) (hs : (P.info? elem).map (·.size) = some k)
  (hg : w.heap[g]? = some (.cells cur.toArray T (0, 0))) (hn : cs.length = xLen * k)
  (hsrc : ∀ j v, cs[j]? = some v → w.cell? (a.add j) = some v) (hfit : sLen * k + cs.length ≤ cur.length) (hroom : sLen + xLen ≤ sCap) (h1 : ∀ v ∈ cs, v.oneCell' = true) :
  (Builtin.append_ #[t, t] ty #[.slice (some ⟨g, 0, none⟩) sLen sCap, .slice (some a) xLen xCap]).run P w =
   .ok (.slice (some ⟨g, 0, none⟩) (sLen + xLen) sCap) (w.setRow g (splice cur (sLen * k) cs).toArray) := by
 have hl := run_loadCells_list (P := P) w a cs hsrc
 have hst := run_storeCells_at P g (sLen * k) T cs 0 cur.toArray w hg (by simpa using hfit) h1
 cases hq : P.info? elem with
 | none => simp [hq] at hs
 | some i =>
  have hi : i.size = k := by simpa [hq] using hs
  simp [Builtin.append_, run_underlying hu, Builtin.lenOf, Builtin.firstCells, sizeOf, typeInfo, hq, hi, ← hn, hl, hroom, addr_add0, hst, splice]
theorem wp_appendK {o : Oper} {a : Act} {w : World} {K : Act → World → Prop} {Q : Exit → Act → World → Prop} (d s : Operand) (t : TypeId)
  (ho : o.op = .call { callee := .builtin .append, args := #[d, s], argTypes := #[t, t] }) (elem : TypeId) (k : Nat) (hu : P.underlying t = some (.slice elem)) (hsz : (P.info? elem).map (·.size) = some k)
  (g sLen sCap : Nat) (ad : Addr) (xLen xCap : Nat) (hd : a.eval d = .slice (some ⟨g, 0, none⟩) sLen sCap) (hs : a.eval s = .slice (some ad) xLen xCap)
  (cur : List Value) (T : TypeId) (hg : w.heap[g]? = some (.cells cur.toArray T (0, 0))) (cs : List Value) (hn : cs.length = xLen * k)
  (hsrc : ∀ j v, cs[j]? = some v → w.cell? (ad.add j) = some v) (hfit : sLen * k + cs.length ≤ cur.length) (hroom : sLen + xLen ≤ sCap) (h1 : ∀ v ∈ cs, v.oneCell' = true)
  (h : ∀ w', Hid (w'.heap[g]? = some (.cells (splice cur (sLen * k) cs).toArray T (0, 0))) → w.grownBy w' (some g) → K (a.put o.dst (.slice (some ⟨g, 0, none⟩) (sLen + xLen) sCap)) w') : o.wp P a w K Q := by
 have hrun := run_append_rowK (P := P) w t o.type elem k g sLen sCap ad xLen xCap cur T cs hu hsz hg hn hsrc hfit hroom h1
 unfold Oper.wp
 simp [execOp, ho, resolve, invoke, builtin, hd, hs, hrun, Result.andThen]
 exact h _ (show _ = _ by simpa [splice] using setRow_heap w g _ _ T _ hg) (grown_setRow _)
theorem step_appendK {ops : Array Oper} {o : Oper} {a : Act} {w : World} {K : Act → World → Prop} {Q : Exit → Act → World → Prop} {E : Prop} (hgd : o.guard = none) (d s : Operand) (t : TypeId)
  (ho : o.op = .call { callee := .builtin .append, args := #[d, s], argTypes := #[t, t] }) (elem : TypeId) (k : Nat) (hu : P.underlying t = some (.slice elem)) (hsz : (P.info? elem).map (·.size) = some k)
  (g sLen sCap : Nat) (ad : Addr) (xLen xCap : Nat) (hd : a.eval d = .slice (some ⟨g, 0, none⟩) sLen sCap) (hs : a.eval s = .slice (some ad) xLen xCap)
  (cur : List Value) (T : TypeId) (hg : w.heap[g]? = some (.cells cur.toArray T (0, 0))) (cs : List Value) (hn : cs.length = xLen * k)
  (hsrc : ∀ j v, cs[j]? = some v → w.cell? (ad.add j) = some v) (hfit : sLen * k + cs.length ≤ cur.length) (hroom : sLen + xLen ≤ sCap) (h1 : ∀ v ∈ cs, v.oneCell' = true)
  (h : ∀ w', Hid (w'.heap[g]? = some (.cells (splice cur (sLen * k) cs).toArray T (0, 0))) → w.grownBy w' (some g) → K (a.put o.dst (.slice (some ⟨g, 0, none⟩) (sLen + xLen) sCap)) w') :
  if Region.wanted o (yielded ops a.tmps) = true then Oper.wp P o a w K Q else E := by
 have hw : Region.wanted o (yielded ops a.tmps) = true := by simp [Region.wanted, hgd]
 rw [if_pos hw]
 exact wp_appendK d s t ho elem k hu hsz g sLen sCap ad xLen xCap hd hs cur T hg cs hn hsrc hfit hroom h1 h
end
end Go.Proofs.YteafdncnnamakaaGreatDoor
namespace Go.Proofs.YteafdncnnamakaaGreatDoor
open Go.RowKit Go.Maps Go.Sort Go.Shelf
/-! ### a map that reads as a list of properties -/
structure MapIs (D : DataW Unit) (F : PL) : Prop where
 has : ∀ n : BS, Maps.has D (.string n) = (getP F n).isSome
 at_ : ∀ (n v : BS), getP F n = some v → ∀ z, D.atKey (.string n) z = .lit (.string v)
theorem isKey_str (x : BS) : WideAt.IsKeyLit (.string x) := by trivial
theorem MapIs.nil : MapIs (.map []) [] := ⟨fun _ => rfl, fun _ _ h => by cases h⟩
theorem MapIs.put {D : DataW Unit} {F : PL} (h : MapIs D F) (hD : IsMap D) (hF : SortP F) (p : BS × BS) : MapIs (D.put (.string p.1) (.lit (.string p.2))) (putP p F) := by
 refine ⟨fun n => ?_, fun n v hv z => ?_⟩
 ·rw [getP_putP p F hF]
  by_cases hn : p.1 = n
  ·subst hn
   rw [if_pos rfl, has_put_same hD (isKey_str _)]
   rfl
  ·rw [if_neg hn, has_put_other (by intro e; exact hn (by simpa using e.symm)), h.has]
 ·rw [getP_putP p F hF] at hv
  by_cases hn : p.1 = n
  ·subst hn
   rw [if_pos rfl] at hv
   injection hv with hv
   subst hv
   exact atKey_put_same hD (isKey_str _) _ z
  ·rw [if_neg hn] at hv
   rw [atKey_put_other (by intro e; exact hn (by simpa using e.symm))]
   exact h.at_ n v hv z
/-! ### slices.Sorted(maps.Keys(m)) -/
/-! ### Over -/
def strOk (l : PL) : Prop := ∀ x ∈ l, x.1.length ≤ 140737488351232 ∧ x.2.length ≤ 140737488351232
structure PropsIn (w : World) (B : Nat) (v : Value) (l : PL) : Prop where
 ex : ∃ A n c, v = .slice A n c ∧ n = l.length ∧ n ≤ 5000000000000 ∧ Reads w B 2 A n (pcells l)
 ok : strOk l
theorem PropsIn.below {w W : World} {B : Nat} {v : Value} {l : PL} (h : PropsIn w B v l) (hb : Below B w W) : PropsIn W B v l := by
 obtain ⟨A, n, c, rfl, hn, hm, hr⟩ := h.ex
 exact ⟨⟨A, n, c, rfl, hn, hm, hr.below hb⟩, h.ok⟩
end Go.Proofs.YteafdncnnamakaaGreatDoor
namespace Go.Proofs.YteafdncnnamakaaGreatDoor
open Go.RowKit
abbrev GT := BS × BS × Int
abbrev GL := List GT
def cmpG (a b c d : BS) : Int := if cmpS a c = 0 then cmpS b d else cmpS a c
theorem cmpG_neg (a b c d : BS) : cmpG a b c d < 0 ↔ Op.bytesLess a c = true ∨ a = c ∧ Op.bytesLess b d = true := by
 unfold cmpG
 by_cases h : cmpS a c = 0
 ·rw [if_pos h, cmpS_neg]
  rw [cmpS_zero] at h
  subst h
  rw [bl_irrefl]
  simp
 ·rw [if_neg h, cmpS_neg]
  rw [cmpS_zero] at h
  simp [h]
def grantB (g : GT) : Bool := nameB g.1 && pathB g.2.1 && decide (1 ≤ g.2.2) && decide (g.2.2 ≤ 255)
def grantsFrom : Option GT → GL → Bool
 | _, [] => true
 | p, x :: l => grantB x && (match p with | none => true | some q => decide (cmpG q.1 q.2.1 x.1 x.2.1 < 0)) && grantsFrom (some x) l
def grantsB (l : GL) : Bool := decide (l.length ≤ 16) && grantsFrom none l
def grantsE (l : GL) : Int := if grantsB l = true then 0 else 9
theorem grantsFrom_cons (p : Option GT) (x : GT) (l : GL) : grantsFrom p (x :: l) = (grantB x && (match p with | none => true | some q => decide (cmpG q.1 q.2.1 x.1 x.2.1 < 0)) && grantsFrom (some x) l) := by
 cases p <;> rfl
end Go.Proofs.YteafdncnnamakaaGreatDoor
namespace Go.Proofs.YteafdncnnamakaaGreatDoor
open Go.RowKit
/-! ### DeleteFunc -/
/-- between two rounds: what stays lies at the beginning, what has not been looked at as it was -/
structure DelI {α : Type} (p : α → Bool) (l L : List α) (i j : Nat) : Prop where
 len : L.length = l.length
 le : i ≤ j
 jl : j ≤ l.length
 pre : L.take i = (l.take j).filter fun x => !p x
 suf : L.drop j = l.drop j
theorem DelI.keep {α : Type} {p : α → Bool} {l L : List α} {i j : Nat} {x : α} (h : DelI p l L i j) (hlt : i < j) (hx : l[j]? = some x) (hp : p x = false) : DelI p l (L.set i x) (i + 1) (j + 1) := by
 have hj := (List.getElem?_eq_some_iff.1 hx).1
 refine ⟨by rw [List.length_set]; exact h.len, by omega, by omega, ?_, ?_⟩
 ·rw [List.take_succ_eq_append_getElem hj, List.filter_append, ← h.pre, (List.getElem?_eq_some_iff.1 hx).2]
  rw [List.take_succ_eq_append_getElem (by rw [List.length_set, h.len]; omega), List.take_set_of_le (Nat.le_refl _), List.getElem_set_self]
  simp [hp]
 ·rw [List.drop_set_of_lt (by omega)]
  have := congrArg (List.drop 1) h.suf
  simpa using this
end Go.Proofs.YteafdncnnamakaaGreatDoor
namespace Go.Proofs.YteafdncnnamakaaGreatDoor
open Go.RowKit
def scells (l : List BS) : List Value := l.map strV
theorem scells_append (a b : List BS) : scells (a ++ b) = scells a ++ scells b := by simp [scells]
theorem strs_at {w : World} {B n : Nat} {A : Option Addr} {l : List BS} (h : Reads w B 1 A n (scells l)) (hn : n = l.length) {k : Nat} (hk : k < n) :
  ∃ ad, A = some ad ∧ ad.block < B ∧ w.cell? (ad.add k) = some (strV (l[k]'(by omega))) := by
 obtain ⟨ad, u, e, hB, hxu, hcell⟩ := h.at_ hk
 have hux : u = strV (l[k]'(by omega)) := by
  unfold scells at hxu
  rw [List.getElem?_map, List.getElem?_eq_getElem (by omega)] at hxu
  exact (Option.some.inj hxu).symm
 subst hux
 exact ⟨ad, e, hB, hcell⟩
theorem Tryz.infoS : (Tryz.prog.info? 9).map (fun i => (i.zero, i.size, i.bytes)) = some (some (.string ByteArray.empty), 1, 16) := by kernel_rfl
end Go.Proofs.YteafdncnnamakaaGreatDoor
