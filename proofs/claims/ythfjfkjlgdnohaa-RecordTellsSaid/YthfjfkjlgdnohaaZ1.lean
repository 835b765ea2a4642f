/-
  Words for memory that all texts of this seat use: a slice that reads as a list, a block known whole, append from any source.
  Turned from the guide's pages extra-words and extra-small.
-/
import Derived.WalkKit
import Derived.WalkSpells
import Derived.Below
import Derived.Laws.OwnMore
import Derived.Deep.AppendLies
import Derived.Deep.Draws
import Derived.Laws.Rows
import Derived.Maps.AppendAt
import Derived.RegionTactic
import Derived.OwnWalk
import Derived.Deep.QuietTactic
import Derived.BigQuiet
import Derived.Lib.Hide
import Derived.Laws.CopyOwn
import Derived.IntWalk
import Derived.RangeFuncBox
import Derived.RangeFuncLeaves
import Derived.Shelf.Abstract
import Derived.OwnWalkIn
import Derived.TacticsInMore
import Derived.LoopNIn
import Derived.LoopIn
import Derived.Test.YthfjfkjlgdnohaaRows
import Derived.RangeFuncNested
import Derived.RangeFuncFrom
import Derived.RangeFuncWrites
import Derived.Handy
namespace Go.Proofs.Ythfjfkjlgdnohaa
open Go.RowKit

theorem block_of_add (a : Addr) (n : Nat) : (a.add n).block = a.block := by unfold Addr.add; split <;> rfl
theorem add_of_add (a : Addr) (i j : Nat) : (a.add i).add j = a.add (i + j) := by
  unfold Addr.add
  by_cases hi : i = 0 <;> by_cases hj : j = 0 <;> simp [hi, hj, Nat.add_assoc]

def Reads (w : World) (B size : Nat) (A : Option Addr) (n : Nat) (xs : List Value) : Prop :=
  xs.length = n * size ∧ (0 < n → ∃ ad, A = some ad ∧ ad.block < B ∧ ∀ j u, xs[j]? = some u → w.cell? (ad.add j) = some u)

section
variable {w w' : World} {B B' size n : Nat} {A : Option Addr} {xs : List Value}
theorem Reads.none_ : Reads w B size A 0 [] := ⟨by simp, fun h => absurd h (by omega)⟩
theorem Reads.at_ {k : Nat} (h : Reads w B 1 A n xs) (hk : k < n) : ∃ ad u, A = some ad ∧ ad.block < B ∧ xs[k]? = some u ∧ w.cell? (ad.add k) = some u := by
  obtain ⟨ad, e, hb, hc⟩ := h.2 (by omega)
  have hl : k < xs.length := by have := h.1; omega
  exact ⟨ad, xs[k], e, hb, List.getElem?_eq_getElem hl, hc k _ (List.getElem?_eq_getElem hl)⟩
theorem Reads.keep (h : Reads w B size A n xs) (hk : ∀ p : Addr, p.block < B → w'.cell? p = w.cell? p) : Reads w' B size A n xs :=
  ⟨h.1, fun hn => by
    obtain ⟨ad, e, hb, hc⟩ := h.2 hn
    exact ⟨ad, e, hb, fun j u hu => (hk _ (by rw [block_of_add]; exact hb)).trans (hc j u hu)⟩⟩
theorem Reads.more (h : Reads w B size A n xs) (hB : B ≤ B') : Reads w B' size A n xs :=
  ⟨h.1, fun hn => by
    obtain ⟨ad, e, hb, hc⟩ := h.2 hn
    exact ⟨ad, e, by omega, hc⟩⟩
theorem Reads.below (h : Reads w B size A n xs) (hb : Below B w w') : Reads w' B size A n xs := h.keep fun _ hp => hb.cell hp
theorem Reads.drew (h : Reads w B size A n xs) : Reads w.drew B size A n xs := h
theorem Reads.drewN (h : Reads w B size A n xs) (k : Nat) : Reads (w.drewN k) B size A n xs := h
theorem Reads.alloc (h : Reads w B size A n xs) (hB : B ≤ w.heap.size) (o : Obj) : Reads (w.alloc o) B size A n xs := h.keep fun p hp => World.cell?_alloc_lt w o p (by omega)
theorem Reads.setCell (h : Reads w B size A n xs) {p : Addr} (hB : B ≤ p.block) (u : Value) : Reads (w.setCell p u) B size A n xs :=
  h.keep fun q hq => World.cell?_setCell_other w p q u (fun e => by subst e; omega)
theorem Reads.grown (h : Reads w B size A n xs) {row : Option Nat} (hg : w.grownBy w' row) (hB : B ≤ w.heap.size) (hr : ∀ g, row = some g → B ≤ g) : Reads w' B size A n xs :=
  h.keep fun p hp => World.cell?_of_block (hg.block p.block (by omega) (fun e => by have := hr _ e.symm; omega))
theorem Reads.cut (h : Reads w B size A n xs) {k cap : Nat} (hk : k ≤ n) (hc : n ≤ cap) :
    Reads w B size (if cap = k then A else A.map (·.add (k * size))) (n - k) (xs.drop (k * size)) := by
  refine ⟨by rw [List.length_drop, h.1, Nat.sub_mul], fun hn => ?_⟩
  obtain ⟨ad, rfl, hb, hcell⟩ := h.2 (by omega)
  rw [if_neg (by omega)]
  refine ⟨ad.add (k * size), rfl, by rw [block_of_add]; exact hb, fun j u hu => ?_⟩
  rw [add_of_add]
  exact hcell _ u (by rw [← hu, List.getElem?_drop])
theorem Reads.of_own {base : Nat} {e : TypeId} {c : Nat} (h : w.ownsRow base e size (.slice A n c) n xs) : Reads w w.heap.size size A n xs := by
  refine ⟨h.1, fun hn => ?_⟩
  obtain ⟨g, cap, hv, _, hlt⟩ := h.form hn
  have hA : A = some ⟨g, 0, none⟩ := by injection hv
  subst hA
  exact ⟨_, rfl, hlt, h.cells (g := g) rfl⟩
end

def Blk (w : World) (g : Nat) (t : TypeId) (cs : Array Value) : Prop := w.heap[g]? = some (.cells cs t (0, 0))

section
variable {w w' : World} {g : Nat} {t : TypeId} {cs : Array Value}
theorem Blk.lt (h : Blk w g t cs) : g < w.heap.size := by
  rcases Nat.lt_or_ge g w.heap.size with hlt | hge
  · exact hlt
  · unfold Blk at h; rw [Array.getElem?_eq_none hge] at h; cases h
theorem Blk.cell (h : Blk w g t cs) (i : Nat) : w.cell? ⟨g, i, none⟩ = cs[i]? := cell_of_row w g i cs t (0, 0) h
theorem Blk.frozen (h : Blk w g t cs) (i : Nat) : w.frozen? ⟨g, i, none⟩ = false := by
  unfold Blk at h
  simp [World.frozen?, h]
theorem Blk.new (w : World) (t : TypeId) (cs : Array Value) : Blk (w.alloc (.cells cs t)) w.heap.size t cs := heap_alloc_new w _
theorem Blk.drew (h : Blk w g t cs) : Blk w.drew g t cs := h
theorem Blk.drewN (h : Blk w g t cs) (n : Nat) : Blk (w.drewN n) g t cs := h
theorem Blk.alloc (h : Blk w g t cs) (o : Obj) : Blk (w.alloc o) g t cs := (Below.heap_alloc w o g h.lt).trans h
theorem Blk.set_ (h : Blk w g t cs) (i : Nat) (u : Value) : Blk (w.setCell ⟨g, i, none⟩ u) g t (cs.setIfInBounds i u) := by
  unfold Blk at h ⊢
  simp [World.setCell, Array.getElem?_modify, h]
theorem Blk.far (h : Blk w g t cs) {p : Addr} (hp : g ≠ p.block) (u : Value) : Blk (w.setCell p u) g t cs := (Below.heap_setCell w p u g hp).trans h
theorem Blk.below {B : Nat} (h : Blk w g t cs) (hb : Below B w w') (hg : g < B) : Blk w' g t cs := (hb.block g hg).trans h
theorem Blk.grown {row : Option Nat} (h : Blk w g t cs) (hb : w.grownBy w' row) (hg : some g ≠ row) : Blk w' g t cs := (hb.block g h.lt hg).trans h
theorem Blk.ne_ {g' : Nat} {t' : TypeId} {cs' : Array Value} (h : Blk w g t cs) (h' : Blk w g' t' cs') (hne : t ≠ t') : g ≠ g' := by
  rintro rfl
  unfold Blk at h h'
  rw [h] at h'
  injection h' with h'
  injection h' with _ ht
  exact hne ht
theorem own_blk_ne {base : Nat} {e : TypeId} {size n : Nat} {v : Value} {xs : List Value} (h : w.ownsRow base e size v n xs) (hg : Blk w g t cs) (hne : e ≠ t) : v.ownBlock ≠ some g := by
  rcases h.2 with ⟨rfl, _⟩ | ⟨g', cap, cur, rfl, _, hh, _⟩
  · simp [Value.ownBlock]
  · intro he
    have : g' = g := by simpa [Value.ownBlock] using he
    subst this
    exact Blk.ne_ (t := e) hh hg hne rfl
end

section
variable {P : Program} (w : World)

theorem run_append_of_nil (base : Nat) (t ty e : TypeId) (i : TypeInfo) (size : Nat) (ht : P.underlying t = some (.slice e)) (hi : P.info? e = some i)
    (v : Value) (n : Nat) (xs : List Value) (hown : w.ownsRow base e size v n xs) (c : Nat) : (Builtin.append_ #[t, t] ty #[v, .slice none 0 c]).run P w = .ok v w := by
  rcases hown.2 with ⟨rfl, rfl⟩ | ⟨g, cap, cur, rfl, _, _, hnc, _⟩
  · simp [Builtin.append_, run_underlying ht, sizeOf, typeInfo, hi, Builtin.lenOf, Builtin.firstCells]
  · simp [Builtin.append_, run_underlying ht, sizeOf, typeInfo, hi, Builtin.lenOf, Builtin.firstCells, hnc, storeCells]

theorem run_append_any (base : Nat) (t ty e : TypeId) (i : TypeInfo) (z : Value) (size bytes : Nat) (ht : P.underlying t = some (.slice e)) (hi : P.info? e = some i) (hz : i.zero = some z)
    (hsize : i.size = size) (hby : i.bytes = bytes) (hzs : z.cells.size = size) (hsz : 0 < size)
    (v : Value) (n : Nat) (xs : List Value) (hown : w.ownsRow base e size v n xs)
    (B : Nat) (A : Option Addr) (m c : Nat) (news : List Value) (hr : Reads w B size A m news) (h1 : ∀ u ∈ news, u.oneCell' = true)
    (h63 : n + m ≤ maxLen) (hbytes : (n + m) * bytes ≤ 140737488355328) (hbase : base ≤ w.heap.size) :
    ∃ v' w', (Builtin.append_ #[t, t] ty #[v, .slice A m c]).run P w = .ok v' w' ∧ w'.ownsRow base e size v' (n + m) (xs ++ news) ∧ w.grownBy w' v.ownBlock ∧
      (v'.ownBlock = v.ownBlock ∨ v'.ownBlock = some w.heap.size) := by
  rcases A with _ | ad
  · have hm : m = 0 := by
      rcases Nat.eq_zero_or_pos m with h0 | h0
      · exact h0
      · obtain ⟨ad, h, _⟩ := hr.2 h0
        cases h
    subst hm
    have hn : news = [] := List.eq_nil_of_length_eq_zero (by simpa using hr.1)
    subst hn
    exact ⟨v, w, run_append_of_nil w base t ty e i size ht hi v n xs hown c, by simpa using hown, World.grownBy.refl w _, .inl rfl⟩
  · have hcells : ∀ j u, news[j]? = some u → w.cell? (ad.add j) = some u := by
      intro j u hu
      rcases Nat.eq_zero_or_pos m with h0 | h0
      · subst h0
        have hn : news = [] := List.eq_nil_of_length_eq_zero (by simpa using hr.1)
        subst hn
        simp at hu
      · obtain ⟨ad', h, _, hc⟩ := hr.2 h0
        injection h with h
        subst h
        exact hc j u hu
    obtain ⟨v', w', hrun, h2, h3, _, h5⟩ := run_append_own_at (P := P) w base t ty e i z size bytes ht hi hz hsize hby hzs hsz v n xs hown ad m c news hr.1 hcells h1 h63 hbytes hbase
    exact ⟨v', w', hrun, h2, h3, h5⟩

theorem wp_append_any {o : Oper} {a : Act} {K : Act → World → Prop} {Q : Exit → Act → World → Prop} (s x : Operand) (t : TypeId)
    (ho : o.op = .call { callee := .builtin .append, args := #[s, x], argTypes := #[t, t] })
    (base : Nat) (e : TypeId) (i : TypeInfo) (z : Value) (size bytes : Nat) (ht : P.underlying t = some (.slice e)) (hi : P.info? e = some i) (hz : i.zero = some z)
    (hsize : i.size = size) (hby : i.bytes = bytes) (hzs : z.cells.size = size) (hsz : 0 < size)
    (v : Value) (n : Nat) (xs : List Value) (hs : a.eval s = v) (hown : w.ownsRow base e size v n xs)
    (B : Nat) (A : Option Addr) (m c : Nat) (news : List Value) (hx : a.eval x = .slice A m c) (hr : Reads w B size A m news) (h1 : ∀ u ∈ news, u.oneCell' = true)
    (h63 : n + m ≤ maxLen) (hbytes : (n + m) * bytes ≤ 140737488355328) (hbase : base ≤ w.heap.size)
    (h : ∀ v' w', w'.ownsRow base e size v' (n + m) (xs ++ news) → w.grownBy w' v.ownBlock → (v'.ownBlock = v.ownBlock ∨ v'.ownBlock = some w.heap.size) → K (a.put o.dst v') w') : o.wp P a w K Q := by
  obtain ⟨v', w', hrun, h2, h3, h4⟩ := run_append_any (P := P) w base t o.type e i z size bytes ht hi hz hsize hby hzs hsz v n xs hown B A m c news hr h1 h63 hbytes hbase
  unfold Oper.wp execOp
  simp only [ho, resolve, invoke, builtin, Sem.run_bind, Sem.run_pure, Result.andThen_ok, List.map_toArray, List.map_cons, List.map_nil, hs, hx, hrun]
  exact h v' w' h2 h3 h4

theorem wpList_append_any {ops : Array Oper} {rest : List Oper} {o : Oper} {a : Act} {Q : Exit → Act → World → Prop} (hgd : o.guard = none) (s x : Operand) (t : TypeId)
    (ho : o.op = .call { callee := .builtin .append, args := #[s, x], argTypes := #[t, t] })
    (base : Nat) (e : TypeId) (i : TypeInfo) (z : Value) (size bytes : Nat) (ht : P.underlying t = some (.slice e)) (hi : P.info? e = some i) (hz : i.zero = some z)
    (hsize : i.size = size) (hby : i.bytes = bytes) (hzs : z.cells.size = size) (hsz : 0 < size)
    (v : Value) (n : Nat) (xs : List Value) (hs : a.eval s = v) (hown : w.ownsRow base e size v n xs)
    (B : Nat) (A : Option Addr) (m c : Nat) (news : List Value) (hx : a.eval x = .slice A m c) (hr : Reads w B size A m news) (h1 : ∀ u ∈ news, u.oneCell' = true)
    (h63 : n + m ≤ maxLen) (hbytes : (n + m) * bytes ≤ 140737488355328) (hbase : base ≤ w.heap.size)
    (h : ∀ v' w', w'.ownsRow base e size v' (n + m) (xs ++ news) → w.grownBy w' v.ownBlock → (v'.ownBlock = v.ownBlock ∨ v'.ownBlock = some w.heap.size) → wpList P ops Q rest (a.put o.dst v') w') : wpList P ops Q (o :: rest) a w :=
  wpList_plain hgd fun _ hK => wp_append_any w s x t ho base e i z size bytes ht hi hz hsize hby hzs hsz v n xs hs hown B A m c news hx hr h1 h63 hbytes hbase fun v' w' h2 h3 h4 => hK _ _ (h v' w' h2 h3 h4)

theorem step_append_any {ops : Array Oper} {o : Oper} {a : Act} {K : Act → World → Prop} {Q : Exit → Act → World → Prop} {E : Prop} (hgd : o.guard = none) (s x : Operand) (t : TypeId)
    (ho : o.op = .call { callee := .builtin .append, args := #[s, x], argTypes := #[t, t] })
    (base : Nat) (e : TypeId) (i : TypeInfo) (z : Value) (size bytes : Nat) (ht : P.underlying t = some (.slice e)) (hi : P.info? e = some i) (hz : i.zero = some z)
    (hsize : i.size = size) (hby : i.bytes = bytes) (hzs : z.cells.size = size) (hsz : 0 < size)
    (v : Value) (n : Nat) (xs : List Value) (hs : a.eval s = v) (hown : w.ownsRow base e size v n xs)
    (B : Nat) (A : Option Addr) (m c : Nat) (news : List Value) (hx : a.eval x = .slice A m c) (hr : Reads w B size A m news) (h1 : ∀ u ∈ news, u.oneCell' = true)
    (h63 : n + m ≤ maxLen) (hbytes : (n + m) * bytes ≤ 140737488355328) (hbase : base ≤ w.heap.size)
    (h : ∀ v' w', w'.ownsRow base e size v' (n + m) (xs ++ news) → w.grownBy w' v.ownBlock → (v'.ownBlock = v.ownBlock ∨ v'.ownBlock = some w.heap.size) → K (a.put o.dst v') w') :
    if Region.wanted o (yielded ops a.tmps) = true then Oper.wp P o a w K Q else E := by
  have hw : Region.wanted o (yielded ops a.tmps) = true := by simp [Region.wanted, hgd]
  rw [if_pos hw]
  exact wp_append_any w s x t ho base e i z size bytes ht hi hz hsize hby hzs hsz v n xs hs hown B A m c news hx hr h1 h63 hbytes hbase h
end


/-! ### My own words -/
section
variable {w w' : World} {base : Nat} {e : TypeId} {size n : Nat} {v : Value} {xs : List Value}
theorem own_below (h : w.ownsRow base e size v n xs) (hb : Below w.heap.size w w') : w'.ownsRow base e size v n xs :=
  h.kept (row := Option.none) ⟨hb.os, hb.tape, hb.output, hb.size, fun k hk _ => hb.block k hk⟩ (by cases v.ownBlock <;> simp)
theorem own_drew (h : w.ownsRow base e size v n xs) : w.drew.ownsRow base e size v n xs := h
theorem own_drewN (h : w.ownsRow base e size v n xs) (k : Nat) : (w.drewN k).ownsRow base e size v n xs := h
theorem own_mono {base' : Nat} (h : w.ownsRow base e size v n xs) (hb : base' ≤ base) : w.ownsRow base' e size v n xs := by
  refine ⟨h.1, ?_⟩
  rcases h.2 with h2 | ⟨g, cap, cur, hv, hg, r⟩
  · exact .inl h2
  · exact .inr ⟨g, cap, cur, hv, by omega, r⟩
theorem below_drewN {B : Nat} {a w : World} (h : Below B a w) (n : Nat) : Below B a (w.drewN n) := ⟨h.os, h.tape, h.output, h.size, h.block⟩
theorem grown_none_below {w w' : World} (h : w.grownBy w' Option.none) : Below w.heap.size w w' := (Below.refl _ _).grown h (Nat.le_refl _) (fun j hj => by cases hj)
end

theorem own_form {w : World} {base : Nat} {e : TypeId} {size n : Nat} {v : Value} {xs : List Value} (h : w.ownsRow base e size v n xs) : ∃ A c, v = .slice A n c ∧ n ≤ c ∧ c ≤ maxLen ∧ Reads w w.heap.size size A n xs := by
  have h0 := h
  rcases h.2 with ⟨rfl, rfl⟩ | ⟨g, cap, cur, rfl, hb, hg, hn, hc, _⟩
  · exact ⟨none, 0, rfl, Nat.le_refl _, by simp [maxLen], Reads.of_own h0⟩
  · exact ⟨_, cap, rfl, hn, hc, Reads.of_own h0⟩

theorem blk4 {w : World} {g : Nat} {t : TypeId} {a b c d : Value} (h : Blk w g t #[a, b, c, d]) :
    w.cell? ⟨g, 0, none⟩ = some a ∧ w.cell? ⟨g, 1, none⟩ = some b ∧ w.cell? ⟨g, 2, none⟩ = some c ∧ w.cell? ⟨g, 3, none⟩ = some d ∧
    w.frozen? ⟨g, 0, none⟩ = false ∧ w.frozen? ⟨g, 1, none⟩ = false ∧ w.frozen? ⟨g, 2, none⟩ = false ∧ w.frozen? ⟨g, 3, none⟩ = false :=
  ⟨by simpa using h.cell 0, by simpa using h.cell 1, by simpa using h.cell 2, by simpa using h.cell 3, h.frozen 0, h.frozen 1, h.frozen 2, h.frozen 3⟩
theorem blk3 {w : World} {g : Nat} {t : TypeId} {a b c : Value} (h : Blk w g t #[a, b, c]) :
    w.cell? ⟨g, 0, none⟩ = some a ∧ w.cell? ⟨g, 1, none⟩ = some b ∧ w.cell? ⟨g, 2, none⟩ = some c ∧
    w.frozen? ⟨g, 0, none⟩ = false ∧ w.frozen? ⟨g, 1, none⟩ = false ∧ w.frozen? ⟨g, 2, none⟩ = false :=
  ⟨by simpa using h.cell 0, by simpa using h.cell 1, by simpa using h.cell 2, h.frozen 0, h.frozen 1, h.frozen 2⟩
theorem blk2 {w : World} {g : Nat} {t : TypeId} {a b : Value} (h : Blk w g t #[a, b]) :
    w.cell? ⟨g, 0, none⟩ = some a ∧ w.cell? ⟨g, 1, none⟩ = some b ∧ w.frozen? ⟨g, 0, none⟩ = false ∧ w.frozen? ⟨g, 1, none⟩ = false :=
  ⟨by simpa using h.cell 0, by simpa using h.cell 1, h.frozen 0, h.frozen 1⟩
theorem blk1 {w : World} {g : Nat} {t : TypeId} {a : Value} (h : Blk w g t #[a]) : w.cell? ⟨g, 0, none⟩ = some a ∧ w.frozen? ⟨g, 0, none⟩ = false :=
  ⟨by simpa using h.cell 0, h.frozen 0⟩
theorem own_setCell_below {w : World} {base : Nat} {e : TypeId} {size n : Nat} {v : Value} {xs : List Value} (h : w.ownsRow base e size v n xs) {p : Addr} (hp : p.block < base) (u : Value) : (w.setCell p u).ownsRow base e size v n xs := ownsRow_setCell_below h hp u

theorem addr_add0 (g j : Nat) : (⟨g, 0, none⟩ : Addr).add j = ⟨g, j, none⟩ := by unfold Addr.add; split <;> simp_all
theorem Reads.of_blk {w : World} {g n size : Nat} {t : TypeId} {cs : Array Value} (h : Blk w g t cs) (xs : List Value) (hl : xs.length = n * size) (hp : ∀ (j : Nat) (u : Value), xs[j]? = some u → cs[j]? = some u) : Reads w (g + 1) size (some ⟨g, 0, none⟩) n xs :=
  ⟨hl, fun _ => ⟨_, rfl, Nat.lt_succ_self _, fun j u hu => by rw [addr_add0, h.cell j]; exact hp j u hu⟩⟩
/-- a literal of this very call -/
theorem Reads.lit (w : World) (cs : Array Value) (t : TypeId) {n size : Nat} (hl : cs.size = n * size) : Reads (w.alloc (.cells cs t)) (w.heap.size + 1) size (some ⟨w.heap.size, 0, none⟩) n cs.toList :=
  Reads.of_blk (Blk.new w t cs) _ (by simpa using hl) (fun j u hu => by simpa using hu)

theorem Reads.pre {w : World} {B size n : Nat} {A : Option Addr} {xs : List Value} (h : Reads w B size A n xs) {k : Nat} (hk : k ≤ n) : Reads w B size A k (xs.take (k * size)) := by
  refine ⟨by rw [List.length_take, h.1]; exact Nat.min_eq_left (Nat.mul_le_mul_right _ hk), fun h0 => ?_⟩
  obtain ⟨ad, rfl, hb, hc⟩ := h.2 (by omega)
  refine ⟨ad, rfl, hb, fun j u hu => hc j u ?_⟩
  rw [List.getElem?_take] at hu
  split at hu
  · exact hu
  · cases hu

/-! ### For a region that is held: S says cells, and last 'Below w0.heap.size w0 w'' -/
theorem held1 {a : Prop} {B : Nat} {w W : World} (h : a ∧ Below B w W) : Below B w W := h.2
theorem held2 {a b : Prop} {B : Nat} {w W : World} (h : a ∧ b ∧ Below B w W) : Below B w W := h.2.2
theorem held3 {a b c : Prop} {B : Nat} {w W : World} (h : a ∧ b ∧ c ∧ Below B w W) : Below B w W := h.2.2.2
theorem held4 {a b c d : Prop} {B : Nat} {w W : World} (h : a ∧ b ∧ c ∧ d ∧ Below B w W) : Below B w W := h.2.2.2.2
theorem below_size {w W : World} {B : Nat} (h : Below w.heap.size w W) (hB : B ≤ w.heap.size) : B ≤ W.heap.size := Nat.le_trans hB h.size
theorem below_step {w W W' : World} (h : Below w.heap.size w W) (hb : Below W.heap.size W W') : Below w.heap.size w W' := h.trans (hb.mono h.size)

theorem own_reads {w : World} {base : Nat} {e : TypeId} {size n c : Nat} {A : Option Addr} {xs : List Value} (h : w.ownsRow base e size (.slice A n c) n xs) : n ≤ c ∧ c ≤ maxLen ∧ Reads w w.heap.size size A n xs := by
  obtain ⟨A', c', hv, h1, h2, h3⟩ := own_form h
  injection hv with e1 _ e2
  subst e1 e2
  exact ⟨h1, h2, h3⟩

/-- bytes as cells -/
def bts (b : List UInt8) : List Value := b.map fun c => .int .u8 (c.toNat : Int)
theorem bts_length (b : List UInt8) : (bts b).length = b.length := by simp [bts]
theorem bts_get (b : List UInt8) (i : Nat) : (bts b)[i]? = b[i]?.map fun c => Value.int .u8 (c.toNat : Int) := by simp [bts]
theorem bts_one (b : List UInt8) : ∀ u ∈ bts b, u.oneCell' = true := by
  intro u hu
  simp only [bts, List.mem_map] at hu
  obtain ⟨c, _, rfl⟩ := hu
  rfl
theorem bts_append (a b : List UInt8) : bts (a ++ b) = bts a ++ bts b := by simp [bts]
theorem bts_take (a : List UInt8) (k : Nat) : bts (a.take k) = (bts a).take k := by simp [bts]
theorem bts_drop (a : List UInt8) (k : Nat) : bts (a.drop k) = (bts a).drop k := by simp [bts]
theorem Reads.bpre {w : World} {B : Nat} {A : Option Addr} {b : List UInt8} (h : Reads w B 1 A b.length (bts b)) {k : Nat} (hk : k ≤ b.length) : Reads w B 1 A k (bts (b.take k)) := by
  have := h.pre hk
  rwa [Nat.mul_one, ← bts_take] at this
theorem add_zero (a : Addr) : a.add 0 = a := by simp [Addr.add]

/-- 'append(out, x)': what is appended has just been laid in a block of its own -/
theorem wpList_push {P : Program} (w : World) {ops : Array Oper} {rest : List Oper} {o : Oper} {a : Act} {Q : Exit → Act → World → Prop} (hgd : o.guard = none) (s x : Operand) (t : TypeId)
    (ho : o.op = .call { callee := .builtin .append, args := #[s, x], argTypes := #[t, t] })
    (base : Nat) (e : TypeId) (i : TypeInfo) (z : Value) (size bytes : Nat) (ht : P.underlying t = some (.slice e)) (hi : P.info? e = some i) (hz : i.zero = some z)
    (hsize : i.size = size) (hby : i.bytes = bytes) (hzs : z.cells.size = size) (hsz : 0 < size)
    (v : Value) (n : Nat) (xs : List Value) (hs : a.eval s = v) (hown : w.ownsRow base e size v n xs)
    (m : Nat) (news : Array Value) (e' : TypeId) (hx : a.eval x = .slice (some ⟨w.heap.size, 0, none⟩) m m) (hl : news.size = m * size) (h1 : ∀ u ∈ news.toList, u.oneCell' = true)
    (h63 : n + m ≤ maxLen) (hbytes : (n + m) * bytes ≤ 140737488355328) (hbase : base ≤ w.heap.size)
    (h : ∀ v' w', w'.ownsRow base e size v' (n + m) (xs ++ news.toList) → Below base w w' → w.grownBy w' v.ownBlock → wpList P ops Q rest (a.put o.dst v') w') : wpList P ops Q (o :: rest) a (w.alloc (.cells news e')) := by
  refine wpList_append_own _ hgd s x t ho base e i z size bytes ht hi hz hsize hby hzs hsz v n xs hs (hown.alloc _) ⟨w.heap.size, 0, none⟩ m m news.toList hx (by simpa using hl) ?_ h1 h63 hbytes (by simp; omega) ?_
  · intro j u hu
    have hadd : (⟨w.heap.size, 0, none⟩ : Addr).add j = ⟨w.heap.size, j, none⟩ := by unfold Addr.add; split <;> simp_all
    rw [hadd, cell_of_row _ _ j news e' (0, 0) (heap_alloc_new w _)]
    simpa using hu
  · intro v' w' hown' hg _
    have hg2 : w.grownBy w' v.ownBlock := ⟨hg.os, hg.tape, hg.output, Nat.le_trans (by simp) hg.size, fun k hk hne => (hg.block k (by simp; omega) hne).trans (Below.heap_alloc w _ k hk)⟩
    exact h v' w' hown' ((Below.refl _ _).grown hg2 hbase (fun k hk => (hown.lt k hk).1)) hg2

end Go.Proofs.Ythfjfkjlgdnohaa

/-
  slices.Backward over bytes that the loop's body may write: its contract.
-/
namespace Go.Proofs.Ythfjfkjlgdnohaa
open Go.RowKit Go.Shelf
attribute [local go_sem] Oper.semAt_some

/-- block g is a row of n bytes -/
def RowB (g n : Nat) (W : World) : Prop := ∃ b : List UInt8, b.length = n ∧ W.heap[g]? = some (.cells (bts b).toArray 5 (0, 0))
/-- the iterator's own box is as it was; g, a row of n bytes, is one again -/
def KpB (Bs g n : Nat) (W W' : World) : Prop := W'.heap[Bs]? = W.heap[Bs]? ∧ (RowB g n W → RowB g n W')
theorem KpB.refl (Bs g n : Nat) (W : World) : KpB Bs g n W W := ⟨rfl, id⟩
theorem KpB.trans {Bs g n : Nat} {A B C : World} (h : KpB Bs g n A B) (k : KpB Bs g n B C) : KpB Bs g n A C := ⟨k.1.trans h.1, fun hr => k.2 (h.2 hr)⟩
theorem RowB.cell {g n : Nat} {W : World} (h : RowB g n W) {i : Nat} (hi : i < n) : ∃ x : Int, W.cell? ⟨g, i, none⟩ = some (.int .u8 x) ∧ W.frozen? ⟨g, i, none⟩ = false ∧ 0 ≤ x ∧ x ≤ 255 := by
  obtain ⟨b, hb, hg⟩ := h
  have hi' : i < b.length := by omega
  refine ⟨(b[i].toNat : Int), ?_, frozen_of_row W g i _ _ hg, by omega, by have := b[i].toNat_lt; omega⟩
  rw [cell_of_row W g i _ _ (0, 0) hg]
  simp [bts, hi']

abbrev Bk (n : Nat) := { x : Nat × Int // x.1 < n ∧ 0 ≤ x.2 ∧ x.2 ≤ 255 }
def bkEnc {n : Nat} (x : Bk n) : Array Value := #[.int .i64 (x.1.1 : Int), .int .u8 x.1.2]
/-- what has come when k rounds are over: n - 1, .., n - k -/
def bkDown (n k : Nat) : List Nat := (List.range k).map fun j => n - 1 - j
theorem bkDown_succ (n k : Nat) : bkDown n (k + 1) = bkDown n k ++ [n - 1 - k] := by simp [bkDown, List.range_succ]

set_option maxRecDepth 100000 in
set_option maxHeartbeats 2000000 in
theorem backward1_in (F : Fence) (m : Nat) (hf : F.fn 118) (hro : F.round = none) (hm : 1 ≤ m) (l Bs g n c : Nat) (hn : n ≤ 1000) (J Jx : List (Bk n) → World → Prop)
    (hY : ∀ pre x W, J pre W → pre.length < n → YieldAt F (m - 1) Try.prog l (bkEnc x) W fun e W' =>
      (e = .returned (.bool true) ∧ J (pre ++ [x]) W' ∧ KpB Bs g n W W') ∨ (e = .returned (.bool false) ∧ Jx (pre ++ [x]) W'))
    (W : World) (hBs : W.cell? ⟨Bs, 0, none⟩ = some (.slice (some ⟨g, 0, none⟩) n c)) (hrow : RowB g n W) (h0 : J [] W) :
    CallsIn F m Try.prog 118 #[.func (.yield l) #[] #[], .pointer (some ⟨Bs, 0, none⟩)] W fun e W' => (∃ v, e = .returned v) ∧
      ((∃ ys : List (Bk n), ys.map (·.1.1) = bkDown n n ∧ J ys W') ∨ (∃ pre : List (Bk n), (∃ k, k ≤ n ∧ pre.map (·.1.1) = bkDown n k) ∧ Jx pre W')) := by
  refine callsIn_of_wp Try.func118 rfl hf ?_ hro
  simp only [Try.ntmps118, List.size_toArray, List.length_cons, List.length_nil, Nat.reduceAdd, Nat.reduceSub, Array.replicate_succ, Array.replicate_zero, List.push_toArray, List.append_toArray, List.nil_append, List.cons_append]
  gi_wp2
  gi_loopw [3] (fun i wr => ∃ (k : Nat) (q : Int) (ys : List (Bk n)), k ≤ n ∧ Hid (q = (n : Int) - 1 - k) ∧ -1 ≤ q ∧ q < n ∧ i = .int .i64 q ∧ Hid (ys.map (·.1.1) = bkDown n k) ∧ J ys wr ∧ KpB Bs g n W wr)
    (fun i _ => (intOf i + 1).toNat)
  case atStart => exact ⟨0, (n : Int) - 1, [], Nat.zero_le _, (show _ = _ by simp), by omega, by omega, rfl, (show _ = _ by rfl), h0, KpB.refl _ _ _ _⟩
  case round =>
    obtain ⟨k, q, ys, hk, hq, hq1, hq2, rfl, hys, hJ, hKp⟩ := hrel
    have hcB : wr.cell? ⟨Bs, 0, none⟩ = some (.slice (some ⟨g, 0, none⟩) n c) := (World.cell?_of_block (w := W) (a := ⟨Bs, 0, none⟩) hKp.1).trans hBs
    have hrw := hKp.2 hrow
    by_cases hlt : 0 ≤ q
    · obtain ⟨p, rfl⟩ := Int.eq_ofNat_of_zero_le hlt
      have hpn : p < n := by omega
      have hpk : p = n - 1 - k := by have := hq.out; omega
      have hkn : k < n := by have := hq.out; omega
      obtain ⟨x, hx, _, hx0, hx1⟩ := hrw.cell hpn
      obtain ⟨fn, tmps, assign, body, hy, hR⟩ := hY ys ⟨(p, x), hpn, hx0, hx1⟩ wr hJ (by have := congrArg List.length hys.out; simp [bkDown] at this; omega)
      simp only [bkEnc] at hy
      have HPK := Lib.hid hpk
      clear hpk hrw hBs
      gi_wp2
      refine hR.mono ?_
      rintro e W3 (⟨rfl, hJ3, hk3⟩ | ⟨rfl, hJx3⟩)
      · gi_wp2
        go_roundw
        case rel => exact ⟨k + 1, (p : Int) - 1, ys ++ [⟨(p, x), hpn, hx0, hx1⟩], by omega, (show _ = _ by have := hq.out; omega), by omega, by omega, rfl, (show _ = _ by rw [List.map_append, hys.out, bkDown_succ, ← HPK.out]; rfl), hJ3, hKp.trans hk3⟩
        case measure => simp [intOf]
      · gi_wp2
        refine bodyPost_ret (results_none rfl _ _ _) rfl ?_
        exact ⟨⟨_, rfl⟩, .inr ⟨_, ⟨k + 1, by omega, by rw [List.map_append, hys.out, bkDown_succ, ← HPK.out]; rfl⟩, hJx3⟩⟩
    · obtain rfl : k = n := by have := hq.out; omega
      gi_wp2
      go_end0
      exact ⟨⟨_, rfl⟩, .inl ⟨ys, hys.out, hJ⟩⟩

set_option maxHeartbeats 1000000 in
theorem backward_in (F : Fence) (m : Nat) (hf : F.fn 91) (hro : F.round = none) (a : Option Addr) (len cap : Nat) (w : World) :
    CallsIn F m Try.prog 91 #[.slice a len cap] w fun e w' => e = .returned (.func (.func 118) #[] #[.pointer (some ⟨w.heap.size, 0, none⟩)]) ∧ w' = w.alloc (.cells #[.slice a len cap] 28) := by
  refine callsIn_of_wp Try.func91 rfl hf ?_ hro
  simp only [Try.ntmps91, List.size_toArray, List.length_cons, List.length_nil, Nat.reduceAdd, Nat.reduceSub, Array.replicate_succ, Array.replicate_zero, List.push_toArray, List.append_toArray, List.nil_append, List.cons_append]
  gi_wp2
  go_ret
  exact ⟨rfl, rfl⟩

theorem backward_stops (F : Fence) (m : Nat) (hf : F.fn 118) (hro : F.round = none) (hm : 1 ≤ m) (Bs g n c : Nat) (hn : n ≤ 1000) (w : World) (hb : Bs < w.heap.size) (hg : g < w.heap.size)
    (hBs : w.cell? ⟨Bs, 0, none⟩ = some (.slice (some ⟨g, 0, none⟩) n c)) (hrow : RowB g n w) :
    SeqStopsK F m Try.prog 118 #[.pointer (some ⟨Bs, 0, none⟩)] (fun x : Bk n => #[.int .i64 (x.1.1 : Int), .int .u8 x.1.2]) (KpB Bs g n) (fun ys => ys.map (·.1.1) = bkDown n n) (fun pre => ∃ k, k ≤ n ∧ pre.map (·.1.1) = bkDown n k) n w := fun l J Jx W hW _ _ hY h0 => by
  have hc' := (hW.cell (p := ⟨Bs, 0, none⟩) hb).trans hBs
  have hr' : RowB g n W := by
    obtain ⟨b, h1, h2⟩ := hrow
    exact ⟨b, h1, (hW.block g hg).trans h2⟩
  exact backward1_in F m hf hro hm l Bs g n c hn J Jx hY W hc' hr' h0
end Go.Proofs.Ythfjfkjlgdnohaa

/-
  octets.Put, by its contract.
-/
namespace Go.Proofs.Ythfjfkjlgdnohaa
open Go.RowKit Go.Shelf
attribute [local go_sem] Oper.semAt_some

def toByte (v : Int) : UInt8 := UInt8.ofNat (v % 256).toNat
theorem toByte_int (v : Int) : ((toByte v).toNat : Int) = v % 256 := by
  unfold toByte
  rw [UInt8.toNat_ofNat_of_lt' (by show (v % 256).toNat < 256; omega)]
  omega
/-- what the loop makes of a row and a number -/
def putStep (s : List UInt8 × Int) (i : Nat) : List UInt8 × Int := (s.1.set i (toByte s.2), s.2 / 256)
def putF (n : Int) (k : Nat) (l : List Nat) : List UInt8 × Int := l.foldl putStep (List.replicate k 0, n)
/-- a number's octets, the highest first -/
def putL (n : Int) (k : Nat) : List UInt8 := (putF n k (bkDown k k)).1
theorem putF_length (n : Int) (k : Nat) (l : List Nat) : (putF n k l).1.length = k := by
  unfold putF
  suffices h : ∀ (l : List Nat) (s : List UInt8 × Int), (l.foldl putStep s).1.length = s.1.length by rw [h]; simp
  intro l
  induction l with
  | nil => intro s; rfl
  | cons x l ih => intro s; rw [List.foldl_cons, ih]; simp [putStep]
theorem putF_snoc (n : Int) (k : Nat) (l : List Nat) (i : Nat) : putF n k (l ++ [i]) = putStep (putF n k l) i := by simp [putF]
theorem putL_length (n : Int) (k : Nat) : (putL n k).length = k := putF_length _ _ _

theorem Try.infoU8' : (Try.prog.info? 5).map (fun i => (i.zero, i.size, i.bytes)) = some (some (.int .u8 0), 1, 1) := by kernel_rfl

theorem run_make_rowN {P : Program} (t e : TypeId) (i : TypeInfo) (z : Value) (ht : P.underlying t = some (.slice e)) (hi : P.info? e = some i) (hz : i.zero = some z)
    (kl kc : IntKind) (n c : Nat) (hnc : n ≤ c) (hbytes : i.bytes * c ≤ 281474976710656) (h63 : c ≤ 9223372036854775807) (w : World) :
    (Instr.makeSlice t (.int kl (n : Int)) (.int kc (c : Int))).run P w = .ok (.slice (some ⟨w.heap.size, 0, none⟩) n c) (w.alloc (.cells (madeCells z.cells (c * i.size)) e)) := by
  have hb : (i.bytes : Int) * (c : Int) ≤ 281474976710656 := by
    have h : ((i.bytes * c : Nat) : Int) ≤ 281474976710656 := by omega
    rwa [Int.natCast_mul] at h
  have hr := run_make (P := P) w t e i z ht hi hz kl kc n c (by omega) (by omega) hb (by omega)
  simp only [Int.toNat_natCast] at hr
  exact hr
theorem made_bytes (k : Nat) : madeCells (Value.int .u8 0).cells (k * 1) = (bts (List.replicate k 0)).toArray := by
  apply Array.ext
  · simp [madeCells, bts]
  · intro i h1 h2
    have : i % 1 = 0 := by omega
    simp [madeCells, bts, Value.cells, this]

/-- between two rounds -/
def PutI (w : World) (n : Int) (k : Nat) (l : List Nat) (W : World) : Prop :=
  Blk W w.heap.size 3 #[.int .i64 (putF n k l).2] ∧ W.heap[w.heap.size + 1]? = some (.cells (bts (putF n k l).1).toArray 5 (0, 0)) ∧ Blk W (w.heap.size + 1 + 1) 28 #[.slice (some ⟨w.heap.size + 1, 0, none⟩) k k] ∧ Below w.heap.size w W
theorem heap_kept {W W' : World} {row : Option Nat} {k : Nat} {cs : Array Value} {T : TypeId} {fr : Nat × Nat} (h : W.heap[k]? = some (.cells cs T fr)) (hg : W.grownBy W' row) (hr : ∀ r, row = some r → ∃ o : Obj, W.heap[r]? = some o ∧ o.isCells = false) : W'.heap[k]? = some (.cells cs T fr) := by
  rw [hg.block k (Array.getElem?_eq_some_iff.1 h).1 ?_]
  · exact h
  · intro e
    obtain ⟨o, ho, hc⟩ := hr k e.symm
    rw [h] at ho
    cases ho
    cases hc
theorem putI_own {w : World} {n : Int} {k B : Nat} {m : Nat} (hB : w.heap.size ≤ B := by first | omega | (simp; omega)) : OwnFrom B (fun (pre : List (Bk m)) W => PutI w n k (pre.map (·.1.1)) W) := by
  intro s W W' row hs hg hr
  have hr' := fun r e => (hr r e).2
  exact ⟨heap_kept hs.1 hg hr', heap_kept hs.2.1 hg hr', heap_kept hs.2.2.1 hg hr', hs.2.2.2.grown hg (Below.size hs.2.2.2) (fun r e => Nat.le_trans hB (hr r e).1)⟩
theorem kpB_b {w : World} {Bs g n : Nat} (hb : Bs < w.heap.size) (hg : g < w.heap.size) (W : World) (l : Nat) (o o' : Obj) (hl : w.heap.size ≤ l) (_ : W.heap[l]? = some o) (_ : o.isCells = false) (_ : o.isWalk = false) : KpB Bs g n W (W.putObj l o') :=
  ⟨World.putObj_heap_other (by omega), fun ⟨b, h1, h2⟩ => ⟨b, h1, (World.putObj_heap_other (by omega)).trans h2⟩⟩

theorem bts_set (b : List UInt8) (i : Nat) (z : UInt8) : bts (b.set i z) = (bts b).set i (.int .u8 (z.toNat : Int)) := by simp [bts, List.map_set]
/-- where the loop begins -/
theorem put_start (w : World) (n : Int) (k : Nat) (Z : Array Value) (hZ : Z = (bts (List.replicate k 0)).toArray) :
    let W3 := (((w.alloc (.cells #[.int .i64 n] 3)).alloc (.cells Z 5)).alloc (.cells #[.slice (some ⟨w.heap.size + 1, 0, none⟩) k k] 28)).alloc (.cells #[.slice (some ⟨w.heap.size + 1, 0, none⟩) k k] 28)
    Blk W3 w.heap.size 3 #[.int .i64 (putF n k []).2] ∧ W3.heap[w.heap.size + 1]? = some (.cells (bts (putF n k []).1).toArray 5 (0, 0)) ∧ Blk W3 (w.heap.size + 1 + 1) 28 #[.slice (some ⟨w.heap.size + 1, 0, none⟩) k k] ∧
      W3.cell? ⟨w.heap.size + 1 + 1 + 1, 0, none⟩ = some (.slice (some ⟨w.heap.size + 1, 0, none⟩) k k) ∧ Below w.heap.size w W3 := by
  intro W3
  subst hZ
  have s1 : (w.alloc (.cells #[.int .i64 n] 3)).heap.size = w.heap.size + 1 := by simp
  have s2 : ((w.alloc (.cells #[.int .i64 n] 3)).alloc (.cells (bts (List.replicate k 0)).toArray 5)).heap.size = w.heap.size + 1 + 1 := by simp
  have s3 : (((w.alloc (.cells #[.int .i64 n] 3)).alloc (.cells (bts (List.replicate k 0)).toArray 5)).alloc (.cells #[.slice (some ⟨w.heap.size + 1, 0, none⟩) k k] 28)).heap.size = w.heap.size + 1 + 1 + 1 := by simp
  have b1 := (((Blk.new w 3 #[.int .i64 n]).alloc (.cells (bts (List.replicate k 0)).toArray 5)).alloc (.cells #[.slice (some ⟨w.heap.size + 1, 0, none⟩) k k] 28)).alloc (.cells #[.slice (some ⟨w.heap.size + 1, 0, none⟩) k k] 28)
  have b2 := ((Blk.new (w.alloc (.cells #[.int .i64 n] 3)) 5 (bts (List.replicate k 0)).toArray).alloc (.cells #[.slice (some ⟨w.heap.size + 1, 0, none⟩) k k] 28)).alloc (.cells #[.slice (some ⟨w.heap.size + 1, 0, none⟩) k k] 28)
  have b3 := (Blk.new ((w.alloc (.cells #[.int .i64 n] 3)).alloc (.cells (bts (List.replicate k 0)).toArray 5)) 28 #[.slice (some ⟨w.heap.size + 1, 0, none⟩) k k]).alloc (.cells #[.slice (some ⟨w.heap.size + 1, 0, none⟩) k k] 28)
  have b4 := Blk.new (((w.alloc (.cells #[.int .i64 n] 3)).alloc (.cells (bts (List.replicate k 0)).toArray 5)).alloc (.cells #[.slice (some ⟨w.heap.size + 1, 0, none⟩) k k] 28)) 28 #[.slice (some ⟨w.heap.size + 1, 0, none⟩) k k]
  rw [s1] at b2
  rw [s2] at b3
  rw [s3] at b4
  exact ⟨b1, b2, b3, (blk1 b4).1, ((((Below.refl _ w).alloc (Nat.le_refl _) _).alloc (by simp) _).alloc (by simp; omega) _).alloc (by simp; omega) _⟩
theorem putI_step {w W : World} {n : Int} {k i : Nat} {l : List Nat} (h : PutI w n k l W) :
    PutI w n k (l ++ [i]) ((W.setCell ⟨w.heap.size + 1, i, none⟩ (.int .u8 ((putF n k l).2 % 256))).setCell ⟨w.heap.size, 0, none⟩ (.int .i64 ((putF n k l).2 / 256))) ∧
      KpB (w.heap.size + 1 + 1 + 1) (w.heap.size + 1) k W ((W.setCell ⟨w.heap.size + 1, i, none⟩ (.int .u8 ((putF n k l).2 % 256))).setCell ⟨w.heap.size, 0, none⟩ (.int .i64 ((putF n k l).2 / 256))) := by
  obtain ⟨h1, h2, h3, h4⟩ := h
  have e : (.int .u8 ((putF n k l).2 % 256) : Value) = .int .u8 ((toByte (putF n k l).2).toNat : Int) := by rw [toByte_int]
  have hset : ((W.setCell ⟨w.heap.size + 1, i, none⟩ (.int .u8 ((putF n k l).2 % 256))).setCell ⟨w.heap.size, 0, none⟩ (.int .i64 ((putF n k l).2 / 256))).heap[w.heap.size + 1]? = some (.cells (bts (putF n k (l ++ [i])).1).toArray 5 (0, 0)) := by
    rw [Below.heap_setCell _ _ _ _ (by simp)]
    have := Blk.set_ (g := w.heap.size + 1) (t := 5) h2 i (.int .u8 ((putF n k l).2 % 256))
    rw [e] at this ⊢
    rw [putF_snoc]
    unfold Blk at this
    rw [this]
    simp [putStep, bts_set]
  refine ⟨⟨?_, hset, (h3.far (by show (w.heap.size + 1 + 1 : Nat) ≠ w.heap.size + 1; omega) _).far (by show (w.heap.size + 1 + 1 : Nat) ≠ w.heap.size; omega) _, (h4.setCell (by simp) _).setCell (by simp) _⟩, ?_, fun _ => ⟨_, putF_length _ _ _, hset⟩⟩
  · rw [putF_snoc]
    exact (h1.far (p := ⟨w.heap.size + 1, i, none⟩) (by simp) _).set_ 0 _
  · rw [Below.heap_setCell _ _ _ _ (by show (w.heap.size + 1 + 1 + 1 : Nat) ≠ w.heap.size; omega), Below.heap_setCell _ _ _ _ (by show (w.heap.size + 1 + 1 + 1 : Nat) ≠ w.heap.size + 1; omega)]
theorem put_end {w W : World} {n : Int} {k D : Nat} (hD : w.heap.size + 1 + 1 + 1 + 1 ≤ D) (hK : W.heap[D]? = some (.deferred (some []))) (h2 : W.heap[w.heap.size + 1]? = some (.cells (bts (putF n k (bkDown k k)).1).toArray 5 (0, 0))) (h4 : Below w.heap.size w W) (hk : k ≤ maxLen := by simp only [maxLen]; omega) :
    (W.putObj D (.deferred none)).ownsRow w.heap.size 5 1 (.slice (some ⟨w.heap.size + 1, 0, none⟩) k k) k (bts (putL n k)) ∧ Below w.heap.size w (W.putObj D (.deferred none)) := by
  refine ⟨⟨by rw [bts_length, putL_length]; simp, .inr ⟨_, k, _, rfl, by omega, (World.putObj_heap_other (by omega)).trans h2, Nat.le_refl _, hk, ?_, ?_⟩⟩, h4.trans (belowK_b (w := w) (Nat.le_refl _) W D _ _ (by omega) hK rfl rfl)⟩
  · simp [bts_length, putF_length]
  · show ((bts (putF n k (bkDown k k)).1).toArray).toList.take _ = _
    rw [List.toList_toArray]
    exact List.take_of_length_le (by rw [bts_length, putF_length]; omega)


set_option maxRecDepth 100000 in
set_option maxHeartbeats 2000000 in
theorem put_in (n : Int) (size : Int) (k : Nat) (hk : min (max size 0) 8 = (k : Int)) (w : World) :
    CallsIn Fence.wide 9 Try.prog 54 #[.int .i64 n, .int .i64 size] w fun e w' => ∃ v, e = .returned v ∧ w'.ownsRow w.heap.size 5 1 v k (bts (putL n k)) ∧ Below w.heap.size w w' := by
  obtain ⟨i0, hi0, hz0, hz1, hz2⟩ := info_parts Try.infoU8'
  obtain ⟨X, hX, hsz⟩ : ∃ X : Int, X = (k : Int) ∧ ((X = 0 ∧ size < 0) ∨ (X = 8 ∧ 8 < size) ∨ (X = size ∧ 0 ≤ size ∧ size ≤ 8)) := ⟨(k : Int), rfl, by omega⟩
  obtain ⟨Z, hZ⟩ : ∃ Z, Z = (bts (List.replicate k 0)).toArray := ⟨_, rfl⟩
  have hmk : ∀ W : World, Sem.run Try.prog (Instr.makeSlice 28 (.int .i64 X) (.int .i64 X)) W = .ok (.slice (some ⟨W.heap.size, 0, none⟩) k k) (W.alloc (.cells Z 5)) := fun W => by
    rw [hX, hZ, run_make_rowN 28 5 i0 _ Try.underlying28 hi0 hz0 .i64 .i64 k k (Nat.le_refl _) (by rw [hz2]; omega) (by omega) W, hz1, made_bytes]
  have HX := Lib.hid hX
  have HZ := Lib.hid hZ
  have hk8 : k ≤ 8 := by omega
  have hW3 := put_start w n k Z hZ
  clear hX hZ hk
  have hro : (Fence.wide).round = none := rfl
  refine callsIn_of_wp_marks Try.func54 rfl trivial ?_ hro
  simp only [Try.ntmps54, List.size_toArray, List.length_cons, List.length_nil, Nat.reduceAdd, Nat.reduceSub, Array.replicate_succ, Array.replicate_zero, List.push_toArray, List.append_toArray, List.nil_append, List.cons_append]
  rcases hsz with ⟨rfl, hs⟩ | ⟨rfl, hs⟩ | ⟨rfl, hs, hs'⟩
  · gi_wp2_with (refine ⟨trivial, ?_⟩; gi_at_call 91; refine (backward_in Fence.wide 8 trivial rfl _ _ _ _).mono ?_; rintro e w' ⟨rfl, rfl⟩)
    refine wpIn_rangeFunc_ownG rfl (by omega) (gf := 118) (lb := #[.pointer (some ⟨w.heap.size + 1 + 1 + 1, 0, none⟩)]) rfl trivial (enters_of Try.func118 (by kernel_rfl) rfl)
      (backward_stops Fence.wide 8 trivial rfl (by omega) (w.heap.size + 1 + 1 + 1) (w.heap.size + 1) k k (by omega) _ (by first | omega | (simp; omega) | simp) (by first | omega | (simp; omega) | simp) hW3.2.2.2.1 ⟨_, putF_length _ _ _, hW3.2.1⟩) KpB.trans (kpB_b (by first | omega | (simp; omega) | simp) (by first | omega | (simp; omega) | simp)) (Below.refl _ _) (fun _ => rfl)
      (fun pre W => PutI w n k (pre.map (·.1.1)) W) (fun _ _ _ => False) (putI_own (by first | omega | (simp; omega) | simp)) (fun _ _ _ _ _ hs _ _ => hs) ⟨hW3.1, hW3.2.1, hW3.2.2.1, hW3.2.2.2.2⟩
      (fun x => { tmps := #[.int .i64 n, .int .i64 0, .pointer (some ⟨w.heap.size, 0, none⟩), undef, .slice none 0 0, .pointer (some ⟨w.heap.size + 1 + 1, 0, none⟩), .int .i64 (x.1.1 : Int), .int .i64 size, .int .i64 0, .int .i64 0, .int .i64 0, .slice (some ⟨w.heap.size + 1, 0, none⟩) k k, .slice (some ⟨w.heap.size + 1, 0, none⟩) k k, .func (.func 118) #[] #[.pointer (some ⟨w.heap.size + 1 + 1 + 1, 0, none⟩)], .int .i64 (x.1.1 : Int), .int .u8 x.1.2, undef, undef, undef, undef, undef, undef, undef, undef], defers := [] }) ?_ ?_ ?_ ?_
    · intro l x W K hK
      gi_wp2
      exact hK
    · rintro l pre x W hI _
      have hx := x.2.1
      obtain ⟨h1, h2, h3, h4⟩ := hI
      obtain ⟨c1, f1⟩ := blk1 h1
      obtain ⟨c3, f3⟩ := blk1 h3
      obtain ⟨y, hy, fy, _, _⟩ := RowB.cell ⟨_, putF_length _ _ _, h2⟩ hx
      have hxi : ((x.1.1 : Nat) : Int) < (k : Int) := by omega
      generalize hxx : x.1.1 = i at *
      have HXX := Lib.hid hxx
      have H12 := Lib.hid (And.intro h1 (And.intro h2 (And.intro h3 h4)))
      clear hxx h1 h2 h3 h4 hW3 hmk
      gi_wp2
      have hgo := putI_step (i := i) H12.out
      refine ⟨((KeepsOthers.setCell _ _ _).trans (KeepsOthers.setCell _ _ _)).from _, hgo.2, ?_⟩
      show PutI w n k ((pre ++ [x]).map (·.1.1)) _
      rw [List.map_append, List.map_singleton, HXX.out]
      exact hgo.1
    · rintro D ys W hD hS hI hK
      obtain ⟨h1, h2, h3, h4⟩ := hI
      obtain ⟨c3, f3⟩ := blk1 h3
      rw [hS] at h2
      have H2 := Lib.hid h2
      have H4 := Lib.hid h4
      clear h1 h2 h3 h4 hW3 hmk
      gi_wp2
      refine ⟨by simp, .inl ⟨_, _, rfl, run_takeDeferred hK, ?_⟩⟩
      refine ⟨_, results_tmp rfl _ _ _, _, rfl, ?_⟩
      exact put_end (by simpa using hD) hK H2.out H4.out
    · rintro D c pre W _ _ h _
      exact h.elim
  · gi_wp2_with (refine ⟨trivial, ?_⟩; gi_at_call 91; refine (backward_in Fence.wide 8 trivial rfl _ _ _ _).mono ?_; rintro e w' ⟨rfl, rfl⟩)
    refine wpIn_rangeFunc_ownG rfl (by omega) (gf := 118) (lb := #[.pointer (some ⟨w.heap.size + 1 + 1 + 1, 0, none⟩)]) rfl trivial (enters_of Try.func118 (by kernel_rfl) rfl)
      (backward_stops Fence.wide 8 trivial rfl (by omega) (w.heap.size + 1 + 1 + 1) (w.heap.size + 1) k k (by omega) _ (by first | omega | (simp; omega) | simp) (by first | omega | (simp; omega) | simp) hW3.2.2.2.1 ⟨_, putF_length _ _ _, hW3.2.1⟩) KpB.trans (kpB_b (by first | omega | (simp; omega) | simp) (by first | omega | (simp; omega) | simp)) (Below.refl _ _) (fun _ => rfl)
      (fun pre W => PutI w n k (pre.map (·.1.1)) W) (fun _ _ _ => False) (putI_own (by first | omega | (simp; omega) | simp)) (fun _ _ _ _ _ hs _ _ => hs) ⟨hW3.1, hW3.2.1, hW3.2.2.1, hW3.2.2.2.2⟩
      (fun x => { tmps := #[.int .i64 n, .int .i64 8, .pointer (some ⟨w.heap.size, 0, none⟩), undef, .slice none 0 0, .pointer (some ⟨w.heap.size + 1 + 1, 0, none⟩), .int .i64 (x.1.1 : Int), .int .i64 size, .int .i64 size, .int .i64 8, .int .i64 8, .slice (some ⟨w.heap.size + 1, 0, none⟩) k k, .slice (some ⟨w.heap.size + 1, 0, none⟩) k k, .func (.func 118) #[] #[.pointer (some ⟨w.heap.size + 1 + 1 + 1, 0, none⟩)], .int .i64 (x.1.1 : Int), .int .u8 x.1.2, undef, undef, undef, undef, undef, undef, undef, undef], defers := [] }) ?_ ?_ ?_ ?_
    · intro l x W K hK
      gi_wp2
      exact hK
    · rintro l pre x W hI _
      have hx := x.2.1
      obtain ⟨h1, h2, h3, h4⟩ := hI
      obtain ⟨c1, f1⟩ := blk1 h1
      obtain ⟨c3, f3⟩ := blk1 h3
      obtain ⟨y, hy, fy, _, _⟩ := RowB.cell ⟨_, putF_length _ _ _, h2⟩ hx
      have hxi : ((x.1.1 : Nat) : Int) < (k : Int) := by omega
      generalize hxx : x.1.1 = i at *
      have HXX := Lib.hid hxx
      have H12 := Lib.hid (And.intro h1 (And.intro h2 (And.intro h3 h4)))
      clear hxx h1 h2 h3 h4 hW3 hmk
      gi_wp2
      have hgo := putI_step (i := i) H12.out
      refine ⟨((KeepsOthers.setCell _ _ _).trans (KeepsOthers.setCell _ _ _)).from _, hgo.2, ?_⟩
      show PutI w n k ((pre ++ [x]).map (·.1.1)) _
      rw [List.map_append, List.map_singleton, HXX.out]
      exact hgo.1
    · rintro D ys W hD hS hI hK
      obtain ⟨h1, h2, h3, h4⟩ := hI
      obtain ⟨c3, f3⟩ := blk1 h3
      rw [hS] at h2
      have H2 := Lib.hid h2
      have H4 := Lib.hid h4
      clear h1 h2 h3 h4 hW3 hmk
      gi_wp2
      refine ⟨by simp, .inl ⟨_, _, rfl, run_takeDeferred hK, ?_⟩⟩
      refine ⟨_, results_tmp rfl _ _ _, _, rfl, ?_⟩
      exact put_end (by simpa using hD) hK H2.out H4.out
    · rintro D c pre W _ _ h _
      exact h.elim
  · gi_wp2_with (refine ⟨trivial, ?_⟩; gi_at_call 91; refine (backward_in Fence.wide 8 trivial rfl _ _ _ _).mono ?_; rintro e w' ⟨rfl, rfl⟩)
    refine wpIn_rangeFunc_ownG rfl (by omega) (gf := 118) (lb := #[.pointer (some ⟨w.heap.size + 1 + 1 + 1, 0, none⟩)]) rfl trivial (enters_of Try.func118 (by kernel_rfl) rfl)
      (backward_stops Fence.wide 8 trivial rfl (by omega) (w.heap.size + 1 + 1 + 1) (w.heap.size + 1) k k (by omega) _ (by first | omega | (simp; omega) | simp) (by first | omega | (simp; omega) | simp) hW3.2.2.2.1 ⟨_, putF_length _ _ _, hW3.2.1⟩) KpB.trans (kpB_b (by first | omega | (simp; omega) | simp) (by first | omega | (simp; omega) | simp)) (Below.refl _ _) (fun _ => rfl)
      (fun pre W => PutI w n k (pre.map (·.1.1)) W) (fun _ _ _ => False) (putI_own (by first | omega | (simp; omega) | simp)) (fun _ _ _ _ _ hs _ _ => hs) ⟨hW3.1, hW3.2.1, hW3.2.2.1, hW3.2.2.2.2⟩
      (fun x => { tmps := #[.int .i64 n, .int .i64 X, .pointer (some ⟨w.heap.size, 0, none⟩), undef, .slice none 0 0, .pointer (some ⟨w.heap.size + 1 + 1, 0, none⟩), .int .i64 (x.1.1 : Int), .int .i64 X, .int .i64 X, .int .i64 X, .int .i64 X, .slice (some ⟨w.heap.size + 1, 0, none⟩) k k, .slice (some ⟨w.heap.size + 1, 0, none⟩) k k, .func (.func 118) #[] #[.pointer (some ⟨w.heap.size + 1 + 1 + 1, 0, none⟩)], .int .i64 (x.1.1 : Int), .int .u8 x.1.2, undef, undef, undef, undef, undef, undef, undef, undef], defers := [] }) ?_ ?_ ?_ ?_
    · intro l x W K hK
      gi_wp2
      exact hK
    · rintro l pre x W hI _
      have hx := x.2.1
      obtain ⟨h1, h2, h3, h4⟩ := hI
      obtain ⟨c1, f1⟩ := blk1 h1
      obtain ⟨c3, f3⟩ := blk1 h3
      obtain ⟨y, hy, fy, _, _⟩ := RowB.cell ⟨_, putF_length _ _ _, h2⟩ hx
      have hxi : ((x.1.1 : Nat) : Int) < (k : Int) := by omega
      generalize hxx : x.1.1 = i at *
      have HXX := Lib.hid hxx
      have H12 := Lib.hid (And.intro h1 (And.intro h2 (And.intro h3 h4)))
      clear hxx h1 h2 h3 h4 hW3 hmk
      gi_wp2
      have hgo := putI_step (i := i) H12.out
      refine ⟨((KeepsOthers.setCell _ _ _).trans (KeepsOthers.setCell _ _ _)).from _, hgo.2, ?_⟩
      show PutI w n k ((pre ++ [x]).map (·.1.1)) _
      rw [List.map_append, List.map_singleton, HXX.out]
      exact hgo.1
    · rintro D ys W hD hS hI hK
      obtain ⟨h1, h2, h3, h4⟩ := hI
      obtain ⟨c3, f3⟩ := blk1 h3
      rw [hS] at h2
      have H2 := Lib.hid h2
      have H4 := Lib.hid h4
      clear h1 h2 h3 h4 hW3 hmk
      gi_wp2
      refine ⟨by simp, .inl ⟨_, _, rfl, run_takeDeferred hK, ?_⟩⟩
      refine ⟨_, results_tmp rfl _ _ _, _, rfl, ?_⟩
      exact put_end (by simpa using hD) hK H2.out H4.out
    · rintro D c pre W _ _ h _
      exact h.elim

/-- octets.Put -/
theorem put_any (n : Int) (size : Int) (k : Nat) (hk : min (max size 0) 8 = (k : Int)) (w : World) :
    Calls Try.prog 54 #[.int .i64 n, .int .i64 size] w fun e w' => ∃ v, e = .returned v ∧ w'.ownsRow w.heap.size 5 1 v k (bts (putL n k)) ∧ Below w.heap.size w w' :=
  (callsIn_wide (n := 9)).1 (put_in n size k hk w)
end Go.Proofs.Ythfjfkjlgdnohaa

/-
  octets.Number, by its contract.
-/
namespace Go.Proofs.Ythfjfkjlgdnohaa
open Go.RowKit

def numN (b : List UInt8) : Nat := b.foldl (fun n c => n * 256 + c.toNat) 0
theorem numN_snoc (b : List UInt8) (c : UInt8) : numN (b ++ [c]) = numN b * 256 + c.toNat := by simp [numN]
theorem numN_take (b : List UInt8) (k : Nat) (h : k < b.length) : numN (b.take (k + 1)) = numN (b.take k) * 256 + (b[k]).toNat := by
  rw [List.take_succ_eq_append_getElem h, numN_snoc]
theorem numN_take_lt (b : List UInt8) (k : Nat) (h : k ≤ b.length) : numN (b.take k) < 256 ^ k := by
  induction k with
  | zero => simp [numN]
  | succ k ih =>
    have h1 := ih (by omega)
    have h2 := (b[k]).toNat_lt
    rw [numN_take b k (by omega), Nat.pow_succ]
    omega
theorem numN_lt (b : List UInt8) : numN b < 256 ^ b.length := by
  have := numN_take_lt b b.length (Nat.le_refl _)
  rwa [List.take_length] at this
theorem pow_le8 {k : Nat} (h : k ≤ 7) : 256 ^ k ≤ 72057594037927936 := by
  have : 256 ^ k ≤ 256 ^ 7 := Nat.pow_le_pow_right (by omega) h
  simpa using this
theorem or_u64 (a c : Nat) (ha : a < 72057594037927936) (hc : c < 256) : bits .or .u64 ((a : Int) * 256) (c : Int) = ((a * 256 + c : Nat) : Int) := by
  have h1 : a * 256 < 18446744073709551616 := by omega
  rw [show ((a : Int) * 256) = ((a * 2 ^ 8 : Nat) : Int) by omega, u64_or_nat _ _ (by omega) (by omega), ← Nat.shiftLeft_eq, Nat.shiftLeft_add_eq_or_of_lt (by omega)]
/-- what Number tells -/
def numV (b : List UInt8) : Int := if b.length = 0 ∨ 8 < b.length ∨ 4611686018427387903 < numN b then 0 else numN b
def numE (b : List UInt8) : Int := if b.length = 0 then 8 else if 8 < b.length then 5 else if 4611686018427387903 < numN b then 4 else 0

set_option maxRecDepth 100000 in
theorem number_any (b : List UInt8) (n : Nat) (hnb : n = b.length) (A : Option Addr) (c : Nat) (w : World) (B : Nat) (hr : Reads w B 1 A n (bts b)) (hn : n ≤ 140737488351232) :
    Calls Try.prog 59 #[.slice A n c] w fun e w' => e = .returned (.tuple #[.int .i64 (numV b), .int .i64 (numE b)]) ∧ w = w' := by
  subst hnb
  by_cases h0 : b.length = 0
  · have e0 : ((b.length : Int) == 0) = true := by simp [h0]
    have ev : numV b = 0 := by simp [numV, h0]
    have ee : numE b = 8 := by simp [numE, h0]
    go_enter Try.func59, Try.ntmps59
    go_wp2_with fail
    go_ret2
    exact ⟨by rw [ev, ee]; rfl, rfl⟩
  by_cases h8 : 8 < b.length
  · have e0 : ((b.length : Int) == 0) = false := by simp [h0]
    have e8 : (8 : Int) < (b.length : Int) := by omega
    have ev : numV b = 0 := by simp [numV, h8]
    have ee : numE b = 5 := by simp [numE, h0, h8]
    have EV := Lib.hid ev
    have EE := Lib.hid ee
    clear ev ee
    go_enter Try.func59, Try.ntmps59
    go_wp2_with fail
    go_ret2
    exact ⟨by rw [EV.out, EE.out]; rfl, rfl⟩
  have e0 : ((b.length : Int) == 0) = false := by simp [h0]
  have e8 : (b.length : Int) ≤ 8 := by omega
  go_enter Try.func59, Try.ntmps59
  go_wp2_with fail
  go_loop [4, 17] (fun n i => ∃ k m : Nat, k ≤ b.length ∧ i = .int .i64 (k : Int) ∧ n = .int .u64 (m : Int) ∧ Hid (m = numN (b.take k))) (fun _ i => b.length - (intOf i).toNat)
  case atStart => exact ⟨0, 0, Nat.zero_le _, rfl, rfl, (show _ = _ by simp [numN])⟩
  case round =>
    obtain ⟨k, m, hk, rfl, rfl, hm⟩ := hrel
    by_cases hlt : k < b.length
    · obtain ⟨ad, u, rfl, _, hu, hcu⟩ := hr.at_ (by omega : k < b.length)
      obtain rfl : u = .int .u8 ((b[k]).toNat : Int) := by rw [bts_get, List.getElem?_eq_getElem hlt] at hu; simpa using hu.symm
      have hm7 : m < 72057594037927936 := by have h1 := numN_take_lt b k hk; have h2 := pow_le8 (k := k) (by omega); rw [← hm.out] at h1; omega
      have hy := (b[k]).toNat_lt
      obtain ⟨y, hyy⟩ : ∃ y, y = (b[k]).toNat := ⟨_, rfl⟩
      rw [← hyy] at hcu hy
      have HY := Lib.hid hyy
      clear hyy hu hr
      go_wp2_with fail
      go_round
      case rel => exact ⟨k + 1, m * 256 + y, by omega, by go_num, by rw [or_u64 m y hm7 hy], (show _ = _ by rw [numN_take b k hlt, hm.out, HY.out])⟩
      case measure => simp [intOf]; omega
    · obtain rfl : k = b.length := by omega
      rw [List.take_length] at hm
      have hml : m < 18446744073709551616 := by
        have h1 := numN_lt b
        have h2 : 256 ^ b.length ≤ 256 ^ 8 := Nat.pow_le_pow_right (by omega) (by omega)
        have h3 : (256 : Nat) ^ 8 = 18446744073709551616 := by decide
        rw [hm.out]; omega
      by_cases hbig : 4611686018427387903 < m
      · have ev : numV b = 0 := by simp only [numV]; rw [if_pos (by rw [← hm.out]; omega)]
        have ee : numE b = 4 := by simp only [numE]; rw [if_neg h0, if_neg h8, if_pos (by rw [← hm.out]; omega)]
        have EV := Lib.hid ev
        have EE := Lib.hid ee
        have hbig' : (4611686018427387903 : Int) < (m : Int) := by omega
        clear ev ee hr
        go_wp2_with fail
        go_ret2
        exact ⟨by rw [EV.out, EE.out]; rfl, rfl⟩
      · have ev : numV b = m := by simp only [numV]; rw [if_neg (by rw [← hm.out]; omega), ← hm.out]
        have ee : numE b = 0 := by simp only [numE]; rw [if_neg h0, if_neg h8, if_neg (by rw [← hm.out]; omega)]
        have EV := Lib.hid ev
        have EE := Lib.hid ee
        have hbig' : (m : Int) ≤ 4611686018427387903 := by omega
        clear ev ee hr
        go_wp2_with fail
        go_ret2
        exact ⟨by rw [EV.out, EE.out]; rfl, rfl⟩
end Go.Proofs.Ythfjfkjlgdnohaa

/-
  What the texts on joins lean on, where a seat holds no slices.Clone of bytes.
-/
namespace Go.Proofs.Ythfjfkjlgdnohaa
open Go.RowKit

theorem Try.infoU8c : (Try.prog.info? 5).map (fun i => (i.zero, i.size, i.bytes)) = some (some (.int .u8 0), 1, 1) := by kernel_rfl
end Go.Proofs.Ythfjfkjlgdnohaa
