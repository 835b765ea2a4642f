/-
  Words for memory that all texts of this seat use: a slice that reads as a list, a block known whole, append from any source.
  Turned from the guide's pages extra-words and extra-small.
-/
import Derived.WalkKit
import Derived.WalkSpells
import Derived.Below
import Derived.Laws.OwnMore
import Derived.Deep.AppendLies
import Derived.Deep.Draws
import Derived.Laws.Rows
import Derived.Maps.AppendAt
import Derived.RegionTactic
import Derived.OwnWalk
import Derived.Deep.QuietTactic
import Derived.BigQuiet
import Derived.Lib.Hide
import Derived.Laws.CopyOwn
import Derived.IntWalk
import Derived.Deep.MidRow
import Derived.Great.BuildSlice
import Derived.Test.YtcbeadldieeceaaRows
import Derived.ProofKit
import Derived.OpenShut
import Derived.ShutString
import Derived.ChangeOld
import Derived.Carry
import Derived.SizedLaws
import Derived.JoinedCond
import Derived.Deep.CondSized
import Derived.Deep.Slices
import Derived.Deep.Fields
import Derived.Lib.SmallJoins
namespace Go.Proofs.Ytcbeadldieeceaa
open Go.RowKit

theorem block_of_add (a : Addr) (n : Nat) : (a.add n).block = a.block := by unfold Addr.add; split <;> rfl
theorem add_of_add (a : Addr) (i j : Nat) : (a.add i).add j = a.add (i + j) := by
  unfold Addr.add
  by_cases hi : i = 0 <;> by_cases hj : j = 0 <;> simp [hi, hj, Nat.add_assoc]

def Reads (w : World) (B size : Nat) (A : Option Addr) (n : Nat) (xs : List Value) : Prop :=
  xs.length = n * size ∧ (0 < n → ∃ ad, A = some ad ∧ ad.block < B ∧ ∀ j u, xs[j]? = some u → w.cell? (ad.add j) = some u)

section
variable {w w' : World} {B B' size n : Nat} {A : Option Addr} {xs : List Value}
theorem Reads.none_ : Reads w B size A 0 [] := ⟨by simp, fun h => absurd h (by omega)⟩
theorem Reads.at_ {k : Nat} (h : Reads w B 1 A n xs) (hk : k < n) : ∃ ad u, A = some ad ∧ ad.block < B ∧ xs[k]? = some u ∧ w.cell? (ad.add k) = some u := by
  obtain ⟨ad, e, hb, hc⟩ := h.2 (by omega)
  have hl : k < xs.length := by have := h.1; omega
  exact ⟨ad, xs[k], e, hb, List.getElem?_eq_getElem hl, hc k _ (List.getElem?_eq_getElem hl)⟩
theorem Reads.keep (h : Reads w B size A n xs) (hk : ∀ p : Addr, p.block < B → w'.cell? p = w.cell? p) : Reads w' B size A n xs :=
  ⟨h.1, fun hn => by
    obtain ⟨ad, e, hb, hc⟩ := h.2 hn
    exact ⟨ad, e, hb, fun j u hu => (hk _ (by rw [block_of_add]; exact hb)).trans (hc j u hu)⟩⟩
theorem Reads.more (h : Reads w B size A n xs) (hB : B ≤ B') : Reads w B' size A n xs :=
  ⟨h.1, fun hn => by
    obtain ⟨ad, e, hb, hc⟩ := h.2 hn
    exact ⟨ad, e, by omega, hc⟩⟩
theorem Reads.below (h : Reads w B size A n xs) (hb : Below B w w') : Reads w' B size A n xs := h.keep fun _ hp => hb.cell hp
theorem Reads.drew (h : Reads w B size A n xs) : Reads w.drew B size A n xs := h
theorem Reads.drewN (h : Reads w B size A n xs) (k : Nat) : Reads (w.drewN k) B size A n xs := h
theorem Reads.alloc (h : Reads w B size A n xs) (hB : B ≤ w.heap.size) (o : Obj) : Reads (w.alloc o) B size A n xs := h.keep fun p hp => World.cell?_alloc_lt w o p (by omega)
theorem Reads.setCell (h : Reads w B size A n xs) {p : Addr} (hB : B ≤ p.block) (u : Value) : Reads (w.setCell p u) B size A n xs :=
  h.keep fun q hq => World.cell?_setCell_other w p q u (fun e => by subst e; omega)
theorem Reads.grown (h : Reads w B size A n xs) {row : Option Nat} (hg : w.grownBy w' row) (hB : B ≤ w.heap.size) (hr : ∀ g, row = some g → B ≤ g) : Reads w' B size A n xs :=
  h.keep fun p hp => World.cell?_of_block (hg.block p.block (by omega) (fun e => by have := hr _ e.symm; omega))
theorem Reads.cut (h : Reads w B size A n xs) {k cap : Nat} (hk : k ≤ n) (hc : n ≤ cap) :
    Reads w B size (if cap = k then A else A.map (·.add (k * size))) (n - k) (xs.drop (k * size)) := by
  refine ⟨by rw [List.length_drop, h.1, Nat.sub_mul], fun hn => ?_⟩
  obtain ⟨ad, rfl, hb, hcell⟩ := h.2 (by omega)
  rw [if_neg (by omega)]
  refine ⟨ad.add (k * size), rfl, by rw [block_of_add]; exact hb, fun j u hu => ?_⟩
  rw [add_of_add]
  exact hcell _ u (by rw [← hu, List.getElem?_drop])
theorem Reads.of_own {base : Nat} {e : TypeId} {c : Nat} (h : w.ownsRow base e size (.slice A n c) n xs) : Reads w w.heap.size size A n xs := by
  refine ⟨h.1, fun hn => ?_⟩
  obtain ⟨g, cap, hv, _, hlt⟩ := h.form hn
  have hA : A = some ⟨g, 0, none⟩ := by injection hv
  subst hA
  exact ⟨_, rfl, hlt, h.cells (g := g) rfl⟩
end

def Blk (w : World) (g : Nat) (t : TypeId) (cs : Array Value) : Prop := w.heap[g]? = some (.cells cs t (0, 0))

section
variable {w w' : World} {g : Nat} {t : TypeId} {cs : Array Value}
theorem Blk.lt (h : Blk w g t cs) : g < w.heap.size := by
  rcases Nat.lt_or_ge g w.heap.size with hlt | hge
  · exact hlt
  · unfold Blk at h; rw [Array.getElem?_eq_none hge] at h; cases h
theorem Blk.cell (h : Blk w g t cs) (i : Nat) : w.cell? ⟨g, i, none⟩ = cs[i]? := cell_of_row w g i cs t (0, 0) h
theorem Blk.frozen (h : Blk w g t cs) (i : Nat) : w.frozen? ⟨g, i, none⟩ = false := by
  unfold Blk at h
  simp [World.frozen?, h]
theorem Blk.new (w : World) (t : TypeId) (cs : Array Value) : Blk (w.alloc (.cells cs t)) w.heap.size t cs := heap_alloc_new w _
theorem Blk.drew (h : Blk w g t cs) : Blk w.drew g t cs := h
theorem Blk.drewN (h : Blk w g t cs) (n : Nat) : Blk (w.drewN n) g t cs := h
theorem Blk.alloc (h : Blk w g t cs) (o : Obj) : Blk (w.alloc o) g t cs := (Below.heap_alloc w o g h.lt).trans h
theorem Blk.set_ (h : Blk w g t cs) (i : Nat) (u : Value) : Blk (w.setCell ⟨g, i, none⟩ u) g t (cs.setIfInBounds i u) := by
  unfold Blk at h ⊢
  simp [World.setCell, Array.getElem?_modify, h]
theorem Blk.far (h : Blk w g t cs) {p : Addr} (hp : g ≠ p.block) (u : Value) : Blk (w.setCell p u) g t cs := (Below.heap_setCell w p u g hp).trans h
theorem Blk.below {B : Nat} (h : Blk w g t cs) (hb : Below B w w') (hg : g < B) : Blk w' g t cs := (hb.block g hg).trans h
theorem Blk.grown {row : Option Nat} (h : Blk w g t cs) (hb : w.grownBy w' row) (hg : some g ≠ row) : Blk w' g t cs := (hb.block g h.lt hg).trans h
theorem Blk.ne_ {g' : Nat} {t' : TypeId} {cs' : Array Value} (h : Blk w g t cs) (h' : Blk w g' t' cs') (hne : t ≠ t') : g ≠ g' := by
  rintro rfl
  unfold Blk at h h'
  rw [h] at h'
  injection h' with h'
  injection h' with _ ht
  exact hne ht
theorem own_blk_ne {base : Nat} {e : TypeId} {size n : Nat} {v : Value} {xs : List Value} (h : w.ownsRow base e size v n xs) (hg : Blk w g t cs) (hne : e ≠ t) : v.ownBlock ≠ some g := by
  rcases h.2 with ⟨rfl, _⟩ | ⟨g', cap, cur, rfl, _, hh, _⟩
  · simp [Value.ownBlock]
  · intro he
    have : g' = g := by simpa [Value.ownBlock] using he
    subst this
    exact Blk.ne_ (t := e) hh hg hne rfl
end

section
variable {P : Program} (w : World)

theorem run_append_of_nil (base : Nat) (t ty e : TypeId) (i : TypeInfo) (size : Nat) (ht : P.underlying t = some (.slice e)) (hi : P.info? e = some i)
    (v : Value) (n : Nat) (xs : List Value) (hown : w.ownsRow base e size v n xs) (c : Nat) : (Builtin.append_ #[t, t] ty #[v, .slice none 0 c]).run P w = .ok v w := by
  rcases hown.2 with ⟨rfl, rfl⟩ | ⟨g, cap, cur, rfl, _, _, hnc, _⟩
  · simp [Builtin.append_, run_underlying ht, sizeOf, typeInfo, hi, Builtin.lenOf, Builtin.firstCells]
  · simp [Builtin.append_, run_underlying ht, sizeOf, typeInfo, hi, Builtin.lenOf, Builtin.firstCells, hnc, storeCells]

theorem run_append_any (base : Nat) (t ty e : TypeId) (i : TypeInfo) (z : Value) (size bytes : Nat) (ht : P.underlying t = some (.slice e)) (hi : P.info? e = some i) (hz : i.zero = some z)
    (hsize : i.size = size) (hby : i.bytes = bytes) (hzs : z.cells.size = size) (hsz : 0 < size)
    (v : Value) (n : Nat) (xs : List Value) (hown : w.ownsRow base e size v n xs)
    (B : Nat) (A : Option Addr) (m c : Nat) (news : List Value) (hr : Reads w B size A m news) (h1 : ∀ u ∈ news, u.oneCell' = true)
    (h63 : n + m ≤ maxLen) (hbytes : (n + m) * bytes ≤ 140737488355328) (hbase : base ≤ w.heap.size) :
    ∃ v' w', (Builtin.append_ #[t, t] ty #[v, .slice A m c]).run P w = .ok v' w' ∧ w'.ownsRow base e size v' (n + m) (xs ++ news) ∧ w.grownBy w' v.ownBlock ∧
      (v'.ownBlock = v.ownBlock ∨ v'.ownBlock = some w.heap.size) := by
  rcases A with _ | ad
  · have hm : m = 0 := by
      rcases Nat.eq_zero_or_pos m with h0 | h0
      · exact h0
      · obtain ⟨ad, h, _⟩ := hr.2 h0
        cases h
    subst hm
    have hn : news = [] := List.eq_nil_of_length_eq_zero (by simpa using hr.1)
    subst hn
    exact ⟨v, w, run_append_of_nil w base t ty e i size ht hi v n xs hown c, by simpa using hown, World.grownBy.refl w _, .inl rfl⟩
  · have hcells : ∀ j u, news[j]? = some u → w.cell? (ad.add j) = some u := by
      intro j u hu
      rcases Nat.eq_zero_or_pos m with h0 | h0
      · subst h0
        have hn : news = [] := List.eq_nil_of_length_eq_zero (by simpa using hr.1)
        subst hn
        simp at hu
      · obtain ⟨ad', h, _, hc⟩ := hr.2 h0
        injection h with h
        subst h
        exact hc j u hu
    obtain ⟨v', w', hrun, h2, h3, _, h5⟩ := run_append_own_at (P := P) w base t ty e i z size bytes ht hi hz hsize hby hzs hsz v n xs hown ad m c news hr.1 hcells h1 h63 hbytes hbase
    exact ⟨v', w', hrun, h2, h3, h5⟩

theorem wp_append_any {o : Oper} {a : Act} {K : Act → World → Prop} {Q : Exit → Act → World → Prop} (s x : Operand) (t : TypeId)
    (ho : o.op = .call { callee := .builtin .append, args := #[s, x], argTypes := #[t, t] })
    (base : Nat) (e : TypeId) (i : TypeInfo) (z : Value) (size bytes : Nat) (ht : P.underlying t = some (.slice e)) (hi : P.info? e = some i) (hz : i.zero = some z)
    (hsize : i.size = size) (hby : i.bytes = bytes) (hzs : z.cells.size = size) (hsz : 0 < size)
    (v : Value) (n : Nat) (xs : List Value) (hs : a.eval s = v) (hown : w.ownsRow base e size v n xs)
    (B : Nat) (A : Option Addr) (m c : Nat) (news : List Value) (hx : a.eval x = .slice A m c) (hr : Reads w B size A m news) (h1 : ∀ u ∈ news, u.oneCell' = true)
    (h63 : n + m ≤ maxLen) (hbytes : (n + m) * bytes ≤ 140737488355328) (hbase : base ≤ w.heap.size)
    (h : ∀ v' w', w'.ownsRow base e size v' (n + m) (xs ++ news) → w.grownBy w' v.ownBlock → (v'.ownBlock = v.ownBlock ∨ v'.ownBlock = some w.heap.size) → K (a.put o.dst v') w') : o.wp P a w K Q := by
  obtain ⟨v', w', hrun, h2, h3, h4⟩ := run_append_any (P := P) w base t o.type e i z size bytes ht hi hz hsize hby hzs hsz v n xs hown B A m c news hr h1 h63 hbytes hbase
  unfold Oper.wp execOp
  simp only [ho, resolve, invoke, builtin, Sem.run_bind, Sem.run_pure, Result.andThen_ok, List.map_toArray, List.map_cons, List.map_nil, hs, hx, hrun]
  exact h v' w' h2 h3 h4

theorem wpList_append_any {ops : Array Oper} {rest : List Oper} {o : Oper} {a : Act} {Q : Exit → Act → World → Prop} (hgd : o.guard = none) (s x : Operand) (t : TypeId)
    (ho : o.op = .call { callee := .builtin .append, args := #[s, x], argTypes := #[t, t] })
    (base : Nat) (e : TypeId) (i : TypeInfo) (z : Value) (size bytes : Nat) (ht : P.underlying t = some (.slice e)) (hi : P.info? e = some i) (hz : i.zero = some z)
    (hsize : i.size = size) (hby : i.bytes = bytes) (hzs : z.cells.size = size) (hsz : 0 < size)
    (v : Value) (n : Nat) (xs : List Value) (hs : a.eval s = v) (hown : w.ownsRow base e size v n xs)
    (B : Nat) (A : Option Addr) (m c : Nat) (news : List Value) (hx : a.eval x = .slice A m c) (hr : Reads w B size A m news) (h1 : ∀ u ∈ news, u.oneCell' = true)
    (h63 : n + m ≤ maxLen) (hbytes : (n + m) * bytes ≤ 140737488355328) (hbase : base ≤ w.heap.size)
    (h : ∀ v' w', w'.ownsRow base e size v' (n + m) (xs ++ news) → w.grownBy w' v.ownBlock → (v'.ownBlock = v.ownBlock ∨ v'.ownBlock = some w.heap.size) → wpList P ops Q rest (a.put o.dst v') w') : wpList P ops Q (o :: rest) a w :=
  wpList_plain hgd fun _ hK => wp_append_any w s x t ho base e i z size bytes ht hi hz hsize hby hzs hsz v n xs hs hown B A m c news hx hr h1 h63 hbytes hbase fun v' w' h2 h3 h4 => hK _ _ (h v' w' h2 h3 h4)

theorem step_append_any {ops : Array Oper} {o : Oper} {a : Act} {K : Act → World → Prop} {Q : Exit → Act → World → Prop} {E : Prop} (hgd : o.guard = none) (s x : Operand) (t : TypeId)
    (ho : o.op = .call { callee := .builtin .append, args := #[s, x], argTypes := #[t, t] })
    (base : Nat) (e : TypeId) (i : TypeInfo) (z : Value) (size bytes : Nat) (ht : P.underlying t = some (.slice e)) (hi : P.info? e = some i) (hz : i.zero = some z)
    (hsize : i.size = size) (hby : i.bytes = bytes) (hzs : z.cells.size = size) (hsz : 0 < size)
    (v : Value) (n : Nat) (xs : List Value) (hs : a.eval s = v) (hown : w.ownsRow base e size v n xs)
    (B : Nat) (A : Option Addr) (m c : Nat) (news : List Value) (hx : a.eval x = .slice A m c) (hr : Reads w B size A m news) (h1 : ∀ u ∈ news, u.oneCell' = true)
    (h63 : n + m ≤ maxLen) (hbytes : (n + m) * bytes ≤ 140737488355328) (hbase : base ≤ w.heap.size)
    (h : ∀ v' w', w'.ownsRow base e size v' (n + m) (xs ++ news) → w.grownBy w' v.ownBlock → (v'.ownBlock = v.ownBlock ∨ v'.ownBlock = some w.heap.size) → K (a.put o.dst v') w') :
    if Region.wanted o (yielded ops a.tmps) = true then Oper.wp P o a w K Q else E := by
  have hw : Region.wanted o (yielded ops a.tmps) = true := by simp [Region.wanted, hgd]
  rw [if_pos hw]
  exact wp_append_any w s x t ho base e i z size bytes ht hi hz hsize hby hzs hsz v n xs hs hown B A m c news hx hr h1 h63 hbytes hbase h
end


/-! ### My own words -/
section
variable {w w' : World} {base : Nat} {e : TypeId} {size n : Nat} {v : Value} {xs : List Value}
theorem own_below (h : w.ownsRow base e size v n xs) (hb : Below w.heap.size w w') : w'.ownsRow base e size v n xs :=
  h.kept (row := Option.none) ⟨hb.os, hb.tape, hb.output, hb.size, fun k hk _ => hb.block k hk⟩ (by cases v.ownBlock <;> simp)
theorem own_drew (h : w.ownsRow base e size v n xs) : w.drew.ownsRow base e size v n xs := h
theorem own_drewN (h : w.ownsRow base e size v n xs) (k : Nat) : (w.drewN k).ownsRow base e size v n xs := h
theorem own_mono {base' : Nat} (h : w.ownsRow base e size v n xs) (hb : base' ≤ base) : w.ownsRow base' e size v n xs := by
  refine ⟨h.1, ?_⟩
  rcases h.2 with h2 | ⟨g, cap, cur, hv, hg, r⟩
  · exact .inl h2
  · exact .inr ⟨g, cap, cur, hv, by omega, r⟩
theorem below_drewN {B : Nat} {a w : World} (h : Below B a w) (n : Nat) : Below B a (w.drewN n) := ⟨h.os, h.tape, h.output, h.size, h.block⟩
theorem grown_none_below {w w' : World} (h : w.grownBy w' Option.none) : Below w.heap.size w w' := (Below.refl _ _).grown h (Nat.le_refl _) (fun j hj => by cases hj)
end

theorem own_form {w : World} {base : Nat} {e : TypeId} {size n : Nat} {v : Value} {xs : List Value} (h : w.ownsRow base e size v n xs) : ∃ A c, v = .slice A n c ∧ n ≤ c ∧ c ≤ maxLen ∧ Reads w w.heap.size size A n xs := by
  have h0 := h
  rcases h.2 with ⟨rfl, rfl⟩ | ⟨g, cap, cur, rfl, hb, hg, hn, hc, _⟩
  · exact ⟨none, 0, rfl, Nat.le_refl _, by simp [maxLen], Reads.of_own h0⟩
  · exact ⟨_, cap, rfl, hn, hc, Reads.of_own h0⟩

theorem blk4 {w : World} {g : Nat} {t : TypeId} {a b c d : Value} (h : Blk w g t #[a, b, c, d]) :
    w.cell? ⟨g, 0, none⟩ = some a ∧ w.cell? ⟨g, 1, none⟩ = some b ∧ w.cell? ⟨g, 2, none⟩ = some c ∧ w.cell? ⟨g, 3, none⟩ = some d ∧
    w.frozen? ⟨g, 0, none⟩ = false ∧ w.frozen? ⟨g, 1, none⟩ = false ∧ w.frozen? ⟨g, 2, none⟩ = false ∧ w.frozen? ⟨g, 3, none⟩ = false :=
  ⟨by simpa using h.cell 0, by simpa using h.cell 1, by simpa using h.cell 2, by simpa using h.cell 3, h.frozen 0, h.frozen 1, h.frozen 2, h.frozen 3⟩
theorem blk3 {w : World} {g : Nat} {t : TypeId} {a b c : Value} (h : Blk w g t #[a, b, c]) :
    w.cell? ⟨g, 0, none⟩ = some a ∧ w.cell? ⟨g, 1, none⟩ = some b ∧ w.cell? ⟨g, 2, none⟩ = some c ∧
    w.frozen? ⟨g, 0, none⟩ = false ∧ w.frozen? ⟨g, 1, none⟩ = false ∧ w.frozen? ⟨g, 2, none⟩ = false :=
  ⟨by simpa using h.cell 0, by simpa using h.cell 1, by simpa using h.cell 2, h.frozen 0, h.frozen 1, h.frozen 2⟩
theorem blk2 {w : World} {g : Nat} {t : TypeId} {a b : Value} (h : Blk w g t #[a, b]) :
    w.cell? ⟨g, 0, none⟩ = some a ∧ w.cell? ⟨g, 1, none⟩ = some b ∧ w.frozen? ⟨g, 0, none⟩ = false ∧ w.frozen? ⟨g, 1, none⟩ = false :=
  ⟨by simpa using h.cell 0, by simpa using h.cell 1, h.frozen 0, h.frozen 1⟩
theorem blk1 {w : World} {g : Nat} {t : TypeId} {a : Value} (h : Blk w g t #[a]) : w.cell? ⟨g, 0, none⟩ = some a ∧ w.frozen? ⟨g, 0, none⟩ = false :=
  ⟨by simpa using h.cell 0, h.frozen 0⟩
theorem own_setCell_below {w : World} {base : Nat} {e : TypeId} {size n : Nat} {v : Value} {xs : List Value} (h : w.ownsRow base e size v n xs) {p : Addr} (hp : p.block < base) (u : Value) : (w.setCell p u).ownsRow base e size v n xs := ownsRow_setCell_below h hp u

theorem addr_add0 (g j : Nat) : (⟨g, 0, none⟩ : Addr).add j = ⟨g, j, none⟩ := by unfold Addr.add; split <;> simp_all
theorem Reads.of_blk {w : World} {g n size : Nat} {t : TypeId} {cs : Array Value} (h : Blk w g t cs) (xs : List Value) (hl : xs.length = n * size) (hp : ∀ (j : Nat) (u : Value), xs[j]? = some u → cs[j]? = some u) : Reads w (g + 1) size (some ⟨g, 0, none⟩) n xs :=
  ⟨hl, fun _ => ⟨_, rfl, Nat.lt_succ_self _, fun j u hu => by rw [addr_add0, h.cell j]; exact hp j u hu⟩⟩
/-- a literal of this very call -/
theorem Reads.lit (w : World) (cs : Array Value) (t : TypeId) {n size : Nat} (hl : cs.size = n * size) : Reads (w.alloc (.cells cs t)) (w.heap.size + 1) size (some ⟨w.heap.size, 0, none⟩) n cs.toList :=
  Reads.of_blk (Blk.new w t cs) _ (by simpa using hl) (fun j u hu => by simpa using hu)

theorem Reads.pre {w : World} {B size n : Nat} {A : Option Addr} {xs : List Value} (h : Reads w B size A n xs) {k : Nat} (hk : k ≤ n) : Reads w B size A k (xs.take (k * size)) := by
  refine ⟨by rw [List.length_take, h.1]; exact Nat.min_eq_left (Nat.mul_le_mul_right _ hk), fun h0 => ?_⟩
  obtain ⟨ad, rfl, hb, hc⟩ := h.2 (by omega)
  refine ⟨ad, rfl, hb, fun j u hu => hc j u ?_⟩
  rw [List.getElem?_take] at hu
  split at hu
  · exact hu
  · cases hu

/-! ### For a region that is held: S says cells, and last 'Below w0.heap.size w0 w'' -/
theorem held1 {a : Prop} {B : Nat} {w W : World} (h : a ∧ Below B w W) : Below B w W := h.2
theorem held2 {a b : Prop} {B : Nat} {w W : World} (h : a ∧ b ∧ Below B w W) : Below B w W := h.2.2
theorem held3 {a b c : Prop} {B : Nat} {w W : World} (h : a ∧ b ∧ c ∧ Below B w W) : Below B w W := h.2.2.2
theorem held4 {a b c d : Prop} {B : Nat} {w W : World} (h : a ∧ b ∧ c ∧ d ∧ Below B w W) : Below B w W := h.2.2.2.2
theorem below_size {w W : World} {B : Nat} (h : Below w.heap.size w W) (hB : B ≤ w.heap.size) : B ≤ W.heap.size := Nat.le_trans hB h.size
theorem below_step {w W W' : World} (h : Below w.heap.size w W) (hb : Below W.heap.size W W') : Below w.heap.size w W' := h.trans (hb.mono h.size)

theorem own_reads {w : World} {base : Nat} {e : TypeId} {size n c : Nat} {A : Option Addr} {xs : List Value} (h : w.ownsRow base e size (.slice A n c) n xs) : n ≤ c ∧ c ≤ maxLen ∧ Reads w w.heap.size size A n xs := by
  obtain ⟨A', c', hv, h1, h2, h3⟩ := own_form h
  injection hv with e1 _ e2
  subst e1 e2
  exact ⟨h1, h2, h3⟩

/-- bytes as cells -/
def bts (b : List UInt8) : List Value := b.map fun c => .int .u8 (c.toNat : Int)
theorem bts_length (b : List UInt8) : (bts b).length = b.length := by simp [bts]
theorem bts_get (b : List UInt8) (i : Nat) : (bts b)[i]? = b[i]?.map fun c => Value.int .u8 (c.toNat : Int) := by simp [bts]
theorem bts_one (b : List UInt8) : ∀ u ∈ bts b, u.oneCell' = true := by
  intro u hu
  simp only [bts, List.mem_map] at hu
  obtain ⟨c, _, rfl⟩ := hu
  rfl
theorem bts_append (a b : List UInt8) : bts (a ++ b) = bts a ++ bts b := by simp [bts]
theorem bts_take (a : List UInt8) (k : Nat) : bts (a.take k) = (bts a).take k := by simp [bts]
theorem bts_drop (a : List UInt8) (k : Nat) : bts (a.drop k) = (bts a).drop k := by simp [bts]
theorem Reads.bpre {w : World} {B : Nat} {A : Option Addr} {b : List UInt8} (h : Reads w B 1 A b.length (bts b)) {k : Nat} (hk : k ≤ b.length) : Reads w B 1 A k (bts (b.take k)) := by
  have := h.pre hk
  rwa [Nat.mul_one, ← bts_take] at this
theorem add_zero (a : Addr) : a.add 0 = a := by simp [Addr.add]

/-- 'append(out, x)': what is appended has just been laid in a block of its own -/
theorem wpList_push {P : Program} (w : World) {ops : Array Oper} {rest : List Oper} {o : Oper} {a : Act} {Q : Exit → Act → World → Prop} (hgd : o.guard = none) (s x : Operand) (t : TypeId)
    (ho : o.op = .call { callee := .builtin .append, args := #[s, x], argTypes := #[t, t] })
    (base : Nat) (e : TypeId) (i : TypeInfo) (z : Value) (size bytes : Nat) (ht : P.underlying t = some (.slice e)) (hi : P.info? e = some i) (hz : i.zero = some z)
    (hsize : i.size = size) (hby : i.bytes = bytes) (hzs : z.cells.size = size) (hsz : 0 < size)
    (v : Value) (n : Nat) (xs : List Value) (hs : a.eval s = v) (hown : w.ownsRow base e size v n xs)
    (m : Nat) (news : Array Value) (e' : TypeId) (hx : a.eval x = .slice (some ⟨w.heap.size, 0, none⟩) m m) (hl : news.size = m * size) (h1 : ∀ u ∈ news.toList, u.oneCell' = true)
    (h63 : n + m ≤ maxLen) (hbytes : (n + m) * bytes ≤ 140737488355328) (hbase : base ≤ w.heap.size)
    (h : ∀ v' w', w'.ownsRow base e size v' (n + m) (xs ++ news.toList) → Below base w w' → w.grownBy w' v.ownBlock → wpList P ops Q rest (a.put o.dst v') w') : wpList P ops Q (o :: rest) a (w.alloc (.cells news e')) := by
  refine wpList_append_own _ hgd s x t ho base e i z size bytes ht hi hz hsize hby hzs hsz v n xs hs (hown.alloc _) ⟨w.heap.size, 0, none⟩ m m news.toList hx (by simpa using hl) ?_ h1 h63 hbytes (by simp; omega) ?_
  · intro j u hu
    have hadd : (⟨w.heap.size, 0, none⟩ : Addr).add j = ⟨w.heap.size, j, none⟩ := by unfold Addr.add; split <;> simp_all
    rw [hadd, cell_of_row _ _ j news e' (0, 0) (heap_alloc_new w _)]
    simpa using hu
  · intro v' w' hown' hg _
    have hg2 : w.grownBy w' v.ownBlock := ⟨hg.os, hg.tape, hg.output, Nat.le_trans (by simp) hg.size, fun k hk hne => (hg.block k (by simp; omega) hne).trans (Below.heap_alloc w _ k hk)⟩
    exact h v' w' hown' ((Below.refl _ _).grown hg2 hbase (fun k hk => (hown.lt k hk).1)) hg2

end Go.Proofs.Ytcbeadldieeceaa

/-
  A wide struct: loaded, and stored into a block that has just been made, all its cells at once.
-/
namespace Go.Proofs.Ytcbeadldieeceaa
open Go.RowKit

theorem run_loadVar_at {P : Program} (w : World) (a : Addr) (ty : TypeId) (cs : List Value) (d : TypeDesc) (hc : ∀ (j : Nat) (v : Value), cs[j]? = some v → w.cell? (a.add j) = some v)
    (hu : P.underlying ty = some d) (hd : d.isRow = true) (hi : (P.info? ty).map (·.size) = some cs.length) : (loadVar ty a).run P w = .ok (.agg cs.toArray) w := by
  have hl : (loadCells a cs.length).run P w = .ok cs.toArray w := run_loadCells_list (P := P) w a cs hc
  cases hq : P.info? ty with
  | none => simp [hq] at hi
  | some i =>
    have hs : i.size = cs.length := by simpa [hq] using hi
    have hagg : (isAgg ty).run P w = .ok true w := by
      unfold isAgg
      rw [Sem.run_bind, run_underlying hu w]
      cases d <;> simp_all
    simp [loadVar, Sem.run_bind, hagg, sizeOf, typeInfo, hq, hs, hl]
theorem wpList_load_at {P : Program} {ops : Array Oper} {rest : List Oper} {op : Oper} {a : Act} {w : World} {Q : Exit → Act → World → Prop} (hgd : op.guard = none) (ty : TypeId) (x : Operand) (ho : op.op = .load ty x)
    (ad : Addr) (hx : a.eval x = .pointer (some ad)) (cs : List Value) (d : TypeDesc) (hc : ∀ (j : Nat) (v : Value), cs[j]? = some v → w.cell? (ad.add j) = some v)
    (hu : P.underlying ty = some d) (hd : d.isRow = true) (hi : (P.info? ty).map (·.size) = some cs.length)
    (h : wpList P ops Q rest (a.put op.dst (.agg cs.toArray)) w) : wpList P ops Q (op :: rest) a w := by
  refine wpList_plain hgd fun K hK => ?_
  unfold Oper.wp execOp
  simp only [ho, hx, Instr.loadAt, Instr.sureAddr, Sem.run_bind, Sem.run_pure, Result.andThen_ok, run_loadVar_at w ad ty cs d hc hu hd hi]
  exact hK _ _ h
theorem setCell_new (w : World) (l : List Value) (t : TypeId) (i : Nat) (v : Value) : (w.alloc (.cells l.toArray t)).setCell ⟨w.heap.size, i, none⟩ v = w.alloc (.cells (l.set i v).toArray t) := by
  unfold World.setCell World.alloc
  simp only
  congr 1
  apply Array.ext
  · simp
  · intro j h1 h2
    simp only [Array.getElem_modify, Array.getElem_push]
    by_cases hj : j < w.heap.size
    · have hne : ¬ w.heap.size = j := by omega
      simp [hj, hne]
    · have hje : w.heap.size = j := by simp at h1; omega
      simp [hje]
theorem setCells_new (w : World) (t : TypeId) (cs : List Value) : ∀ (pre post : List Value), post.length = cs.length → (w.alloc (.cells (pre ++ post).toArray t)).setCells w.heap.size pre.length cs = w.alloc (.cells (pre ++ cs).toArray t) := by
  induction cs with
  | nil =>
    intro pre post h
    rw [List.eq_nil_of_length_eq_zero h]
    rfl
  | cons v cs ih =>
    intro pre post h
    cases post with
    | nil => simp at h
    | cons p post =>
      show ((w.alloc _).setCell ⟨w.heap.size, pre.length, none⟩ v).setCells w.heap.size (pre.length + 1) cs = _
      rw [setCell_new, show (pre ++ p :: post).set pre.length v = (pre ++ [v]) ++ post by simp [List.set_append_right]]
      have := ih (pre ++ [v]) post (by simpa using h)
      rw [List.length_append] at this
      rw [show pre.length + 1 = pre.length + [v].length from rfl, this]
      simp
theorem wpList_store_new {P : Program} {ops : Array Oper} {rest : List Oper} {op : Oper} {a : Act} {Q : Exit → Act → World → Prop} (w : World) (hgd : op.guard = none) (ty : TypeId) (x y : Operand) (ho : op.op = .store ty x y) (t : TypeId) (zs cs : List Value)
    (hx : a.eval x = .pointer (some ⟨w.heap.size, 0, none⟩)) (hy : a.eval y = .agg cs.toArray) (hl : zs.length = cs.length) (hi : (P.info? ty).map (·.size) = some cs.length) (h1 : ∀ v ∈ cs, v.oneCell' = true)
    (h : wpList P ops Q rest (a.put op.dst undef) (w.alloc (.cells cs.toArray t))) : wpList P ops Q (op :: rest) a (w.alloc (.cells zs.toArray t)) := by
  refine wpList_store_mid hgd ty x y ho w.heap.size 0 cs.toArray hx hy ?_ (by simpa using hi) (all_oneCell_toArray h1) ?_
  · intro j hj
    have hj2 : j < zs.toArray.size := by simp at hj ⊢; omega
    have hb := Blk.new w t zs.toArray
    rw [Nat.zero_add]
    exact ⟨by rw [hb.cell j]; simp [hl]; simpa using hj, hb.frozen j⟩
  · have := setCells_new w t cs [] zs hl
    simp only [List.nil_append, List.length_nil] at this
    rw [show cs.toArray.toList = cs from rfl, this]
    exact h
end Go.Proofs.Ytcbeadldieeceaa

/-
  Lists of elements of several cells each, in memory: the cells of one element; where a sorted list is parted.
-/
namespace Go.Proofs.Ytcbeadldieeceaa
open Go.RowKit

section
variable {α : Type}
def cellsK (enc : α → List Value) (l : List α) : List Value := l.flatMap enc
theorem cellsK_nil (enc : α → List Value) : cellsK enc [] = [] := rfl
theorem cellsK_append (enc : α → List Value) (a b : List α) : cellsK enc (a ++ b) = cellsK enc a ++ cellsK enc b := by simp [cellsK]
theorem cellsK_one (enc : α → List Value) (x : α) : cellsK enc [x] = enc x := by simp [cellsK]
theorem cellsK_length {enc : α → List Value} {k : Nat} (hk : ∀ x, (enc x).length = k) (l : List α) : (cellsK enc l).length = l.length * k := by
  induction l with
  | nil => simp [cellsK]
  | cons x l ih =>
    simp only [cellsK, List.flatMap_cons, List.length_append, List.length_cons] at ih ⊢
    rw [ih, hk, Nat.add_mul, Nat.one_mul, Nat.add_comm]
theorem cellsK_get {enc : α → List Value} {k : Nat} (hk : ∀ x, (enc x).length = k) (l : List α) (i : Nat) (h : i < l.length) (j : Nat) (hj : j < k) : (cellsK enc l)[i * k + j]? = (enc l[i])[j]? := by
  induction l generalizing i with
  | nil => simp at h
  | cons x l ih =>
    have e : cellsK enc (x :: l) = enc x ++ cellsK enc l := rfl
    rw [e]
    cases i with
    | zero => rw [Nat.zero_mul, Nat.zero_add, List.getElem?_append_left (by rw [hk]; exact hj)]; rfl
    | succ i =>
      rw [List.getElem?_append_right (by rw [hk, Nat.add_mul]; omega), hk, show (i + 1) * k + j - k = i * k + j by rw [Nat.add_mul]; omega]
      exact ih i (by simpa using h)
theorem cellsK_take {enc : α → List Value} {k : Nat} (hk : ∀ x, (enc x).length = k) (l : List α) (i : Nat) : cellsK enc (l.take i) = (cellsK enc l).take (i * k) := by
  induction l generalizing i with
  | nil => simp [cellsK]
  | cons x l ih =>
    cases i with
    | zero => simp [cellsK]
    | succ i =>
      have e : cellsK enc (x :: l) = enc x ++ cellsK enc l := rfl
      have e2 : cellsK enc ((x :: l).take (i + 1)) = enc x ++ cellsK enc (l.take i) := rfl
      rw [e, e2, ih, List.take_append, hk, List.take_of_length_le (l := enc x) (by rw [hk, Nat.add_mul]; omega), show (i + 1) * k - k = i * k by rw [Nat.add_mul]; omega]
theorem cellsK_drop {enc : α → List Value} {k : Nat} (hk : ∀ x, (enc x).length = k) (l : List α) (i : Nat) : cellsK enc (l.drop i) = (cellsK enc l).drop (i * k) := by
  induction l generalizing i with
  | nil => simp [cellsK]
  | cons x l ih =>
    cases i with
    | zero => simp
    | succ i =>
      have e : cellsK enc (x :: l) = enc x ++ cellsK enc l := rfl
      rw [e, List.drop_succ_cons, ih, List.drop_append, hk, @List.drop_eq_nil_of_le _ (enc x) _ (by rw [hk, Nat.add_mul]; omega), List.nil_append, show (i + 1) * k - k = i * k by rw [Nat.add_mul]; omega]
theorem Reads.elK {enc : α → List Value} {k : Nat} (hk : ∀ x, (enc x).length = k) {w : World} {B n : Nat} {A : Option Addr} {l : List α} (h : Reads w B k A n (cellsK enc l)) (hn : n = l.length) {i : Nat} (hi : i < n) :
    ∃ ad, A = some ad ∧ ad.block < B ∧ ∀ j, j < k → w.cell? ((ad.add (i * k)).add j) = (enc (l[i]'(by omega)))[j]? := by
  obtain ⟨ad, e, hb, hc⟩ := h.2 (by omega)
  refine ⟨ad, e, hb, fun j hj => ?_⟩
  have hl : j < (enc (l[i]'(by omega))).length := by rw [hk]; exact hj
  rw [List.getElem?_eq_getElem hl, add_of_add]
  exact hc _ _ ((cellsK_get hk l i (by omega) j hj).trans (List.getElem?_eq_getElem hl))
theorem addr_add_succ (a : Addr) (j : Nat) : a.add (j + 1) = ⟨a.block, a.off + (j + 1), none⟩ := by simp [Addr.add]
theorem Reads.el2 {f0 f1 : α → Value} {w : World} {B n : Nat} {A : Option Addr} {l : List α} (h : Reads w B 2 A n (cellsK (fun x => [f0 x, f1 x]) l)) (hn : n = l.length) {i : Nat} (hi : i < n) :
    ∃ ad, A = some ad ∧ ad.block < B ∧ w.cell? (ad.add (i * 2)) = some (f0 (l[i]'(by omega))) ∧ w.cell? ⟨(ad.add (i * 2)).block, (ad.add (i * 2)).off + 1, none⟩ = some (f1 (l[i]'(by omega))) := by
  obtain ⟨ad, e, hb, hc⟩ := Reads.elK (k := 2) (fun _ => rfl) h hn hi
  refine ⟨ad, e, hb, ?_, ?_⟩
  · have := hc 0 (by omega); rwa [add_zero] at this
  · have := hc 1 (by omega); rwa [addr_add_succ] at this
theorem Reads.el3 {f0 f1 f2 : α → Value} {w : World} {B n : Nat} {A : Option Addr} {l : List α} (h : Reads w B 3 A n (cellsK (fun x => [f0 x, f1 x, f2 x]) l)) (hn : n = l.length) {i : Nat} (hi : i < n) :
    ∃ ad, A = some ad ∧ ad.block < B ∧ w.cell? (ad.add (i * 3)) = some (f0 (l[i]'(by omega))) ∧ w.cell? ⟨(ad.add (i * 3)).block, (ad.add (i * 3)).off + 1, none⟩ = some (f1 (l[i]'(by omega))) ∧ w.cell? ⟨(ad.add (i * 3)).block, (ad.add (i * 3)).off + 2, none⟩ = some (f2 (l[i]'(by omega))) := by
  obtain ⟨ad, e, hb, hc⟩ := Reads.elK (k := 3) (fun _ => rfl) h hn hi
  refine ⟨ad, e, hb, ?_, ?_, ?_⟩
  · have := hc 0 (by omega); rwa [add_zero] at this
  · have := hc 1 (by omega); rwa [addr_add_succ] at this
  · have := hc 2 (by omega); rwa [addr_add_succ] at this

/-! ### where a list is parted -/
def posF (cf : α → Int) (l : List α) : Nat := (l.takeWhile fun x => decide (cf x < 0)).length
def atF (cf : α → Int) (l : List α) : Bool := (l[posF cf l]?).any fun x => cf x == 0
def SignAsc (cf : α → Int) (l : List α) : Prop := ∀ (i j : Nat) x y, i < j → l[i]? = some x → l[j]? = some y → cf y < 0 → cf x < 0
theorem posF_le (cf : α → Int) (l : List α) : posF cf l ≤ l.length := by
  unfold posF
  exact (List.takeWhile_sublist _).length_le
theorem posF_eq (cf : α → Int) (l : List α) (a : Nat) (ha : a ≤ l.length) (h1 : ∀ k x, k < a → l[k]? = some x → cf x < 0) (h2 : ∀ x, l[a]? = some x → 0 ≤ cf x) : posF cf l = a := by
  unfold posF
  induction l generalizing a with
  | nil => simp at ha; simp [ha]
  | cons y r ih =>
    cases a with
    | zero =>
      have := h2 y rfl
      rw [List.takeWhile_cons_of_neg (by simp; omega)]
      rfl
    | succ a =>
      have := h1 0 y (by omega) rfl
      rw [List.takeWhile_cons_of_pos (by simpa using this), List.length_cons]
      have := ih a (by simpa using ha) (fun k x hk hx => h1 (k + 1) x (by omega) (by simpa using hx)) (fun x hx => h2 x (by simpa using hx))
      omega
theorem posF_cons (cf : α → Int) (x : α) (l : List α) : posF cf (x :: l) = if cf x < 0 then posF cf l + 1 else 0 := by
  unfold posF
  rw [List.takeWhile_cons]
  by_cases h : cf x < 0
  · rw [if_pos (by simpa using h), if_pos h]; rfl
  · rw [if_neg (by simpa using h), if_neg h]; rfl
theorem atF_cons (cf : α → Int) (x : α) (l : List α) : atF cf (x :: l) = if cf x < 0 then atF cf l else cf x == 0 := by
  unfold atF
  rw [posF_cons]
  by_cases h : cf x < 0
  · rw [if_pos h, if_pos h]; rfl
  · rw [if_neg h, if_neg h]; rfl
end
end Go.Proofs.Ytcbeadldieeceaa

/-
  A slice literal of one wide struct: all its cells at once.
-/
namespace Go.Proofs.Ytcbeadldieeceaa
open Go.RowKit

theorem fill_one (zs : Array Value) (cs : List Value) (hz : zs.size = cs.length) (hp : 0 < cs.length) : Instr.fill (fun i => some (i * cs.length, cs.length)) zs [(0, .agg cs.toArray)] = some cs.toArray := by
  have := Great.fill_whole (s := cs.length) hp [.agg cs.toArray] zs (fun v hv => by rw [List.mem_singleton.1 hv]; simp [Value.cells]) (by simp [hz])
  simpa [Value.cells] using this
theorem wpList_build_one {P : Program} {ops : Array Oper} {rest : List Oper} {op : Oper} {a : Act} {w : World} {Q : Exit → Act → World → Prop} (hgd : op.guard = none) (t e : TypeId) (x : Operand) (ho : op.op = .buildSlice t 1 #[(0, x)])
    (cs : List Value) (hx : a.eval x = .agg cs.toArray) (ie : TypeInfo) (z : Value) (hu : P.underlying t = some (.slice e)) (hie : P.info? e = some ie) (hz : ie.zero = some z) (hs : ie.size = cs.length) (hp : 0 < cs.length) (hl : cs.length ≤ 16777216)
    (h : wpList P ops Q rest (a.put op.dst (.slice (some ⟨w.heap.size, 0, none⟩) 1 1)) (w.alloc (.cells cs.toArray e))) : wpList P ops Q (op :: rest) a w := by
  refine wpList_buildSlice hgd t e 1 #[(0, x)] ho cs.toArray ie z hu hie hz (by rw [hs]; omega) (by rw [hs]; omega) ?_ h
  rw [hs]
  have : ((#[(0, x)] : Array (Nat × Operand)).map fun (i, x) => (i, a.eval x)).toList = [(0, .agg cs.toArray)] := by simp [hx]
  rw [this]
  exact fill_one _ cs (by simp) hp
/-- an element's cells, all at once -/
theorem Reads.elAll {α : Type} {enc : α → List Value} {k : Nat} (hk : ∀ x, (enc x).length = k) {w : World} {B n : Nat} {A : Option Addr} {l : List α} (h : Reads w B k A n (cellsK enc l)) (hn : n = l.length) {i : Nat} (hi : i < n) :
    ∃ ad, A = some ad ∧ ad.block < B ∧ ∀ j v, (enc (l[i]'(by omega)))[j]? = some v → w.cell? ((ad.add (i * k)).add j) = some v := by
  obtain ⟨ad, e, hb, hc⟩ := h.elK hk hn hi
  refine ⟨ad, e, hb, fun j v hv => ?_⟩
  have hj : j < k := by
    rcases Nat.lt_or_ge j k with h | h
    · exact h
    · rw [List.getElem?_eq_none (by rw [hk]; exact h)] at hv; cases hv
  rw [hc j hj, hv]
end Go.Proofs.Ytcbeadldieeceaa

/-
  The frame of every law of this seat: from a contract 'returns true, below the old heap nothing has turned' to the row's post.
-/
namespace Go.Proofs.Ytcbeadldieeceaa
open Go.ChangeShapes Go.WideShapes Go.ChangeAt Go.RowKit Go.Deep Go.Joins
open Go.ChangeMaps (open_string shut_string)

theorem Try.own : ownKnob Try.prog.godebug = none := by kernel_rfl
theorem Try.laidOut : laidOutB Try.prog = true := by kernel_rfl

section
variable {H : Type} {enc : TypeId × Value → H} {P : Program}
/-- may these types be read, one by one? -/
def readables (P : Program) (ts : List TypeId) : Bool := ts.all fun t => P.readableRec t && decide (t < P.types.size)

theorem trodAll_below (hl : laidOutB P = true) {W W' : World} (hb : Below W.heap.size W W') (ts : List TypeId) : ∀ (vs : List Value) (ds : List (DataW H)) (p : List MemPlace), readables P ts = true →
    DataW.TrodAll enc P W 0 (fun _ => true) true ts vs ds p → (∀ x ∈ p, x.block < W.heap.size) → DataW.TrodAll enc P W' 0 (fun b => decide (b < W.heap.size)) true ts vs ds p := by
  induction ts with
  | nil =>
    intro vs ds p _ h _
    match vs, ds with
    | [], [] => exact h
    | [], _ :: _ => exact h.elim
    | _ :: _, [] => exact h.elim
    | _ :: _, _ :: _ => exact h.elim
  | cons t ts ih =>
    intro vs ds p hr h hlt
    match vs, ds with
    | v :: vs, d :: ds =>
      obtain ⟨p1, q, h1, h2, rfl⟩ := h
      simp only [readables, List.all_cons, Bool.and_eq_true, decide_eq_true_eq] at hr
      exact ⟨p1, q, Below.trod hl hr.1.1 hr.1.2 h1 hb (fun x hx => hlt x (by simp [hx])), ih vs ds q hr.2 h2 (fun x hx => hlt x (by simp [hx])), rfl⟩
    | [], [] => exact h.elim
    | [], _ :: _ => exact h.elim
    | _ :: _, [] => exact h.elim

theorem trodAll_lt {W : World} (ts : List TypeId) : ∀ (vs : List Value) (ds : List (DataW H)) (p : List MemPlace),
    DataW.TrodAll enc P W 0 (fun _ => true) true ts vs ds p → ∀ x ∈ p, x.block < W.heap.size := by
  induction ts with
  | nil =>
    intro vs ds p h
    match vs, ds with
    | [], [] => subst h; simp
    | [], _ :: _ => exact h.elim
    | _ :: _, [] => exact h.elim
    | _ :: _, _ :: _ => exact h.elim
  | cons t ts ih =>
    intro vs ds p h
    match vs, ds with
    | v :: vs, d :: ds =>
      obtain ⟨p1, q, ⟨m, hm⟩, h2, rfl⟩ := h
      intro x hx
      rcases List.mem_append.1 hx with hx | hx
      · exact DataW.trod_lt m _ _ _ hm x hx
      · exact ih vs ds q h2 x hx
    | [], [] => exact h.elim
    | [], _ :: _ => exact h.elim
    | _ :: _, [] => exact h.elim

/-- what a law's walk owes -/
def LawCalls (P : Program) (f : FuncId) (args : Array Value) (W : World) : Prop := Calls P f args W fun e w' => e = .returned (.bool true) ∧ Below W.heap.size W w'

theorem law_post (hl : laidOutB P = true) {s : ChangeSpec} {f : FuncId} {fn : Func} {ps : List TypeId} {tb : TypeId} (htb : P.underlying tb = some .bool) (hps : fn.params.toList = ps) (hrt : fn.resultTypes = #[tb]) (hv : s.vars = []) (hread : readables P ps = true)
    (hspec : ∀ (vs : List Value) (ds : List (DataW H)) (W : World) p, DataW.TrodAll enc P W 0 (fun _ => true) true ps vs ds p → (s.fn H ds).results = [.lit (.bool true)] ∧ (s.fn H ds).args = ds ∧ (s.fn H ds).vars = [])
    (W : World) (args : Array Value) (ds gs : List (DataW H)) (before : List MemPlace)
    (hW : DataW.Whole enc P fn.params.toList s.vars false W args.toList ds gs before) (h : LawCalls P f args W) :
    Calls P f args W fun e W' => ∃ v, e = .returned v ∧ s.post enc P fn false true false false W args v W' := by
  refine h.mono fun e W' ⟨he, hb⟩ => ?_
  subst he
  refine ⟨_, rfl, ?_⟩
  have hW0 := hW
  obtain ⟨p, q, hA, hV, rfl, hfz, hnd⟩ := hW
  rw [hv] at hV
  obtain ⟨rfl, rfl⟩ := trodVars_none hV
  rw [hps] at hA
  have hs := hspec _ _ _ _ hA
  refine ⟨ds, [], p ++ [], [], p, [], hW0, ?_, ?_, ?_, hb.frame _, fun h => by cases h⟩
  · rw [List.append_nil, hs.1, hrt]
    exact trodAll_mk1 (shut_bool htb _)
  · rw [List.append_nil, hs.2.1, hps]
    exact trodAll_below hl hb _ _ _ _ hread hA (trodAll_lt _ _ _ _ hA)
  · rw [List.append_nil, hs.2.2, hv]
    rfl

/-- one argument as the form hands it over -/
structure ArgIn (enc : TypeId × Value → H) (P : Program) (W : World) (t : TypeId) (v : Value) (d : DataW H) : Prop where
  ok : ∃ base, Value.okWide P W .any base t v
  rd : ∃ p, DataW.Trod enc P W 0 (fun _ => true) true t v d p
  wt : ∀ n ∈ d.weights P t, n ≤ reachBytes

def ArgsIn (enc : TypeId × Value → H) (P : Program) (W : World) : List TypeId → List Value → List (DataW H) → Prop
  | [], [], [] => True
  | t :: ts, v :: vs, d :: ds => ArgIn enc P W t v d ∧ ArgsIn enc P W ts vs ds
  | _, _, _ => False

theorem argsIn {W : World} {base : Nat} (ts : List TypeId) : ∀ (vs : List Value) (ds : List (DataW H)) (p : List MemPlace), DataW.TrodAll enc P W 0 (fun _ => true) true ts vs ds p →
    (∀ (j : Nat) t v, ts[j]? = some t → vs[j]? = some v → Value.okWide P W .any base t v) → (∀ n ∈ DataW.weightsEach P ts ds, n ≤ reachBytes) → ArgsIn enc P W ts vs ds := by
  induction ts with
  | nil =>
    intro vs ds p h _ _
    match vs, ds with
    | [], [] => trivial
    | [], _ :: _ => exact h.elim
    | _ :: _, [] => exact h.elim
    | _ :: _, _ :: _ => exact h.elim
  | cons t ts ih =>
    intro vs ds p h hok hw
    match vs, ds with
    | v :: vs, d :: ds =>
      obtain ⟨p1, q, h1, h2, rfl⟩ := h
      simp only [DataW.weightsEach] at hw
      exact ⟨⟨⟨base, hok 0 t v rfl rfl⟩, ⟨p1, h1⟩, fun n hn => hw n (List.mem_append_left _ hn)⟩, ih vs ds q h2 (fun j t v hj hv => hok (j + 1) t v (by simpa using hj) (by simpa using hv)) (fun n hn => hw n (List.mem_append_right _ hn))⟩
    | [], [] => exact h.elim
    | [], _ :: _ => exact h.elim
    | _ :: _, [] => exact h.elim

/-- THE LAW's CONTRACT, as both builders ask it -/
theorem law_contract (hl : laidOutB P = true) {s : ChangeSpec} {f : FuncId} {fn : Func} {ps : List TypeId} {tb : TypeId} (htb : P.underlying tb = some .bool) (hps : fn.params.toList = ps) (hrt : fn.resultTypes = #[tb]) (hv : s.vars = []) (hread : readables P ps = true)
    (hspec : ∀ (vs : List Value) (ds : List (DataW H)) (W : World) p, DataW.TrodAll enc P W 0 (fun _ => true) true ps vs ds p → (s.fn H ds).results = [.lit (.bool true)] ∧ (s.fn H ds).args = ds ∧ (s.fn H ds).vars = [])
    (W : World) (base : Nat) (args : Array Value) (ds gs : List (DataW H)) (before : List MemPlace)
    (hval : ∀ (j : Nat) t v, fn.params[j]? = some t → args[j]? = some v → Value.okWide P W .any base t v)
    (hW : DataW.Whole enc P fn.params.toList s.vars false W args.toList ds gs before)
    (hsz : (DataW.weightsEach P (fn.params.toList ++ s.plain.varTypes P) (ds ++ gs)).all (· ≤ reachBytes) = true)
    (h : ArgsIn enc P W ps args.toList ds → gs = [] → LawCalls P f args W) :
    Calls P f args W fun e W' => ∃ v, e = .returned v ∧ s.post enc P fn false true false false W args v W' := by
  refine law_post hl htb hps hrt hv hread hspec W args ds gs before hW ?_
  obtain ⟨p, q, hA, hV, _⟩ := hW
  have hvt : s.plain.varTypes P = [] := by simp [ChangeSpec.plain, DataSpec.varTypes, hv]
  rw [hv] at hV
  obtain ⟨rfl, rfl⟩ := trodVars_none hV
  rw [hps] at hA hsz
  rw [hvt, List.append_nil, List.append_nil] at hsz
  refine h (argsIn (base := base) _ _ _ _ hA ?_ ?_) rfl
  · intro j t v hj hv
    refine hval j t v ?_ ?_
    · rw [← hps] at hj; simpa using hj
    · simpa using hv
  · intro n hn
    simpa using List.all_eq_true.1 hsz n hn

theorem argsIn_cons {W : World} {t : TypeId} {ts : List TypeId} {vs : List Value} {ds : List (DataW H)} (h : ArgsIn enc P W (t :: ts) vs ds) : ∃ v vs' d ds', vs = v :: vs' ∧ ds = d :: ds' ∧ ArgIn enc P W t v d ∧ ArgsIn enc P W ts vs' ds' := by
  match vs, ds with
  | v :: vs, d :: ds => exact ⟨v, vs, d, ds, rfl, rfl, h.1, h.2⟩
  | [], [] => exact h.elim
  | [], _ :: _ => exact h.elim
  | _ :: _, [] => exact h.elim
theorem argsIn_nil {W : World} {vs : List Value} {ds : List (DataW H)} (h : ArgsIn enc P W [] vs ds) : vs = [] ∧ ds = [] := by
  match vs, ds with
  | [], [] => exact ⟨rfl, rfl⟩
  | _ :: _, _ :: _ => exact h.elim
  | [], _ :: _ => exact h.elim
  | _ :: _, [] => exact h.elim
theorem argsIn1 {W : World} {t0 : TypeId} {args : Array Value} {ds : List (DataW H)} (h : ArgsIn enc P W [t0] args.toList ds) :
    ∃ v0 d0, args = #[v0] ∧ ds = [d0] ∧ ArgIn enc P W t0 v0 d0 := by
  obtain ⟨l⟩ := args
  obtain ⟨v0, l0, d0, e0, hl, rfl, h0, r0⟩ := argsIn_cons h
  simp only at hl
  subst hl
  obtain ⟨rfl, rfl⟩ := argsIn_nil r0
  exact ⟨v0, d0, rfl, rfl, h0⟩
theorem argsIn2 {W : World} {t0 t1 : TypeId} {args : Array Value} {ds : List (DataW H)} (h : ArgsIn enc P W [t0, t1] args.toList ds) :
    ∃ v0 v1 d0 d1, args = #[v0, v1] ∧ ds = [d0, d1] ∧ ArgIn enc P W t0 v0 d0 ∧ ArgIn enc P W t1 v1 d1 := by
  obtain ⟨l⟩ := args
  obtain ⟨v0, l0, d0, e0, hl, rfl, h0, r0⟩ := argsIn_cons h
  simp only at hl
  subst hl
  obtain ⟨v1, l1, d1, e1, rfl, rfl, h1, r1⟩ := argsIn_cons r0
  obtain ⟨rfl, rfl⟩ := argsIn_nil r1
  exact ⟨v0, v1, d0, d1, rfl, rfl, h0, h1⟩
theorem argsIn3 {W : World} {t0 t1 t2 : TypeId} {args : Array Value} {ds : List (DataW H)} (h : ArgsIn enc P W [t0, t1, t2] args.toList ds) :
    ∃ v0 v1 v2 d0 d1 d2, args = #[v0, v1, v2] ∧ ds = [d0, d1, d2] ∧ ArgIn enc P W t0 v0 d0 ∧ ArgIn enc P W t1 v1 d1 ∧ ArgIn enc P W t2 v2 d2 := by
  obtain ⟨l⟩ := args
  obtain ⟨v0, l0, d0, e0, hl, rfl, h0, r0⟩ := argsIn_cons h
  simp only at hl
  subst hl
  obtain ⟨v1, l1, d1, e1, rfl, rfl, h1, r1⟩ := argsIn_cons r0
  obtain ⟨v2, l2, d2, e2, rfl, rfl, h2, r2⟩ := argsIn_cons r1
  obtain ⟨rfl, rfl⟩ := argsIn_nil r2
  exact ⟨v0, v1, v2, d0, d1, d2, rfl, rfl, h0, h1, h2⟩
theorem argsIn4 {W : World} {t0 t1 t2 t3 : TypeId} {args : Array Value} {ds : List (DataW H)} (h : ArgsIn enc P W [t0, t1, t2, t3] args.toList ds) :
    ∃ v0 v1 v2 v3 d0 d1 d2 d3, args = #[v0, v1, v2, v3] ∧ ds = [d0, d1, d2, d3] ∧ ArgIn enc P W t0 v0 d0 ∧ ArgIn enc P W t1 v1 d1 ∧ ArgIn enc P W t2 v2 d2 ∧ ArgIn enc P W t3 v3 d3 := by
  obtain ⟨l⟩ := args
  obtain ⟨v0, l0, d0, e0, hl, rfl, h0, r0⟩ := argsIn_cons h
  simp only at hl
  subst hl
  obtain ⟨v1, l1, d1, e1, rfl, rfl, h1, r1⟩ := argsIn_cons r0
  obtain ⟨v2, l2, d2, e2, rfl, rfl, h2, r2⟩ := argsIn_cons r1
  obtain ⟨v3, l3, d3, e3, rfl, rfl, h3, r3⟩ := argsIn_cons r2
  obtain ⟨rfl, rfl⟩ := argsIn_nil r3
  exact ⟨v0, v1, v2, v3, d0, d1, d2, d3, rfl, rfl, h0, h1, h2, h3⟩
theorem argsIn5 {W : World} {t0 t1 t2 t3 t4 : TypeId} {args : Array Value} {ds : List (DataW H)} (h : ArgsIn enc P W [t0, t1, t2, t3, t4] args.toList ds) :
    ∃ v0 v1 v2 v3 v4 d0 d1 d2 d3 d4, args = #[v0, v1, v2, v3, v4] ∧ ds = [d0, d1, d2, d3, d4] ∧ ArgIn enc P W t0 v0 d0 ∧ ArgIn enc P W t1 v1 d1 ∧ ArgIn enc P W t2 v2 d2 ∧ ArgIn enc P W t3 v3 d3 ∧ ArgIn enc P W t4 v4 d4 := by
  obtain ⟨l⟩ := args
  obtain ⟨v0, l0, d0, e0, hl, rfl, h0, r0⟩ := argsIn_cons h
  simp only at hl
  subst hl
  obtain ⟨v1, l1, d1, e1, rfl, rfl, h1, r1⟩ := argsIn_cons r0
  obtain ⟨v2, l2, d2, e2, rfl, rfl, h2, r2⟩ := argsIn_cons r1
  obtain ⟨v3, l3, d3, e3, rfl, rfl, h3, r3⟩ := argsIn_cons r2
  obtain ⟨v4, l4, d4, e4, rfl, rfl, h4, r4⟩ := argsIn_cons r3
  obtain ⟨rfl, rfl⟩ := argsIn_nil r4
  exact ⟨v0, v1, v2, v3, v4, d0, d1, d2, d3, d4, rfl, rfl, h0, h1, h2, h3, h4⟩

/-! ### Opening arguments -/
section
variable {W : World} {t : TypeId} {v : Value} {d : DataW H}
theorem ArgIn.int {k : IntKind} (ht : P.underlying t = some (.int k)) (h : ArgIn enc P W t v d) : ∃ n, v = .int k n ∧ (Lit.int k n).wf = true := by
  obtain ⟨⟨base, ho⟩, ⟨p, hr⟩, _⟩ := h
  obtain ⟨n, hv, _, _, hw⟩ := open_int ht ho hr
  exact ⟨n, hv, hw⟩
theorem ArgIn.bool (ht : P.underlying t = some .bool) (h : ArgIn enc P W t v d) : ∃ n, v = .bool n := by
  obtain ⟨⟨base, ho⟩, ⟨p, hr⟩, _⟩ := h
  obtain ⟨n, hv, _⟩ := open_bool ht ho hr
  exact ⟨n, hv⟩
theorem ArgIn.string (ht : P.underlying t = some .string) (h : ArgIn enc P W t v d) : ∃ s : ByteArray, v = .string s ∧ s.size ≤ 140737488351232 ∧ d = .lit (.string s.data.toList) := by
  obtain ⟨⟨base, ho⟩, ⟨p, hr⟩, hw⟩ := h
  obtain ⟨s, hv, rfl, _, _⟩ := open_string ht ho hr
  refine ⟨s, hv, ?_, rfl⟩
  have := hw s.data.toList.length (by simp [DataW.weights])
  simp only [reachBytes] at this
  simpa using this
theorem ArgIn.bytes {e : TypeId} (ht : P.underlying t = some (.slice e)) (he : P.underlying e = some (.int .u8)) (hc : P.cellsOf e = 1) (hb : P.bytesOf e = 1) (h : ArgIn enc P W t v d) :
    ∃ (A : Option Addr) (b : List UInt8) (c : Nat), v = .slice A b.length c ∧ b.length ≤ c ∧ c ≤ 140737488351232 ∧ Reads W W.heap.size 1 A b.length (bts b) ∧ (d = .nil ∧ b = [] ∨ ∃ sp, d = .slice (b.map fun x => .lit (.int .u8 (x.toNat : Int))) sp) := by
  obtain ⟨⟨base, ho⟩, ⟨p, m, hr⟩, hw⟩ := h
  obtain ⟨A, n, c, rfl⟩ := okWide_slice ht ho
  rcases open_ints ht he hc hr with ⟨hcs, hx⟩ | ⟨x, l, cc, zs, hcs, _, hl, hm, hz, hx, hcell, hwz⟩
  · simp [Value.cells] at hcs
    obtain ⟨rfl, rfl, rfl⟩ := hcs
    simp at hx
    exact ⟨none, [], 0, rfl, Nat.le_refl _, by omega, Reads.none_, .inl ⟨hx.1, rfl⟩⟩
  · simp [Value.cells] at hcs
    obtain ⟨rfl, rfl, rfl⟩ := hcs
    simp only [Prod.mk.injEq] at hx
    have hz' : zs.length = c := by simpa using hz
    have hcb : c ≤ 140737488351232 := by
      have := hw ((lits (H := H) .u8 (zs.take n)).length + (lits (H := H) .u8 (zs.drop n)).length) (by rw [hx.1]; simp [DataW.weights, ht, hb])
      simp only [reachBytes, lits, List.length_map, List.length_take, List.length_drop] at this
      omega
    have hbyte : ∀ z ∈ zs, ((UInt8.ofNat z.toNat).toNat : Int) = z := by
      intro z hzm
      have := hwz z hzm
      simp [Lit.wf, IntKind.min, IntKind.max, IntKind.signed, IntKind.bits] at this
      rw [UInt8.toNat_ofNat_of_lt' (by show z.toNat < 256; omega)]
      omega
    have hlen : ((zs.take n).map fun z => UInt8.ofNat z.toNat).length = n := by simp; omega
    have hget : ∀ i u, (bts ((zs.take n).map fun z => UInt8.ofNat z.toNat))[i]? = some u → i < n ∧ u = .int .u8 (zs.getD i 0) := by
      intro i u hu
      have hi : i < n := by
        have h1 := (List.getElem?_eq_some_iff.1 hu).1
        rw [bts_length, hlen] at h1
        exact h1
      refine ⟨hi, ?_⟩
      have hzi : i < zs.length := by omega
      simp [bts, hi, List.getElem?_eq_getElem hzi] at hu
      rw [← hu]
      have := hbyte zs[i] (List.getElem_mem hzi)
      simp at this
      simp [List.getD_eq_getElem?_getD, List.getElem?_eq_getElem hzi, this]
    refine ⟨some x, (zs.take n).map fun z => UInt8.ofNat z.toNat, c, by rw [hlen], by omega, hcb, ⟨by rw [bts_length]; simp, fun hn => ⟨x, rfl, ?_, ?_⟩⟩, .inr ⟨lits .u8 (zs.drop n), ?_⟩⟩
    · have h0 : 0 < zs.length := by rw [hlen] at hn; omega
      have := World.block_lt_of_cell? W _ (hcell 0 h0)
      rwa [block_of_add] at this
    · intro i u hu
      obtain ⟨hi, rfl⟩ := hget i u hu
      exact hcell i (by omega)
    · rw [hx.1]
      simp only [lits, List.map_map]
      congr 1
      apply List.map_congr_left
      intro z hzm
      show _ = DataW.lit (Lit.int .u8 ((UInt8.ofNat z.toNat).toNat : Int))
      rw [hbyte z (List.mem_of_mem_take hzm)]
/-- what the bulk of bytes says -/
theorem bulk_bytes {b : List UInt8} (hd : d = .nil ∧ b = [] ∨ ∃ sp, d = .slice (b.map fun x => .lit (.int .u8 (x.toNat : Int))) sp) : b.length ≤ Rows.uptoBulk d := by
  rcases hd with ⟨rfl, rfl⟩ | ⟨sp, rfl⟩
  · simp
  · simp only [Rows.uptoBulk]
    have : b.length ≤ Rows.uptoBulkAll (b.map fun x => DataW.lit (H := H) (.int .u8 (x.toNat : Int))) := by
      induction b with
      | nil => simp
      | cons x r ih => simp only [List.map_cons, List.length_cons, Rows.uptoBulkAll, Rows.uptoBulk]; omega
    omega
end
end
end Go.Proofs.Ytcbeadldieeceaa
