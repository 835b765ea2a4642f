/-
  A region that draws its order, reads, makes memory, and marks rows that it made itself ('[]byte("..")'): cells stay, marks may change.
-/
import Derived.Test.YtcchnoadclidcaaPiece
import Derived.Lib.UnsafeStr
namespace Go.Proofs.Ytcchnoadclidcaa
open Go.RowKit

/-- the cells of all that was there stay; below B all stays -/
structure Soft (B : Nat) (W W' : World) : Prop where
  below : Below B W W'
  cell : ∀ p : Addr, p.block < W.heap.size → W'.cell? p = W.cell? p
  row : ∀ (k : Nat) (C : Array Value) (T : TypeId) (fr : Nat × Nat), W.heap[k]? = some (.cells C T fr) → ∃ fr', W'.heap[k]? = some (.cells C T fr')
  size : W.heap.size ≤ W'.heap.size
theorem Soft.of {B : Nat} {W W' : World} (hB : B ≤ W.heap.size) (h : Below W.heap.size W W') : Soft B W W' :=
  ⟨h.mono hB, fun _ hp => h.cell hp, fun k _ _ fr hk => ⟨fr, (h.block k (Array.getElem?_eq_some_iff.1 hk).1).trans hk⟩, h.size⟩
theorem freeze_at (W : World) (a : Addr) (n : Nat) (k : Nat) : (W.freeze a n).heap[k]? = W.heap[k]? ∨ ∃ C T fr fr', W.heap[k]? = some (.cells C T fr) ∧ (W.freeze a n).heap[k]? = some (.cells C T fr') := by
  unfold World.freeze
  by_cases hn : n = 0
  · exact .inl (by simp [hn])
  · rw [if_neg hn]
    simp only [Array.getElem?_modify]
    by_cases hk : a.block = k
    · subst hk
      cases hh : W.heap[a.block]? with
      | none => exact .inl (by simp)
      | some x =>
        cases x with
        | cells C T fr => exact .inr ⟨C, T, fr, _, rfl, by simp; rfl⟩
        | _ => exact .inl (by simp)
    · exact .inl (by rw [if_neg hk])
theorem freeze_size (W : World) (a : Addr) (n : Nat) : (W.freeze a n).heap.size = W.heap.size := by
  unfold World.freeze
  split
  · rfl
  · simp
theorem Soft.freeze {B : Nat} {W : World} (g o n : Nat) (hB : B ≤ g) : Soft B W (W.freeze ⟨g, o, none⟩ n) := by
  refine ⟨Lib.below_freeze (Below.refl _ _) hB n, fun p _ => ?_, fun k C T fr hk => ?_, by rw [freeze_size]; exact Nat.le_refl _⟩
  · unfold World.cell?
    rcases freeze_at W ⟨g, o, none⟩ n p.block with h | ⟨C, T, fr, fr', h1, h2⟩
    · rw [h]
    · rw [h1, h2]
  · rcases freeze_at W ⟨g, o, none⟩ n k with h | ⟨C', T', fr1, fr2, h1, h2⟩
    · exact ⟨fr, h.trans hk⟩
    · rw [hk] at h1
      injection h1 with h1
      injection h1 with e1 e2 e3
      subst e1 e2
      exact ⟨fr2, h2⟩

def StaysS (B : Nat) (p : Value → World → Prop) : Prop := ∀ v W W', p v W → Soft B W W' → p v W'
theorem StaysS.pure {B : Nat} {q : Value → Prop} : StaysS B (fun v _ => q v) := fun _ _ _ h _ => h
theorem staysS_nil {B : Nat} : ∀ p ∈ ([] : List (Value → World → Prop)), StaysS B p := fun _ h => by cases h
theorem staysS_cons {B : Nat} {p : Value → World → Prop} {l : List (Value → World → Prop)} (hp : StaysS B p) (hl : ∀ q ∈ l, StaysS B q) : ∀ q ∈ p :: l, StaysS B q := by
  intro q hq
  rcases List.mem_cons.1 hq with rfl | h
  · exact hp
  · exact hl q h
theorem PieceIn.soft {B n : Nat} {l : List UInt8} {v : Value} {W W' : World} (h : PieceIn n l v W) (hb : Soft B W W') : PieceIn n l v W' := by
  obtain ⟨h1, A, c, h2, h3, h4, h5⟩ := h
  exact ⟨h1, A, c, h2, h3, h4, (h5.keep fun p hp => hb.cell p hp).more hb.size⟩
theorem PieceIn.staysS (B n : Nat) (l : List UInt8) : StaysS B (PieceIn n l) := fun _ _ _ h hb => h.soft hb
/-- a literal list of pieces, by its cells alone -/
def PcsS (ls : List (List UInt8)) (n : Nat) (v : Value) (W : World) : Prop := ∃ g ys, v = .slice (some ⟨g, 0, none⟩) n n ∧ Reads W W.heap.size 1 (some ⟨g, 0, none⟩) n ys ∧ ys.length = n ∧ AllIn W ys ls
theorem AllIn.soft {B : Nat} {W W' : World} (hb : Soft B W W') : ∀ (ys : List Value) (ls : List (List UInt8)), AllIn W ys ls → AllIn W' ys ls
  | [], [], _ => trivial
  | _ :: ys, _ :: ls, h => ⟨h.1.soft hb, AllIn.soft hb ys ls h.2⟩
  | [], _ :: _, h => h.elim
  | _ :: _, [], h => h.elim
theorem PcsS.staysS (B : Nat) (ls : List (List UInt8)) (n : Nat) : StaysS B (PcsS ls n) := by
  rintro v W W' ⟨g, ys, h1, h2, h3, h4⟩ hb
  exact ⟨g, ys, h1, (h2.keep fun p hp => hb.cell p hp).more hb.size, h3, AllIn.soft hb _ _ h4⟩
theorem PcsS.new {W : World} {ys : List Value} {ls : List (List UInt8)} {n : Nat} (hn : ys.length = n) (h : AllIn W ys ls) :
    PcsS ls n (.slice (some ⟨W.heap.size, 0, none⟩) n n) (W.alloc (.cells (List.toArray ys) 25)) := by
  have hb : Below W.heap.size W (W.alloc (.cells (List.toArray ys) 25)) := (Below.refl _ _).alloc (Nat.le_refl _) _
  have hr := Reads.lit W (List.toArray ys) 25 (n := n) (size := 1) (by simpa using hn)
  exact ⟨_, ys, rfl, by simpa using hr, hn, AllIn.below hb _ _ h⟩
theorem join_pcsS {W : World} {ls : List (List UInt8)} {n T g : Nat} {ys : List Value} (hr : Reads W W.heap.size 1 (some ⟨g, 0, none⟩) n ys) (hn : ys.length = n) (hf : AllIn W ys ls) (hT : T = ls.flatten.length) (hn2 : n ≤ 1048576) (hT2 : T ≤ 140737488351232) :
    Calls Try.prog 34 #[.slice (some ⟨g, 0, none⟩) n n] W fun e w' => ∃ v, e = .returned v ∧ w'.ownsRow W.heap.size 5 1 v T (bts ls.flatten) ∧ Below W.heap.size W w' := by
  obtain ⟨ps, rfl, h1, h2⟩ := pieces_of ys ls hf
  have hc : catL ps = ls.flatten := by rw [← h2]; rfl
  have hs : T = sumL ps := by rw [hT, ← hc, catL_length]
  rw [← hc]
  have hl : ps.length = n := by simpa using hn
  exact join_any ps n hl.symm _ _ W W.heap.size hr h1 (Nat.le_refl _) T hs hn2 hT2

/-- a literal of this very region, before and behind its mark -/
def LitIn (B n : Nat) (l : List UInt8) (v : Value) (W : World) : Prop := ∃ g C T fr, v = .slice (some ⟨g, 0, none⟩) n n ∧ B ≤ g ∧ Array.toList C = bts l ∧ n = l.length ∧ W.heap[g]? = some (.cells C T fr)
theorem LitIn.staysS (B n : Nat) (l : List UInt8) : StaysS B (LitIn B n l) := by
  rintro v W W' ⟨g, C, T, fr, h1, h2, h3, h4, h5⟩ hb
  obtain ⟨fr', h6⟩ := hb.row g C T fr h5
  exact ⟨g, C, T, fr', h1, h2, h3, h4, h6⟩
theorem LitIn.new (B : Nat) (W : World) (hB : B ≤ W.heap.size) (l : List UInt8) (n : Nat) (hl : n = l.length) (cs : Array Value) (T : TypeId) (hcs : cs.toList = bts l) : LitIn B n l (.slice (some ⟨W.heap.size, 0, none⟩) n n) (W.alloc (.cells cs T)) :=
  ⟨_, cs, T, (0, 0), rfl, hB, hcs, hl, heap_alloc_new W _⟩
theorem LitIn.piece {B n : Nat} {l : List UInt8} {v : Value} {W : World} (h : LitIn B n l v W) (hm : n ≤ maxLen) : PieceIn n l v W := by
  obtain ⟨g, C, T, fr, rfl, hB, h3, h4, h5⟩ := h
  refine ⟨h4, _, _, rfl, Nat.le_refl _, hm, by rw [bts_length, h4, Nat.mul_one], fun _ => ⟨_, rfl, (Array.getElem?_eq_some_iff.1 h5).1, fun j u hu => ?_⟩⟩
  rw [addr_add0, cell_of_row _ _ j C T fr h5, ← Array.getElem?_toList, h3]
  exact hu
theorem LitIn.conv {P : Program} {B n g : Nat} {l : List UInt8} {W : World} {t e : TypeId} (ht : P.underlying t = some (.slice e)) (he : P.underlying e = some (.int .u8)) (h : LitIn B n l (.slice (some ⟨g, 0, none⟩) n n) W) :
    (convert t t (.slice (some ⟨g, 0, none⟩) n n)).run P W = .ok (.slice (some ⟨g, 0, none⟩) n n) (W.freeze ⟨g, n, none⟩ 1) := by
  obtain ⟨g', C, T, fr, h1, hB, h3, h4, h5⟩ := h
  injection h1 with h1
  simp at h1
  subst h1
  have hn : C.size = n := by rw [← Array.length_toList, h3, bts_length, h4]
  have hsh : W.shape? g = some (T, n) := by unfold World.shape?; rw [h5, ← hn]
  simp [convert, run_underlying ht, run_underlying he, markStringish, hsh]

theorem wp_region_soft {P : Program} {ops : Array Oper} {id : Nat} {a0 : Act} {w : World} {Q : Exit → Act → World → Prop} (hm : P.follows .mixedOrders = true) (hok : regionOk ops a0.tmps.size = true) (Gs : List (Value → World → Prop)) (hst : ∀ p ∈ Gs, StaysS w.heap.size p)
    (hstep : ∀ i o, ops[i]? = some o → ∀ (m : Nat → Option Value) (W : World), Below w.heap.size w W → (∀ e ∈ o.after, Region.binds .any e = true → ∃ v, m e.on = some v ∧ Says Gs e.on v W) →
      ∀ (A : Act) (K : Act → World → Prop), A = frameM a0 ops m → (∀ v W', Soft w.heap.size W W' → Says Gs i v W' → K (A.put o.dst v) W') → if Region.wanted o (yielded ops A.tmps) = true then o.wp P A W K Q else K (A.put o.dst undef) W)
    (hend : ∀ (m : Nat → Option Value) (W : World), Below w.heap.size w W → (∀ i, i < ops.size → ∃ v, m i = some v ∧ Says Gs i v W) → Q .normal (frameM a0 ops m) W) :
    (Code.region id ops true).wp P Q a0 w := by
  have hsay : ∀ i v W W', Says Gs i v W → Soft w.heap.size W W' → Says Gs i v W' := by
    intro i v W W' h hb
    unfold Says at h ⊢
    cases hG : Gs[i]? with
    | none => trivial
    | some p => rw [hG] at h; exact hst p (List.mem_of_getElem? hG) v W W' h hb
  refine wp_region_inv hm hok (fun m W => Below w.heap.size w W ∧ ∀ i v, m i = some v → Says Gs i v W) ⟨(Below.refl _ _).drew, fun _ _ h => by cases h⟩ ?_ ?_
  · intro i o ho m W hJ hmi hdeps A K hA hK
    refine hstep i o ho m W hJ.1 (fun e he hb => ?_) A K hA (fun v W' hb hS => hK v W' ⟨hJ.1.trans hb.below, fun j u hu => ?_⟩)
    · have := hdeps e he hb
      cases hme : m e.on with
      | none => rw [hme] at this; cases this
      | some v => exact ⟨v, rfl, hJ.2 _ _ hme⟩
    · by_cases hj : j = i
      · subst hj
        rw [upd_self] at hu
        cases hu
        exact hS
      · rw [upd_ne m v hj] at hu
        exact hsay j u W W' (hJ.2 j u hu) hb
  · intro m W hJ hall
    refine hend m W hJ.1 fun i hi => ?_
    have := hall i hi
    cases hmi : m i with
    | none => rw [hmi] at this; cases this
    | some v => exact ⟨v, rfl, hJ.2 _ _ hmi⟩
end Go.Proofs.Ytcchnoadclidcaa
