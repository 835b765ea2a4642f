/-
  A slice: as it lies in memory, and as it reads.
-/
import Derived.Test.YtcbeadldieeceaaZ1
import Derived.Test.YtcbeadldieeceaaZ3
import Derived.Test.YtcbeadldieeceaaZ11
import Derived.Test.YtcbeadldieeceaaZ14
import Derived.Test.YtcbeadldieeceaaZ15
namespace Go.Proofs.Ytcbeadldieeceaa
open Go.RowKit

/-- a slice: as it lies, and as it reads -/
structure FS (α : Type) where
  A : Option Addr
  n : Nat
  c : Nat
  l : List α
def FS.val {α : Type} (s : FS α) : Value := .slice s.A s.n s.c
def FS.rd {α : Type} (w : World) (B k : Nat) (enc : α → List Value) (s : FS α) : Prop := s.n = s.l.length ∧ s.n ≤ s.c ∧ Reads w B k s.A s.n (cellsK enc s.l)
def FS.own {α : Type} (w : World) (base : Nat) (t : TypeId) (k : Nat) (enc : α → List Value) (s : FS α) : Prop := s.n = s.l.length ∧ w.ownsRow base t k s.val s.n (cellsK enc s.l)
section
variable {α : Type} {w w' : World} {B k : Nat} {enc : α → List Value} {s : FS α}
theorem FS.rd.below (h : s.rd w B k enc) (hb : Below B w w') : s.rd w' B k enc := ⟨h.1, h.2.1, h.2.2.below hb⟩
theorem FS.rd.more {B' : Nat} (h : s.rd w B k enc) (hb : B ≤ B') : s.rd w B' k enc := ⟨h.1, h.2.1, h.2.2.more hb⟩
theorem FS.own.below {base : Nat} {t : TypeId} (h : s.own w base t k enc) (hb : Below w.heap.size w w') : s.own w' base t k enc := ⟨h.1, own_below h.2 hb⟩
theorem FS.own.mono {base base' : Nat} {t : TypeId} (h : s.own w base t k enc) (hb : base' ≤ base) : s.own w base' t k enc := ⟨h.1, own_mono h.2 hb⟩
theorem FS.own.rd {base : Nat} {t : TypeId} (h : s.own w base t k enc) : s.rd w w.heap.size k enc := by
  obtain ⟨A1, c1, e, h2, _, _⟩ := own_form h.2
  unfold FS.val at e
  injection e with _ _ e3
  exact ⟨h.1, by rw [e3]; exact h2, Reads.of_own h.2⟩
end
theorem FS.own.kept {α : Type} {w w' : World} {base k g : Nat} {t : TypeId} {enc : α → List Value} {s : FS α} (h : s.own w base t k enc) (hg : w.grownBy w' (some g)) (hb : g < base) : s.own w' base t k enc := by
  refine ⟨h.1, h.2.kept hg (.inr fun e => ?_)⟩
  have := (h.2.lt _ e).1
  omega
theorem FS.len_eq {α : Type} {s s' : FS α} (h : s.n = s.l.length) (h' : s'.n = s'.l.length) (he : s.l = s'.l) : s'.n = s.n := by rw [h, h', he]
end Go.Proofs.Ytcbeadldieeceaa

/-
  What stream.Make makes, in plain lists; snapshots that are handed in.
-/
namespace Go.Proofs.Ytcbeadldieeceaa
open Go.RowKit

/-- a snapshot -/
structure SpR where
  nm : BS
  gd : Int
  body : FS (Int × BS)
  tags : Value
  own : FS (BS × BS)
def SpR.cells (x : SpR) : Array Value := #[.string ⟨x.nm.toArray⟩, .int .i64 x.gd, x.body.val, x.tags, x.own.val]
structure SpR.rd (w : World) (B : Nat) (x : SpR) : Prop where
  bn : x.body.n = x.body.l.length
  bc : x.body.n ≤ x.body.c
  body : Reads w B 2 x.body.A x.body.n (bcells x.body.l)
  on : x.own.n = x.own.l.length
  own : Reads w B 2 x.own.A x.own.n (pcells x.own.l)
structure SpR.sz (x : SpR) : Prop where
  body : x.body.n ≤ 6000000000000
  own : x.own.n ≤ 5000000000000
  ps : strOk x.own.l
  nm : x.nm.length ≤ 140737488351232
  tags : x.tags.oneCell' = true

def rcOf (r : RE) : Rc := ⟨r.1, [], 0, 0, [], r.2.1, r.2.2.1, r.2.2.2, Sm0⟩
def rcEnd (s : Sm) : Rc := ⟨4, [], 0, 0, [], 0, 0, [], s⟩
def recsL (a b : BL) (r0 : Rc) : List Rc := r0 :: (diffO a b).map rcOf
def makeS (a b : BL) (r0 : Rc) : BS := encAll (recsL a b r0) ++ encL (rcEnd (sumS Sm0 (recsL a b r0)))
def makeE (a b : BL) (r0 : Rc) (ok : Bool) : Int := if diffE a b ≠ 0 then diffE a b else if recE r0 ≠ 0 then recE r0 else if ok = false then 35 else if 32768 < (makeS a b r0).length then 5 else 0
def rc0 (full : Bool) (from_ to : SpR) : Rc := ⟨1, to.nm, if full then 0 else from_.gd, to.gd, to.own.l, 0, 0, [], Sm0⟩
theorem encR_cs (r : RE) : encR r = (rcCells (rcOf r) (.slice none 0 0)).toList := rfl
/-- what else a change's records are: those that free hold no data, those that write no count -/
def BareR (r : RE) : Prop := (r.1 = 3 ∧ r.2.2.2 = []) ∨ (r.1 = 2 ∧ r.2.2.1 = 0)
theorem recE_of (r : RE) (h : ValidR r) (hb : BareR r) : recE (rcOf r) = 0 := by
  obtain ⟨k, i, c, d⟩ := r
  unfold ValidR at h
  unfold BareR at hb
  simp only at h hb
  have hz : smZ Sm0 = true := by decide
  unfold recE rcOf mayB
  simp only
  rcases h with ⟨h1, h2, h3, h4⟩ | ⟨h1, h2, h3, h4, h5⟩
  · subst h1
    obtain rfl : c = 0 := by omega
    simp [h2, h3, h4, hz]
  · subst h1
    obtain rfl : d = [] := by
      rcases hb with hb | hb
      · exact hb.2
      · exact absurd hb.1 (by decide)
    simp [h2, h3, h4, h5, hz]
theorem bare_bump (o : RL) (h : ∀ r ∈ o, BareR r) (hl : lastIs3 o = true) : ∀ r ∈ bumpR o, BareR r := by
  unfold lastIs3 at hl
  unfold bumpR
  cases e : o.getLast? with
  | none => rw [e] at hl; cases hl
  | some q =>
    rw [e] at hl
    have hq := h q (List.mem_of_getLast? e)
    intro r hr
    rcases List.mem_append.1 hr with hr | hr
    · exact h r (List.dropLast_subset o hr)
    · rw [List.mem_singleton.1 hr]
      simp only [beq_iff_eq] at hl
      rcases hq with hq | hq
      · exact .inl hq
      · have := hq.1; omega
theorem bare_push (o : RL) (h : ∀ r ∈ o, BareR r) (q : RE) (hq : BareR q) : ∀ r ∈ o ++ [q], BareR r := by
  intro r hr
  rcases List.mem_append.1 hr with hr | hr
  · exact h r hr
  · rw [List.mem_singleton.1 hr]; exact hq
theorem bare_step (a b : BL) (k : Int) (s : RL × Bool) (h : (∀ r ∈ s.1, BareR r) ∧ (s.2 = true → lastIs3 s.1 = true)) : (∀ r ∈ (refStep a b k s).1, BareR r) ∧ ((refStep a b k s).2 = true → lastIs3 (refStep a b k s).1 = true) := by
  obtain ⟨o, run⟩ := s
  simp only at h
  unfold refStep
  simp only
  cases hg : (hasL a k && !hasL b k) with
  | true =>
    cases run with
    | true => simp only [Bool.and_self, if_true]; exact ⟨bare_bump o h.1 (h.2 rfl), fun _ => lastIs3_bump o (h.2 rfl)⟩
    | false => simp only [Bool.and_false, Bool.false_eq_true, if_false, if_true]; exact ⟨bare_push o h.1 _ (.inl ⟨rfl, rfl⟩), fun _ => by rw [lastIs3_push]; rfl⟩
  | false =>
    simp only [Bool.false_and, Bool.false_eq_true, if_false]
    refine ⟨?_, fun e => absurd e (by simp)⟩
    split
    · exact bare_push o h.1 _ (.inr ⟨rfl, rfl⟩)
    · exact h.1
theorem bare_run (a b : BL) (m : Nat) : ∀ (k : Int) (s : RL × Bool), (∀ r ∈ s.1, BareR r) ∧ (s.2 = true → lastIs3 s.1 = true) → ∀ r ∈ (runFrom a b m k s).1, BareR r := by
  induction m with
  | zero => intro k s h; exact h.1
  | succ m ih => intro k s h; exact ih (k + 1) (refStep a b k s) (bare_step a b k s h)
theorem recE_end (s : Sm) : recE (rcEnd s) = 0 := by
  unfold recE rcEnd mayB
  simp
theorem refStep_len (a b : BL) (k : Int) (s : RL × Bool) : (refStep a b k s).1.length ≤ s.1.length + 1 := by
  unfold refStep
  simp only
  split
  · unfold bumpR
    split
    · rename_i r hr
      have : s.1 ≠ [] := by rintro e; rw [e] at hr; cases hr
      have := List.length_pos_iff.2 this
      first | (simp; omega) | simp
    · omega
  · split
    · simp
    · split
      · simp
      · omega
theorem runFrom_len (a b : BL) (m : Nat) : ∀ (k : Int) (s : RL × Bool), (runFrom a b m k s).1.length ≤ s.1.length + m := by
  induction m with
  | zero => intro k s; exact Nat.le_refl _
  | succ m ih =>
    intro k s
    have h1 := ih (k + 1) (refStep a b k s)
    have h2 := refStep_len a b k s
    show (runFrom a b m (k + 1) (refStep a b k s)).1.length ≤ _
    omega
theorem diffO_len (a b : BL) : (diffO a b).length ≤ 1024 := by
  unfold diffO
  split
  · rename_i h
    obtain ⟨ha, hb⟩ := (diffE_ok a b).1 h
    rw [diff_ref a b ha hb]
    exact Nat.le_trans (runFrom_len a b 1024 0 ([], false)) (by simp)
  · simp
theorem diffO_ok (a b : BL) : ∀ r ∈ diffO a b, recE (rcOf r) = 0 := by
  unfold diffO
  split
  · rename_i h
    obtain ⟨ha, hb⟩ := (diffE_ok a b).1 h
    intro r hr
    refine recE_of r ((apply_law a b ha hb).1 r hr) ?_
    rw [diff_ref a b ha hb] at hr
    exact bare_run a b 1024 0 ([], false) ⟨by simp, by simp⟩ r hr
  · simp
end Go.Proofs.Ytcbeadldieeceaa
