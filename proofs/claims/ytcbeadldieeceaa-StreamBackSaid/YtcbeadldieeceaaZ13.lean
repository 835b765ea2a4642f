/-
  The plain law of contents' changes: going along two contents, and asking index by index, make the same records.
-/
import Derived.Test.YtcbeadldieeceaaRows
import Derived.Handy
import Derived.Test.YtcbeadldieeceaaZ5
import Derived.Test.YtcbeadldieeceaaZ12
namespace Go.Proofs.Ytcbeadldieeceaa
open Go.RowKit

/-- a record of a change: kind, index, count, data -/
abbrev RL := List (Int × Int × Int × List UInt8)
def bumpR (o : RL) : RL := match o.getLast? with
  | some r => o.dropLast ++ [(r.1, r.2.1, r.2.2.1 + 1, r.2.2.2)]
  | none => o
def lastIs3 (o : RL) : Bool := match o.getLast? with
  | some r => r.1 == 3
  | none => false
def goneS (s : RL × Int) (i : Int) : RL × Int := (if lastIs3 s.1 = true ∧ s.2 = i - 1 then bumpR s.1 else s.1 ++ [(3, i, 1, [])], i)
def putS (s : RL × Int) (x : Int × List UInt8) : RL × Int := (s.1 ++ [(2, x.1, 0, x.2)], s.2)
def diffGo (a b : BL) (s : RL × Int) : RL × Int :=
  match a, b with
  | [], [] => s
  | x :: a', [] => diffGo a' [] (goneS s x.1)
  | [], y :: b' => diffGo [] b' (putS s y)
  | x :: a', y :: b' => if x.1 < y.1 then diffGo a' (y :: b') (goneS s x.1) else if y.1 < x.1 then diffGo (x :: a') b' (putS s y) else diffGo a' b' (if x = y then s else putS s y)
termination_by a.length + b.length

def refStep (a b : BL) (i : Int) (s : RL × Bool) : RL × Bool :=
  (if (hasL a i && !hasL b i) && s.2 then bumpR s.1 else if hasL a i && !hasL b i then s.1 ++ [(3, i, 1, [])]
    else if hasL b i && (!hasL a i || getL a i != getL b i) then s.1 ++ [(2, i, 0, getL b i)] else s.1, hasL a i && !hasL b i)
def runFrom (a b : BL) : Nat → Int → RL × Bool → RL × Bool
  | 0, _, s => s
  | m + 1, k, s => runFrom a b m (k + 1) (refStep a b k s)

theorem hasL_nil (j : Int) : hasL [] j = false := rfl
theorem hasL_cons (x : Int × List UInt8) (l : BL) (j : Int) : hasL (x :: l) j = (x.1 == j || hasL l j) := rfl
theorem getL_cons_eq (x : Int × List UInt8) (l : BL) : getL (x :: l) x.1 = x.2 := by simp [getL]
theorem getL_cons_ne (x : Int × List UInt8) (l : BL) (j : Int) (h : x.1 ≠ j) : getL (x :: l) j = getL l j := by
  unfold getL
  rw [List.find?_cons_of_neg (by simpa using h)]
theorem hasL_above (l : BL) (j : Int) (h : ∀ x ∈ l, j < x.1) : hasL l j = false := by
  unfold hasL
  rw [List.any_eq_false]
  intro x hx
  have := h x hx
  simp
  omega
theorem Asc.tail {x : Int × List UInt8} {l : BL} (h : Asc (x :: l)) : Asc l ∧ ∀ y ∈ l, x.1 < y.1 := by
  refine ⟨fun i j a b hij ha hb => h (i + 1) (j + 1) a b (by omega) (by simpa using ha) (by simpa using hb), fun y hy => ?_⟩
  obtain ⟨i, hi⟩ := List.mem_iff_getElem?.1 hy
  exact h 0 (i + 1) x y (by omega) rfl (by simpa using hi)
theorem lastIs3_push (o : RL) (r : Int × Int × Int × List UInt8) : lastIs3 (o ++ [r]) = (r.1 == 3) := by simp [lastIs3]
theorem lastIs3_bump (o : RL) (h : lastIs3 o = true) : lastIs3 (bumpR o) = true := by
  unfold lastIs3 at h
  unfold bumpR
  cases hl : o.getLast? with
  | none => rw [hl] at h; cases h
  | some r => rw [hl] at h; rw [lastIs3_push]; exact h

/-- what stands of a content from an index on -/
structure Rest (a la : BL) (k : Int) : Prop where
  asc : Asc la
  from_ : ∀ x ∈ la, k ≤ x.1 ∧ x.1 < 1024
  has : ∀ j, k ≤ j → hasL a j = hasL la j ∧ getL a j = getL la j
theorem Rest.next {a la : BL} {k : Int} (h : Rest a la k) (hn : ∀ x ∈ la, x.1 ≠ k) : Rest a la (k + 1) ∧ hasL a k = false :=
  ⟨⟨h.asc, fun x hx => ⟨by have := (h.from_ x hx).1; have := hn x hx; omega, (h.from_ x hx).2⟩, fun j hj => h.has j (by omega)⟩,
    by rw [(h.has k (Int.le_refl _)).1]; exact hasL_above la k (fun x hx => by have := (h.from_ x hx).1; have := hn x hx; omega)⟩
theorem Rest.take {a la : BL} {x : Int × List UInt8} {k : Int} (h : Rest a (x :: la) k) (hx : x.1 = k) : Rest a la (k + 1) ∧ hasL a k = true ∧ getL a k = x.2 := by
  have ht := h.asc.tail
  refine ⟨⟨ht.1, fun y hy => ⟨by have := ht.2 y hy; omega, (h.from_ y (List.mem_cons_of_mem _ hy)).2⟩, fun j hj => ?_⟩, ?_, ?_⟩
  · have := h.has j (by omega)
    rw [this.1, this.2, hasL_cons, getL_cons_ne _ _ _ (by omega)]
    simp
    intro e
    omega
  · rw [(h.has k (Int.le_refl _)).1, hasL_cons]; simp [hx]
  · rw [(h.has k (Int.le_refl _)).2]
    subst hx
    exact getL_cons_eq x la
theorem Rest.head_ne {a la : BL} {x : Int × List UInt8} {k : Int} (h : Rest a (x :: la) k) (hx : x.1 ≠ k) : ∀ y ∈ x :: la, y.1 ≠ k := by
  intro y hy
  rcases List.mem_cons.1 hy with rfl | hy
  · exact hx
  · have := h.asc.tail.2 y hy
    have := (h.from_ x (by simp)).1
    omega
def RunInv (o : RL) (last : Int) (run : Bool) (k : Int) : Prop := if run = true then last = k - 1 ∧ lastIs3 o = true else last < k - 1
theorem RunInv.le {o : RL} {last : Int} {run : Bool} {k : Int} (h : RunInv o last run k) : last ≤ k - 1 := by
  unfold RunInv at h
  split at h <;> omega
theorem goneS_run {o : RL} {last : Int} {run : Bool} {k : Int} (h : RunInv o last run k) : goneS (o, last) k = (if run = true then bumpR o else o ++ [(3, k, 1, [])], k) ∧ RunInv (if run = true then bumpR o else o ++ [(3, k, 1, [])]) k true (k + 1) := by
  unfold RunInv at h
  unfold goneS
  cases run with
  | true =>
    simp only [if_true] at h ⊢
    rw [if_pos ⟨h.2, h.1⟩]
    refine ⟨rfl, ?_⟩
    unfold RunInv
    rw [if_pos rfl]
    exact ⟨by omega, lastIs3_bump o h.2⟩
  | false =>
    simp only [Bool.false_eq_true, if_false] at h ⊢
    rw [if_neg (fun e => by have h2 : last = k - 1 := e.2; omega)]
    refine ⟨rfl, ?_⟩
    unfold RunInv
    rw [if_pos rfl]
    exact ⟨by omega, by rw [lastIs3_push]; rfl⟩
theorem diff_run (a b : BL) (m : Nat) : ∀ (k : Int) (la lb : BL) (o : RL) (last : Int) (run : Bool), k + m = 1024 → Rest a la k → Rest b lb k → RunInv o last run k →
    (diffGo la lb (o, last)).1 = (runFrom a b m k (o, run)).1 := by
  induction m with
  | zero =>
    intro k la lb o last run hk ha hb _
    have e1 : la = [] := by
      cases la with
      | nil => rfl
      | cons x r => have := ha.from_ x (by simp); omega
    have e2 : lb = [] := by
      cases lb with
      | nil => rfl
      | cons x r => have := hb.from_ x (by simp); omega
    subst e1 e2
    rw [diffGo]
    rfl
  | succ m ih =>
    intro k la lb o last run hk ha hb hR
    have hk' : k + 1 + (m : Int) = 1024 := by omega
    show _ = (runFrom a b m (k + 1) (refStep a b k (o, run))).1
    have hle := hR.le
    have skip : ∀ (la lb : BL) (o' : RL), Rest a la (k + 1) → Rest b lb (k + 1) → (hasL a k && !hasL b k) = false → (if hasL b k && (!hasL a k || getL a k != getL b k) then o ++ [(2, k, 0, getL b k)] else o) = o' →
        (diffGo la lb (o', last)).1 = (runFrom a b m (k + 1) (refStep a b k (o, run))).1 := by
      intro la lb o' h1 h2 hg ho
      have e : refStep a b k (o, run) = (o', false) := by
        unfold refStep
        rw [hg]
        simp only [Bool.false_and, Bool.false_eq_true, if_false]
        rw [ho]
      rw [e]
      exact ih (k + 1) la lb o' last false hk' h1 h2 (by unfold RunInv; rw [if_neg (by simp)]; omega)
    have gone : ∀ (la lb : BL), Rest a la (k + 1) → Rest b lb (k + 1) → hasL a k = true → hasL b k = false → (diffGo la lb (goneS (o, last) k)).1 = (runFrom a b m (k + 1) (refStep a b k (o, run))).1 := by
      intro la lb h1 h2 g1 g2
      obtain ⟨e1, e2⟩ := goneS_run hR
      have e : refStep a b k (o, run) = (if run = true then bumpR o else o ++ [(3, k, 1, [])], true) := by
        unfold refStep
        rw [g1, g2]
        cases run <;> simp
      rw [e, e1]
      exact ih (k + 1) la lb _ k true hk' h1 h2 e2
    cases la with
    | nil =>
      have a1 := ha.next (fun _ h => by cases h)
      cases lb with
      | nil =>
        have b1 := hb.next (fun _ h => by cases h)
        refine skip [] [] o a1.1 b1.1 (by rw [a1.2]; rfl) (by rw [b1.2]; rfl)
      | cons y lb =>
        by_cases hy : y.1 = k
        · have b1 := hb.take hy
          rw [diffGo]
          unfold putS
          refine skip [] lb _ a1.1 b1.1 (by rw [a1.2]; rfl) (by rw [b1.2.1, a1.2, b1.2.2, hy]; rfl)
        · have b1 := hb.next (hb.head_ne hy)
          exact skip [] (y :: lb) o a1.1 b1.1 (by rw [a1.2]; rfl) (by rw [b1.2]; rfl)
    | cons x la =>
      cases lb with
      | nil =>
        have b1 := hb.next (fun _ h => by cases h)
        by_cases hx : x.1 = k
        · have a1 := ha.take hx
          rw [diffGo, hx]
          exact gone la [] a1.1 b1.1 a1.2.1 b1.2
        · have a1 := ha.next (ha.head_ne hx)
          exact skip (x :: la) [] o a1.1 b1.1 (by rw [a1.2]; rfl) (by rw [b1.2]; rfl)
      | cons y lb =>
        have xk := (ha.from_ x (by simp)).1
        have yk := (hb.from_ y (by simp)).1
        by_cases hx : x.1 = k
        · have a1 := ha.take hx
          by_cases hy : y.1 = k
          · have b1 := hb.take hy
            rw [diffGo, if_neg (by omega), if_neg (by omega)]
            have hs : (if x = y then ((o, last) : RL × Int) else putS (o, last) y) = (if x = y then o else o ++ [(2, k, 0, y.2)], last) := by
              unfold putS
              by_cases e : x = y
              · rw [if_pos e, if_pos e]
              · rw [if_neg e, if_neg e, hy]
            rw [hs]
            refine skip la lb _ a1.1 b1.1 (by rw [a1.2.1, b1.2.1]; rfl) ?_
            rw [a1.2.1, b1.2.1, a1.2.2, b1.2.2]
            by_cases e : x = y
            · rw [if_pos e, e]; simp
            · have : x.2 ≠ y.2 := fun h => e (Prod.ext (by omega) h)
              rw [if_neg e]; simp [this]
          · have b1 := hb.next (hb.head_ne hy)
            rw [diffGo, if_pos (by omega), hx]
            exact gone la (y :: lb) a1.1 b1.1 a1.2.1 b1.2
        · have a1 := ha.next (ha.head_ne hx)
          by_cases hy : y.1 = k
          · have b1 := hb.take hy
            rw [diffGo, if_neg (by omega), if_pos (by omega)]
            unfold putS
            refine skip (x :: la) lb _ a1.1 b1.1 (by rw [a1.2]; rfl) (by rw [b1.2.1, a1.2, b1.2.2, hy]; rfl)
          · have b1 := hb.next (hb.head_ne hy)
            exact skip (x :: la) (y :: lb) o a1.1 b1.1 (by rw [a1.2]; rfl) (by rw [b1.2]; rfl)
theorem okFrom_bounds (p : Option Int) (l : BL) (h : okFrom p l = true) : ∀ x ∈ l, 0 ≤ x.1 ∧ x.1 < 1024 ∧ x.2.length = 16 := by
  induction l generalizing p with
  | nil => intro x hx; cases hx
  | cons z r ih =>
    simp only [okFrom, Bool.and_eq_true, decide_eq_true_eq] at h
    intro x hx
    rcases List.mem_cons.1 hx with rfl | hx
    · exact ⟨h.1.1.1.1, h.1.1.1.2, h.1.1.2⟩
    · exact ih _ h.2 x hx
theorem okL_rest (l : BL) (h : okL l = true) : Rest l l 0 := ⟨okL_asc l h, fun x hx => by have := okFrom_bounds none l h x hx; omega, fun _ _ => ⟨rfl, rfl⟩⟩
/-- both make the same -/
theorem diff_ref (a b : BL) (ha : okL a = true) (hb : okL b = true) : (diffGo a b ([], -2)).1 = (runFrom a b 1024 0 ([], false)).1 :=
  diff_run a b 1024 0 a b [] (-2) false (by omega) (okL_rest a ha) (okL_rest b hb) (by unfold RunInv; rw [if_neg (by simp)]; omega)
end Go.Proofs.Ytcbeadldieeceaa

/-
  slices.IndexFunc and slices.DeleteFunc at elements of 2 cells, by their contracts.
-/
namespace Go.Proofs.Ytcbeadldieeceaa
open Go.RowKit

/-- a predicate that is a function value: called in a world that keeps what it captured -/
structure PredK (P : Program) (g : Nat) (caps : Array Value) {α : Type} (enc : α → Array Value) (p : α → Bool) (Keep : World → Prop) : Prop where
  call : ∀ x W, Keep W → Calls P g (#[.agg (enc x)] ++ caps) W fun e W' => e = .returned (.bool (p x)) ∧ Below W.heap.size W W'
  below : ∀ W W', Keep W → Below W.heap.size W W' → Keep W'

set_option maxRecDepth 100000 in
set_option maxHeartbeats 1000000 in
theorem delBk_index {α : Type} (f0 f1 : α → Value) (p : α → Bool) (l : List α) (n : Nat) (hnl : n = l.length) (A : Option Addr) (c : Nat) (p0 p1 : Addr) (Keep : World → Prop) (w : World) (B : Nat)
    (hr : Reads w B 2 A n (cellsK (fun x => [f0 x, f1 x]) l)) (hB : B ≤ w.heap.size) (hn : n ≤ 5000000000000) (hp : PredK Try.prog 58 #[.pointer (some p0), .pointer (some p1)] (fun x => #[f0 x, f1 x]) p Keep) (hk0 : Keep w) :
    Calls Try.prog 78 #[.slice A n c, .func (.func 58) #[] #[.pointer (some p0), .pointer (some p1)]] w fun e w' => e = .returned (.int .i64 (firstI p l)) ∧ Below w.heap.size w w' ∧ Keep w' := by
  have HN := Lib.hid hnl
  have HP := Lib.hid hp
  clear hnl hp
  go_enter Try.func78, Try.ntmps78
  go_wp2_with fail
  go_loopw [8] (fun j wr => ∃ k : Nat, k ≤ n ∧ j = .int .i64 (k : Int) ∧ Hid (∀ y ∈ l.take k, p y = false) ∧ Below w.heap.size w wr ∧ Keep wr) (fun j _ => n - (intOf j).toNat)
  case atStart => exact ⟨0, Nat.zero_le _, rfl, (show ∀ y ∈ _, _ by simp), Below.refl _ _, hk0⟩
  case round =>
    obtain ⟨k, hk, rfl, hno, hbw, hkw⟩ := hrel
    by_cases hlt : k < n
    · have hki : (k : Int) < (n : Int) := by omega
      have hkl : k < l.length := by have := HN.out; omega
      obtain ⟨ad, rfl, _, c0, c1⟩ := (hr.below (hbw.mono hB)).el2 HN.out hlt
      obtain ⟨x, hx⟩ : ∃ x, x = l[k]'hkl := ⟨_, rfl⟩
      rw [← hx] at c0 c1
      have htk := List.take_succ_eq_append_getElem hkl
      rw [← hx] at htk
      have HTK := Lib.hid htk
      have HX := Lib.hid (show l[k]? = some x by rw [hx]; exact List.getElem?_eq_getElem _)
      have hc := HP.out.call x wr hkw
      obtain ⟨b, hb⟩ : ∃ b, b = p x := ⟨_, rfl⟩
      rw [← hb] at hc
      have HBX := Lib.hid hb
      simp only [List.append_toArray, List.cons_append, List.nil_append] at hc
      clear hx htk hr hb
      go_wp2_with fail
      refine hc.mono ?_
      clear hc
      rintro e w1 ⟨rfl, hb1⟩
      have hkw1 := HP.out.below wr w1 hkw hb1
      have hbw1 := hbw.trans (hb1.mono hbw.size)
      cases b with
      | true =>
        go_wp2_with fail
        go_ret
        have hf := firstP_eq p l k x hno.out HX.out HBX.out.symm
        exact ⟨by unfold firstI; rw [hf, if_pos hkl]; rfl, hbw1, hkw1⟩
      | false =>
        go_wp2_with fail
        go_roundw
        case rel =>
          refine ⟨k + 1, by omega, by go_num, ?_, hbw1, hkw1⟩
          show ∀ y ∈ l.take (k + 1), p y = false
          intro y hy
          rw [HTK.out] at hy
          rcases List.mem_append.1 hy with hy | hy
          · exact hno.out y hy
          · simp at hy; subst hy; exact HBX.out.symm
        case measure => simp [intOf]; omega
    · have hkn : k = n := by omega
      have HF : Hid (firstI p l = -1) := by
        show _ = _
        unfold firstI
        rw [firstP_none p l (fun y hy => hno.out y (by rw [List.take_of_length_le (by rw [hkn, HN.out]; exact Nat.le_refl _)]; exact hy)), if_neg (Nat.lt_irrefl _)]
      clear hr hkn
      go_wp2_with fail
      go_ret
      exact ⟨by rw [HF.out]; rfl, hbw, hkw⟩

/-! ### DeleteFunc -/
theorem Try.delBk_info : (Try.prog.info? 87).map (fun i => (i.zero, i.size, i.bytes)) = some (some (.agg #[.int .i64 0, .string ByteArray.empty]), 2, 24) := by kernel_rfl
/-- between two rounds: what stays lies at the beginning, what has not been looked at as it was -/
structure DelI {α : Type} (p : α → Bool) (l L : List α) (i j : Nat) : Prop where
  len : L.length = l.length
  le : i ≤ j
  jl : j ≤ l.length
  pre : L.take i = (l.take j).filter fun x => !p x
  suf : L.drop j = l.drop j
theorem DelI.keep {α : Type} {p : α → Bool} {l L : List α} {i j : Nat} {x : α} (h : DelI p l L i j) (hlt : i < j) (hx : l[j]? = some x) (hp : p x = false) : DelI p l (L.set i x) (i + 1) (j + 1) := by
  have hj := (List.getElem?_eq_some_iff.1 hx).1
  refine ⟨by rw [List.length_set]; exact h.len, by omega, by omega, ?_, ?_⟩
  · rw [List.take_succ_eq_append_getElem hj, List.filter_append, ← h.pre, (List.getElem?_eq_some_iff.1 hx).2]
    rw [List.take_succ_eq_append_getElem (by rw [List.length_set, h.len]; omega), List.take_set_of_le (Nat.le_refl _), List.getElem_set_self]
    simp [hp]
  · rw [List.drop_set_of_lt (by omega)]
    have := congrArg (List.drop 1) h.suf
    simpa using this
theorem DelI.skip {α : Type} {p : α → Bool} {l L : List α} {i j : Nat} {x : α} (h : DelI p l L i j) (hx : l[j]? = some x) (hp : p x = true) : DelI p l L i (j + 1) := by
  have hj := (List.getElem?_eq_some_iff.1 hx).1
  refine ⟨h.len, by have := h.le; omega, by omega, ?_, ?_⟩
  · rw [List.take_succ_eq_append_getElem hj, List.filter_append, ← h.pre, (List.getElem?_eq_some_iff.1 hx).2]
    simp [hp]
  · have := congrArg (List.drop 1) h.suf
    simpa using this
theorem DelI.get {α : Type} {p : α → Bool} {l L : List α} {i j : Nat} {x : α} (h : DelI p l L i j) (hx : l[j]? = some x) : L[j]? = some x := by
  have := congrArg (fun m => m[0]?) h.suf
  simpa [hx] using this
theorem cells_set {α : Type} {enc : α → List Value} {k : Nat} (hk : ∀ x, (enc x).length = k) (L : List α) (i : Nat) (x : α) (hi : i < L.length) : cellsK enc (L.set i x) = (cellsK enc L).take (i * k) ++ enc x ++ (cellsK enc L).drop ((i + 1) * k) := by
  rw [List.set_eq_take_append_cons_drop, if_pos hi, cellsK_append, show x :: L.drop (i + 1) = [x] ++ L.drop (i + 1) from rfl, cellsK_append, cellsK_one, cellsK_take hk, cellsK_drop hk, List.append_assoc]

theorem set_cells2 (xs : List Value) (v0 v1 : Value) (i : Nat) (h : (i + 1) * 2 ≤ xs.length) : ((xs.set (i * 2 + 0) v0).set (i * 2 + 1) v1) = xs.take (i * 2) ++ [v0, v1] ++ xs.drop ((i + 1) * 2) := by
  have e : xs = xs.take (i * 2) ++ (xs[i * 2 + 0]'(by omega) :: xs[i * 2 + 1]'(by omega) :: xs.drop ((i + 1) * 2)) := by
    conv => lhs; rw [← List.take_append_drop (i * 2) xs]
    congr 1
    rw [show (i + 1) * 2 = i * 2 + 2 by omega]
    rw [show xs.drop (i * 2) = xs.drop (i * 2 + 0) from rfl, List.drop_eq_getElem_cons (show i * 2 + 0 < xs.length by omega), List.drop_eq_getElem_cons (show i * 2 + 1 < xs.length by omega)]
  have hl : (xs.take (i * 2)).length = i * 2 := by rw [List.length_take]; omega
  generalize xs.take (i * 2) = P at e hl ⊢
  generalize xs.drop ((i + 1) * 2) = R at e ⊢
  generalize xs[i * 2 + 0]'(by omega) = x0 at e
  generalize xs[i * 2 + 1]'(by omega) = x1 at e
  rw [e]
  rw [List.set_append_right _ _ (by rw [hl]; omega), hl, show i * 2 + 0 - i * 2 = 0 by omega]
  rw [List.set_append_right _ _ (by rw [hl]; omega), hl, show i * 2 + 1 - i * 2 = 1 by omega]
  simp


set_option maxRecDepth 100000 in
set_option maxHeartbeats 2000000 in
theorem delBk_any (p : Int × List UInt8 → Bool) (l : List (Int × List UInt8)) (n : Nat) (hnl : n = l.length) (A0 : Option Addr) (cp base : Nat) (p0 p1 : Addr) (Keep : World → Prop) (w : World) (hown : w.ownsRow base 87 2 (.slice A0 n cp) n (cellsK (fun x : Int × List UInt8 => [Value.int .i64 x.1, Value.string ⟨x.2.toArray⟩]) l)) (hn : n ≤ 5000000000000)
    (hp : PredK Try.prog 58 #[.pointer (some p0), .pointer (some p1)] (fun x : Int × List UInt8 => #[Value.int .i64 x.1, Value.string ⟨x.2.toArray⟩]) p Keep) (hkg : ∀ W W', Keep W → W.grownBy W' (Value.slice A0 n cp).ownBlock → Keep W') (hk0 : Keep w) :
    Calls Try.prog 57 #[.slice A0 n cp, .func (.func 58) #[] #[.pointer (some p0), .pointer (some p1)]] w fun e w' =>
      ∃ v, e = .returned v ∧ w'.ownsRow base 87 2 v (l.filter fun x => !p x).length (cellsK (fun x : Int × List UInt8 => [Value.int .i64 x.1, Value.string ⟨x.2.toArray⟩]) (l.filter fun x => !p x)) ∧ w.grownBy w' (Value.slice A0 n cp).ownBlock := by
  have hidx := delBk_index (fun x : Int × List UInt8 => Value.int .i64 x.1) (fun x : Int × List UInt8 => Value.string ⟨x.2.toArray⟩) p l n hnl A0 cp p0 p1 Keep w w.heap.size (Reads.of_own hown) (Nat.le_refl _) hn hp hk0
  have hlen : ∀ x : Int × List UInt8, ((fun x : Int × List UInt8 => [Value.int .i64 x.1, Value.string ⟨x.2.toArray⟩]) x).length = 2 := fun _ => rfl
  by_cases hf : firstP p l < l.length
  · obtain ⟨i0, hi0⟩ : ∃ i0, i0 = firstP p l := ⟨_, rfl⟩
    have hfi : firstI p l = (i0 : Int) := by unfold firstI; rw [if_pos hf, hi0]
    rw [hfi] at hidx
    have hin : i0 < n := by omega
    have hx0 : ∃ x, l[i0]? = some x ∧ p x = true := by
      obtain ⟨x, hx⟩ : ∃ x, l[i0]? = some x := ⟨_, List.getElem?_eq_getElem (by omega)⟩
      refine ⟨x, hx, ?_⟩
      have h1 : (l.takeWhile fun x => !p x) = l.take i0 := by
        rw [hi0]
        unfold firstP
        exact List.prefix_iff_eq_take.1 (List.takeWhile_prefix _)
      have h2 := List.takeWhile_append_dropWhile (p := fun x => !p x) (l := l)
      rw [h1] at h2
      have h3 : l.dropWhile (fun x => !p x) = l.drop i0 := List.append_cancel_left (h2.trans (List.take_append_drop i0 l).symm)
      have h4 : l.drop i0 = x :: l.drop (i0 + 1) := by
        rw [List.drop_eq_getElem_cons (by omega)]
        congr 1
        exact (List.getElem?_eq_some_iff.1 hx).2
      rw [h4] at h3
      have h5 := List.head_dropWhile_not (fun x => !p x) (l := l) (by rw [h3]; simp)
      simp only [h3, List.head_cons] at h5
      simpa using h5
    have hD0 : DelI p l l i0 (i0 + 1) := by
      obtain ⟨x, hx, hpx⟩ := hx0
      have hj := (List.getElem?_eq_some_iff.1 hx).1
      refine ⟨rfl, by omega, by omega, ?_, rfl⟩
      rw [List.take_succ_eq_append_getElem hj, List.filter_append, (List.getElem?_eq_some_iff.1 hx).2, List.filter_eq_self.2 (fun y hy => by rw [hi0] at hy; simp [firstP_before p l y hy])]
      simp [hpx]
    rcases hown.2 with ⟨_, h0⟩ | ⟨g, cap, cur, hs, hbg, _, hnc, hcm, _, _⟩
    · omega
    · injection hs with e1 _ e2
      subst e1 e2
      have hkg : ∀ W W', Keep W → W.grownBy W' (some g) → Keep W' := hkg
      have HD0 := Lib.hid hD0
      have HN := Lib.hid hnl
      have HP := Lib.hid hp
      have HOWN0 := Lib.hid hown
      have hgw := hown.lt g rfl
      unfold maxLen at hcm
      have hib : ((i0 : Int) == -1) = false := by simp <;> omega
      clear hi0 hfi hf hx0 hD0 hnl hp hown hk0
      go_enter Try.func57, Try.ntmps57
      go_wp2_with fail
      refine hidx.mono ?_
      clear hidx
      rintro e w1 ⟨rfl, hb1, hk1⟩
      have hown1 := own_below HOWN0.out hb1
      have hgr1 : w.grownBy w1 (some g) := ⟨hb1.os, hb1.tape, hb1.output, hb1.size, fun k hk _ => hb1.block k hk⟩
      clear hb1
      go_wp2_with fail
      go_loopw [5, 6] (fun vi vj wr => ∃ (i j : Nat) (L : List (Int × List UInt8)), vi = .int .i64 (i : Int) ∧ vj = .int .i64 (j : Int) ∧ i < j ∧ j ≤ n ∧ Hid (DelI p l L i j) ∧ wr.ownsRow base 87 2 (.slice (some ⟨g, 0, none⟩) n cp) n (cellsK (fun x : Int × List UInt8 => [Value.int .i64 x.1, Value.string ⟨x.2.toArray⟩]) L) ∧ w.grownBy wr (some g) ∧ Keep wr) (fun _ vj _ => n - (intOf vj).toNat)
      case atStart => exact ⟨i0, i0 + 1, l, rfl, by go_num, by omega, by omega, HD0, hown1, hgr1, hk1⟩
      case round =>
        obtain ⟨i, j, L, rfl, rfl, hij, hjn, hD, hownr, hgrr, hkr⟩ := hrel
        clear hown1 hgr1 hk1
        have hwsz := hgrr.size
        by_cases hlt : j < n
        · have hji : (j : Int) < (n : Int) := by omega
          have hii : (i : Int) < (n : Int) := by omega
          have hjl : j < l.length := by have := HN.out; omega
          obtain ⟨x, hx⟩ : ∃ x, x = l[j]'hjl := ⟨_, rfl⟩
          have hxl : l[j]? = some x := by rw [hx]; exact List.getElem?_eq_getElem _
          have hxL := hD.out.get hxl
          have hLl := hD.out.len
          have hjL : j < L.length := by omega
          have hiL : i < L.length := by omega
          have hel := fun d (hd : d < 2) => (hownr.cellAt (j * 2 + d) (by omega)).trans (cellsK_get hlen L j hjL d hd)
          rw [(List.getElem?_eq_some_iff.1 hxL).2] at hel

          have c0 := hel 0 (by omega)
          have c1 := hel 1 (by omega)
          have hci := fun d (hd : d < 2) => (hownr.cellAt (i * 2 + d) (by omega)).trans (cellsK_get hlen L i hiL d hd)
          have d0 := hci 0 (by omega)
          have q0 := hownr.frozenAt (i * 2 + 0)
          have d1 := hci 1 (by omega)
          have q1 := hownr.frozenAt (i * 2 + 1)
          generalize L[i]'hiL = y0 at d0 d1
          have hc := fun W hk => HP.out.call x W hk
          simp only [List.append_toArray, List.cons_append, List.nil_append] at hc
          obtain ⟨b, hb⟩ : ∃ b, b = p x := ⟨_, rfl⟩
          rw [← hb] at hc
          have HBX := Lib.hid hb
          have HXL := Lib.hid hxl
          have HLL := Lib.hid hLl
          clear hx hb hel hci hxL hxl hLl
          obtain ⟨xi, xs⟩ := x
          simp only [List.getElem?_cons_zero, List.getElem?_cons_succ, Nat.add_zero] at c0 d0 c1 d1
          simp only at hc
          have hgal : wr.grownBy (wr.alloc (.cells #[Value.int .i64 xi, Value.string ⟨xs.toArray⟩] 87)) (some g) := ⟨rfl, rfl, rfl, by simp, fun k hk _ => Below.heap_alloc wr _ k hk⟩
          have hka := hkg wr _ hkr hgal
          have hcc := hc _ hka
          have hgr3 := hgrr.trans hgal
          have hblk := Blk.new wr 87 #[Value.int .i64 xi, Value.string ⟨xs.toArray⟩]
          have hown3 := hownr.alloc (.cells #[Value.int .i64 xi, Value.string ⟨xs.toArray⟩] 87)
          have HOWN3 := Lib.hid hown3
          have HGR3 := Lib.hid hgr3
          have HBLK := Lib.hid hblk
          have hglt : g < wr.heap.size := by omega
          clear hc hownr hgrr hkr hgal hgr3 hblk hown3
          go_wp2_with fail
          refine hcc.mono ?_
          clear hcc
          rintro e w2 ⟨rfl, hb2⟩
          have hgb2 : (wr.alloc (.cells #[Value.int .i64 xi, Value.string ⟨xs.toArray⟩] 87)).grownBy w2 (some g) := ⟨hb2.os, hb2.tape, hb2.output, hb2.size, fun k hk _ => hb2.block k hk⟩
          have hk2 := hkg _ _ hka hgb2
          have HGR2 := Lib.hid (HGR3.out.trans hgb2)
          have HOWN2 := Lib.hid (own_below HOWN3.out hb2)
          have hbx := HBLK.out.below hb2 (by simp)
          have b0 := hbx.cell 0
          have b1 := hbx.cell 1
          have e0 : w2.cell? ⟨g, i * 2, none⟩ = some _ := (World.cell?_of_block (hb2.block g (by simp; omega))).trans ((World.cell?_alloc_lt wr _ ⟨g, i * 2, none⟩ hglt).trans d0)
          have r0 := HOWN2.out.frozenAt (i * 2)
          have e1 : w2.cell? ⟨g, i * 2 + 1, none⟩ = some _ := (World.cell?_of_block (hb2.block g (by simp; omega))).trans ((World.cell?_alloc_lt wr _ ⟨g, i * 2 + 1, none⟩ hglt).trans d1)
          have r1 := HOWN2.out.frozenAt (i * 2 + 1)
          clear hgb2 hka hb2 HOWN3 HGR3
          cases b with
          | true =>
            go_wp2_with fail
            go_roundw
            case rel => exact ⟨i, j + 1, L, rfl, by go_num, by omega, by omega, hD.out.skip HXL.out HBX.out.symm, HOWN2.out, HGR2.out, hk2⟩
            case measure => simp [intOf]; omega
          | false =>
            have hst := Lib.hid ((HOWN2.out.stored (i * 2 + 0) (Value.int .i64 xi)).1.stored (i * 2 + 1) (Value.string ⟨xs.toArray⟩))
            have hst2 : Hid (w2.grownBy _ (some g)) := Lib.hid (((HOWN2.out.stored (i * 2 + 0) (Value.int .i64 xi)).2).trans ((HOWN2.out.stored (i * 2 + 0) (Value.int .i64 xi)).1.stored (i * 2 + 1) (Value.string ⟨xs.toArray⟩)).2)
            clear HOWN2
            go_wp2_with fail
            go_roundw
            case rel =>
              refine ⟨i + 1, j + 1, L.set i (xi, xs), by go_num, by go_num, by omega, by omega, hD.out.keep hij HXL.out HBX.out.symm, ?_, ?_, ?_⟩
              · have h1 := hst.out.1
                rw [set_cells2 _ (Value.int .i64 xi) (Value.string ⟨xs.toArray⟩) i (by rw [cellsK_length hlen]; omega)] at h1
                rw [cells_set hlen L i (xi, xs) hiL]
                exact h1
              · exact HGR2.out.trans hst2.out
              · exact hkg _ _ hk2 hst2.out
            case measure => simp [intOf]; omega
        · obtain rfl : j = n := by omega
          have hif : (l.filter fun x => !p x) = L.take i := by
            have h1 := hD.out.pre
            rw [List.take_of_length_le (l := l) (by rw [HN.out]; exact Nat.le_refl _)] at h1
            exact h1.symm
          have HIF := Lib.hid hif
          have hLl := hD.out.len
          have HLL := Lib.hid hLl
          rcases hownr.2 with ⟨h0, _⟩ | ⟨g', cap', cur', hs', _, hh', _, _, hsz', hx'⟩
          · cases h0
          · injection hs' with q1 _ q2
            injection q1 with q1
            injection q1 with q1
            subst q1 q2
            have hcl : cur'.toList.length = cp * 2 := by simpa using hsz'
            have HH := Lib.hid (show wr.heap[g]? = some (.cells cur'.toList.toArray 87 (0, 0)) by simpa using hh')
            have HX := Lib.hid hx'
            have HCL := Lib.hid hcl
            have HGR := Lib.hid hgrr
            generalize cur'.toList = cur2 at HH HX HCL
            have hcpi : ¬ cp = i := by omega
            have HFT := Lib.hid (show i * 2 + (j - i) * (Value.cells (.agg #[.int .i64 0, .string ByteArray.empty])).size ≤ cur2.length from (show i * 2 + (j - i) * 2 ≤ cur2.length by rw [HCL.out]; omega))
            have HZ1 := Lib.hid (show ∀ u ∈ (Value.cells (.agg #[.int .i64 0, .string ByteArray.empty])).toList, u.oneCell' = true by simp [Value.cells, Value.oneCell'])
            have HZV := Lib.hid (show ∀ w, (zeroValue 87).run Try.prog w = .ok (.agg #[.int .i64 0, .string ByteArray.empty]) w from fun w => Try.zeroValue87 w)
            clear hownr hLl hif hh' hsz' hx' hcl hgrr
            go_wp2_with (with_reducible refine wpList_clearK rfl (.tmp 38) 22 rfl 87 (.agg #[.int .i64 0, .string ByteArray.empty]) Try.underlying22 HZV.out HZ1.out g (i * 2) (j - i) (cp - i) rfl cur2 87 HH.out HFT.out ?_; intro w5 zs hzl hg5 hgr5)
            go_ret
            have hLi : (L.take i).length = i := by rw [List.length_take, HLL.out, ← HN.out]; omega
            rw [HIF.out, hLi]
            refine ⟨_, rfl, ?_, HGR.out.trans hgr5⟩
            have hzl : zs.length = (j - i) * 2 := hzl
            refine own_of_row hg5.out hbg (by omega) (by unfold maxLen; omega) ?_ ?_
            · rw [length_splice _ _ _ (by rw [hzl, HCL.out]; omega)]; exact HCL.out
            · unfold splice
              rw [List.take_append_of_le_length (by rw [List.length_take, HCL.out]; omega), List.take_take, Nat.min_self, cellsK_take hlen, ← HX.out, List.take_take, Nat.min_eq_left (by omega)]
  · have hfe : firstP p l = l.length := by have := firstP_le p l; omega
    have hfi : firstI p l = -1 := by unfold firstI; rw [if_neg hf]
    rw [hfi] at hidx
    have hfl : (l.filter fun x => !p x) = l := by
      rw [List.filter_eq_self]
      intro x hx
      have h1 := firstP_before p l
      rw [hfe, List.take_length] at h1
      simp [h1 x hx]
    have HFL := Lib.hid hfl
    have HN := Lib.hid hnl
    have HOWN := Lib.hid hown
    clear hfe hfi hfl hf hnl hown hp hkg
    go_enter Try.func57, Try.ntmps57
    go_wp2_with fail
    refine hidx.mono ?_
    clear hidx
    rintro e w1 ⟨rfl, hb1, hk1⟩
    go_wp2_with fail
    go_ret
    refine ⟨_, rfl, ?_, ⟨hb1.os, hb1.tape, hb1.output, hb1.size, fun k hk _ => hb1.block k hk⟩⟩
    rw [HFL.out, ← HN.out]
    exact own_below HOWN.out hb1

end Go.Proofs.Ytcbeadldieeceaa

/-
  blocks.Free, by its contract.
-/
namespace Go.Proofs.Ytcbeadldieeceaa
open Go.RowKit

def inB (i c : Int) (x : Int × List UInt8) : Bool := decide (i ≤ x.1) && decide (x.1 < i + c)
def freeE (l : BL) (i c : Int) : Int := if okL l = true then (if 0 ≤ i ∧ i < 1024 ∧ 1 ≤ c ∧ c ≤ 1024 - i then 0 else 4) else 9
def freeL (l : BL) (i c : Int) : BL := l.filter fun x => !inB i c x
def freeR (l : BL) (i c : Int) : BL := if freeE l i c = 0 then freeL l i c else []
def FreePost (w : World) (l : BL) (i c : Int) (e : Ending) (w' : World) : Prop :=
  ∃ v, e = .returned (.tuple #[v, .int .i64 (freeE l i c)]) ∧ w'.ownsRow w.heap.size 87 2 v (freeR l i c).length (bcells (freeR l i c)) ∧ Below w.heap.size w w'

set_option maxRecDepth 100000 in
theorem inB_any (x i c : Int) (s : ByteArray) (p0 p1 : Addr) (hi : 0 ≤ i ∧ i < 1024) (hc : 1 ≤ c ∧ c ≤ 1024) (w : World) (h0 : w.cell? p0 = some (.int .i64 i)) (h1 : w.cell? p1 = some (.int .i64 c)) :
    Calls Try.prog 58 #[.agg #[.int .i64 x, .string s], .pointer (some p0), .pointer (some p1)] w fun e w' => e = .returned (.bool (decide (i ≤ x) && decide (x < i + c))) ∧ Below w.heap.size w w' := by
  have hb0 := (Below.refl w.heap.size w).alloc (Nat.le_refl _) (.cells #[.int .i64 x, .string s] 87)
  have hcx := (Blk.new w 87 #[.int .i64 x, .string s]).cell 0
  have l0 := block_lt_of_cell h0
  have l1 := block_lt_of_cell h1
  have k0 := (World.cell?_alloc_lt w (.cells #[.int .i64 x, .string s] 87) p0 l0).trans h0
  have k1 := (World.cell?_alloc_lt w (.cells #[.int .i64 x, .string s] 87) p1 l1).trans h1
  by_cases hx : i ≤ x
  · go_enter Try.func58, Try.ntmps58
    go_wp2_with fail
    go_ret
    exact ⟨by simp [hx], hb0⟩
  · go_enter Try.func58, Try.ntmps58
    go_wp2_with fail
    go_ret
    exact ⟨by simp; intro h; omega, hb0⟩

set_option maxRecDepth 100000 in
set_option maxHeartbeats 2000000 in
theorem bkFree_any (l : BL) (n : Nat) (hnl : n = l.length) (A : Option Addr) (cp : Nat) (i c : Int) (w : World) (B : Nat) (hr : Reads w B 2 A n (bcells l)) (hB : B ≤ w.heap.size) (hn : n ≤ 5000000000000) :
    Calls Try.prog 38 #[.slice A n cp, .int .i64 i, .int .i64 c] w (FreePost w l i c) := by
  obtain ⟨W1, hW1⟩ : ∃ W1, W1 = (w.alloc (.cells #[.int .i64 i] 3)).alloc (.cells #[.int .i64 c] 3) := ⟨_, rfl⟩
  have hb0 : Below w.heap.size w W1 := by rw [hW1]; exact ((Below.refl _ w).alloc (Nat.le_refl _) _).alloc (by simp) _
  have hs0 : W1.heap.size = w.heap.size + 2 := by rw [hW1]; simp
  have hbi : Blk W1 w.heap.size 3 #[.int .i64 i] := by rw [hW1]; exact (Blk.new w _ _).alloc _
  have hbc : Blk W1 (w.heap.size + 1) 3 #[.int .i64 c] := by
    rw [hW1]
    have := Blk.new (w.alloc (.cells #[.int .i64 i] 3)) 3 #[.int .i64 c]
    simpa using this
  have hck := checkBk_any l n hnl A cp W1 B (hr.below (hb0.mono hB)) (by have := hb0.size; omega) (by omega)
  by_cases hok : okL l = true
  · have h1 : okE l = 0 := by unfold okE; rw [if_pos hok]
    rw [h1] at hck
    by_cases hi : 0 ≤ i ∧ i < 1024 ∧ 1 ≤ c ∧ c ≤ 1024 - i
    · have hfe : freeE l i c = 0 := by unfold freeE; rw [if_pos hok, if_pos hi]
      have hfr : freeR l i c = freeL l i c := by unfold freeR; rw [if_pos hfe]
      have hcl := fun w' (hb : Below w.heap.size w w') => cloneB_any (bcells l) n A cp w' B (hr.below (hb.mono hB)) (by have := hb.size; omega) (bcells_one l) hn
      obtain ⟨i1, i2, i3, i4⟩ := hi
      have HFE := Lib.hid hfe
      have HFR := Lib.hid hfr
      have HN := Lib.hid hnl
      have HB0 := Lib.hid hb0
      have HBI := Lib.hid hbi
      have HBC := Lib.hid hbc
      have HS0 := Lib.hid hs0
      have HW1 := Lib.hid hW1.symm
      clear hfe hfr h1 hok hnl hr hb0 hbi hbc hs0
      have g0 : W1.cell? ⟨w.heap.size, 0, none⟩ = some (.int .i64 i) := HBI.out.cell 0
      have g1 : W1.cell? ⟨w.heap.size + 1, 0, none⟩ = some (.int .i64 c) := HBC.out.cell 0
      clear hW1
      go_enter Try.func38, Try.ntmps38
      go_wp2_with fail
      rw [HW1.out]
      refine hck.mono ?_
      clear hck
      rintro e w1 ⟨rfl, hb1⟩
      have hbw1 := HB0.out.trans (hb1.mono HB0.out.size)
      have q0 : w1.cell? ⟨w.heap.size, 0, none⟩ = some (.int .i64 i) := (hb1.cell (by have := HS0.out; show w.heap.size < _; omega)).trans g0
      have q1 : w1.cell? ⟨w.heap.size + 1, 0, none⟩ = some (.int .i64 c) := (hb1.cell (by have := HS0.out; show w.heap.size + 1 < _; omega)).trans g1
      have hcl1 := hcl w1 hbw1
      have hsz1 : w.heap.size + 2 ≤ w1.heap.size := by have := hb1.size; have := HS0.out; omega
      clear hcl g0 g1 hb1
      go_wp2_with fail
      refine hcl1.mono ?_
      clear hcl1
      rintro e w2 ⟨v2, rfl, hown2, hb2⟩
      obtain ⟨A2, c2, rfl, _, _, _⟩ := own_form hown2
      have r0 : w2.cell? ⟨w.heap.size, 0, none⟩ = some (.int .i64 i) := (hb2.cell (by show w.heap.size < _; omega)).trans q0
      have r1 : w2.cell? ⟨w.heap.size + 1, 0, none⟩ = some (.int .i64 c) := (hb2.cell (by show w.heap.size + 1 < _; omega)).trans q1
      have hbw2 := hbw1.trans (hb2.mono hbw1.size)
      have hnb : ∀ k, (Value.slice A2 n c2).ownBlock = some k → w.heap.size + 2 ≤ k := fun k hk => by have := (hown2.lt k hk).1; omega
      have hdel := delBk_any (inB i c) l n HN.out A2 c2 w1.heap.size ⟨w.heap.size, 0, none⟩ ⟨w.heap.size + 1, 0, none⟩
        (fun W => W.cell? ⟨w.heap.size, 0, none⟩ = some (.int .i64 i) ∧ W.cell? ⟨w.heap.size + 1, 0, none⟩ = some (.int .i64 c)) w2 hown2 hn
        ⟨fun x W hk => inB_any x.1 i c _ _ _ ⟨i1, i2⟩ ⟨i3, by omega⟩ W hk.1 hk.2, fun W W' hk hb => ⟨(hb.cell (block_lt_of_cell hk.1)).trans hk.1, (hb.cell (block_lt_of_cell hk.2)).trans hk.2⟩⟩
        (fun W W' hk hg => ⟨hg.cell hk.1 (fun e => by have h : w.heap.size + 2 ≤ w.heap.size := hnb _ e.symm; omega), hg.cell hk.2 (fun e => by have h : w.heap.size + 2 ≤ w.heap.size + 1 := hnb _ e.symm; omega)⟩) ⟨r0, r1⟩
      have HNB := Lib.hid hnb
      have HBW := Lib.hid hbw2
      clear q0 q1 r0 r1 hown2 hb2 hbw1 hnb hbw2
      go_wp2_with fail
      refine hdel.mono ?_
      clear hdel
      rintro e w3 ⟨v3, rfl, hown3, hgr3⟩
      have HO := Lib.hid hown3
      have HG := Lib.hid hgr3
      clear hown3 hgr3
      go_wp2_with fail
      go_ret2
      refine ⟨v3, by rw [HFE.out]; rfl, ?_, HBW.out.grown HG.out HBW.out.size (fun k hk => by have := HNB.out k hk; omega)⟩
      rw [HFR.out]
      exact own_mono HO.out (by omega)
    · have hfe : freeE l i c = 4 := by unfold freeE; rw [if_pos hok, if_neg hi]
      have hfr : freeR l i c = [] := by unfold freeR; rw [if_neg (by omega)]
      have HFE := Lib.hid hfe
      have HFR := Lib.hid hfr
      have HB0 := Lib.hid hb0
      have HW1 := Lib.hid hW1.symm
      have hs1 : w.heap.size + 1 < W1.heap.size := by omega
      have g0 : W1.cell? ⟨w.heap.size, 0, none⟩ = some (.int .i64 i) := hbi.cell 0
      have g1 : W1.cell? ⟨w.heap.size + 1, 0, none⟩ = some (.int .i64 c) := hbc.cell 0
      clear hfe hfr h1 hok hnl hr hb0 hbi hbc hs0 hW1
      have hw : 0 ≤ i → i < 1024 → IntKind.i64.wrap (1024 - i) = 1024 - i := fun _ _ => IntWalk.i64_in _ (by omega)
      by_cases ha : i < 0
      · clear hi hw
        go_enter Try.func38, Try.ntmps38
        go_wp2_with fail
        rw [HW1.out]
        refine hck.mono ?_
        clear hck
        rintro e w1 ⟨rfl, hb1⟩
        have q0 := (hb1.cell (p := ⟨w.heap.size, 0, none⟩) (by show w.heap.size < _; omega)).trans g0
        have q1 := (hb1.cell (p := ⟨w.heap.size + 1, 0, none⟩) hs1).trans g1
        go_wp2_with fail
        go_ret2
        refine ⟨.slice none 0 0, by rw [HFE.out]; rfl, ?_, HB0.out.trans (hb1.mono HB0.out.size)⟩
        rw [HFR.out]
        exact World.ownsRow_nil _ _ _ _
      by_cases hb : 1024 ≤ i
      · have ha' : 0 ≤ i := by omega
        clear hi hw ha
        go_enter Try.func38, Try.ntmps38
        go_wp2_with fail
        rw [HW1.out]
        refine hck.mono ?_
        clear hck
        rintro e w1 ⟨rfl, hb1⟩
        have q0 := (hb1.cell (p := ⟨w.heap.size, 0, none⟩) (by show w.heap.size < _; omega)).trans g0
        have q1 := (hb1.cell (p := ⟨w.heap.size + 1, 0, none⟩) hs1).trans g1
        go_wp2_with fail
        go_ret2
        refine ⟨.slice none 0 0, by rw [HFE.out]; rfl, ?_, HB0.out.trans (hb1.mono HB0.out.size)⟩
        rw [HFR.out]
        exact World.ownsRow_nil _ _ _ _
      have ha' : 0 ≤ i := by omega
      have hb' : i < 1024 := by omega
      by_cases hc : c < 1
      · clear hi hw ha hb
        go_enter Try.func38, Try.ntmps38
        go_wp2_with fail
        rw [HW1.out]
        refine hck.mono ?_
        clear hck
        rintro e w1 ⟨rfl, hb1⟩
        have q0 := (hb1.cell (p := ⟨w.heap.size, 0, none⟩) (by show w.heap.size < _; omega)).trans g0
        have q1 := (hb1.cell (p := ⟨w.heap.size + 1, 0, none⟩) hs1).trans g1
        go_wp2_with fail
        go_ret2
        refine ⟨.slice none 0 0, by rw [HFE.out]; rfl, ?_, HB0.out.trans (hb1.mono HB0.out.size)⟩
        rw [HFR.out]
        exact World.ownsRow_nil _ _ _ _
      · have hc' : 1 ≤ c := by omega
        have hd : 1024 - i < c := by omega
        have hw := hw ha' hb'
        clear hi ha hb hc
        go_enter Try.func38, Try.ntmps38
        go_wp2_with fail
        rw [HW1.out]
        refine hck.mono ?_
        clear hck
        rintro e w1 ⟨rfl, hb1⟩
        have q0 := (hb1.cell (p := ⟨w.heap.size, 0, none⟩) (by show w.heap.size < _; omega)).trans g0
        have q1 := (hb1.cell (p := ⟨w.heap.size + 1, 0, none⟩) hs1).trans g1
        go_wp2_with fail
        go_ret2
        refine ⟨.slice none 0 0, by rw [HFE.out]; rfl, ?_, HB0.out.trans (hb1.mono HB0.out.size)⟩
        rw [HFR.out]
        exact World.ownsRow_nil _ _ _ _
  · have h1 : okE l = 9 := by unfold okE; rw [if_neg hok]
    rw [h1] at hck
    have hfe : freeE l i c = 9 := by unfold freeE; rw [if_neg hok]
    have hfr : freeR l i c = [] := by unfold freeR; rw [if_neg (by omega)]
    have HFE := Lib.hid hfe
    have HFR := Lib.hid hfr
    have HB0 := Lib.hid hb0
    have HW1 := Lib.hid hW1.symm
    clear hfe hfr h1 hok hnl hr hb0 hbi hbc hs0 hW1
    go_enter Try.func38, Try.ntmps38
    go_wp2_with fail
    rw [HW1.out]
    refine hck.mono ?_
    clear hck
    rintro e w1 ⟨rfl, hb1⟩
    go_wp2_with fail
    go_ret2
    refine ⟨.slice none 0 0, by rw [HFE.out]; rfl, ?_, HB0.out.trans (hb1.mono HB0.out.size)⟩
    rw [HFR.out]
    exact World.ownsRow_nil _ _ _ _
end Go.Proofs.Ytcbeadldieeceaa
