/-
  The plain law of names: what names and paths are, and what the statements of chapter 03 say of them.
-/
import Derived.WalkKit
import Derived.Sort.Walk0
import Derived.Sort.KeysCollected
import Derived.Deep.Quiet
import Derived.Deep.QuietTactic
import Derived.Handy
import Derived.Test.YtcbeadldieeceaaRows
import Derived.Test.YtcbeadldieeceaaZ1
import Derived.Test.YtcbeadldieeceaaZ2
import Derived.Test.YtcbeadldieeceaaZ3
namespace Go.Proofs.Ytcbeadldieeceaa

def okB (c : UInt8) : Bool := (97 ≤ c && c ≤ 122) || (48 ≤ c && c ≤ 57) || c == 45 || c == 95
def nameB (s : List UInt8) : Bool := !s.isEmpty && decide (s.length ≤ 16) && s.all okB
/-- the parts between slashes -/
def partsL : List UInt8 → List (List UInt8)
  | [] => [[]]
  | c :: r => if c = 47 then [] :: partsL r else match partsL r with
    | p :: ps => (c :: p) :: ps
    | [] => [[c]]
def pathB (s : List UInt8) : Bool := s.isEmpty || (decide ((partsL s).length ≤ 4) && (partsL s).all nameB)
/-- where the last slash stands, or 0 -/
def lastS : List UInt8 → Option Nat
  | [] => none
  | c :: r => match lastS r with
    | some k => some (k + 1)
    | none => if c = 47 then some 0 else none
def upL (s : List UInt8) : List UInt8 := s.take ((lastS s).getD 0)
def underB (p f : List UInt8) : Bool := pathB p && pathB f && (f.isEmpty || p == f || (f ++ [47]).isPrefixOf p)

theorem partsL_ne (s : List UInt8) : partsL s ≠ [] := by
  cases s with
  | nil => simp [partsL]
  | cons c r =>
    unfold partsL
    split
    · simp
    · split <;> simp
theorem lastS_none (s : List UInt8) (h : lastS s = none) : partsL s = [s] := by
  induction s with
  | nil => rfl
  | cons c r ih =>
    unfold lastS at h
    split at h
    · cases h
    · rename_i hr
      split at h
      · cases h
      · rename_i hc
        unfold partsL
        rw [if_neg hc, ih hr]
theorem lastS_some (s : List UInt8) (k : Nat) (h : lastS s = some k) : k < s.length ∧ s[k]? = some 47 ∧ partsL s = partsL (s.take k) ++ [s.drop (k + 1)] := by
  induction s generalizing k with
  | nil => cases h
  | cons c r ih =>
    unfold lastS at h
    split at h
    · rename_i j hj
      cases h
      obtain ⟨h1, h2, h3⟩ := ih j hj
      refine ⟨by simpa using h1, by simpa using h2, ?_⟩
      rw [List.take_succ_cons, List.drop_succ_cons]
      unfold partsL
      by_cases hc : c = 47
      · rw [if_pos hc, if_pos hc, h3]; rfl
      · rw [if_neg hc, if_neg hc, h3]
        cases hp : partsL (r.take j) with
        | nil => exact absurd hp (partsL_ne _)
        | cons p ps => rfl
    · rename_i hr
      split at h
      · rename_i hc
        cases h
        refine ⟨by simp, by simp [hc], ?_⟩
        unfold partsL
        rw [if_pos hc, lastS_none r hr]
        rfl
      · cases h
theorem pathB_nil : pathB [] = true := rfl
theorem nameB_nil : nameB [] = false := rfl
theorem path_up (s : List UInt8) (hp : pathB s = true) (hs : s ≠ []) : pathB (upL s) = true ∧ underB s (upL s) = true ∧ underB (upL s) s = false := by
  have hsb : s.isEmpty = false := by cases s <;> simp_all
  cases hl : lastS s with
  | none =>
    have hu : upL s = [] := by simp [upL, hl]
    rw [hu]
    refine ⟨rfl, by simp [underB, hp, pathB_nil], ?_⟩
    have h1 : (s ++ [47]).isPrefixOf [] = false := by
      cases h : (s ++ [47]).isPrefixOf [] with
      | false => rfl
      | true => have := (List.isPrefixOf_iff_prefix.1 h).length_le; simp at this
    have h2 : (([] : List UInt8) == s) = false := by simpa using hs
    simp [underB, hsb, h1, h2]
  | some k =>
    obtain ⟨h1, h2, h3⟩ := lastS_some s k hl
    have hu : upL s = s.take k := by simp [upL, hl]
    rw [hu]
    have hp2 : decide ((partsL s).length ≤ 4) = true ∧ (partsL s).all nameB = true := by
      unfold pathB at hp
      simp only [hsb, Bool.false_or, Bool.and_eq_true] at hp
      exact hp
    rw [h3, List.all_append, Bool.and_eq_true, List.length_append] at hp2
    have hup : pathB (s.take k) = true := by
      unfold pathB
      have hl4 : (partsL (s.take k)).length ≤ 4 := by have := of_decide_eq_true hp2.1; simp at this; omega
      simp [hp2.2.1, hl4]
    have hpre : ((s.take k) ++ [47]).isPrefixOf s = true := by
      rw [List.isPrefixOf_iff_prefix]
      refine ⟨s.drop (k + 1), ?_⟩
      have h4 : s[k] = 47 := by rw [List.getElem?_eq_getElem h1] at h2; exact Option.some.inj h2
      rw [← h4, ← List.take_succ_eq_append_getElem h1, List.take_append_drop]
    refine ⟨hup, by simp [underB, hp, hup, hpre], ?_⟩
    have hq : (s ++ [47]).isPrefixOf (s.take k) = false := by
      cases h : (s ++ [47]).isPrefixOf (s.take k) with
      | false => rfl
      | true =>
        have := (List.isPrefixOf_iff_prefix.1 h).length_le
        simp at this
        omega
    have hne : (s.take k == s) = false := by
      simp only [beq_eq_false_iff_ne, ne_eq]
      intro e
      have := congrArg List.length e
      rw [List.length_take] at this
      omega
    simp [underB, hsb, hq, hne]
theorem under_self (s : List UInt8) (hp : pathB s = true) : underB s s = true ∧ underB s [] = true := by
  constructor
  · simp [underB, hp]
  · simp [underB, hp, pathB_nil]
theorem under_both (s t : List UInt8) (h1 : underB s t = true) (h2 : underB t s = true) : s = t := by
  unfold underB at h1 h2
  simp only [Bool.and_eq_true, Bool.or_eq_true, List.isEmpty_iff, beq_iff_eq, List.isPrefixOf_iff_prefix] at h1 h2
  rcases h1.2 with (h | h) | h
  · rcases h2.2 with (h' | h') | h'
    · rw [h, h']
    · exact h'.symm
    · have := h'.length_le
      rw [h] at this
      simp at this
  · exact h
  · rcases h2.2 with (h' | h') | h'
    · have := h.length_le
      rw [h'] at this
      simp at this
    · exact h'.symm
    · have e1 := h.length_le
      have e2 := h'.length_le
      simp at e1 e2
      omega

/-! ### What comes back -/
def lowB (c : UInt8) : UInt8 := if 65 ≤ c ∧ c ≤ 90 then c + 32 else c
def trimL (s : List UInt8) : List UInt8 := if s.getLast? = some 47 then s.dropLast else s
def canonL (s : List UInt8) : List UInt8 := trimL (s.map lowB)
/-- what stands before the first '@', and behind it -/
def atL : List UInt8 → Option (List UInt8 × List UInt8)
  | [] => none
  | c :: r => if c = 64 then some ([], r) else match atL r with
    | some (p, n) => some (c :: p, n)
    | none => none
theorem okB_lower (c : UInt8) (h : okB c = true) : lowB c = c := by
  unfold lowB
  rw [if_neg]
  rintro ⟨h1, h2⟩
  unfold okB at h
  simp only [Bool.or_eq_true, Bool.and_eq_true, decide_eq_true_eq, beq_iff_eq, UInt8.le_iff_toNat_le] at h h1 h2
  have e1 : (65 : UInt8).toNat = 65 := rfl
  have e2 : (90 : UInt8).toNat = 90 := rfl
  have e3 : (97 : UInt8).toNat = 97 := rfl
  have e4 : (57 : UInt8).toNat = 57 := rfl
  rcases h with ((h | h) | h) | h
  · omega
  · omega
  · subst h; simp at h1
  · subst h; simp at h2
theorem parts_all (s : List UInt8) (p : List UInt8 → Bool) (q : UInt8 → Prop) (hp : ∀ x, p x = true → ∀ c ∈ x, q c) (h : (partsL s).all p = true) (h47 : q 47) : ∀ c ∈ s, q c := by
  induction s with
  | nil => intro c hc; cases hc
  | cons a r ih =>
    intro c hc
    unfold partsL at h
    by_cases ha : a = 47
    · rw [if_pos ha, List.all_cons, Bool.and_eq_true] at h
      rcases List.mem_cons.1 hc with rfl | hc
      · rw [ha]; exact h47
      · exact ih h.2 c hc
    · rw [if_neg ha] at h
      cases hr : partsL r with
      | nil => exact absurd hr (partsL_ne r)
      | cons x xs =>
        rw [hr] at h
        simp only [List.all_cons, Bool.and_eq_true] at h
        have ha' := hp _ h.1 a (List.mem_cons_self ..)
        rcases List.mem_cons.1 hc with rfl | hc
        · exact ha'
        · -- the rest: every other char of x, and of xs
          have key : ∀ (l : List UInt8) (y : List UInt8) (ys : List (List UInt8)), partsL l = y :: ys → (∀ c ∈ y, q c) → ys.all p = true → ∀ c ∈ l, q c := by
            intro l
            induction l with
            | nil => intro y ys _ _ _ c hc; cases hc
            | cons b l ihl =>
              intro y ys hl hy hys c hc
              unfold partsL at hl
              by_cases hb : b = 47
              · rw [if_pos hb] at hl
                injection hl with e1 e2
                subst e1 e2
                rcases List.mem_cons.1 hc with rfl | hc
                · rw [hb]; exact h47
                · cases hl2 : partsL l with
                  | nil => exact absurd hl2 (partsL_ne l)
                  | cons z zs =>
                    rw [hl2] at hys
                    simp only [List.all_cons, Bool.and_eq_true] at hys
                    exact ihl z zs hl2 (hp _ hys.1) hys.2 c hc
              · rw [if_neg hb] at hl
                cases hl2 : partsL l with
                | nil => exact absurd hl2 (partsL_ne l)
                | cons z zs =>
                  rw [hl2] at hl
                  injection hl with e1 e2
                  subst e1 e2
                  rcases List.mem_cons.1 hc with rfl | hc
                  · exact hy _ (List.mem_cons_self ..)
                  · exact ihl z zs hl2 (fun c hc => hy c (List.mem_cons_of_mem _ hc)) hys c hc
          exact key r x xs hr (fun c hc => hp _ h.1 c (List.mem_cons_of_mem _ hc)) h.2 c hc
theorem nameB_ok (x : List UInt8) (h : nameB x = true) : ∀ c ∈ x, okB c = true := by
  unfold nameB at h
  simp only [Bool.and_eq_true, List.all_eq_true] at h
  exact h.2
theorem path_chars (s : List UInt8) (h : pathB s = true) : ∀ c ∈ s, okB c = true ∨ c = 47 := by
  cases hs : s with
  | nil => intro c hc; cases hc
  | cons a r =>
    rw [← hs]
    have hsb : s.isEmpty = false := by rw [hs]; rfl
    unfold pathB at h
    simp only [hsb, Bool.false_or, Bool.and_eq_true] at h
    exact parts_all s nameB (fun c => okB c = true ∨ c = 47) (fun x hx c hc => .inl (nameB_ok x hx c hc)) h.2 (.inr rfl)
theorem parts_last (s : List UInt8) (h : s.getLast? = some 47) : [] ∈ partsL s := by
  induction s with
  | nil => cases h
  | cons a r ih =>
    unfold partsL
    cases r with
    | nil =>
      simp at h
      rw [if_pos h]
      simp
    | cons b t =>
      have h' : (b :: t).getLast? = some 47 := by simpa using h
      have := ih h'
      by_cases ha : a = 47
      · rw [if_pos ha]; simp
      · rw [if_neg ha]
        cases hr : partsL (b :: t) with
        | nil => exact absurd hr (partsL_ne _)
        | cons x xs =>
          rw [hr] at this
          -- the first part of what ends in a slash may be empty alone if it opens with one
          rcases List.mem_cons.1 this with e | e
          · subst e
            -- then b = 47 and xs holds what stands behind
            have hx : xs ≠ [] ∧ [] ∈ xs ∨ True := .inr trivial
            clear hx
            unfold partsL at hr
            by_cases hb : b = 47
            · rw [if_pos hb] at hr
              injection hr with _ e2
              subst e2
              cases t with
              | nil => simp [partsL]
              | cons d u =>
                have h2 : (d :: u).getLast? = some 47 := by simpa using h'
                have h3 : [] ∈ partsL (d :: u) := by
                  have hi := this
                  clear this
                  exact (by
                    -- by the same road, shorter
                    have aux : ∀ (n : Nat) (l : List UInt8), l.length = n → l.getLast? = some 47 → [] ∈ (partsL l).tail ∨ l = [] ∨ partsL l = [] := by
                      intro n
                      induction n with
                      | zero => intro l hl _; exact .inr (.inl (List.eq_nil_of_length_eq_zero hl))
                      | succ n ihn =>
                        intro l hl hlast
                        cases l with
                        | nil => exact .inr (.inl rfl)
                        | cons x0 l0 =>
                          left
                          unfold partsL
                          by_cases hx0 : x0 = 47
                          · rw [if_pos hx0, List.tail_cons]
                            cases l0 with
                            | nil => simp [partsL]
                            | cons y0 m0 =>
                              rcases ihn (y0 :: m0) (by simpa using hl) (by simpa using hlast) with h5 | h5 | h5
                              · exact List.mem_of_mem_tail h5
                              · cases h5
                              · exact absurd h5 (partsL_ne _)
                          · rw [if_neg hx0]
                            cases l0 with
                            | nil => simp at hlast; exact absurd hlast hx0
                            | cons y0 m0 =>
                              rcases ihn (y0 :: m0) (by simpa using hl) (by simpa using hlast) with h5 | h5 | h5
                              · cases hq : partsL (y0 :: m0) with
                                | nil => exact absurd hq (partsL_ne _)
                                | cons z zs => rw [hq] at h5; exact h5
                              · cases h5
                              · exact absurd h5 (partsL_ne _)
                    rcases aux _ (d :: u) rfl h2 with h5 | h5 | h5
                    · exact List.mem_of_mem_tail h5
                    · cases h5
                    · exact absurd h5 (partsL_ne _))
                exact List.mem_cons_of_mem _ h3
            · rw [if_neg hb] at hr
              cases hl2 : partsL t with
              | nil => exact absurd hl2 (partsL_ne t)
              | cons z zs =>
                rw [hl2] at hr
                injection hr with e1 _
                cases e1
          · exact List.mem_cons_of_mem _ e
theorem path_last (s : List UInt8) (h : pathB s = true) : trimL s = s := by
  unfold trimL
  rw [if_neg]
  intro h47
  have hs : s.isEmpty = false := by cases s <;> simp_all
  unfold pathB at h
  simp only [hs, Bool.false_or, Bool.and_eq_true, List.all_eq_true] at h
  have := h.2 [] (parts_last s h47)
  cases this
theorem canon_path (s : List UInt8) (h : pathB s = true) : canonL s = s := by
  unfold canonL
  have : s.map lowB = s := by
    conv => rhs; rw [← List.map_id s]
    apply List.map_congr_left
    intro c hc
    rcases path_chars s h c hc with h1 | h1
    · exact okB_lower c h1
    · subst h1; rfl
  rw [this, path_last s h]
theorem atL_join (s n : List UInt8) (h : ∀ c ∈ s, c ≠ 64) : atL (s ++ 64 :: n) = some (s, n) := by
  induction s with
  | nil => simp [atL]
  | cons a r ih =>
    rw [List.cons_append]
    unfold atL
    rw [if_neg (h a (List.mem_cons_self ..)), ih (fun c hc => h c (List.mem_cons_of_mem _ hc))]
theorem atL_more (s n : List UInt8) (h : 64 ∈ s) : ∃ p q, atL (s ++ 64 :: n) = some (p, q) ∧ 64 ∈ q := by
  induction s with
  | nil => cases h
  | cons a r ih =>
    rw [List.cons_append]
    unfold atL
    by_cases ha : a = 64
    · rw [if_pos ha]
      exact ⟨[], r ++ 64 :: n, rfl, by simp⟩
    · rw [if_neg ha]
      obtain ⟨p, q, e, hq⟩ := ih (by rcases List.mem_cons.1 h with rfl | h; exact absurd rfl ha; exact h)
      rw [e]
      exact ⟨a :: p, q, rfl, hq⟩
theorem split_join (s n : List UInt8) : (∃ p q, atL (s ++ 64 :: n) = some (p, q) ∧ ((pathB p && nameB q) = (pathB s && nameB n)) ∧ ((pathB s && nameB n) = true → p = s ∧ q = n)) := by
  by_cases h : 64 ∈ s
  · obtain ⟨p, q, e, hq⟩ := atL_more s n h
    have h1 : pathB s = false := by
      cases hp : pathB s with
      | false => rfl
      | true => rcases path_chars s hp 64 h with h2 | h2 <;> cases h2
    have h2 : nameB q = false := by
      cases hn : nameB q with
      | false => rfl
      | true => have := nameB_ok q hn 64 hq; cases this
    exact ⟨p, q, e, by simp [h1, h2], by simp [h1]⟩
  · exact ⟨s, n, atL_join s n (fun c hc e => h (by rw [← e]; exact hc)), rfl, fun _ => ⟨rfl, rfl⟩⟩
end Go.Proofs.Ytcbeadldieeceaa

/-
  Records and their octets: the plain law.
-/
namespace Go.Proofs.Ytcbeadldieeceaa
open Go.RowKit

/-! ### Numbers and octets -/
theorem numN_inj (n : Nat) : ∀ a b : List UInt8, a.length = n → b.length = n → numN a = numN b → a = b := by
  induction n with
  | zero => intro a b ha hb _; rw [List.eq_nil_of_length_eq_zero ha, List.eq_nil_of_length_eq_zero hb]
  | succ n ih =>
    intro a b ha hb h
    rcases List.eq_nil_or_concat a with rfl | ⟨a', x, rfl⟩
    · simp at ha
    rcases List.eq_nil_or_concat b with rfl | ⟨b', y, rfl⟩
    · simp at hb
    rw [List.concat_eq_append] at ha hb h ⊢
    rw [List.concat_eq_append] at h ⊢
    rw [numN_snoc, numN_snoc] at h
    have hx := x.toNat_lt
    have hy := y.toNat_lt
    have e1 : numN a' = numN b' := by omega
    have e2 : x = y := UInt8.toNat_inj.1 (by omega)
    rw [ih a' b' (by simpa using ha) (by simpa using hb) e1, e2]
theorem putL2r (n : Int) : putL n 2 = [toByte (n / 256), toByte n] := by
  simp [putL, putF, bkDown, putStep, List.range, List.range.loop, List.replicate]
theorem putL3r (n : Int) : putL n 3 = [toByte (n / 256 / 256), toByte (n / 256), toByte n] := by
  simp [putL, putF, bkDown, putStep, List.range, List.range.loop, List.replicate]
theorem putL8r (n : Int) : putL n 8 = [toByte (n / 256 / 256 / 256 / 256 / 256 / 256 / 256), toByte (n / 256 / 256 / 256 / 256 / 256 / 256), toByte (n / 256 / 256 / 256 / 256 / 256), toByte (n / 256 / 256 / 256 / 256), toByte (n / 256 / 256 / 256), toByte (n / 256 / 256), toByte (n / 256), toByte n] := by
  simp [putL, putF, bkDown, putStep, List.range, List.range.loop, List.replicate]
theorem numN2r (n : Int) : (numN (putL n 2) : Int) = n % 65536 := by
  rw [putL2r]
  simp only [numN, List.foldl_cons, List.foldl_nil, Int.natCast_add, Int.natCast_mul, toByte_int]
  omega
theorem numN3r (n : Int) : (numN (putL n 3) : Int) = n % 16777216 := by
  rw [putL3r]
  simp only [numN, List.foldl_cons, List.foldl_nil, Int.natCast_add, Int.natCast_mul, toByte_int]
  omega
theorem numN8r (n : Int) : (numN (putL n 8) : Int) = n % 18446744073709551616 := by
  rw [putL8r]
  simp only [numN, List.foldl_cons, List.foldl_nil, Int.natCast_add, Int.natCast_mul, toByte_int]
  omega
theorem put2_num (b : List UInt8) (h : b.length = 2) : putL (numN b : Int) 2 = b := by
  have := numN2r (numN b)
  have hl := numN_lt b
  rw [h] at hl
  exact numN_inj 2 _ _ (putL_length _ _) h (by omega)
theorem put3_num (b : List UInt8) (h : b.length = 3) : putL (numN b : Int) 3 = b := by
  have := numN3r (numN b)
  have hl := numN_lt b
  rw [h] at hl
  exact numN_inj 3 _ _ (putL_length _ _) h (by omega)
theorem put8_num (b : List UInt8) (h : b.length = 8) : putL (numN b : Int) 8 = b := by
  have := numN8r (numN b)
  have hl := numN_lt b
  rw [h] at hl
  exact numN_inj 8 _ _ (putL_length _ _) h (by omega)
theorem numN2r' (n : Nat) (h : n < 65536) : numN (putL (n : Int) 2) = n := by have := numN2r n; omega
theorem numN3r' (n : Nat) (h : n < 16777216) : numN (putL (n : Int) 3) = n := by have := numN3r n; omega

/-! ### Sums -/
theorem octAt_r (sa sb sc sd : Int) : octAt (octL sa sb sc sd) 0 = numN (putL (IntKind.i64.wrap sa) 8) ∧ octAt (octL sa sb sc sd) 1 = numN (putL (IntKind.i64.wrap sb) 8) ∧ octAt (octL sa sb sc sd) 2 = numN (putL (IntKind.i64.wrap sc) 8) ∧ octAt (octL sa sb sc sd) 3 = numN (putL (IntKind.i64.wrap sd) 8) := by
  unfold octAt octL
  have h : ∀ n, (putL n 8).length = 8 := fun n => putL_length n 8
  refine ⟨?_, ?_, ?_, ?_⟩ <;> simp [List.drop_append, h, List.drop_eq_nil_of_le, List.take_of_length_le]
theorem wrap_r (x : Int) (h : 0 ≤ x ∧ x < 18446744073709551616) : IntKind.i64.wrap x % 18446744073709551616 = x := by
  rw [IntKind.wrap_i64]; omega
theorem readS_r (s : Sm) (hs : s.ok) : readS (octL s.a s.b s.c s.d) = s := by
  obtain ⟨sa, sb, sc, sd⟩ := s
  obtain ⟨e0, e1, e2, e3⟩ := octAt_r sa sb sc sd
  unfold readS
  rw [if_pos (octL_length _ _ _ _), e0, e1, e2, e3, numN8r, numN8r, numN8r, numN8r, wrap_r _ hs.a, wrap_r _ hs.b, wrap_r _ hs.c, wrap_r _ hs.d]
theorem put_wrap_r (b : List UInt8) (h : b.length = 8) : putL (IntKind.i64.wrap (numN b : Int)) 8 = b := by
  have h1 := numN8r (IntKind.i64.wrap (numN b : Int))
  have hl := numN_lt b
  rw [h] at hl
  rw [wrap_r _ (by omega)] at h1
  exact numN_inj 8 _ _ (putL_length _ _) h (by omega)
theorem octL_readS (b : List UInt8) (h : b.length = 32) : octL (readS b).a (readS b).b (readS b).c (readS b).d = b := by
  unfold readS
  rw [if_pos h]
  unfold octL octAt
  rw [put_wrap_r _ (by simp; omega), put_wrap_r _ (by simp; omega), put_wrap_r _ (by simp; omega), put_wrap_r _ (by simp; omega)]
  have e3 : (b.drop (8 * 3)).take 8 = b.drop 24 := List.take_of_length_le (by simp; omega)
  rw [e3]
  have j : ∀ k, (b.drop (8 * k)).take 8 ++ b.drop (8 * k + 8) = b.drop (8 * k) := by
    intro k
    conv => rhs; rw [← List.take_append_drop 8 (b.drop (8 * k)), List.drop_drop]
  have j2 := j 2
  have j1 := j 1
  have j0 := j 0
  simp only [Nat.mul_zero, Nat.mul_one, Nat.zero_add, List.drop_zero] at j0 j1 j2 ⊢
  rw [j2, j1, j0]
theorem readS_ok (b : List UInt8) : (readS b).ok := by
  unfold readS
  split
  · have h : ∀ k, octAt b k < 18446744073709551616 := by
      intro k
      have := numN_lt ((b.drop (8 * k)).take 8)
      have hl : ((b.drop (8 * k)).take 8).length ≤ 8 := by simp; omega
      have h2 : 256 ^ ((b.drop (8 * k)).take 8).length ≤ 256 ^ 8 := Nat.pow_le_pow_right (by decide) hl
      have e : (256 : Nat) ^ 8 = 18446744073709551616 := by decide
      unfold octAt
      omega
    have h0 := h 0
    have h1 := h 1
    have h2 := h 2
    have h3 := h 3
    exact ⟨by simp only; omega, by simp only; omega, by simp only; omega, by simp only; omega⟩
  · exact ⟨by decide, by decide, by decide, by decide⟩

/-! ### Fields -/
abbrev BS := List UInt8
def fone (s : BS) : BS := putL (s.length : Int) 3 ++ s
def fwrite (l : List BS) : BS := putL (l.length : Int) 2 ++ l.flatMap fone
def fbody : Nat → BS → Except Int (List BS)
  | 0, b => if b.length = 0 then .ok [] else .error 9
  | k + 1, b =>
    if b.length < 3 then .error 8 else if 65536 < numN (b.take 3) then .error 5 else if b.length < 3 + numN (b.take 3) then .error 8 else
      match fbody k (b.drop (3 + numN (b.take 3))) with
      | .ok l => .ok ((b.drop 3).take (numN (b.take 3)) :: l)
      | .error e => .error e
def fread (b : BS) : Except Int (List BS) := if b.length < 2 then .error 8 else if 1024 < numN (b.take 2) then .error 3 else fbody (numN (b.take 2)) (b.drop 2)
theorem fbody_write (l : List BS) (h : ∀ s ∈ l, s.length ≤ 65536) : fbody l.length (l.flatMap fone) = .ok l := by
  induction l with
  | nil => rfl
  | cons s l ih =>
    have hs := h s (List.mem_cons_self ..)
    have e : (s :: l).flatMap fone = putL (s.length : Int) 3 ++ (s ++ l.flatMap fone) := by simp [fone]
    have h3 : (putL (s.length : Int) 3).length = 3 := putL_length _ _
    have ht : (putL (s.length : Int) 3 ++ (s ++ l.flatMap fone)).take 3 = putL (s.length : Int) 3 := List.take_left' h3
    have hn : numN (putL (s.length : Int) 3) = s.length := numN3r' _ (by omega)
    have hd : (putL (s.length : Int) 3 ++ (s ++ l.flatMap fone)).drop 3 = s ++ l.flatMap fone := List.drop_left' h3
    rw [e, List.length_cons, fbody, ht, hn, if_neg (by simp [h3]), if_neg (by omega), if_neg (by simp [h3]), ← List.drop_drop, hd, List.drop_left' rfl, ih (fun x hx => h x (List.mem_cons_of_mem _ hx)), List.take_left' rfl]
theorem fread_write (l : List BS) (hl : l.length ≤ 1024) (h : ∀ s ∈ l, s.length ≤ 65536) : fread (fwrite l) = .ok l := by
  have h2 : (putL (l.length : Int) 2).length = 2 := putL_length _ _
  have ht : (fwrite l).take 2 = putL (l.length : Int) 2 := List.take_left' h2
  have hd : (fwrite l).drop 2 = l.flatMap fone := List.drop_left' h2
  unfold fread
  rw [ht, hd, numN2r' _ (by omega), if_neg (by unfold fwrite; simp [h2]), if_neg (by omega), fbody_write l h]
theorem fbody_back (k : Nat) : ∀ (b : BS) (l : List BS), fbody k b = .ok l → l.length = k ∧ l.flatMap fone = b ∧ ∀ s ∈ l, s.length ≤ 65536 := by
  induction k with
  | zero =>
    intro b l h
    unfold fbody at h
    split at h
    · rename_i hb
      cases h
      exact ⟨rfl, (List.eq_nil_of_length_eq_zero hb).symm, by simp⟩
    · cases h
  | succ k ih =>
    intro b l h
    unfold fbody at h
    split at h
    · cases h
    rename_i h3
    split at h
    · cases h
    rename_i hm
    split at h
    · cases h
    rename_i hb
    split at h
    · rename_i l' e
      cases h
      obtain ⟨h1, h2, h4⟩ := ih _ _ e
      have hl : ((b.drop 3).take (numN (b.take 3))).length = numN (b.take 3) := by simp; omega
      refine ⟨by simp [h1], ?_, ?_⟩
      · rw [List.flatMap_cons, h2, fone, hl, put3_num _ (by simp; omega), List.append_assoc, ← List.drop_drop, List.take_append_drop, List.take_append_drop]
      · intro s hs
        rcases List.mem_cons.1 hs with rfl | hs
        · omega
        · exact h4 s hs
    · cases h
theorem fread_back (b : BS) (l : List BS) (h : fread b = .ok l) : fwrite l = b ∧ l.length ≤ 1024 ∧ ∀ s ∈ l, s.length ≤ 65536 := by
  unfold fread at h
  split at h
  · cases h
  rename_i h2
  split at h
  · cases h
  rename_i hm
  obtain ⟨h3, h4, h5⟩ := fbody_back _ _ _ h
  refine ⟨?_, by omega, h5⟩
  unfold fwrite
  rw [h3, h4, put2_num _ (by simp; omega), List.take_append_drop]

/-! ### Records -/
abbrev PL := List (BS × BS)
structure Rc where
  kind : Int
  nm : BS
  frm : Int
  gd : Int
  own : PL
  ix : Int
  ct : Int
  dt : BS
  sm : Sm
def Sm0 : Sm := ⟨0, 0, 0, 0⟩
def Rc0 : Rc := ⟨0, [], 0, 0, [], 0, 0, [], Sm0⟩
def valB (s : BS) : Bool := decide (s.length ≤ 32) && s.all fun c => decide (32 ≤ c) && decide (c ≤ 126)
def propsFrom : Option BS → PL → Bool
  | _, [] => true
  | p, x :: l => nameB x.1 && valB x.2 && (match p with | none => true | some q => Op.bytesLess q x.1) && propsFrom (some x.1) l
def propsB (l : PL) : Bool := decide (l.length ≤ 8) && propsFrom none l
def smZ (s : Sm) : Bool := decide (s.a = 0 ∧ s.b = 0 ∧ s.c = 0 ∧ s.d = 0)
theorem smZ_eq (s : Sm) (h : smZ s = true) : s = Sm0 := by
  obtain ⟨a, b, c, d⟩ := s
  obtain ⟨h1, h2, h3, h4⟩ := of_decide_eq_true h
  simp only at h1 h2 h3 h4
  subst h1 h2 h3 h4
  rfl
def amt (n : Int) (least : Int) : Bool := decide (least ≤ n) && decide (n ≤ 1099511627776)
def mayB (r : Rc) : Bool :=
  if r.kind = 1 then nameB r.nm && amt r.frm 0 && amt r.gd 1 && propsB r.own && decide (r.ix = 0) && decide (r.ct = 0) && decide (r.dt = []) && smZ r.sm
  else if r.kind = 2 then decide (0 ≤ r.ix ∧ r.ix < 1024) && decide (r.dt.length = 16) && decide (r.nm = []) && decide (r.frm = 0) && decide (r.gd = 0) && decide (r.own = []) && decide (r.ct = 0) && smZ r.sm
  else if r.kind = 3 then decide (0 ≤ r.ix ∧ r.ix < 1024) && decide (1 ≤ r.ct ∧ r.ct ≤ 1024 - r.ix) && decide (r.nm = []) && decide (r.frm = 0) && decide (r.gd = 0) && decide (r.own = []) && decide (r.dt = []) && smZ r.sm
  else decide (r.nm = []) && decide (r.frm = 0) && decide (r.gd = 0) && decide (r.own = []) && decide (r.ix = 0) && decide (r.ct = 0) && decide (r.dt = [])
def recE (r : Rc) : Int := if r.kind < 1 ∨ 4 < r.kind then 23 else if mayB r = true then 0 else 9
def n8 (n : Int) : BS := putL n 8
def ptexts (l : PL) : List BS := l.flatMap fun x => [x.1, x.2]
def rtexts (r : Rc) : List BS :=
  if r.kind = 1 then [r.nm, n8 r.frm, n8 r.gd] ++ ptexts r.own
  else if r.kind = 2 then [n8 r.ix, r.dt]
  else if r.kind = 3 then [n8 r.ix, n8 r.ct]
  else [octL r.sm.a r.sm.b r.sm.c r.sm.d]
def encL (r : Rc) : BS := toByte r.kind :: (putL ((fwrite (rtexts r)).length : Int) 2 ++ fwrite (rtexts r))
def num8 (s : BS) : Option Int := if s.length = 8 ∧ numN s ≤ 4611686018427387903 then some (numN s : Int) else none
def pairsL : List BS → Option PL
  | [] => some []
  | [_] => none
  | a :: b :: l => (pairsL l).map ((a, b) :: ·)
def madeL (kind : Int) (l : List BS) : Option Rc :=
  if kind = 1 then match l with
    | nm :: a :: b :: rest => match num8 a, num8 b, pairsL rest with
      | some x, some y, some p => some { Rc0 with kind := kind, nm := nm, frm := x, gd := y, own := p }
      | _, _, _ => none
    | _ => none
  else if kind = 2 then match l with
    | [a, d] => match num8 a with
      | some x => some { Rc0 with kind := kind, ix := x, dt := d }
      | none => none
    | _ => none
  else if kind = 3 then match l with
    | [a, b] => match num8 a, num8 b with
      | some x, some y => some { Rc0 with kind := kind, ix := x, ct := y }
      | _, _ => none
    | _ => none
  else match l with
    | [s] => if s.length = 32 then some { Rc0 with kind := kind, sm := readS s } else none
    | _ => none
def sizeAt (b : BS) : Nat := numN ((b.drop 1).take 2)
def parseL (b : BS) : Rc × Nat × Int :=
  match b with
  | [] => (Rc0, 0, 8)
  | k :: _ =>
    if k.toNat < 1 ∨ 4 < k.toNat then (Rc0, 0, 23) else if b.length < 3 then (Rc0, 0, 8) else if b.length < 3 + sizeAt b then (Rc0, 0, 8) else
      match fread ((b.drop 3).take (sizeAt b)) with
      | .error _ => (Rc0, 0, 33)
      | .ok l => match madeL (k.toNat : Int) l with
        | none => (Rc0, 0, 33)
        | some r => if recE r = 0 then (r, 3 + sizeAt b, 0) else (Rc0, 0, 9)
theorem num8_put (n : Int) (h : 0 ≤ n ∧ n ≤ 4611686018427387903) : num8 (n8 n) = some n := by
  have := numN8r n
  unfold num8 n8
  rw [if_pos ⟨putL_length _ _, by omega⟩]
  congr 1
  omega
theorem num8_back (s : BS) (n : Int) (h : num8 s = some n) : n8 n = s := by
  unfold num8 at h
  split at h
  · rename_i hs
    cases h
    exact put8_num s hs.1
  · cases h
theorem pairs_texts (l : PL) : pairsL (ptexts l) = some l := by
  induction l with
  | nil => rfl
  | cons x l ih =>
    show ((pairsL (ptexts l)).map ((x.1, x.2) :: ·)) = _
    rw [ih]
    rfl
theorem texts_pairs (l : List BS) (p : PL) (h : pairsL l = some p) : ptexts p = l := by
  induction l using pairsL.induct generalizing p with
  | case1 => cases h; rfl
  | case2 => cases h
  | case3 a b l ih =>
    simp only [pairsL, Option.map_eq_some_iff] at h
    obtain ⟨q, hq, rfl⟩ := h
    show a :: b :: ptexts q = _
    rw [ih q hq]

/-! ### A record that may be -/
theorem propsFrom_small (o : Option BS) (l : PL) (h : propsFrom o l = true) : ∀ x ∈ l, nameB x.1 = true ∧ valB x.2 = true := by
  induction l generalizing o with
  | nil => intro x hx; cases hx
  | cons y l ih =>
    unfold propsFrom at h
    simp only [Bool.and_eq_true] at h
    intro x hx
    rcases List.mem_cons.1 hx with rfl | hx
    · exact ⟨h.1.1.1, h.1.1.2⟩
    · exact ih _ h.2 x hx
theorem nameB_len (s : BS) (h : nameB s = true) : s.length ≤ 16 := by
  unfold nameB at h
  simp only [Bool.and_eq_true, decide_eq_true_eq] at h
  exact h.1.2
theorem valB_len (s : BS) (h : valB s = true) : s.length ≤ 32 := by
  unfold valB at h
  simp only [Bool.and_eq_true, decide_eq_true_eq] at h
  exact h.1
theorem ptexts_len (l : PL) : (ptexts l).length = 2 * l.length := by
  induction l with
  | nil => rfl
  | cons x l ih => show (ptexts l).length + 2 = _; rw [ih, List.length_cons]; omega
theorem recE_kind (r : Rc) (h : recE r = 0) : (r.kind = 1 ∨ r.kind = 2 ∨ r.kind = 3 ∨ r.kind = 4) ∧ mayB r = true := by
  unfold recE at h
  split at h
  · cases h
  · rename_i hk
    split at h
    · rename_i hm
      exact ⟨by omega, hm⟩
    · cases h
theorem mayB_1 (r : Rc) (hk : r.kind = 1) (h : mayB r = true) : nameB r.nm = true ∧ (0 ≤ r.frm ∧ r.frm ≤ 1099511627776) ∧ (1 ≤ r.gd ∧ r.gd ≤ 1099511627776) ∧ propsB r.own = true ∧ r.ix = 0 ∧ r.ct = 0 ∧ r.dt = [] ∧ r.sm = Sm0 := by
  unfold mayB amt at h
  rw [if_pos hk] at h
  simp only [Bool.and_eq_true, decide_eq_true_eq] at h
  obtain ⟨⟨⟨⟨⟨⟨⟨h1, h2⟩, h3⟩, h4⟩, h5⟩, h6⟩, h7⟩, h8⟩ := h
  exact ⟨h1, h2, h3, h4, h5, h6, h7, smZ_eq _ h8⟩
theorem mayB_2 (r : Rc) (hk : r.kind = 2) (h : mayB r = true) : (0 ≤ r.ix ∧ r.ix < 1024) ∧ r.dt.length = 16 ∧ r.nm = [] ∧ r.frm = 0 ∧ r.gd = 0 ∧ r.own = [] ∧ r.ct = 0 ∧ r.sm = Sm0 := by
  unfold mayB at h
  rw [if_neg (by omega), if_pos hk] at h
  simp only [Bool.and_eq_true, decide_eq_true_eq] at h
  obtain ⟨⟨⟨⟨⟨⟨⟨h1, h2⟩, h3⟩, h4⟩, h5⟩, h6⟩, h7⟩, h8⟩ := h
  exact ⟨h1, h2, h3, h4, h5, h6, h7, smZ_eq _ h8⟩
theorem mayB_3 (r : Rc) (hk : r.kind = 3) (h : mayB r = true) : (0 ≤ r.ix ∧ r.ix < 1024) ∧ (1 ≤ r.ct ∧ r.ct ≤ 1024 - r.ix) ∧ r.nm = [] ∧ r.frm = 0 ∧ r.gd = 0 ∧ r.own = [] ∧ r.dt = [] ∧ r.sm = Sm0 := by
  unfold mayB at h
  rw [if_neg (by omega), if_neg (by omega), if_pos hk] at h
  simp only [Bool.and_eq_true, decide_eq_true_eq] at h
  obtain ⟨⟨⟨⟨⟨⟨⟨h1, h2⟩, h3⟩, h4⟩, h5⟩, h6⟩, h7⟩, h8⟩ := h
  exact ⟨h1, h2, h3, h4, h5, h6, h7, smZ_eq _ h8⟩
theorem mayB_4 (r : Rc) (hk : r.kind = 4) (h : mayB r = true) : r.nm = [] ∧ r.frm = 0 ∧ r.gd = 0 ∧ r.own = [] ∧ r.ix = 0 ∧ r.ct = 0 ∧ r.dt = [] := by
  unfold mayB at h
  rw [if_neg (by omega), if_neg (by omega), if_neg (by omega)] at h
  simp only [Bool.and_eq_true, decide_eq_true_eq] at h
  obtain ⟨⟨⟨⟨⟨⟨h1, h2⟩, h3⟩, h4⟩, h5⟩, h6⟩, h7⟩ := h
  exact ⟨h1, h2, h3, h4, h5, h6, h7⟩
/-- its texts: how many, how long -/
theorem rtexts_small (r : Rc) (h : recE r = 0) : (rtexts r).length ≤ 19 ∧ ∀ s ∈ rtexts r, s.length ≤ 32 := by
  obtain ⟨hk, hm⟩ := recE_kind r h
  have l8 : ∀ n, (n8 n).length = 8 := fun n => putL_length n 8
  unfold rtexts
  rcases hk with hk | hk | hk | hk
  · obtain ⟨h1, _, _, h4, _⟩ := mayB_1 r hk hm
    rw [if_pos hk]
    unfold propsB at h4
    simp only [Bool.and_eq_true, decide_eq_true_eq] at h4
    refine ⟨by simp [ptexts_len]; omega, ?_⟩
    intro s hs
    have hn := nameB_len _ h1
    rcases List.mem_append.1 hs with hs | hs
    · simp only [List.mem_cons, List.mem_nil_iff, or_false] at hs
      rcases hs with rfl | rfl | rfl
      · omega
      · rw [l8]; omega
      · rw [l8]; omega
    · unfold ptexts at hs
      obtain ⟨x, hx, hs⟩ := List.mem_flatMap.1 hs
      obtain ⟨h5, h6⟩ := propsFrom_small _ _ h4.2 x hx
      have := nameB_len _ h5
      have := valB_len _ h6
      simp only [List.mem_cons, List.mem_nil_iff, or_false] at hs
      rcases hs with rfl | rfl <;> omega
  · obtain ⟨_, h2, _⟩ := mayB_2 r hk hm
    rw [if_neg (by omega), if_pos hk]
    refine ⟨by simp, ?_⟩
    intro s hs
    simp only [List.mem_cons, List.mem_nil_iff, or_false] at hs
    rcases hs with rfl | rfl
    · rw [l8]; omega
    · omega
  · rw [if_neg (by omega), if_neg (by omega), if_pos hk]
    refine ⟨by simp, ?_⟩
    intro s hs
    simp only [List.mem_cons, List.mem_nil_iff, or_false] at hs
    rcases hs with rfl | rfl <;> rw [l8] <;> omega
  · rw [if_neg (by omega), if_neg (by omega), if_neg (by omega)]
    refine ⟨by simp, ?_⟩
    intro s hs
    simp only [List.mem_cons, List.mem_nil_iff, or_false] at hs
    subst hs
    rw [octL_length]; omega
theorem flat_len (l : List BS) (h : ∀ s ∈ l, s.length ≤ 32) : (l.flatMap fone).length ≤ 35 * l.length := by
  induction l with
  | nil => simp
  | cons s l ih =>
    have hs := h s (List.mem_cons_self ..)
    have := ih (fun x hx => h x (List.mem_cons_of_mem _ hx))
    have h3 : (putL (s.length : Int) 3).length = 3 := putL_length _ _
    rw [List.flatMap_cons, List.length_append, fone, List.length_append, h3, List.length_cons]
    omega
theorem fwrite_len (r : Rc) (h : recE r = 0) : (fwrite (rtexts r)).length ≤ 700 := by
  obtain ⟨h1, h2⟩ := rtexts_small r h
  have := flat_len _ h2
  have h3 : (putL ((rtexts r).length : Int) 2).length = 2 := putL_length _ _
  unfold fwrite
  rw [List.length_append]
  omega
theorem made_texts (r : Rc) (h : recE r = 0) (hs : r.sm.ok) : madeL r.kind (rtexts r) = some r := by
  obtain ⟨hk, hm⟩ := recE_kind r h
  obtain ⟨kind, nm, frm, gd, own, ix, ct, dt, sm⟩ := r
  simp only at hk
  rcases hk with hk | hk | hk | hk
  · obtain ⟨h1, h2, h3, h4, h5, h6, h7, h8⟩ := mayB_1 _ hk hm
    simp only at h1 h2 h3 h4 h5 h6 h7 h8
    subst hk h5 h6 h7 h8
    unfold rtexts madeL
    simp only [if_true, List.cons_append, List.nil_append]
    rw [num8_put _ (by omega), num8_put _ (by omega), pairs_texts]
    rfl
  · obtain ⟨h1, h2, h3, h4, h5, h6, h7, h8⟩ := mayB_2 _ hk hm
    simp only at h1 h2 h3 h4 h5 h6 h7 h8
    subst hk h3 h4 h5 h6 h7 h8
    unfold rtexts madeL
    simp only [if_true]
    rw [if_neg (by decide), if_neg (by decide)]
    simp only
    rw [num8_put _ (by omega)]
    rfl
  · obtain ⟨h1, h2, h3, h4, h5, h6, h7, h8⟩ := mayB_3 _ hk hm
    simp only at h1 h2 h3 h4 h5 h6 h7 h8
    subst hk h3 h4 h5 h6 h7 h8
    unfold rtexts madeL
    simp only [if_true]
    rw [if_neg (by decide), if_neg (by decide), if_neg (by decide), if_neg (by decide)]
    simp only
    rw [num8_put _ (by omega), num8_put _ (by omega)]
    rfl
  · obtain ⟨h1, h2, h3, h4, h5, h6, h7⟩ := mayB_4 _ hk hm
    simp only at h1 h2 h3 h4 h5 h6 h7 hs
    subst hk h1 h2 h3 h4 h5 h6 h7
    have e : rtexts ⟨4, [], 0, 0, [], 0, 0, [], sm⟩ = [octL sm.a sm.b sm.c sm.d] := rfl
    rw [e]
    show (if (octL sm.a sm.b sm.c sm.d).length = 32 then some { Rc0 with kind := 4, sm := readS (octL sm.a sm.b sm.c sm.d) } else none) = _
    rw [if_pos (octL_length _ _ _ _), readS_r sm hs]
    rfl
theorem toByte_kind (k : Int) (h : 0 ≤ k ∧ k < 256) : ((toByte k).toNat : Int) = k := by
  rw [toByte_int]; omega
/-- A RECORD COMES BACK -/
theorem parse_enc (r : Rc) (h : recE r = 0) (hs : r.sm.ok) (more : BS) : parseL (encL r ++ more) = (r, (encL r).length, 0) := by
  obtain ⟨hk, hm⟩ := recE_kind r h
  obtain ⟨h1, h2⟩ := rtexts_small r h
  have hl := fwrite_len r h
  have hkb := toByte_kind r.kind (by omega)
  obtain ⟨f, hf⟩ : ∃ f, f = fwrite (rtexts r) := ⟨_, rfl⟩
  have h22 : (putL (f.length : Int) 2).length = 2 := putL_length _ _
  have hrd : fread f = .ok (rtexts r) := by rw [hf]; exact fread_write _ (by omega) (fun s hs => by have := h2 s hs; omega)
  have hsz : sizeAt (encL r ++ more) = f.length := by
    unfold sizeAt encL
    rw [← hf, List.cons_append, List.drop_succ_cons, List.drop_zero, List.append_assoc, List.take_left' h22]
    exact numN2r' _ (by rw [hf]; omega)
  have hdr : (encL r ++ more).drop 3 = f ++ more := by
    unfold encL
    rw [← hf, List.cons_append, List.drop_succ_cons, List.append_assoc, List.drop_left' h22]
  have hlen : (encL r ++ more).length = 3 + f.length + more.length := by
    unfold encL
    rw [← hf]
    simp [h22]
    omega
  have hle : (encL r).length = 3 + f.length := by
    unfold encL
    rw [← hf]
    simp [h22]
    omega
  have hform : encL r ++ more = toByte r.kind :: (putL (f.length : Int) 2 ++ f ++ more) := by unfold encL; rw [← hf]; rfl
  unfold parseL
  rw [hform]
  simp only
  rw [← hform, if_neg (by omega), if_neg (by omega), if_neg (by omega), hsz, hdr, List.take_left' rfl, hrd]
  simp only
  rw [hkb, made_texts r h hs]
  simp only
  rw [if_pos h, hle]
/-- a beginning is too short -/
theorem parse_cut (r : Rc) (h : recE r = 0) (at_ : Nat) (ha : at_ < (encL r).length) : parseL ((encL r).take at_) = (Rc0, 0, 8) := by
  obtain ⟨hk, hm⟩ := recE_kind r h
  have hl := fwrite_len r h
  have hkb := toByte_kind r.kind (by omega)
  obtain ⟨f, hf⟩ : ∃ f, f = fwrite (rtexts r) := ⟨_, rfl⟩
  have h22 : (putL (f.length : Int) 2).length = 2 := putL_length _ _
  have hle : (encL r).length = 3 + f.length := by
    unfold encL
    rw [← hf]
    simp [h22]
    omega
  cases at_ with
  | zero => rfl
  | succ k =>
    have hform : (encL r).take (k + 1) = toByte r.kind :: (putL (f.length : Int) 2 ++ f).take k := by unfold encL; rw [← hf]; rfl
    unfold parseL
    rw [hform]
    simp only
    rw [← hform, if_neg (by omega)]
    by_cases h3 : k + 1 < 3
    · rw [if_pos (by rw [List.length_take]; omega)]
    · rw [if_neg (by rw [List.length_take]; omega), if_pos]
      have hsz : sizeAt ((encL r).take (k + 1)) = f.length := by
        rw [hform]
        unfold sizeAt
        rw [List.drop_succ_cons, List.drop_zero, List.take_take, show min 2 k = 2 by omega, List.take_left' h22]
        exact numN2r' _ (by rw [hf]; omega)
      rw [hsz, List.length_take]
      omega
/-- OCTETS THAT ARE A RECORD's -/
theorem made_back (k : Int) (hk : k = 1 ∨ k = 2 ∨ k = 3 ∨ k = 4) (l : List BS) (r : Rc) (h : madeL k l = some r) : r.kind = k ∧ rtexts r = l ∧ r.sm.ok := by
  unfold madeL at h
  have ok0 : Sm0.ok := ⟨by decide, by decide, by decide, by decide⟩
  rcases hk with rfl | rfl | rfl | rfl
  · rw [if_pos rfl] at h
    split at h
    · split at h
      · rename_i x y p h1 h2 h3
        cases h
        refine ⟨rfl, ?_, ok0⟩
        unfold rtexts
        simp only [if_true, List.cons_append, List.nil_append]
        rw [num8_back _ _ h1, num8_back _ _ h2, texts_pairs _ _ h3]
      · cases h
    · cases h
  · rw [if_neg (by decide), if_pos rfl] at h
    split at h
    · split at h
      · rename_i x h1
        cases h
        refine ⟨rfl, ?_, ok0⟩
        unfold rtexts
        simp only [if_true]
        rw [if_neg (by decide), num8_back _ _ h1]
      · cases h
    · cases h
  · rw [if_neg (by decide), if_neg (by decide), if_pos rfl] at h
    split at h
    · split at h
      · rename_i x y h1 h2
        cases h
        refine ⟨rfl, ?_, ok0⟩
        unfold rtexts
        simp only [if_true]
        rw [if_neg (by decide), if_neg (by decide), num8_back _ _ h1, num8_back _ _ h2]
      · cases h
    · cases h
  · rw [if_neg (by decide), if_neg (by decide), if_neg (by decide)] at h
    split at h
    · split at h
      · rename_i hs
        cases h
        refine ⟨rfl, ?_, readS_ok _⟩
        unfold rtexts
        simp only
        rw [if_neg (by decide), if_neg (by decide), if_neg (by decide), octL_readS _ hs]
      · cases h
    · cases h
theorem parse_back (b : BS) (r : Rc) (n : Nat) (h : parseL b = (r, n, 0)) : recE r = 0 ∧ r.sm.ok ∧ n ≤ b.length ∧ encL r = b.take n := by
  unfold parseL at h
  split at h
  · simp at h
  rename_i k rest
  split at h
  · simp at h
  rename_i hk
  split at h
  · simp at h
  rename_i h3
  split at h
  · simp at h
  rename_i hsz
  split at h
  · simp at h
  rename_i l hl
  split at h
  · simp at h
  rename_i r' hm
  split at h
  · rename_i hr
    simp only [Prod.mk.injEq, and_true] at h
    obtain ⟨rfl, rfl⟩ := h
    obtain ⟨h4, h5, h6⟩ := made_back _ (by omega) _ _ hm
    obtain ⟨h7, _, _⟩ := fread_back _ _ hl
    refine ⟨hr, h6, by omega, ?_⟩
    have hlen : (((k :: rest).drop 3).take (sizeAt (k :: rest))).length = sizeAt (k :: rest) := by
      rw [List.length_take, List.length_drop]
      omega
    have hkb : toByte (k.toNat : Int) = k := UInt8.toNat_inj.1 (by have := toByte_int (k.toNat : Int); have := k.toNat_lt; omega)
    unfold encL
    rw [h4, h5, h7, hlen, hkb]
    have hp : putL ((sizeAt (k :: rest) : Nat) : Int) 2 = ((k :: rest).drop 1).take 2 := put2_num _ (by rw [List.length_take, List.length_drop]; simp at h3 ⊢; omega)
    rw [hp]
    rw [List.take_add]
    have e : (k :: rest).take 3 = k :: ((k :: rest).drop 1).take 2 := by simp
    rw [e]
    rfl
  · simp at h
theorem parse_err (b : BS) (r : Rc) (n : Nat) (e : Int) (h : parseL b = (r, n, e)) (he : e ≠ 0) : r = Rc0 ∧ n = 0 := by
  unfold parseL at h
  repeat (first | (split at h) | (simp only [Prod.mk.injEq] at h; obtain ⟨rfl, rfl, rfl⟩ := h; first | exact ⟨rfl, rfl⟩ | exact absurd rfl he))
end Go.Proofs.Ytcbeadldieeceaa

/-
  Properties, one list over the other: the plain law.
-/
namespace Go.Proofs.Ytcbeadldieeceaa
open Go.RowKit

theorem bl_irrefl (x : BS) : Op.bytesLess x x = false := by rw [bytesLess_eq]; exact decide_eq_false (List.lt_irrefl x)
theorem bl_trans {x y z : BS} (h1 : Op.bytesLess x y = true) (h2 : Op.bytesLess y z = true) : Op.bytesLess x z = true := by
  rw [bytesLess_eq, decide_eq_true_eq] at *
  exact List.lt_trans h1 h2
theorem bl_tri : ∀ (x y : BS), Op.bytesLess x y = false → x ≠ y → Op.bytesLess y x = true
  | [], [], _, h2 => absurd rfl h2
  | [], _ :: _, h1, _ => by cases h1
  | _ :: _, [], _, _ => rfl
  | a :: x, b :: y, h1, h2 => by
    simp only [Op.bytesLess, Bool.or_eq_false_iff, Bool.and_eq_false_iff, decide_eq_false_iff_not] at h1
    simp only [Op.bytesLess, Bool.or_eq_true, Bool.and_eq_true, decide_eq_true_eq]
    obtain ⟨h3, h4⟩ := h1
    rw [UInt8.lt_iff_toNat_lt] at h3 ⊢
    by_cases hab : a = b
    · subst hab
      right
      refine ⟨by simp, bl_tri x y ?_ (fun e => h2 (by rw [e]))⟩
      rcases h4 with h4 | h4
      · simp at h4
      · exact h4
    · left
      have : a.toNat ≠ b.toNat := fun e => hab (UInt8.toNat_inj.1 e)
      omega
theorem snoc_ind {α : Type} {p : List α → Prop} (h0 : p []) (h1 : ∀ l a, p l → p (l ++ [a])) (l : List α) : p l := by
  have h : ∀ m : List α, p m.reverse := by
    intro m
    induction m with
    | nil => exact h0
    | cons a m ih => rw [List.reverse_cons]; exact h1 _ _ ih
  have := h l.reverse
  rwa [List.reverse_reverse] at this
theorem bl_ne {x y : BS} (h : Op.bytesLess x y = true) : x ≠ y := by
  intro e
  subst e
  rw [bl_irrefl] at h
  cases h
def SortP (l : PL) : Prop := l.Pairwise fun x y => Op.bytesLess x.1 y.1 = true
def putP (p : BS × BS) : PL → PL
  | [] => [p]
  | x :: l => if Op.bytesLess p.1 x.1 = true then p :: x :: l else if p.1 = x.1 then p :: l else x :: putP p l
def getP (l : PL) (n : BS) : Option BS := (l.find? fun x => x.1 == n).map (·.2)
theorem getP_nil (n : BS) : getP [] n = none := rfl
theorem getP_cons (x : BS × BS) (l : PL) (n : BS) : getP (x :: l) n = if x.1 = n then some x.2 else getP l n := by
  unfold getP
  rw [List.find?_cons]
  by_cases h : x.1 = n
  · rw [if_pos h, show (x.1 == n) = true by simp [h]]; rfl
  · rw [if_neg h, show (x.1 == n) = false by simp [h]]
theorem mem_putP (p : BS × BS) (l : PL) : ∀ x ∈ putP p l, x = p ∨ x ∈ l := by
  induction l with
  | nil => intro x hx; exact .inl (List.mem_singleton.1 hx)
  | cons y l ih =>
    intro x hx
    unfold putP at hx
    split at hx
    · rcases List.mem_cons.1 hx with h | h
      · exact .inl h
      · exact .inr h
    split at hx
    · rcases List.mem_cons.1 hx with h | h
      · exact .inl h
      · exact .inr (List.mem_cons_of_mem _ h)
    · rcases List.mem_cons.1 hx with h | h
      · exact .inr (h ▸ List.mem_cons_self ..)
      · rcases ih x h with h | h
        · exact .inl h
        · exact .inr (List.mem_cons_of_mem _ h)
theorem sort_putP (p : BS × BS) (l : PL) (h : SortP l) : SortP (putP p l) := by
  induction l with
  | nil => simp [putP, SortP]
  | cons y l ih =>
    obtain ⟨h1, h2⟩ := List.pairwise_cons.1 h
    unfold putP
    split
    · rename_i hp
      refine List.pairwise_cons.2 ⟨fun z hz => ?_, h⟩
      rcases List.mem_cons.1 hz with rfl | hz
      · exact hp
      · exact bl_trans hp (h1 z hz)
    split
    · rename_i hp
      exact List.pairwise_cons.2 ⟨fun z hz => by rw [hp]; exact h1 z hz, h2⟩
    · rename_i hp hq
      refine List.pairwise_cons.2 ⟨fun z hz => ?_, ih h2⟩
      rcases mem_putP p l z hz with rfl | hz
      · exact bl_tri _ _ (by simpa using hp) hq
      · exact h1 z hz
theorem getP_small {l : PL} {n : BS} (h : ∀ x ∈ l, Op.bytesLess n x.1 = true) : getP l n = none := by
  unfold getP
  rw [List.find?_eq_none.2]
  · rfl
  · intro x hx e
    have := bl_ne (h x hx)
    exact this (by simpa using (beq_iff_eq.1 e).symm)
theorem getP_putP (p : BS × BS) (l : PL) (h : SortP l) (n : BS) : getP (putP p l) n = if p.1 = n then some p.2 else getP l n := by
  induction l with
  | nil => unfold putP; rw [getP_cons]
  | cons y l ih =>
    obtain ⟨h1, h2⟩ := List.pairwise_cons.1 h
    unfold putP
    split
    · rw [getP_cons]
    split
    · rename_i hp
      rw [getP_cons, getP_cons]
      by_cases hn : p.1 = n
      · rw [if_pos hn, if_pos hn]
      · rw [if_neg hn, if_neg hn, if_neg (by rw [← hp]; exact hn)]
    · rename_i hp hq
      rw [getP_cons, ih h2, getP_cons]
      by_cases hn : y.1 = n
      · rw [if_pos hn, if_pos hn, if_neg (fun e => hq (e.trans hn.symm))]
      · rw [if_neg hn, if_neg hn]
theorem sortP_ext : ∀ (a b : PL), SortP a → SortP b → (∀ n, getP a n = getP b n) → a = b := by
  intro a
  induction a with
  | nil =>
    intro b _ _ h
    cases b with
    | nil => rfl
    | cons y b =>
      have := h y.1
      rw [getP_nil, getP_cons, if_pos rfl] at this
      cases this
  | cons x a ih =>
    intro b ha hb h
    cases b with
    | nil =>
      have := h x.1
      rw [getP_nil, getP_cons, if_pos rfl] at this
      cases this
    | cons y b =>
      obtain ⟨ha1, ha2⟩ := List.pairwise_cons.1 ha
      obtain ⟨hb1, hb2⟩ := List.pairwise_cons.1 hb
      have hxy : x.1 = y.1 := by
        by_cases e : x.1 = y.1
        · exact e
        · exfalso
          cases hl : Op.bytesLess x.1 y.1 with
          | true =>
            have := h x.1
            rw [getP_cons, if_pos rfl, getP_cons, if_neg (Ne.symm e), getP_small (fun z hz => bl_trans hl (hb1 z hz))] at this
            cases this
          | false =>
            have hl2 := bl_tri _ _ hl e
            have := h y.1
            rw [getP_cons, if_neg e, getP_cons, if_pos rfl, getP_small (fun z hz => bl_trans hl2 (ha1 z hz))] at this
            cases this
      have hv : x.2 = y.2 := by
        have := h x.1
        rw [getP_cons, if_pos rfl, getP_cons, if_pos hxy.symm] at this
        exact Option.some.inj this
      have hx : x = y := Prod.ext hxy hv
      subst hx
      rw [ih b ha2 hb2 (fun n => ?_)]
      have := h n
      rw [getP_cons, getP_cons] at this
      by_cases hn : x.1 = n
      · subst hn
        rw [getP_small ha1, getP_small hb1]
      · rwa [if_neg hn, if_neg hn] at this
/-- all, one behind the other -/
def allP (l : PL) : PL := l.foldl (fun acc p => putP p acc) []
theorem allP_snoc (l : PL) (p : BS × BS) : allP (l ++ [p]) = putP p (allP l) := by simp [allP]
theorem sort_allP (l : PL) : SortP (allP l) := by
  induction l using snoc_ind with
  | h0 => exact List.Pairwise.nil
  | h1 l p ih => rw [allP_snoc]; exact sort_putP p _ ih
theorem allP_get_snoc (l : PL) (p : BS × BS) (n : BS) : getP (allP (l ++ [p])) n = if p.1 = n then some p.2 else getP (allP l) n := by
  rw [allP_snoc]; exact getP_putP p _ (sort_allP l) n
theorem getP_last (a b : PL) (hb : SortP b) (n : BS) : getP (allP (a ++ b)) n = match getP b n with | some v => some v | none => getP (allP a) n := by
  induction b using snoc_ind with
  | h0 => simp [getP_nil]
  | h1 l p ih =>
    have hl : SortP l := hb.sublist (List.sublist_append_left _ _)
    rw [← List.append_assoc, allP_get_snoc]
    have hap : ∀ (m : BS), (∀ x ∈ l, Op.bytesLess x.1 p.1 = true) → getP (l ++ [p]) m = if p.1 = m then some p.2 else getP l m := by
      intro m hs
      clear ih hb hl
      induction l with
      | nil => rw [List.nil_append, getP_cons]
      | cons x l ih =>
        rw [List.cons_append, getP_cons, ih (fun y hy => hs y (List.mem_cons_of_mem _ hy)), getP_cons]
        by_cases hx : x.1 = m
        · have h1 := bl_ne (hs x (List.mem_cons_self ..))
          rw [if_pos hx, if_pos hx, if_neg (fun e => h1 (hx.trans e.symm))]
        · rw [if_neg hx, if_neg hx]
    rw [hap n (fun x hx => (List.pairwise_append.1 hb).2.2 x hx p (by simp)), ih hl]
    by_cases hn : p.1 = n
    · rw [if_pos hn, if_pos hn]
    · rw [if_neg hn, if_neg hn]
theorem allP_self (l : PL) (h : SortP l) : allP l = l := by
  refine sortP_ext _ _ (sort_allP l) h (fun n => ?_)
  have := getP_last [] l h n
  rw [List.nil_append] at this
  rw [this]
  cases getP l n <;> rfl
theorem allP_over (a b : PL) (hb : SortP b) (n : BS) : getP (allP (a ++ b)) n = (getP b n).or (getP (allP a) n) := by
  rw [getP_last a b hb n]
  cases getP b n <;> rfl
theorem propsFrom_sort (o : Option BS) (l : PL) (h : propsFrom o l = true) : SortP l ∧ ∀ q, o = some q → ∀ x ∈ l, Op.bytesLess q x.1 = true := by
  induction l generalizing o with
  | nil => exact ⟨List.Pairwise.nil, fun _ _ x hx => by cases hx⟩
  | cons y l ih =>
    unfold propsFrom at h
    simp only [Bool.and_eq_true] at h
    obtain ⟨h1, h2⟩ := ih _ h.2
    have h3 := h2 y.1 rfl
    refine ⟨List.pairwise_cons.2 ⟨h3, h1⟩, fun q hq x hx => ?_⟩
    subst hq
    have h4 : Op.bytesLess q y.1 = true := h.1.2
    rcases List.mem_cons.1 hx with rfl | hx
    · exact h4
    · exact bl_trans h4 (h3 x hx)
theorem propsB_sort (l : PL) (h : propsB l = true) : SortP l := by
  unfold propsB at h
  rw [Bool.and_eq_true] at h
  exact (propsFrom_sort none l h.2).1
end Go.Proofs.Ytcbeadldieeceaa

/-
  A region that draws its order, whose operations each have one value in every world of a class: one walk in the order of the text.
-/
namespace Go.Proofs.Ytcbeadldieeceaa
open Go.RowKit

section
variable {P : Program} {ops : Array Oper} {C : World → Prop} {Q : Act → Prop}
theorem wpC_read {o : Oper} {rest : List Oper} {a : Act} {v : Value} (hg : o.guard = none) (h : ∀ w, C w → o.quietAt P a C w v) (hn : wpQuiet P ops C Q rest (a.put o.dst v)) : wpQuiet P ops C Q (o :: rest) a := by
  have hw : Region.wanted o (yielded ops a.tmps) = true := by simp [Region.wanted, hg]
  unfold wpQuiet
  rw [if_pos hw]
  exact ⟨v, h, hn⟩
theorem yielded_tmps {tmps : Array Value} {g k : Nat} (hd : (ops[g]?).bind (·.dst) = some k) : yielded ops tmps g = match tmps[k]?.getD undef with | .bool b => some b | _ => none := by
  unfold yielded
  rw [hd]
  simp only [Option.bind_some]
  cases tmps[k]? with
  | none => rfl
  | some v => cases v <;> rfl
theorem wpC_gread {o : Oper} {rest : List Oper} {a : Act} {v : Value} {g k : Nat} {b : Bool} (hg : o.guard = some (g, b)) (hd : (ops[g]?).bind (·.dst) = some k) (ht : a.tmps[k]?.getD undef = .bool b)
    (h : ∀ w, C w → o.quietAt P a C w v) (hn : wpQuiet P ops C Q rest (a.put o.dst v)) : wpQuiet P ops C Q (o :: rest) a := by
  have hw : Region.wanted o (yielded ops a.tmps) = true := by simp [Region.wanted, hg, yielded_tmps hd, ht]
  unfold wpQuiet
  rw [if_pos hw]
  exact ⟨v, h, hn⟩
theorem wpC_skip {o : Oper} {rest : List Oper} {a : Act} {g k : Nat} {b : Bool} (hg : o.guard = some (g, b)) (hd : (ops[g]?).bind (·.dst) = some k) (ht : a.tmps[k]?.getD undef = .bool (!b) ∨ a.tmps[k]?.getD undef = undef)
    (hn : wpQuiet P ops C Q rest (a.put o.dst undef)) : wpQuiet P ops C Q (o :: rest) a := by
  have hw : ¬ Region.wanted o (yielded ops a.tmps) = true := by
    rcases ht with ht | ht
    · simp [Region.wanted, hg, yielded_tmps hd, ht]
    · have hu : yielded ops a.tmps g = none := by rw [yielded_tmps hd, ht]; rfl
      simp [Region.wanted, hg, hu]
  unfold wpQuiet
  rw [if_neg hw]
  exact hn
theorem wpC_region {id : Nat} {R : Exit → Act → World → Prop} {a : Act} {w : World} {l : List Oper} (C : World → Prop) (hm : P.follows .mixedOrders = true) (hB : Region.lexB .any l.toArray = true) (hC : C w.drew)
    (h : ∀ (OPS : Array Oper) (D : World → Prop) (QQ : Act → Prop), Hid (OPS = l.toArray) → (∀ W, D W → C W) → (∀ W, C W → D W) → (∀ a', (∀ w', C w' → R .normal a' w') → QQ a') → wpQuiet P OPS D QQ l a) : (Code.region id l.toArray true).wp P R a w :=
  wp_region_quiet (C := C) hm hB hC (by simpa using h l.toArray C (fun a' => ∀ w', C w' → R .normal a' w') rfl (fun _ h => h) (fun _ h => h) (fun _ h => h))
end
theorem geqS (t : TypeId) (a b : List UInt8) : binOp .geq t (.string ⟨a.toArray⟩) (.string ⟨b.toArray⟩) = pure (.bool !(Op.bytesLess a b)) := by simp [binOp, Op.stringOp, ByteArray.toList_eq]
theorem lssS (t : TypeId) (a b : List UInt8) : binOp .lss t (.string ⟨a.toArray⟩) (.string ⟨b.toArray⟩) = pure (.bool (Op.bytesLess a b)) := by simp [binOp, Op.stringOp, ByteArray.toList_eq]
theorem leqS (t : TypeId) (a b : List UInt8) : binOp .leq t (.string ⟨a.toArray⟩) (.string ⟨b.toArray⟩) = pure (.bool (Op.bytesLess a b || a == b)) := by simp [binOp, Op.stringOp, ByteArray.toList_eq]
theorem gtrS (t : TypeId) (a b : List UInt8) : binOp .gtr t (.string ⟨a.toArray⟩) (.string ⟨b.toArray⟩) = pure (.bool !(Op.bytesLess a b || a == b)) := by simp [binOp, Op.stringOp, ByteArray.toList_eq]
end Go.Proofs.Ytcbeadldieeceaa

/-
  cmp.Compare at strings, by its contract.
-/
namespace Go.Proofs.Ytcbeadldieeceaa
open Go.RowKit

def cmpS (x y : BS) : Int := if Op.bytesLess x y = true then -1 else if Op.bytesLess y x = true then 1 else 0
theorem cmpS_neg (x y : BS) : cmpS x y < 0 ↔ Op.bytesLess x y = true := by
  unfold cmpS
  split
  · rename_i h; simp [h]
  · rename_i h
    split
    · simp [h]
    · simp [h]
theorem cmpS_zero (x y : BS) : cmpS x y = 0 ↔ x = y := by
  unfold cmpS
  split
  · rename_i h
    constructor
    · intro e; cases e
    · intro e; exact absurd e (bl_ne h)
  · rename_i h
    split
    · rename_i h2
      constructor
      · intro e; cases e
      · intro e; exact absurd e.symm (bl_ne h2)
    · rename_i h2
      constructor
      · intro _
        by_cases e : x = y
        · exact e
        · exact absurd (bl_tri x y (by simpa using h) e) h2
      · intro _; rfl
end Go.Proofs.Ytcbeadldieeceaa

/-
  slices.Clone at elements of 2 cells, by its contract.
-/
namespace Go.Proofs.Ytcbeadldieeceaa
open Go.RowKit

theorem Try.cloneP_info : (Try.prog.info? 91).map (fun i => (i.zero, i.size, i.bytes)) = some (some (.agg #[.string ByteArray.empty, .string ByteArray.empty]), 2, 32) := by kernel_rfl
end Go.Proofs.Ytcbeadldieeceaa
