/-
  fletch.Read, by its contract.
-/
import Derived.WalkKit
import Derived.Shelf.SlIter.Nil
import Derived.Shelf.SortM.Plain
import Derived.Shelf.SortM.SortNone
import Derived.Ground.GgzProg
import Derived.Ground.SlgmProg
import Derived.Test.YthfjfkjlgdnohaaProg
import Derived.Test.YthfjfkjlgdnohaaZ1
import Derived.Test.YthfjfkjlgdnohaaZ2
namespace Go.Proofs.Ythfjfkjlgdnohaa
open Go.RowKit

set_option maxRecDepth 100000 in
theorem big_any (b : List UInt8) (n : Nat) (hnb : n = b.length) (h8 : n ≤ 8) (A : Option Addr) (c : Nat) (w : World) (B : Nat) (hr : Reads w B 1 A n (bts b)) :
    Calls Try.prog 121 #[.slice A n c] w fun e w' => e = .returned (.int .u64 (numN b : Int)) ∧ w = w' := by
  subst hnb
  have e8 : (b.length : Int) ≤ 8 := by omega
  go_enter Try.func121, Try.ntmps121
  go_wp2_with fail
  go_loop [3, 8] (fun n i => ∃ k m : Nat, k ≤ b.length ∧ i = .int .i64 (k : Int) ∧ n = .int .u64 (m : Int) ∧ Hid (m = numN (b.take k))) (fun _ i => b.length - (intOf i).toNat)
  case atStart => exact ⟨0, 0, Nat.zero_le _, rfl, rfl, (show _ = _ by simp [numN])⟩
  case round =>
    obtain ⟨k, m, hk, rfl, rfl, hm⟩ := hrel
    by_cases hlt : k < b.length
    · obtain ⟨ad, u, rfl, _, hu, hcu⟩ := hr.at_ (by omega : k < b.length)
      obtain rfl : u = .int .u8 ((b[k]).toNat : Int) := by rw [bts_get, List.getElem?_eq_getElem hlt] at hu; simpa using hu.symm
      have hm7 : m < 72057594037927936 := by have h1 := numN_take_lt b k hk; have h2 := pow_le8 (k := k) (by omega); rw [← hm.out] at h1; omega
      have hy := (b[k]).toNat_lt
      obtain ⟨y, hyy⟩ : ∃ y, y = (b[k]).toNat := ⟨_, rfl⟩
      rw [← hyy] at hcu hy
      have HY := Lib.hid hyy
      clear hyy hu hr
      go_wp2_with fail
      go_round
      case rel => exact ⟨k + 1, m * 256 + y, by omega, by go_num, by rw [or_u64 m y hm7 hy], (show _ = _ by rw [numN_take b k hlt, hm.out, HY.out])⟩
      case measure => simp [intOf]; omega
    · obtain rfl : k = b.length := by omega
      rw [List.take_length] at hm
      have hml : m < 18446744073709551616 := by
        have h1 := numN_lt b
        have h2 : 256 ^ b.length ≤ 256 ^ 8 := Nat.pow_le_pow_right (by omega) (by omega)
        have h3 : (256 : Nat) ^ 8 = 18446744073709551616 := by decide
        rw [hm.out]; omega
      clear hr
      go_wp2_with fail
      go_ret
      exact ⟨by rw [hm.out]; rfl, rfl⟩

/-- the eight octets at place k -/
def octAt (b : List UInt8) (k : Nat) : Nat := numN ((b.drop (8 * k)).take 8)
def readS (b : List UInt8) : Sm := if b.length = 32 then ⟨octAt b 0, octAt b 1, octAt b 2, octAt b 3⟩ else ⟨0, 0, 0, 0⟩
def readE (b : List UInt8) : Int := if b.length < 32 then 8 else if 32 < b.length then 5 else 0

set_option maxRecDepth 100000 in
theorem read_any (b : List UInt8) (n : Nat) (hnb : n = b.length) (A : Option Addr) (c : Nat) (w : World) (B : Nat) (hr : Reads w B 1 A n (bts b)) (hB : B ≤ w.heap.size) (hc : n ≤ c) (hn : c ≤ 9223372036854775807) :
    Calls Try.prog 96 #[.slice A n c] w fun e w' => e = .returned (.tuple #[(readS b).val, .int .i64 (readE b)]) ∧ Below w.heap.size w w' := by
  subst hnb
  by_cases h1 : b.length < 32
  · have hi : (b.length : Int) < 32 := by omega
    have ev : (readS b).val = .agg #[.int .u64 0, .int .u64 0, .int .u64 0, .int .u64 0] := by simp only [readS]; rw [if_neg (by omega)]; rfl
    have ee : readE b = 8 := by simp [readE, h1]
    rw [ev, ee]
    go_enter Try.func96, Try.ntmps96
    go_wp2_with fail
    refine bodyPost_ret (v := .tuple #[.agg #[.int .u64 0, .int .u64 0, .int .u64 0, .int .u64 0], .int .i64 8]) (by simp [results, Try.results96, go_sem]) rfl ⟨rfl, (Below.refl _ _).alloc (Nat.le_refl _) _⟩
  by_cases h2 : 32 < b.length
  · have hi : ¬ (b.length : Int) < 32 := by omega
    have hi2 : (32 : Int) < (b.length : Int) := by omega
    have ev : (readS b).val = .agg #[.int .u64 0, .int .u64 0, .int .u64 0, .int .u64 0] := by simp only [readS]; rw [if_neg (by omega)]; rfl
    have ee : readE b = 5 := by simp [readE, h1, h2]
    rw [ev, ee]
    go_enter Try.func96, Try.ntmps96
    go_wp2_with fail
    refine bodyPost_ret (v := .tuple #[.agg #[.int .u64 0, .int .u64 0, .int .u64 0, .int .u64 0], .int .i64 5]) (by simp [results, Try.results96, go_sem]) rfl ⟨rfl, (Below.refl _ _).alloc (Nat.le_refl _) _⟩
  obtain hb : b.length = 32 := by omega
  obtain ⟨ad, rfl, _, _⟩ := hr.2 (by omega)
  have hget : ∀ k, k < 4 → Reads w B 1 (some (ad.add (8 * k))) 8 (bts ((b.drop (8 * k)).take 8)) := fun k hk => by
    have h1 := hr.cut (k := 8 * k) (cap := c) (by omega) hc
    rw [if_neg (by omega), ← Nat.mul_one (8 * k)] at h1
    simp only [Nat.mul_one, Option.map_some] at h1
    have h2 := h1.pre (k := 8) (by omega)
    rw [Nat.mul_one, ← bts_drop, ← bts_take] at h2
    exact h2
  have hlen : ∀ k, k < 4 → 8 = ((b.drop (8 * k)).take 8).length := fun k hk => by simp; omega
  obtain ⟨n0, hn0⟩ : ∃ n : Nat, n = octAt b 0 := ⟨_, rfl⟩
  obtain ⟨n1, hn1⟩ : ∃ n : Nat, n = octAt b 1 := ⟨_, rfl⟩
  obtain ⟨n2, hn2⟩ : ∃ n : Nat, n = octAt b 2 := ⟨_, rfl⟩
  obtain ⟨n3, hn3⟩ : ∃ n : Nat, n = octAt b 3 := ⟨_, rfl⟩
  have k0 : ∀ (W : World) (c' : Nat), Below w.heap.size w W → Calls Try.prog 121 #[.slice (some ad) 8 c'] W fun e w' => e = .returned (.int .u64 (n0 : Int)) ∧ W = w' := fun W c' hb => by
    have := big_any _ 8 (hlen 0 (by omega)) (by omega) _ c' W B ((hget 0 (by omega)).below (hb.mono hB))
    rw [hn0]; simpa [add_zero, octAt] using this
  have k1 : ∀ (W : World) (c' : Nat), Below w.heap.size w W → Calls Try.prog 121 #[.slice (some (ad.add 8)) 8 c'] W fun e w' => e = .returned (.int .u64 (n1 : Int)) ∧ W = w' := fun W c' hb => by
    rw [hn1]; exact big_any _ 8 (hlen 1 (by omega)) (by omega) _ c' W B ((hget 1 (by omega)).below (hb.mono hB))
  have k2 : ∀ (W : World) (c' : Nat), Below w.heap.size w W → Calls Try.prog 121 #[.slice (some (ad.add 16)) 8 c'] W fun e w' => e = .returned (.int .u64 (n2 : Int)) ∧ W = w' := fun W c' hb => by
    rw [hn2]; exact big_any _ 8 (hlen 2 (by omega)) (by omega) _ c' W B ((hget 2 (by omega)).below (hb.mono hB))
  have k3 : ∀ (W : World) (c' : Nat), Below w.heap.size w W → Calls Try.prog 121 #[.slice (some (ad.add 24)) 8 c'] W fun e w' => e = .returned (.int .u64 (n3 : Int)) ∧ W = w' := fun W c' hb => by
    rw [hn3]; exact big_any _ 8 (hlen 3 (by omega)) (by omega) _ c' W B ((hget 3 (by omega)).below (hb.mono hB))
  have ev : (readS b).val = .agg #[.int .u64 n0, .int .u64 n1, .int .u64 n2, .int .u64 n3] := by simp only [readS]; rw [if_pos hb, hn0, hn1, hn2, hn3]; rfl
  have ee : readE b = 0 := by simp [readE, hb]
  rw [ev, ee]
  rw [hb] at hc
  have hcc : (32 : Int) ≤ (c : Int) := by omega
  rw [hb]
  clear hb ev ee h1 h2 hn0 hn1 hn2 hn3 hget hlen hr
  go_enter Try.func96, Try.ntmps96
  go_wp2_with fail
  refine wp_loop_rounds 5 ?_
  rw [rounds_succ]; go_wp2_with fail
  refine (k0 _ _ (by go_grown)).mono ?_
  rintro e w1 ⟨rfl, rfl⟩
  go_wp2_with fail
  rw [rounds_succ]; go_wp2_with fail
  refine (k1 _ _ (by go_grown)).mono ?_
  rintro e w1 ⟨rfl, rfl⟩
  go_wp2_with fail
  rw [rounds_succ]; go_wp2_with fail
  refine (k2 _ _ (by go_grown)).mono ?_
  rintro e w1 ⟨rfl, rfl⟩
  go_wp2_with fail
  rw [rounds_succ]; go_wp2_with fail
  refine (k3 _ _ (by go_grown)).mono ?_
  rintro e w1 ⟨rfl, rfl⟩
  go_wp2_with fail
  rw [rounds_succ]; go_wp2_with fail
  refine bodyPost_ret (v := .tuple #[.agg #[.int .u64 n0, .int .u64 n1, .int .u64 n2, .int .u64 n3], .int .i64 0]) (by simp [results, Try.results96, go_sem]) rfl ⟨rfl, by go_grown⟩
end Go.Proofs.Ythfjfkjlgdnohaa

/-
  The plain law of names: what names and paths are, and what the statements of chapter 03 say of them.
-/
namespace Go.Proofs.Ythfjfkjlgdnohaa

def okB (c : UInt8) : Bool := (97 ≤ c && c ≤ 122) || (48 ≤ c && c ≤ 57) || c == 45 || c == 95
def nameB (s : List UInt8) : Bool := !s.isEmpty && decide (s.length ≤ 16) && s.all okB
/-- the parts between slashes -/
def partsL : List UInt8 → List (List UInt8)
  | [] => [[]]
  | c :: r => if c = 47 then [] :: partsL r else match partsL r with
    | p :: ps => (c :: p) :: ps
    | [] => [[c]]
def pathB (s : List UInt8) : Bool := s.isEmpty || (decide ((partsL s).length ≤ 4) && (partsL s).all nameB)
/-- where the last slash stands, or 0 -/
def lastS : List UInt8 → Option Nat
  | [] => none
  | c :: r => match lastS r with
    | some k => some (k + 1)
    | none => if c = 47 then some 0 else none
def upL (s : List UInt8) : List UInt8 := s.take ((lastS s).getD 0)
def underB (p f : List UInt8) : Bool := pathB p && pathB f && (f.isEmpty || p == f || (f ++ [47]).isPrefixOf p)

theorem partsL_ne (s : List UInt8) : partsL s ≠ [] := by
  cases s with
  | nil => simp [partsL]
  | cons c r =>
    unfold partsL
    split
    · simp
    · split <;> simp
theorem lastS_none (s : List UInt8) (h : lastS s = none) : partsL s = [s] := by
  induction s with
  | nil => rfl
  | cons c r ih =>
    unfold lastS at h
    split at h
    · cases h
    · rename_i hr
      split at h
      · cases h
      · rename_i hc
        unfold partsL
        rw [if_neg hc, ih hr]
theorem lastS_some (s : List UInt8) (k : Nat) (h : lastS s = some k) : k < s.length ∧ s[k]? = some 47 ∧ partsL s = partsL (s.take k) ++ [s.drop (k + 1)] := by
  induction s generalizing k with
  | nil => cases h
  | cons c r ih =>
    unfold lastS at h
    split at h
    · rename_i j hj
      cases h
      obtain ⟨h1, h2, h3⟩ := ih j hj
      refine ⟨by simpa using h1, by simpa using h2, ?_⟩
      rw [List.take_succ_cons, List.drop_succ_cons]
      unfold partsL
      by_cases hc : c = 47
      · rw [if_pos hc, if_pos hc, h3]; rfl
      · rw [if_neg hc, if_neg hc, h3]
        cases hp : partsL (r.take j) with
        | nil => exact absurd hp (partsL_ne _)
        | cons p ps => rfl
    · rename_i hr
      split at h
      · rename_i hc
        cases h
        refine ⟨by simp, by simp [hc], ?_⟩
        unfold partsL
        rw [if_pos hc, lastS_none r hr]
        rfl
      · cases h
theorem pathB_nil : pathB [] = true := rfl
theorem nameB_nil : nameB [] = false := rfl
theorem path_up (s : List UInt8) (hp : pathB s = true) (hs : s ≠ []) : pathB (upL s) = true ∧ underB s (upL s) = true ∧ underB (upL s) s = false := by
  have hsb : s.isEmpty = false := by cases s <;> simp_all
  cases hl : lastS s with
  | none =>
    have hu : upL s = [] := by simp [upL, hl]
    rw [hu]
    refine ⟨rfl, by simp [underB, hp, pathB_nil], ?_⟩
    have h1 : (s ++ [47]).isPrefixOf [] = false := by
      cases h : (s ++ [47]).isPrefixOf [] with
      | false => rfl
      | true => have := (List.isPrefixOf_iff_prefix.1 h).length_le; simp at this
    have h2 : (([] : List UInt8) == s) = false := by simpa using hs
    simp [underB, hsb, h1, h2]
  | some k =>
    obtain ⟨h1, h2, h3⟩ := lastS_some s k hl
    have hu : upL s = s.take k := by simp [upL, hl]
    rw [hu]
    have hp2 : decide ((partsL s).length ≤ 4) = true ∧ (partsL s).all nameB = true := by
      unfold pathB at hp
      simp only [hsb, Bool.false_or, Bool.and_eq_true] at hp
      exact hp
    rw [h3, List.all_append, Bool.and_eq_true, List.length_append] at hp2
    have hup : pathB (s.take k) = true := by
      unfold pathB
      have hl4 : (partsL (s.take k)).length ≤ 4 := by have := of_decide_eq_true hp2.1; simp at this; omega
      simp [hp2.2.1, hl4]
    have hpre : ((s.take k) ++ [47]).isPrefixOf s = true := by
      rw [List.isPrefixOf_iff_prefix]
      refine ⟨s.drop (k + 1), ?_⟩
      have h4 : s[k] = 47 := by rw [List.getElem?_eq_getElem h1] at h2; exact Option.some.inj h2
      rw [← h4, ← List.take_succ_eq_append_getElem h1, List.take_append_drop]
    refine ⟨hup, by simp [underB, hp, hup, hpre], ?_⟩
    have hq : (s ++ [47]).isPrefixOf (s.take k) = false := by
      cases h : (s ++ [47]).isPrefixOf (s.take k) with
      | false => rfl
      | true =>
        have := (List.isPrefixOf_iff_prefix.1 h).length_le
        simp at this
        omega
    have hne : (s.take k == s) = false := by
      simp only [beq_eq_false_iff_ne, ne_eq]
      intro e
      have := congrArg List.length e
      rw [List.length_take] at this
      omega
    simp [underB, hsb, hq, hne]
theorem under_self (s : List UInt8) (hp : pathB s = true) : underB s s = true ∧ underB s [] = true := by
  constructor
  · simp [underB, hp]
  · simp [underB, hp, pathB_nil]
theorem under_both (s t : List UInt8) (h1 : underB s t = true) (h2 : underB t s = true) : s = t := by
  unfold underB at h1 h2
  simp only [Bool.and_eq_true, Bool.or_eq_true, List.isEmpty_iff, beq_iff_eq, List.isPrefixOf_iff_prefix] at h1 h2
  rcases h1.2 with (h | h) | h
  · rcases h2.2 with (h' | h') | h'
    · rw [h, h']
    · exact h'.symm
    · have := h'.length_le
      rw [h] at this
      simp at this
  · exact h
  · rcases h2.2 with (h' | h') | h'
    · have := h.length_le
      rw [h'] at this
      simp at this
    · exact h'.symm
    · have e1 := h.length_le
      have e2 := h'.length_le
      simp at e1 e2
      omega

/-! ### What comes back -/
def lowB (c : UInt8) : UInt8 := if 65 ≤ c ∧ c ≤ 90 then c + 32 else c
def trimL (s : List UInt8) : List UInt8 := if s.getLast? = some 47 then s.dropLast else s
def canonL (s : List UInt8) : List UInt8 := trimL (s.map lowB)
/-- what stands before the first '@', and behind it -/
def atL : List UInt8 → Option (List UInt8 × List UInt8)
  | [] => none
  | c :: r => if c = 64 then some ([], r) else match atL r with
    | some (p, n) => some (c :: p, n)
    | none => none
theorem okB_lower (c : UInt8) (h : okB c = true) : lowB c = c := by
  unfold lowB
  rw [if_neg]
  rintro ⟨h1, h2⟩
  unfold okB at h
  simp only [Bool.or_eq_true, Bool.and_eq_true, decide_eq_true_eq, beq_iff_eq, UInt8.le_iff_toNat_le] at h h1 h2
  have e1 : (65 : UInt8).toNat = 65 := rfl
  have e2 : (90 : UInt8).toNat = 90 := rfl
  have e3 : (97 : UInt8).toNat = 97 := rfl
  have e4 : (57 : UInt8).toNat = 57 := rfl
  rcases h with ((h | h) | h) | h
  · omega
  · omega
  · subst h; simp at h1
  · subst h; simp at h2
theorem parts_all (s : List UInt8) (p : List UInt8 → Bool) (q : UInt8 → Prop) (hp : ∀ x, p x = true → ∀ c ∈ x, q c) (h : (partsL s).all p = true) (h47 : q 47) : ∀ c ∈ s, q c := by
  induction s with
  | nil => intro c hc; cases hc
  | cons a r ih =>
    intro c hc
    unfold partsL at h
    by_cases ha : a = 47
    · rw [if_pos ha, List.all_cons, Bool.and_eq_true] at h
      rcases List.mem_cons.1 hc with rfl | hc
      · rw [ha]; exact h47
      · exact ih h.2 c hc
    · rw [if_neg ha] at h
      cases hr : partsL r with
      | nil => exact absurd hr (partsL_ne r)
      | cons x xs =>
        rw [hr] at h
        simp only [List.all_cons, Bool.and_eq_true] at h
        have ha' := hp _ h.1 a (List.mem_cons_self ..)
        rcases List.mem_cons.1 hc with rfl | hc
        · exact ha'
        · -- the rest: every other char of x, and of xs
          have key : ∀ (l : List UInt8) (y : List UInt8) (ys : List (List UInt8)), partsL l = y :: ys → (∀ c ∈ y, q c) → ys.all p = true → ∀ c ∈ l, q c := by
            intro l
            induction l with
            | nil => intro y ys _ _ _ c hc; cases hc
            | cons b l ihl =>
              intro y ys hl hy hys c hc
              unfold partsL at hl
              by_cases hb : b = 47
              · rw [if_pos hb] at hl
                injection hl with e1 e2
                subst e1 e2
                rcases List.mem_cons.1 hc with rfl | hc
                · rw [hb]; exact h47
                · cases hl2 : partsL l with
                  | nil => exact absurd hl2 (partsL_ne l)
                  | cons z zs =>
                    rw [hl2] at hys
                    simp only [List.all_cons, Bool.and_eq_true] at hys
                    exact ihl z zs hl2 (hp _ hys.1) hys.2 c hc
              · rw [if_neg hb] at hl
                cases hl2 : partsL l with
                | nil => exact absurd hl2 (partsL_ne l)
                | cons z zs =>
                  rw [hl2] at hl
                  injection hl with e1 e2
                  subst e1 e2
                  rcases List.mem_cons.1 hc with rfl | hc
                  · exact hy _ (List.mem_cons_self ..)
                  · exact ihl z zs hl2 (fun c hc => hy c (List.mem_cons_of_mem _ hc)) hys c hc
          exact key r x xs hr (fun c hc => hp _ h.1 c (List.mem_cons_of_mem _ hc)) h.2 c hc
theorem nameB_ok (x : List UInt8) (h : nameB x = true) : ∀ c ∈ x, okB c = true := by
  unfold nameB at h
  simp only [Bool.and_eq_true, List.all_eq_true] at h
  exact h.2
theorem path_chars (s : List UInt8) (h : pathB s = true) : ∀ c ∈ s, okB c = true ∨ c = 47 := by
  cases hs : s with
  | nil => intro c hc; cases hc
  | cons a r =>
    rw [← hs]
    have hsb : s.isEmpty = false := by rw [hs]; rfl
    unfold pathB at h
    simp only [hsb, Bool.false_or, Bool.and_eq_true] at h
    exact parts_all s nameB (fun c => okB c = true ∨ c = 47) (fun x hx c hc => .inl (nameB_ok x hx c hc)) h.2 (.inr rfl)
theorem parts_last (s : List UInt8) (h : s.getLast? = some 47) : [] ∈ partsL s := by
  induction s with
  | nil => cases h
  | cons a r ih =>
    unfold partsL
    cases r with
    | nil =>
      simp at h
      rw [if_pos h]
      simp
    | cons b t =>
      have h' : (b :: t).getLast? = some 47 := by simpa using h
      have := ih h'
      by_cases ha : a = 47
      · rw [if_pos ha]; simp
      · rw [if_neg ha]
        cases hr : partsL (b :: t) with
        | nil => exact absurd hr (partsL_ne _)
        | cons x xs =>
          rw [hr] at this
          -- the first part of what ends in a slash may be empty alone if it opens with one
          rcases List.mem_cons.1 this with e | e
          · subst e
            -- then b = 47 and xs holds what stands behind
            have hx : xs ≠ [] ∧ [] ∈ xs ∨ True := .inr trivial
            clear hx
            unfold partsL at hr
            by_cases hb : b = 47
            · rw [if_pos hb] at hr
              injection hr with _ e2
              subst e2
              cases t with
              | nil => simp [partsL]
              | cons d u =>
                have h2 : (d :: u).getLast? = some 47 := by simpa using h'
                have h3 : [] ∈ partsL (d :: u) := by
                  have hi := this
                  clear this
                  exact (by
                    -- by the same road, shorter
                    have aux : ∀ (n : Nat) (l : List UInt8), l.length = n → l.getLast? = some 47 → [] ∈ (partsL l).tail ∨ l = [] ∨ partsL l = [] := by
                      intro n
                      induction n with
                      | zero => intro l hl _; exact .inr (.inl (List.eq_nil_of_length_eq_zero hl))
                      | succ n ihn =>
                        intro l hl hlast
                        cases l with
                        | nil => exact .inr (.inl rfl)
                        | cons x0 l0 =>
                          left
                          unfold partsL
                          by_cases hx0 : x0 = 47
                          · rw [if_pos hx0, List.tail_cons]
                            cases l0 with
                            | nil => simp [partsL]
                            | cons y0 m0 =>
                              rcases ihn (y0 :: m0) (by simpa using hl) (by simpa using hlast) with h5 | h5 | h5
                              · exact List.mem_of_mem_tail h5
                              · cases h5
                              · exact absurd h5 (partsL_ne _)
                          · rw [if_neg hx0]
                            cases l0 with
                            | nil => simp at hlast; exact absurd hlast hx0
                            | cons y0 m0 =>
                              rcases ihn (y0 :: m0) (by simpa using hl) (by simpa using hlast) with h5 | h5 | h5
                              · cases hq : partsL (y0 :: m0) with
                                | nil => exact absurd hq (partsL_ne _)
                                | cons z zs => rw [hq] at h5; exact h5
                              · cases h5
                              · exact absurd h5 (partsL_ne _)
                    rcases aux _ (d :: u) rfl h2 with h5 | h5 | h5
                    · exact List.mem_of_mem_tail h5
                    · cases h5
                    · exact absurd h5 (partsL_ne _))
                exact List.mem_cons_of_mem _ h3
            · rw [if_neg hb] at hr
              cases hl2 : partsL t with
              | nil => exact absurd hl2 (partsL_ne t)
              | cons z zs =>
                rw [hl2] at hr
                injection hr with e1 _
                cases e1
          · exact List.mem_cons_of_mem _ e
theorem path_last (s : List UInt8) (h : pathB s = true) : trimL s = s := by
  unfold trimL
  rw [if_neg]
  intro h47
  have hs : s.isEmpty = false := by cases s <;> simp_all
  unfold pathB at h
  simp only [hs, Bool.false_or, Bool.and_eq_true, List.all_eq_true] at h
  have := h.2 [] (parts_last s h47)
  cases this
theorem canon_path (s : List UInt8) (h : pathB s = true) : canonL s = s := by
  unfold canonL
  have : s.map lowB = s := by
    conv => rhs; rw [← List.map_id s]
    apply List.map_congr_left
    intro c hc
    rcases path_chars s h c hc with h1 | h1
    · exact okB_lower c h1
    · subst h1; rfl
  rw [this, path_last s h]
theorem atL_join (s n : List UInt8) (h : ∀ c ∈ s, c ≠ 64) : atL (s ++ 64 :: n) = some (s, n) := by
  induction s with
  | nil => simp [atL]
  | cons a r ih =>
    rw [List.cons_append]
    unfold atL
    rw [if_neg (h a (List.mem_cons_self ..)), ih (fun c hc => h c (List.mem_cons_of_mem _ hc))]
theorem atL_more (s n : List UInt8) (h : 64 ∈ s) : ∃ p q, atL (s ++ 64 :: n) = some (p, q) ∧ 64 ∈ q := by
  induction s with
  | nil => cases h
  | cons a r ih =>
    rw [List.cons_append]
    unfold atL
    by_cases ha : a = 64
    · rw [if_pos ha]
      exact ⟨[], r ++ 64 :: n, rfl, by simp⟩
    · rw [if_neg ha]
      obtain ⟨p, q, e, hq⟩ := ih (by rcases List.mem_cons.1 h with rfl | h; exact absurd rfl ha; exact h)
      rw [e]
      exact ⟨a :: p, q, rfl, hq⟩
theorem split_join (s n : List UInt8) : (∃ p q, atL (s ++ 64 :: n) = some (p, q) ∧ ((pathB p && nameB q) = (pathB s && nameB n)) ∧ ((pathB s && nameB n) = true → p = s ∧ q = n)) := by
  by_cases h : 64 ∈ s
  · obtain ⟨p, q, e, hq⟩ := atL_more s n h
    have h1 : pathB s = false := by
      cases hp : pathB s with
      | false => rfl
      | true => rcases path_chars s hp 64 h with h2 | h2 <;> cases h2
    have h2 : nameB q = false := by
      cases hn : nameB q with
      | false => rfl
      | true => have := nameB_ok q hn 64 hq; cases this
    exact ⟨p, q, e, by simp [h1, h2], by simp [h1]⟩
  · exact ⟨s, n, atL_join s n (fun c hc e => h (by rw [← e]; exact hc)), rfl, fun _ => ⟨rfl, rfl⟩⟩
end Go.Proofs.Ythfjfkjlgdnohaa

/-
  Records and their octets: the plain law.
-/
namespace Go.Proofs.Ythfjfkjlgdnohaa
open Go.RowKit

/-! ### Numbers and octets -/
theorem numN_inj (n : Nat) : ∀ a b : List UInt8, a.length = n → b.length = n → numN a = numN b → a = b := by
  induction n with
  | zero => intro a b ha hb _; rw [List.eq_nil_of_length_eq_zero ha, List.eq_nil_of_length_eq_zero hb]
  | succ n ih =>
    intro a b ha hb h
    rcases List.eq_nil_or_concat a with rfl | ⟨a', x, rfl⟩
    · simp at ha
    rcases List.eq_nil_or_concat b with rfl | ⟨b', y, rfl⟩
    · simp at hb
    rw [List.concat_eq_append] at ha hb h ⊢
    rw [List.concat_eq_append] at h ⊢
    rw [numN_snoc, numN_snoc] at h
    have hx := x.toNat_lt
    have hy := y.toNat_lt
    have e1 : numN a' = numN b' := by omega
    have e2 : x = y := UInt8.toNat_inj.1 (by omega)
    rw [ih a' b' (by simpa using ha) (by simpa using hb) e1, e2]
theorem putL2r (n : Int) : putL n 2 = [toByte (n / 256), toByte n] := by
  simp [putL, putF, bkDown, putStep, List.range, List.range.loop, List.replicate]
theorem putL3r (n : Int) : putL n 3 = [toByte (n / 256 / 256), toByte (n / 256), toByte n] := by
  simp [putL, putF, bkDown, putStep, List.range, List.range.loop, List.replicate]
theorem putL8r (n : Int) : putL n 8 = [toByte (n / 256 / 256 / 256 / 256 / 256 / 256 / 256), toByte (n / 256 / 256 / 256 / 256 / 256 / 256), toByte (n / 256 / 256 / 256 / 256 / 256), toByte (n / 256 / 256 / 256 / 256), toByte (n / 256 / 256 / 256), toByte (n / 256 / 256), toByte (n / 256), toByte n] := by
  simp [putL, putF, bkDown, putStep, List.range, List.range.loop, List.replicate]
theorem numN2r (n : Int) : (numN (putL n 2) : Int) = n % 65536 := by
  rw [putL2r]
  simp only [numN, List.foldl_cons, List.foldl_nil, Int.natCast_add, Int.natCast_mul, toByte_int]
  omega
theorem numN3r (n : Int) : (numN (putL n 3) : Int) = n % 16777216 := by
  rw [putL3r]
  simp only [numN, List.foldl_cons, List.foldl_nil, Int.natCast_add, Int.natCast_mul, toByte_int]
  omega
theorem numN8r (n : Int) : (numN (putL n 8) : Int) = n % 18446744073709551616 := by
  rw [putL8r]
  simp only [numN, List.foldl_cons, List.foldl_nil, Int.natCast_add, Int.natCast_mul, toByte_int]
  omega
theorem put2_num (b : List UInt8) (h : b.length = 2) : putL (numN b : Int) 2 = b := by
  have := numN2r (numN b)
  have hl := numN_lt b
  rw [h] at hl
  exact numN_inj 2 _ _ (putL_length _ _) h (by omega)
theorem put3_num (b : List UInt8) (h : b.length = 3) : putL (numN b : Int) 3 = b := by
  have := numN3r (numN b)
  have hl := numN_lt b
  rw [h] at hl
  exact numN_inj 3 _ _ (putL_length _ _) h (by omega)
theorem put8_num (b : List UInt8) (h : b.length = 8) : putL (numN b : Int) 8 = b := by
  have := numN8r (numN b)
  have hl := numN_lt b
  rw [h] at hl
  exact numN_inj 8 _ _ (putL_length _ _) h (by omega)
theorem numN2r' (n : Nat) (h : n < 65536) : numN (putL (n : Int) 2) = n := by have := numN2r n; omega
theorem numN3r' (n : Nat) (h : n < 16777216) : numN (putL (n : Int) 3) = n := by have := numN3r n; omega

/-! ### Sums -/
theorem octAt_r (sa sb sc sd : Int) : octAt (octL sa sb sc sd) 0 = numN (putL (IntKind.i64.wrap sa) 8) ∧ octAt (octL sa sb sc sd) 1 = numN (putL (IntKind.i64.wrap sb) 8) ∧ octAt (octL sa sb sc sd) 2 = numN (putL (IntKind.i64.wrap sc) 8) ∧ octAt (octL sa sb sc sd) 3 = numN (putL (IntKind.i64.wrap sd) 8) := by
  unfold octAt octL
  have h : ∀ n, (putL n 8).length = 8 := fun n => putL_length n 8
  refine ⟨?_, ?_, ?_, ?_⟩ <;> simp [List.drop_append, h, List.drop_eq_nil_of_le, List.take_of_length_le]
theorem wrap_r (x : Int) (h : 0 ≤ x ∧ x < 18446744073709551616) : IntKind.i64.wrap x % 18446744073709551616 = x := by
  rw [IntKind.wrap_i64]; omega
theorem readS_r (s : Sm) (hs : s.ok) : readS (octL s.a s.b s.c s.d) = s := by
  obtain ⟨sa, sb, sc, sd⟩ := s
  obtain ⟨e0, e1, e2, e3⟩ := octAt_r sa sb sc sd
  unfold readS
  rw [if_pos (octL_length _ _ _ _), e0, e1, e2, e3, numN8r, numN8r, numN8r, numN8r, wrap_r _ hs.a, wrap_r _ hs.b, wrap_r _ hs.c, wrap_r _ hs.d]
theorem put_wrap_r (b : List UInt8) (h : b.length = 8) : putL (IntKind.i64.wrap (numN b : Int)) 8 = b := by
  have h1 := numN8r (IntKind.i64.wrap (numN b : Int))
  have hl := numN_lt b
  rw [h] at hl
  rw [wrap_r _ (by omega)] at h1
  exact numN_inj 8 _ _ (putL_length _ _) h (by omega)
theorem octL_readS (b : List UInt8) (h : b.length = 32) : octL (readS b).a (readS b).b (readS b).c (readS b).d = b := by
  unfold readS
  rw [if_pos h]
  unfold octL octAt
  rw [put_wrap_r _ (by simp; omega), put_wrap_r _ (by simp; omega), put_wrap_r _ (by simp; omega), put_wrap_r _ (by simp; omega)]
  have e3 : (b.drop (8 * 3)).take 8 = b.drop 24 := List.take_of_length_le (by simp; omega)
  rw [e3]
  have j : ∀ k, (b.drop (8 * k)).take 8 ++ b.drop (8 * k + 8) = b.drop (8 * k) := by
    intro k
    conv => rhs; rw [← List.take_append_drop 8 (b.drop (8 * k)), List.drop_drop]
  have j2 := j 2
  have j1 := j 1
  have j0 := j 0
  simp only [Nat.mul_zero, Nat.mul_one, Nat.zero_add, List.drop_zero] at j0 j1 j2 ⊢
  rw [j2, j1, j0]
theorem readS_ok (b : List UInt8) : (readS b).ok := by
  unfold readS
  split
  · have h : ∀ k, octAt b k < 18446744073709551616 := by
      intro k
      have := numN_lt ((b.drop (8 * k)).take 8)
      have hl : ((b.drop (8 * k)).take 8).length ≤ 8 := by simp; omega
      have h2 : 256 ^ ((b.drop (8 * k)).take 8).length ≤ 256 ^ 8 := Nat.pow_le_pow_right (by decide) hl
      have e : (256 : Nat) ^ 8 = 18446744073709551616 := by decide
      unfold octAt
      omega
    have h0 := h 0
    have h1 := h 1
    have h2 := h 2
    have h3 := h 3
    exact ⟨by simp only; omega, by simp only; omega, by simp only; omega, by simp only; omega⟩
  · exact ⟨by decide, by decide, by decide, by decide⟩

/-! ### Fields -/
abbrev BS := List UInt8
def fone (s : BS) : BS := putL (s.length : Int) 3 ++ s
def fwrite (l : List BS) : BS := putL (l.length : Int) 2 ++ l.flatMap fone
def fbody : Nat → BS → Except Int (List BS)
  | 0, b => if b.length = 0 then .ok [] else .error 9
  | k + 1, b =>
    if b.length < 3 then .error 8 else if 65536 < numN (b.take 3) then .error 5 else if b.length < 3 + numN (b.take 3) then .error 8 else
      match fbody k (b.drop (3 + numN (b.take 3))) with
      | .ok l => .ok ((b.drop 3).take (numN (b.take 3)) :: l)
      | .error e => .error e
def fread (b : BS) : Except Int (List BS) := if b.length < 2 then .error 8 else if 1024 < numN (b.take 2) then .error 3 else fbody (numN (b.take 2)) (b.drop 2)
theorem fbody_write (l : List BS) (h : ∀ s ∈ l, s.length ≤ 65536) : fbody l.length (l.flatMap fone) = .ok l := by
  induction l with
  | nil => rfl
  | cons s l ih =>
    have hs := h s (List.mem_cons_self ..)
    have e : (s :: l).flatMap fone = putL (s.length : Int) 3 ++ (s ++ l.flatMap fone) := by simp [fone]
    have h3 : (putL (s.length : Int) 3).length = 3 := putL_length _ _
    have ht : (putL (s.length : Int) 3 ++ (s ++ l.flatMap fone)).take 3 = putL (s.length : Int) 3 := List.take_left' h3
    have hn : numN (putL (s.length : Int) 3) = s.length := numN3r' _ (by omega)
    have hd : (putL (s.length : Int) 3 ++ (s ++ l.flatMap fone)).drop 3 = s ++ l.flatMap fone := List.drop_left' h3
    rw [e, List.length_cons, fbody, ht, hn, if_neg (by simp [h3]), if_neg (by omega), if_neg (by simp [h3]), ← List.drop_drop, hd, List.drop_left' rfl, ih (fun x hx => h x (List.mem_cons_of_mem _ hx)), List.take_left' rfl]
theorem fread_write (l : List BS) (hl : l.length ≤ 1024) (h : ∀ s ∈ l, s.length ≤ 65536) : fread (fwrite l) = .ok l := by
  have h2 : (putL (l.length : Int) 2).length = 2 := putL_length _ _
  have ht : (fwrite l).take 2 = putL (l.length : Int) 2 := List.take_left' h2
  have hd : (fwrite l).drop 2 = l.flatMap fone := List.drop_left' h2
  unfold fread
  rw [ht, hd, numN2r' _ (by omega), if_neg (by unfold fwrite; simp [h2]), if_neg (by omega), fbody_write l h]
theorem fbody_back (k : Nat) : ∀ (b : BS) (l : List BS), fbody k b = .ok l → l.length = k ∧ l.flatMap fone = b ∧ ∀ s ∈ l, s.length ≤ 65536 := by
  induction k with
  | zero =>
    intro b l h
    unfold fbody at h
    split at h
    · rename_i hb
      cases h
      exact ⟨rfl, (List.eq_nil_of_length_eq_zero hb).symm, by simp⟩
    · cases h
  | succ k ih =>
    intro b l h
    unfold fbody at h
    split at h
    · cases h
    rename_i h3
    split at h
    · cases h
    rename_i hm
    split at h
    · cases h
    rename_i hb
    split at h
    · rename_i l' e
      cases h
      obtain ⟨h1, h2, h4⟩ := ih _ _ e
      have hl : ((b.drop 3).take (numN (b.take 3))).length = numN (b.take 3) := by simp; omega
      refine ⟨by simp [h1], ?_, ?_⟩
      · rw [List.flatMap_cons, h2, fone, hl, put3_num _ (by simp; omega), List.append_assoc, ← List.drop_drop, List.take_append_drop, List.take_append_drop]
      · intro s hs
        rcases List.mem_cons.1 hs with rfl | hs
        · omega
        · exact h4 s hs
    · cases h
theorem fread_back (b : BS) (l : List BS) (h : fread b = .ok l) : fwrite l = b ∧ l.length ≤ 1024 ∧ ∀ s ∈ l, s.length ≤ 65536 := by
  unfold fread at h
  split at h
  · cases h
  rename_i h2
  split at h
  · cases h
  rename_i hm
  obtain ⟨h3, h4, h5⟩ := fbody_back _ _ _ h
  refine ⟨?_, by omega, h5⟩
  unfold fwrite
  rw [h3, h4, put2_num _ (by simp; omega), List.take_append_drop]

/-! ### Records -/
abbrev PL := List (BS × BS)
structure Rc where
  kind : Int
  nm : BS
  frm : Int
  gd : Int
  own : PL
  ix : Int
  ct : Int
  dt : BS
  sm : Sm
def Sm0 : Sm := ⟨0, 0, 0, 0⟩
def Rc0 : Rc := ⟨0, [], 0, 0, [], 0, 0, [], Sm0⟩
def valB (s : BS) : Bool := decide (s.length ≤ 32) && s.all fun c => decide (32 ≤ c) && decide (c ≤ 126)
def propsFrom : Option BS → PL → Bool
  | _, [] => true
  | p, x :: l => nameB x.1 && valB x.2 && (match p with | none => true | some q => Op.bytesLess q x.1) && propsFrom (some x.1) l
def propsB (l : PL) : Bool := decide (l.length ≤ 8) && propsFrom none l
def smZ (s : Sm) : Bool := decide (s.a = 0 ∧ s.b = 0 ∧ s.c = 0 ∧ s.d = 0)
theorem smZ_eq (s : Sm) (h : smZ s = true) : s = Sm0 := by
  obtain ⟨a, b, c, d⟩ := s
  obtain ⟨h1, h2, h3, h4⟩ := of_decide_eq_true h
  simp only at h1 h2 h3 h4
  subst h1 h2 h3 h4
  rfl
def amt (n : Int) (least : Int) : Bool := decide (least ≤ n) && decide (n ≤ 1099511627776)
def mayB (r : Rc) : Bool :=
  if r.kind = 1 then nameB r.nm && amt r.frm 0 && amt r.gd 1 && propsB r.own && decide (r.ix = 0) && decide (r.ct = 0) && decide (r.dt = []) && smZ r.sm
  else if r.kind = 2 then decide (0 ≤ r.ix ∧ r.ix < 1024) && decide (r.dt.length = 16) && decide (r.nm = []) && decide (r.frm = 0) && decide (r.gd = 0) && decide (r.own = []) && decide (r.ct = 0) && smZ r.sm
  else if r.kind = 3 then decide (0 ≤ r.ix ∧ r.ix < 1024) && decide (1 ≤ r.ct ∧ r.ct ≤ 1024 - r.ix) && decide (r.nm = []) && decide (r.frm = 0) && decide (r.gd = 0) && decide (r.own = []) && decide (r.dt = []) && smZ r.sm
  else decide (r.nm = []) && decide (r.frm = 0) && decide (r.gd = 0) && decide (r.own = []) && decide (r.ix = 0) && decide (r.ct = 0) && decide (r.dt = [])
def recE (r : Rc) : Int := if r.kind < 1 ∨ 4 < r.kind then 23 else if mayB r = true then 0 else 9
def n8 (n : Int) : BS := putL n 8
def ptexts (l : PL) : List BS := l.flatMap fun x => [x.1, x.2]
def rtexts (r : Rc) : List BS :=
  if r.kind = 1 then [r.nm, n8 r.frm, n8 r.gd] ++ ptexts r.own
  else if r.kind = 2 then [n8 r.ix, r.dt]
  else if r.kind = 3 then [n8 r.ix, n8 r.ct]
  else [octL r.sm.a r.sm.b r.sm.c r.sm.d]
def encL (r : Rc) : BS := toByte r.kind :: (putL ((fwrite (rtexts r)).length : Int) 2 ++ fwrite (rtexts r))
def num8 (s : BS) : Option Int := if s.length = 8 ∧ numN s ≤ 4611686018427387903 then some (numN s : Int) else none
def pairsL : List BS → Option PL
  | [] => some []
  | [_] => none
  | a :: b :: l => (pairsL l).map ((a, b) :: ·)
def madeL (kind : Int) (l : List BS) : Option Rc :=
  if kind = 1 then match l with
    | nm :: a :: b :: rest => match num8 a, num8 b, pairsL rest with
      | some x, some y, some p => some { Rc0 with kind := kind, nm := nm, frm := x, gd := y, own := p }
      | _, _, _ => none
    | _ => none
  else if kind = 2 then match l with
    | [a, d] => match num8 a with
      | some x => some { Rc0 with kind := kind, ix := x, dt := d }
      | none => none
    | _ => none
  else if kind = 3 then match l with
    | [a, b] => match num8 a, num8 b with
      | some x, some y => some { Rc0 with kind := kind, ix := x, ct := y }
      | _, _ => none
    | _ => none
  else match l with
    | [s] => if s.length = 32 then some { Rc0 with kind := kind, sm := readS s } else none
    | _ => none
def sizeAt (b : BS) : Nat := numN ((b.drop 1).take 2)
def parseL (b : BS) : Rc × Nat × Int :=
  match b with
  | [] => (Rc0, 0, 8)
  | k :: _ =>
    if k.toNat < 1 ∨ 4 < k.toNat then (Rc0, 0, 23) else if b.length < 3 then (Rc0, 0, 8) else if b.length < 3 + sizeAt b then (Rc0, 0, 8) else
      match fread ((b.drop 3).take (sizeAt b)) with
      | .error _ => (Rc0, 0, 33)
      | .ok l => match madeL (k.toNat : Int) l with
        | none => (Rc0, 0, 33)
        | some r => if recE r = 0 then (r, 3 + sizeAt b, 0) else (Rc0, 0, 9)
theorem num8_put (n : Int) (h : 0 ≤ n ∧ n ≤ 4611686018427387903) : num8 (n8 n) = some n := by
  have := numN8r n
  unfold num8 n8
  rw [if_pos ⟨putL_length _ _, by omega⟩]
  congr 1
  omega
theorem num8_back (s : BS) (n : Int) (h : num8 s = some n) : n8 n = s := by
  unfold num8 at h
  split at h
  · rename_i hs
    cases h
    exact put8_num s hs.1
  · cases h
theorem pairs_texts (l : PL) : pairsL (ptexts l) = some l := by
  induction l with
  | nil => rfl
  | cons x l ih =>
    show ((pairsL (ptexts l)).map ((x.1, x.2) :: ·)) = _
    rw [ih]
    rfl
theorem texts_pairs (l : List BS) (p : PL) (h : pairsL l = some p) : ptexts p = l := by
  induction l using pairsL.induct generalizing p with
  | case1 => cases h; rfl
  | case2 => cases h
  | case3 a b l ih =>
    simp only [pairsL, Option.map_eq_some_iff] at h
    obtain ⟨q, hq, rfl⟩ := h
    show a :: b :: ptexts q = _
    rw [ih q hq]

/-! ### A record that may be -/
theorem propsFrom_small (o : Option BS) (l : PL) (h : propsFrom o l = true) : ∀ x ∈ l, nameB x.1 = true ∧ valB x.2 = true := by
  induction l generalizing o with
  | nil => intro x hx; cases hx
  | cons y l ih =>
    unfold propsFrom at h
    simp only [Bool.and_eq_true] at h
    intro x hx
    rcases List.mem_cons.1 hx with rfl | hx
    · exact ⟨h.1.1.1, h.1.1.2⟩
    · exact ih _ h.2 x hx
theorem nameB_len (s : BS) (h : nameB s = true) : s.length ≤ 16 := by
  unfold nameB at h
  simp only [Bool.and_eq_true, decide_eq_true_eq] at h
  exact h.1.2
theorem valB_len (s : BS) (h : valB s = true) : s.length ≤ 32 := by
  unfold valB at h
  simp only [Bool.and_eq_true, decide_eq_true_eq] at h
  exact h.1
theorem ptexts_len (l : PL) : (ptexts l).length = 2 * l.length := by
  induction l with
  | nil => rfl
  | cons x l ih => show (ptexts l).length + 2 = _; rw [ih, List.length_cons]; omega
theorem recE_kind (r : Rc) (h : recE r = 0) : (r.kind = 1 ∨ r.kind = 2 ∨ r.kind = 3 ∨ r.kind = 4) ∧ mayB r = true := by
  unfold recE at h
  split at h
  · cases h
  · rename_i hk
    split at h
    · rename_i hm
      exact ⟨by omega, hm⟩
    · cases h
theorem mayB_1 (r : Rc) (hk : r.kind = 1) (h : mayB r = true) : nameB r.nm = true ∧ (0 ≤ r.frm ∧ r.frm ≤ 1099511627776) ∧ (1 ≤ r.gd ∧ r.gd ≤ 1099511627776) ∧ propsB r.own = true ∧ r.ix = 0 ∧ r.ct = 0 ∧ r.dt = [] ∧ r.sm = Sm0 := by
  unfold mayB amt at h
  rw [if_pos hk] at h
  simp only [Bool.and_eq_true, decide_eq_true_eq] at h
  obtain ⟨⟨⟨⟨⟨⟨⟨h1, h2⟩, h3⟩, h4⟩, h5⟩, h6⟩, h7⟩, h8⟩ := h
  exact ⟨h1, h2, h3, h4, h5, h6, h7, smZ_eq _ h8⟩
theorem mayB_2 (r : Rc) (hk : r.kind = 2) (h : mayB r = true) : (0 ≤ r.ix ∧ r.ix < 1024) ∧ r.dt.length = 16 ∧ r.nm = [] ∧ r.frm = 0 ∧ r.gd = 0 ∧ r.own = [] ∧ r.ct = 0 ∧ r.sm = Sm0 := by
  unfold mayB at h
  rw [if_neg (by omega), if_pos hk] at h
  simp only [Bool.and_eq_true, decide_eq_true_eq] at h
  obtain ⟨⟨⟨⟨⟨⟨⟨h1, h2⟩, h3⟩, h4⟩, h5⟩, h6⟩, h7⟩, h8⟩ := h
  exact ⟨h1, h2, h3, h4, h5, h6, h7, smZ_eq _ h8⟩
theorem mayB_3 (r : Rc) (hk : r.kind = 3) (h : mayB r = true) : (0 ≤ r.ix ∧ r.ix < 1024) ∧ (1 ≤ r.ct ∧ r.ct ≤ 1024 - r.ix) ∧ r.nm = [] ∧ r.frm = 0 ∧ r.gd = 0 ∧ r.own = [] ∧ r.dt = [] ∧ r.sm = Sm0 := by
  unfold mayB at h
  rw [if_neg (by omega), if_neg (by omega), if_pos hk] at h
  simp only [Bool.and_eq_true, decide_eq_true_eq] at h
  obtain ⟨⟨⟨⟨⟨⟨⟨h1, h2⟩, h3⟩, h4⟩, h5⟩, h6⟩, h7⟩, h8⟩ := h
  exact ⟨h1, h2, h3, h4, h5, h6, h7, smZ_eq _ h8⟩
theorem mayB_4 (r : Rc) (hk : r.kind = 4) (h : mayB r = true) : r.nm = [] ∧ r.frm = 0 ∧ r.gd = 0 ∧ r.own = [] ∧ r.ix = 0 ∧ r.ct = 0 ∧ r.dt = [] := by
  unfold mayB at h
  rw [if_neg (by omega), if_neg (by omega), if_neg (by omega)] at h
  simp only [Bool.and_eq_true, decide_eq_true_eq] at h
  obtain ⟨⟨⟨⟨⟨⟨h1, h2⟩, h3⟩, h4⟩, h5⟩, h6⟩, h7⟩ := h
  exact ⟨h1, h2, h3, h4, h5, h6, h7⟩
/-- its texts: how many, how long -/
theorem rtexts_small (r : Rc) (h : recE r = 0) : (rtexts r).length ≤ 19 ∧ ∀ s ∈ rtexts r, s.length ≤ 32 := by
  obtain ⟨hk, hm⟩ := recE_kind r h
  have l8 : ∀ n, (n8 n).length = 8 := fun n => putL_length n 8
  unfold rtexts
  rcases hk with hk | hk | hk | hk
  · obtain ⟨h1, _, _, h4, _⟩ := mayB_1 r hk hm
    rw [if_pos hk]
    unfold propsB at h4
    simp only [Bool.and_eq_true, decide_eq_true_eq] at h4
    refine ⟨by simp [ptexts_len]; omega, ?_⟩
    intro s hs
    have hn := nameB_len _ h1
    rcases List.mem_append.1 hs with hs | hs
    · simp only [List.mem_cons, List.mem_nil_iff, or_false] at hs
      rcases hs with rfl | rfl | rfl
      · omega
      · rw [l8]; omega
      · rw [l8]; omega
    · unfold ptexts at hs
      obtain ⟨x, hx, hs⟩ := List.mem_flatMap.1 hs
      obtain ⟨h5, h6⟩ := propsFrom_small _ _ h4.2 x hx
      have := nameB_len _ h5
      have := valB_len _ h6
      simp only [List.mem_cons, List.mem_nil_iff, or_false] at hs
      rcases hs with rfl | rfl <;> omega
  · obtain ⟨_, h2, _⟩ := mayB_2 r hk hm
    rw [if_neg (by omega), if_pos hk]
    refine ⟨by simp, ?_⟩
    intro s hs
    simp only [List.mem_cons, List.mem_nil_iff, or_false] at hs
    rcases hs with rfl | rfl
    · rw [l8]; omega
    · omega
  · rw [if_neg (by omega), if_neg (by omega), if_pos hk]
    refine ⟨by simp, ?_⟩
    intro s hs
    simp only [List.mem_cons, List.mem_nil_iff, or_false] at hs
    rcases hs with rfl | rfl <;> rw [l8] <;> omega
  · rw [if_neg (by omega), if_neg (by omega), if_neg (by omega)]
    refine ⟨by simp, ?_⟩
    intro s hs
    simp only [List.mem_cons, List.mem_nil_iff, or_false] at hs
    subst hs
    rw [octL_length]; omega
theorem flat_len (l : List BS) (h : ∀ s ∈ l, s.length ≤ 32) : (l.flatMap fone).length ≤ 35 * l.length := by
  induction l with
  | nil => simp
  | cons s l ih =>
    have hs := h s (List.mem_cons_self ..)
    have := ih (fun x hx => h x (List.mem_cons_of_mem _ hx))
    have h3 : (putL (s.length : Int) 3).length = 3 := putL_length _ _
    rw [List.flatMap_cons, List.length_append, fone, List.length_append, h3, List.length_cons]
    omega
theorem fwrite_len (r : Rc) (h : recE r = 0) : (fwrite (rtexts r)).length ≤ 700 := by
  obtain ⟨h1, h2⟩ := rtexts_small r h
  have := flat_len _ h2
  have h3 : (putL ((rtexts r).length : Int) 2).length = 2 := putL_length _ _
  unfold fwrite
  rw [List.length_append]
  omega
theorem made_texts (r : Rc) (h : recE r = 0) (hs : r.sm.ok) : madeL r.kind (rtexts r) = some r := by
  obtain ⟨hk, hm⟩ := recE_kind r h
  obtain ⟨kind, nm, frm, gd, own, ix, ct, dt, sm⟩ := r
  simp only at hk
  rcases hk with hk | hk | hk | hk
  · obtain ⟨h1, h2, h3, h4, h5, h6, h7, h8⟩ := mayB_1 _ hk hm
    simp only at h1 h2 h3 h4 h5 h6 h7 h8
    subst hk h5 h6 h7 h8
    unfold rtexts madeL
    simp only [if_true, List.cons_append, List.nil_append]
    rw [num8_put _ (by omega), num8_put _ (by omega), pairs_texts]
    rfl
  · obtain ⟨h1, h2, h3, h4, h5, h6, h7, h8⟩ := mayB_2 _ hk hm
    simp only at h1 h2 h3 h4 h5 h6 h7 h8
    subst hk h3 h4 h5 h6 h7 h8
    unfold rtexts madeL
    simp only [if_true]
    rw [if_neg (by decide), if_neg (by decide)]
    simp only
    rw [num8_put _ (by omega)]
    rfl
  · obtain ⟨h1, h2, h3, h4, h5, h6, h7, h8⟩ := mayB_3 _ hk hm
    simp only at h1 h2 h3 h4 h5 h6 h7 h8
    subst hk h3 h4 h5 h6 h7 h8
    unfold rtexts madeL
    simp only [if_true]
    rw [if_neg (by decide), if_neg (by decide), if_neg (by decide), if_neg (by decide)]
    simp only
    rw [num8_put _ (by omega), num8_put _ (by omega)]
    rfl
  · obtain ⟨h1, h2, h3, h4, h5, h6, h7⟩ := mayB_4 _ hk hm
    simp only at h1 h2 h3 h4 h5 h6 h7 hs
    subst hk h1 h2 h3 h4 h5 h6 h7
    have e : rtexts ⟨4, [], 0, 0, [], 0, 0, [], sm⟩ = [octL sm.a sm.b sm.c sm.d] := rfl
    rw [e]
    show (if (octL sm.a sm.b sm.c sm.d).length = 32 then some { Rc0 with kind := 4, sm := readS (octL sm.a sm.b sm.c sm.d) } else none) = _
    rw [if_pos (octL_length _ _ _ _), readS_r sm hs]
    rfl
theorem toByte_kind (k : Int) (h : 0 ≤ k ∧ k < 256) : ((toByte k).toNat : Int) = k := by
  rw [toByte_int]; omega
/-- A RECORD COMES BACK -/
theorem parse_enc (r : Rc) (h : recE r = 0) (hs : r.sm.ok) (more : BS) : parseL (encL r ++ more) = (r, (encL r).length, 0) := by
  obtain ⟨hk, hm⟩ := recE_kind r h
  obtain ⟨h1, h2⟩ := rtexts_small r h
  have hl := fwrite_len r h
  have hkb := toByte_kind r.kind (by omega)
  obtain ⟨f, hf⟩ : ∃ f, f = fwrite (rtexts r) := ⟨_, rfl⟩
  have h22 : (putL (f.length : Int) 2).length = 2 := putL_length _ _
  have hrd : fread f = .ok (rtexts r) := by rw [hf]; exact fread_write _ (by omega) (fun s hs => by have := h2 s hs; omega)
  have hsz : sizeAt (encL r ++ more) = f.length := by
    unfold sizeAt encL
    rw [← hf, List.cons_append, List.drop_succ_cons, List.drop_zero, List.append_assoc, List.take_left' h22]
    exact numN2r' _ (by rw [hf]; omega)
  have hdr : (encL r ++ more).drop 3 = f ++ more := by
    unfold encL
    rw [← hf, List.cons_append, List.drop_succ_cons, List.append_assoc, List.drop_left' h22]
  have hlen : (encL r ++ more).length = 3 + f.length + more.length := by
    unfold encL
    rw [← hf]
    simp [h22]
    omega
  have hle : (encL r).length = 3 + f.length := by
    unfold encL
    rw [← hf]
    simp [h22]
    omega
  have hform : encL r ++ more = toByte r.kind :: (putL (f.length : Int) 2 ++ f ++ more) := by unfold encL; rw [← hf]; rfl
  unfold parseL
  rw [hform]
  simp only
  rw [← hform, if_neg (by omega), if_neg (by omega), if_neg (by omega), hsz, hdr, List.take_left' rfl, hrd]
  simp only
  rw [hkb, made_texts r h hs]
  simp only
  rw [if_pos h, hle]
/-- a beginning is too short -/
theorem parse_cut (r : Rc) (h : recE r = 0) (at_ : Nat) (ha : at_ < (encL r).length) : parseL ((encL r).take at_) = (Rc0, 0, 8) := by
  obtain ⟨hk, hm⟩ := recE_kind r h
  have hl := fwrite_len r h
  have hkb := toByte_kind r.kind (by omega)
  obtain ⟨f, hf⟩ : ∃ f, f = fwrite (rtexts r) := ⟨_, rfl⟩
  have h22 : (putL (f.length : Int) 2).length = 2 := putL_length _ _
  have hle : (encL r).length = 3 + f.length := by
    unfold encL
    rw [← hf]
    simp [h22]
    omega
  cases at_ with
  | zero => rfl
  | succ k =>
    have hform : (encL r).take (k + 1) = toByte r.kind :: (putL (f.length : Int) 2 ++ f).take k := by unfold encL; rw [← hf]; rfl
    unfold parseL
    rw [hform]
    simp only
    rw [← hform, if_neg (by omega)]
    by_cases h3 : k + 1 < 3
    · rw [if_pos (by rw [List.length_take]; omega)]
    · rw [if_neg (by rw [List.length_take]; omega), if_pos]
      have hsz : sizeAt ((encL r).take (k + 1)) = f.length := by
        rw [hform]
        unfold sizeAt
        rw [List.drop_succ_cons, List.drop_zero, List.take_take, show min 2 k = 2 by omega, List.take_left' h22]
        exact numN2r' _ (by rw [hf]; omega)
      rw [hsz, List.length_take]
      omega
/-- OCTETS THAT ARE A RECORD's -/
theorem made_back (k : Int) (hk : k = 1 ∨ k = 2 ∨ k = 3 ∨ k = 4) (l : List BS) (r : Rc) (h : madeL k l = some r) : r.kind = k ∧ rtexts r = l ∧ r.sm.ok := by
  unfold madeL at h
  have ok0 : Sm0.ok := ⟨by decide, by decide, by decide, by decide⟩
  rcases hk with rfl | rfl | rfl | rfl
  · rw [if_pos rfl] at h
    split at h
    · split at h
      · rename_i x y p h1 h2 h3
        cases h
        refine ⟨rfl, ?_, ok0⟩
        unfold rtexts
        simp only [if_true, List.cons_append, List.nil_append]
        rw [num8_back _ _ h1, num8_back _ _ h2, texts_pairs _ _ h3]
      · cases h
    · cases h
  · rw [if_neg (by decide), if_pos rfl] at h
    split at h
    · split at h
      · rename_i x h1
        cases h
        refine ⟨rfl, ?_, ok0⟩
        unfold rtexts
        simp only [if_true]
        rw [if_neg (by decide), num8_back _ _ h1]
      · cases h
    · cases h
  · rw [if_neg (by decide), if_neg (by decide), if_pos rfl] at h
    split at h
    · split at h
      · rename_i x y h1 h2
        cases h
        refine ⟨rfl, ?_, ok0⟩
        unfold rtexts
        simp only [if_true]
        rw [if_neg (by decide), if_neg (by decide), num8_back _ _ h1, num8_back _ _ h2]
      · cases h
    · cases h
  · rw [if_neg (by decide), if_neg (by decide), if_neg (by decide)] at h
    split at h
    · split at h
      · rename_i hs
        cases h
        refine ⟨rfl, ?_, readS_ok _⟩
        unfold rtexts
        simp only
        rw [if_neg (by decide), if_neg (by decide), if_neg (by decide), octL_readS _ hs]
      · cases h
    · cases h
theorem parse_back (b : BS) (r : Rc) (n : Nat) (h : parseL b = (r, n, 0)) : recE r = 0 ∧ r.sm.ok ∧ n ≤ b.length ∧ encL r = b.take n := by
  unfold parseL at h
  split at h
  · simp at h
  rename_i k rest
  split at h
  · simp at h
  rename_i hk
  split at h
  · simp at h
  rename_i h3
  split at h
  · simp at h
  rename_i hsz
  split at h
  · simp at h
  rename_i l hl
  split at h
  · simp at h
  rename_i r' hm
  split at h
  · rename_i hr
    simp only [Prod.mk.injEq, and_true] at h
    obtain ⟨rfl, rfl⟩ := h
    obtain ⟨h4, h5, h6⟩ := made_back _ (by omega) _ _ hm
    obtain ⟨h7, _, _⟩ := fread_back _ _ hl
    refine ⟨hr, h6, by omega, ?_⟩
    have hlen : (((k :: rest).drop 3).take (sizeAt (k :: rest))).length = sizeAt (k :: rest) := by
      rw [List.length_take, List.length_drop]
      omega
    have hkb : toByte (k.toNat : Int) = k := UInt8.toNat_inj.1 (by have := toByte_int (k.toNat : Int); have := k.toNat_lt; omega)
    unfold encL
    rw [h4, h5, h7, hlen, hkb]
    have hp : putL ((sizeAt (k :: rest) : Nat) : Int) 2 = ((k :: rest).drop 1).take 2 := put2_num _ (by rw [List.length_take, List.length_drop]; simp at h3 ⊢; omega)
    rw [hp]
    rw [List.take_add]
    have e : (k :: rest).take 3 = k :: ((k :: rest).drop 1).take 2 := by simp
    rw [e]
    rfl
  · simp at h
theorem parse_err (b : BS) (r : Rc) (n : Nat) (e : Int) (h : parseL b = (r, n, e)) (he : e ≠ 0) : r = Rc0 ∧ n = 0 := by
  unfold parseL at h
  repeat (first | (split at h) | (simp only [Prod.mk.injEq] at h; obtain ⟨rfl, rfl, rfl⟩ := h; first | exact ⟨rfl, rfl⟩ | exact absurd rfl he))
end Go.Proofs.Ythfjfkjlgdnohaa

/-
  DERIVED: THE SHELF's CONTRACTS AT THIS DUMP, IN PLAIN WORDS (tools/lay-plain.mjs out of 'YthfjfkjlgdnohaaLayS.lean', which tools/lay-shelf.mjs wrote): THE SAME DECLARATIONS UNDER THE SAME NAMES: 'import', 'namespace', 'open', 'def', 'theorem' AND NOTHING ELSE: no command of the shelf's: FOR A HAND-IN. Each laying: the table of numbers ('.._ren') and one theorem, a field a fact of the dump's own or the kernel's comparison; each contract: ONE APPLICATION.
-/
namespace Go.Proofs
open Go.Shelf
def Try.keysS_ren : Go.Shelf.Ren := ⟨fun | 7 => 67 | 10 => 103 | n => n, fun | 23 => 97 | 26 => 9 | 3 => 9 | 28 => 102 | 0 => 0 | 27 => 101 | 33 => 118 | 4 => 4 | n => n, fun | n => n⟩
theorem Try.keysS : Go.Proofs.SlLaysZ.n7 Try.prog Try.keysS_ren := {
  mixed := by kernel_rfl
  f7 := ⟨Try.f67.name, by decide, Try.func67.trans (congrArg some (by kernel_rfl))⟩
  f10 := ⟨Try.f103.name, by decide, Try.func103.trans (congrArg some (by kernel_rfl))⟩
  t0 := Try.underlying0
  a0 := Try.isAgg0
  z0 := Try.sizeOf0
  v0 := Try.zeroValue0
  t4 := Try.underlying4
  a4 := Try.isAgg4
  z4 := Try.sizeOf4
  v4 := Try.zeroValue4
  t23 := Try.underlying97
  a23 := Try.isAgg97
  z23 := Try.sizeOf97
  v23 := Try.zeroValue97
  t26 := Try.underlying9
  a26 := Try.isAgg9
  z26 := Try.sizeOf9
  v26 := Try.zeroValue9
  t27 := Try.underlying101
  a27 := Try.isAgg101
  z27 := Try.sizeOf101
  v27 := Try.zeroValue101
  t28 := Try.underlying102
  a28 := Try.isAgg102
  z28 := Try.sizeOf102
  v28 := Try.zeroValue102
  t33 := Try.underlying118
  a33 := Try.isAgg118
  z33 := Try.sizeOf118
  v33 := Try.zeroValue118 }
def Try.sortedS_ren : Go.Shelf.Ren := ⟨fun | 6 => 66 | 8 => 101 | 9 => 102 | 11 => 122 | 13 => 124 | 12 => 123 | 23 => 140 | 24 => 141 | 14 => 131 | 15 => 132 | 16 => 133 | 17 => 134 | 18 => 135 | 19 => 136 | 20 => 137 | 21 => 138 | 22 => 139 | 25 => 152 | 26 => 153 | 27 => 154 | 28 => 155 | 29 => 156 | 30 => 127 | 31 => 161 | n => n, fun | 26 => 9 | 28 => 102 | 24 => 69 | 0 => 0 | 3 => 3 | 37 => 131 | 48 => 180 | 50 => 23 | 4 => 4 | 40 => 173 | 39 => 172 | 45 => 119 | 5 => 5 | 9 => 9 | 51 => 188 | 55 => 192 | 57 => 196 | 58 => 142 | 33 => 118 | n => n, fun | n => n⟩
theorem Try.sortedS : Go.Proofs.SlLaysZ.n6 Try.prog Try.sortedS_ren := {
  mixed := by kernel_rfl
  f6 := ⟨Try.f66.name, by decide, Try.func66.trans (congrArg some (by kernel_rfl))⟩
  f8 := ⟨Try.f101.name, by decide, Try.func101.trans (congrArg some (by kernel_rfl))⟩
  f11 := ⟨Try.f122.name, by decide, Try.func122.trans (congrArg some (by kernel_rfl))⟩
  t0 := Try.underlying0
  a0 := Try.isAgg0
  z0 := Try.sizeOf0
  v0 := Try.zeroValue0
  t24 := Try.underlying69
  a24 := Try.isAgg69
  z24 := Try.sizeOf69
  v24 := Try.zeroValue69
  t26 := Try.underlying9
  a26 := Try.isAgg9
  z26 := Try.sizeOf9
  v26 := Try.zeroValue9
  t28 := Try.underlying102
  a28 := Try.isAgg102
  z28 := Try.sizeOf102
  v28 := Try.zeroValue102
  i26 := by kernel_rfl }
def Try.sortS_ren : Go.Shelf.Ren := ⟨fun | 6 => 102 | 8 => 124 | 9 => 123 | 19 => 140 | 20 => 141 | 21 => 131 | 22 => 132 | 23 => 133 | 24 => 134 | 25 => 135 | 26 => 136 | 27 => 137 | 28 => 138 | 29 => 139 | 36 => 152 | 31 => 153 | 32 => 154 | 37 => 155 | 38 => 156 | 39 => 127 | 41 => 161 | n => n, fun | 27 => 69 | 29 => 9 | 3 => 3 | 32 => 131 | 26 => 69 | 0 => 0 | 44 => 180 | 46 => 23 | 4 => 4 | 36 => 173 | 35 => 172 | 41 => 119 | 5 => 5 | 9 => 9 | 53 => 188 | 57 => 192 | 63 => 196 | 64 => 142 | n => n, fun | n => n⟩
theorem Try.sortS : Go.Proofs.SlLaysM.n6 Try.prog Try.sortS_ren := {
  mixed := by kernel_rfl
  f6 := ⟨Try.f102.name, by decide, Try.func102.trans (congrArg some (by kernel_rfl))⟩
  f8 := Try.func124.trans (congrArg some (by kernel_rfl))
  f9 := ⟨Try.f123.name, by decide, Try.func123.trans (congrArg some (by kernel_rfl))⟩
  f19 := Try.func140.trans (congrArg some (by kernel_rfl))
  f20 := Try.func141.trans (congrArg some (by kernel_rfl))
  f21 := ⟨Try.f131.name, by decide, Try.func131.trans (congrArg some (by kernel_rfl))⟩
  f22 := ⟨Try.f132.name, by decide, Try.func132.trans (congrArg some (by kernel_rfl))⟩
  f23 := ⟨Try.f133.name, by decide, Try.func133.trans (congrArg some (by kernel_rfl))⟩
  f24 := ⟨Try.f134.name, by decide, Try.func134.trans (congrArg some (by kernel_rfl))⟩
  f25 := ⟨Try.f135.name, by decide, Try.func135.trans (congrArg some (by kernel_rfl))⟩
  f26 := ⟨Try.f136.name, by decide, Try.func136.trans (congrArg some (by kernel_rfl))⟩
  f27 := ⟨Try.f137.name, by decide, Try.func137.trans (congrArg some (by kernel_rfl))⟩
  f28 := ⟨Try.f138.name, by decide, Try.func138.trans (congrArg some (by kernel_rfl))⟩
  f29 := ⟨Try.f139.name, by decide, Try.func139.trans (congrArg some (by kernel_rfl))⟩
  f31 := Try.func153.trans (congrArg some (by kernel_rfl))
  f32 := Try.func154.trans (congrArg some (by kernel_rfl))
  f36 := ⟨Try.f152.name, by decide, Try.func152.trans (congrArg some (by kernel_rfl))⟩
  f37 := ⟨Try.f155.name, by decide, Try.func155.trans (congrArg some (by kernel_rfl))⟩
  f38 := ⟨Try.f156.name, by decide, Try.func156.trans (congrArg some (by kernel_rfl))⟩
  f39 := ⟨Try.f127.name, by decide, Try.func127.trans (congrArg some (by kernel_rfl))⟩
  f41 := ⟨Try.f161.name, by decide, Try.func161.trans (congrArg some (by kernel_rfl))⟩
  t0 := Try.underlying0
  a0 := Try.isAgg0
  z0 := Try.sizeOf0
  v0 := Try.zeroValue0
  t3 := Try.underlying3
  a3 := Try.isAgg3
  z3 := Try.sizeOf3
  v3 := Try.zeroValue3
  t4 := Try.underlying4
  a4 := Try.isAgg4
  z4 := Try.sizeOf4
  v4 := Try.zeroValue4
  t5 := Try.underlying5
  a5 := Try.isAgg5
  z5 := Try.sizeOf5
  v5 := Try.zeroValue5
  t9 := Try.underlying9
  a9 := Try.isAgg9
  z9 := Try.sizeOf9
  v9 := Try.zeroValue9
  t26 := Try.underlying69
  a26 := Try.isAgg69
  z26 := Try.sizeOf69
  v26 := Try.zeroValue69
  t27 := Try.underlying69
  a27 := Try.isAgg69
  z27 := Try.sizeOf69
  v27 := Try.zeroValue69
  t29 := Try.underlying9
  a29 := Try.isAgg9
  z29 := Try.sizeOf9
  v29 := Try.zeroValue9
  t32 := Try.underlying131
  a32 := Try.isAgg131
  z32 := Try.sizeOf131
  v32 := Try.zeroValue131
  t35 := Try.underlying172
  a35 := Try.isAgg172
  z35 := Try.sizeOf172
  v35 := Try.zeroValue172
  t36 := Try.underlying173
  a36 := Try.isAgg173
  z36 := Try.sizeOf173
  v36 := Try.zeroValue173
  t41 := Try.underlying119
  a41 := Try.isAgg119
  z41 := Try.sizeOf119
  v41 := Try.zeroValue119
  t44 := Try.underlying180
  a44 := Try.isAgg180
  z44 := Try.sizeOf180
  v44 := Try.zeroValue180
  t46 := Try.underlying23
  a46 := Try.isAgg23
  z46 := Try.sizeOf23
  v46 := Try.zeroValue23
  t53 := Try.underlying188
  a53 := Try.isAgg188
  z53 := Try.sizeOf188
  v53 := Try.zeroValue188
  t57 := Try.underlying192
  a57 := Try.isAgg192
  z57 := Try.sizeOf192
  v57 := Try.zeroValue192
  t63 := Try.underlying196
  a63 := Try.isAgg196
  z63 := Try.sizeOf196
  v63 := Try.zeroValue196
  t64 := Try.underlying142
  a64 := Try.isAgg142
  z64 := Try.sizeOf142
  v64 := Try.zeroValue142 }
end Go.Proofs
