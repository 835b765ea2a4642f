/-
  pages.Encode and the page's Page, pages.Decode and Unpage: one contract for every input each.
-/
import Derived.Test.YtcchnoadclidcaaPgLaw
namespace Go.Proofs.Ytcchnoadclidcaa
open Go.RowKit

def pgOut (b : List UInt8) (next : Int) : List UInt8 := if 52 < b.length then [] else if next < 0 ∨ 8192 ≤ next then [] else pageL b next
def pgErr (b : List UInt8) (next : Int) : Int := if 52 < b.length then 5 else if next < 0 ∨ 8192 ≤ next then 4 else 0
def OutPost (w : World) (l : List UInt8) (E : Int) (e : Ending) (w' : World) : Prop :=
  ∃ A k c, e = .returned (.tuple #[.slice A k c, .int .i64 E]) ∧ k = l.length ∧ Reads w' w'.heap.size 1 A k (bts l) ∧ k ≤ c ∧ c ≤ 9223372036854775807 ∧ Below w.heap.size w w'

theorem pgEncode_both (b : List UInt8) (n : Nat) (hnb : n = b.length) (A : Option Addr) (c : Nat) (next : Int) (w : World) (B : Nat) (hr : Reads w B 1 A n (bts b)) (hB : B ≤ w.heap.size) (hc : n ≤ c) (hcm : c ≤ 9223372036854775807) :
    Calls Try.prog 46 #[.slice A n c, .int .i64 next] w (OutPost w (pgOut b next) (pgErr b next)) := by
  by_cases h1 : 52 < n
  · refine (pgEncode_long n A c next w h1).mono ?_
    rintro e w1 ⟨rfl, rfl⟩
    have h1' : 52 < b.length := by omega
    exact ⟨none, 0, 0, by simp [pgErr, h1'], by simp [pgOut, h1'], by simpa [pgOut, h1', bts] using Reads.none_, by omega, by omega, Below.refl _ _⟩
  · have h1' : ¬ 52 < b.length := by omega
    by_cases h2 : next < 0 ∨ 8192 ≤ next
    · refine (pgEncode_range n A c next w (by omega) h2).mono ?_
      rintro e w1 ⟨rfl, rfl⟩
      exact ⟨none, 0, 0, by simp [pgErr, h1', h2], by simp [pgOut, h1', h2], by simpa [pgOut, h1', h2, bts] using Reads.none_, by omega, by omega, Below.refl _ _⟩
    · refine (pgEncode_ok b n hnb A c next w B hr hB hc hcm (by omega) (by omega) (by omega)).mono ?_
      rintro e w1 ⟨v, rfl, hown, hb⟩
      obtain ⟨A2, c2, rfl, h5, h6, h7⟩ := own_form hown
      have e1 : pgOut b next = pageL b next := by simp only [pgOut]; rw [if_neg h1', if_neg h2]
      have e2 : pgErr b next = 0 := by simp only [pgErr]; rw [if_neg h1', if_neg h2]
      rw [e1, e2]
      exact ⟨A2, 64, c2, rfl, (pageL_length b next (by omega)).symm, h7, h5, by unfold maxLen at h6; exact h6, hb⟩
theorem rPage_both (b : List UInt8) (n : Nat) (hnb : n = b.length) (A : Option Addr) (c : Nat) (next : Int) (w : World) (B : Nat) (hr : Reads w B 1 A n (bts b)) (hB : B ≤ w.heap.size) :
    Calls Try.prog 47 #[.slice A n c, .int .i64 next] w (OutPost w (pgOut b next) (pgErr b next)) := by
  by_cases h1 : 52 < n
  · refine (rPage_long n A c next w h1).mono ?_
    rintro e w1 ⟨rfl, rfl⟩
    have h1' : 52 < b.length := by omega
    exact ⟨none, 0, 0, by simp [pgErr, h1'], by simp [pgOut, h1'], by simpa [pgOut, h1', bts] using Reads.none_, by omega, by omega, Below.refl _ _⟩
  · have h1' : ¬ 52 < b.length := by omega
    by_cases h2 : next < 0 ∨ 8192 ≤ next
    · refine (rPage_range n A c next w (by omega) h2).mono ?_
      rintro e w1 ⟨rfl, rfl⟩
      exact ⟨none, 0, 0, by simp [pgErr, h1', h2], by simp [pgOut, h1', h2], by simpa [pgOut, h1', h2, bts] using Reads.none_, by omega, by omega, Below.refl _ _⟩
    · refine (rPage_ok b n hnb A c next w B hr hB (by omega) (by omega) (by omega)).mono ?_
      rintro e w1 ⟨v, rfl, hown, hb⟩
      obtain ⟨A2, c2, rfl, h5, h6, h7⟩ := own_form hown
      have e1 : pgOut b next = pageL b next := by simp only [pgOut]; rw [if_neg h1', if_neg h2]
      have e2 : pgErr b next = 0 := by simp only [pgErr]; rw [if_neg h1', if_neg h2]
      rw [e1, e2]
      exact ⟨A2, 64, c2, rfl, (pageL_length b next (by omega)).symm, h7, h5, by unfold maxLen at h6; exact h6, hb⟩

noncomputable def pdOut (s : List UInt8) : List UInt8 := by classical exact if PDecOk s then pay s else []
noncomputable def pdX (s : List UInt8) : Int := by classical exact if PDecOk s then pgX s else 0
noncomputable def pdE (s : List UInt8) : Int := by classical exact if PDecOk s then 0 else 21
def Out3Post (w : World) (l : List UInt8) (X E : Int) (e : Ending) (w' : World) : Prop :=
  ∃ A k c, e = .returned (.tuple #[.slice A k c, .int .i64 X, .int .i64 E]) ∧ k = l.length ∧ Reads w' w'.heap.size 1 A k (bts l) ∧ Below w.heap.size w w'
theorem decPost_out {w : World} {s : List UInt8} {e : Ending} {w' : World} (h : DecPost w s e w') : Out3Post w (pdOut s) (pdX s) (pdE s) e w' := by
  obtain ⟨⟨hok, v, rfl, hown⟩ | ⟨hno, rfl⟩, hb⟩ := h
  · obtain ⟨A, c, rfl, h1, h2, h3⟩ := own_form hown
    have hl : pgN s = (pay s).length := by
      unfold pay
      have h1 := hok.len
      have h2 := hok.n
      rw [List.length_take, List.length_drop]
      omega
    exact ⟨A, pgN s, c, by simp [pdX, pdE, hok], by simp [pdOut, hok, hl], by simpa [pdOut, hok] using h3, hb⟩
  · exact ⟨none, 0, 0, by simp [pdX, pdE, hno], by simp [pdOut, hno], by simpa [pdOut, hno, bts] using Reads.none_, hb⟩
theorem num09_any (x : Int) (w : World) : Calls Try.prog 52 #[.int .i64 x] w fun e w' => e = .returned (.int .i64 x) ∧ w = w' := by
  go_enter Try.func52, Try.ntmps52
  go_wp2_with fail
  go_ret
  exact ⟨rfl, rfl⟩
end Go.Proofs.Ytcchnoadclidcaa
