/-
  An argument that is a list of numbers: []int.
-/
import Derived.Test.YthfjfkjlgdnohaaSpTells
namespace Go.Proofs.Ythfjfkjlgdnohaa
open Go.RowKit Go.ChangeShapes Go.WideShapes Go.ChangeAt

theorem ArgIn.ints {H : Type} {enc : TypeId × Value → H} {P : Program} {W : World} {t e : TypeId} {v : Value} {d : DataW H} (ht : P.underlying t = some (.slice e)) (he : P.underlying e = some (.int .i64)) (hc : P.cellsOf e = 1) (hb : P.bytesOf e = 8) (h : ArgIn enc P W t v d) :
    ∃ (A : Option Addr) (l : List Int) (n c : Nat), v = .slice A n c ∧ n = l.length ∧ n ≤ c ∧ c ≤ 17592186043904 ∧ Reads W W.heap.size 1 A n (ints l) ∧ wfZ l ∧ n ≤ Rows.uptoBulk d := by
  obtain ⟨⟨base, ho⟩, ⟨p, m, hr⟩, hw⟩ := h
  obtain ⟨A, n, c, rfl⟩ := okWide_slice ht ho
  rcases open_ints ht he hc hr with ⟨hcs, hx⟩ | ⟨x, l, cc, zs, hcs, _, hl, hm, hz, hx, hcell, hwz⟩
  · simp [Value.cells] at hcs
    obtain ⟨rfl, rfl, rfl⟩ := hcs
    exact ⟨none, [], 0, 0, rfl, rfl, Nat.le_refl _, by omega, Reads.none_, (by intro x hx; cases hx), Nat.zero_le _⟩
  · simp [Value.cells] at hcs
    obtain ⟨rfl, rfl, rfl⟩ := hcs
    simp only [Prod.mk.injEq] at hx
    have hz' : zs.length = c := by simpa using hz
    have hcb : c ≤ 17592186043904 := by
      have := hw (((lits (H := H) .i64 (zs.take n)).length + (lits (H := H) .i64 (zs.drop n)).length) * 8) (by rw [hx.1]; simp [DataW.weights, ht, hb])
      simp only [reachBytes, lits, List.length_map, List.length_take, List.length_drop] at this
      omega
    refine ⟨some x, zs.take n, n, c, rfl, by rw [List.length_take]; omega, hl, hcb, ⟨by rw [ints_length, List.length_take]; omega, fun hn => ⟨x, rfl, ?_, fun j u hu => ?_⟩⟩, fun z hz => hwz z (List.mem_of_mem_take hz), ?_⟩
    · have := World.block_lt_of_cell? W _ (hcell 0 (by omega))
      rwa [block_of_add] at this
    · unfold Go.Proofs.Ythfjfkjlgdnohaa.ints at hu
      rw [List.getElem?_map] at hu
      obtain ⟨z, hz1, rfl⟩ := Option.map_eq_some_iff.1 hu
      obtain ⟨hj, hz2⟩ := List.getElem?_eq_some_iff.1 hz1
      rw [List.length_take] at hj
      rw [hcell j (by omega), ← hz2]
      congr 2
      rw [List.getElem_take]
      simp
      rw [List.getElem?_eq_getElem (by omega)]
      rfl
    · rw [hx.1]
      have : ∀ (L : List Int) (R : List (DataW H)), L.length ≤ Rows.uptoBulk (DataW.slice (lits (H := H) .i64 L) R) := by
        intro L R
        have hk : ∀ L : List Int, L.length ≤ Rows.uptoBulkAll (lits (H := H) .i64 L) := by
          intro L
          induction L with
          | nil => exact Nat.zero_le _
          | cons z L ih => simp only [lits, List.map_cons, Rows.uptoBulkAll, List.length_cons] at ih ⊢; simp [Rows.uptoBulk]; omega
        simp only [Rows.uptoBulk]
        have := hk L
        omega
      have := this (zs.take n) (lits .i64 (zs.drop n))
      rw [List.length_take] at this
      omega

end Go.Proofs.Ythfjfkjlgdnohaa
