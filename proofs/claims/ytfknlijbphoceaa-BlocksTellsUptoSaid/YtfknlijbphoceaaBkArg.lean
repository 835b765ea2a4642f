/-
  An argument that is a content: []api.Block. (open_slice_fields: turned from the guide's page extra-structs.)
-/
import Derived.Test.YtfknlijbphoceaaBk1
import Derived.Test.YtfknlijbphoceaaFrame
import Derived.Deep.Slices
import Derived.Deep.Fields
import Derived.ChangeSame
namespace Go.Proofs.Ytfknlijbphoceaa
open Go.RowKit Go.ChangeShapes Go.WideShapes Go.Deep Go.ChangeAt

section
variable {H : Type} {enc : TypeId × Value → H} {P : Program} {w : World} {base : Nat} {spare : Nat → Bool} {held : Bool}
theorem open_slice_fields {t e : TypeId} {fs : Array Field} {fuel : Nat} {cs : List Value} {x : DataW H × List MemPlace} (ht : P.underlying t = some (.slice e)) (he : P.underlying e = some (.struct fs))
    (hone : oneCellFields P fs = true) (hC : P.cellsOf e = fs.size) (h : DataW.trod enc P w base spare held fuel t cs = some x) :
    (cs = [.slice none 0 0] ∧ x = (.nil, [])) ∨
    ∃ (a : Addr) (len cap m : Nat) (D : Nat → DataW H) (Pl : Nat → List MemPlace), cs = [.slice (some a) len cap] ∧ base ≤ a.block ∧ len ≤ cap ∧ cap ≤ maxLen ∧ m = (if spare a.block then cap else len) ∧
      x = (.slice ((List.range len).map D) ((List.range (m - len)).map fun j => D (len + j)), MemPlace.row a (m * fs.size) ++ (List.range m).flatMap Pl) ∧
      ∀ i, i < m → ∃ (ys : List (DataW H × List MemPlace)) (n : Nat), D i = .agg (ys.map (·.1)) ∧ Pl i = ys.flatMap (·.2) ∧ ys.length = fs.size ∧
        ∀ (j : Nat) (f : Field), fs[j]? = some f → ∃ (v : Value) (y : DataW H × List MemPlace), w.cell? (a.add (i * fs.size + j)) = some v ∧ ys[j]? = some y ∧ DataW.trod enc P w base spare held n f.type [v] = some y := by
  rcases open_slice ht h with h0 | ⟨a, len, cap, m, n, D, Pl, hcs, hb, hl, hm, hmm, hx, hi⟩
  · exact .inl h0
  · refine .inr ⟨a, len, cap, m, D, Pl, hcs, hb, hl, hm, hmm, by rw [hC] at hx; exact hx, fun i him => ?_⟩
    obtain ⟨cs', hc, ht'⟩ := hi i him
    rw [hC] at hc
    obtain ⟨ys, n', hn', hy, hlen, hyl, hf⟩ := DataW.trod_struct he ht'
    obtain ⟨_, hcl, hat⟩ := World.cells?_some hc
    simp only [Prod.mk.injEq] at hy
    refine ⟨ys, n', hy.1, hy.2, hyl, fun j f hj => ?_⟩
    obtain ⟨ho, hk⟩ := hone_of hone j f hj
    have hjl : j < fs.size := (Array.getElem?_eq_some_iff.1 hj).1
    have hcell := hat j hjl
    have hv : cs'[j]? = some (cs'[j]'(by omega)) := List.getElem?_eq_getElem (by omega)
    have h1 := hf j f hj
    rw [ho, hk] at h1
    have hone' : (cs'.drop j).take 1 = [cs'[j]'(by omega)] := by
      rw [List.drop_eq_getElem_cons (by omega)]
      rfl
    rw [hone'] at h1
    have hys : ys[j]? = some (ys[j]'(by omega)) := List.getElem?_eq_getElem (by omega)
    refine ⟨_, _, ?_, hys, h1.trans hys⟩
    rw [← Go.Deep.add_add, hcell, hv]
end

theorem ArgIn.blocks {H : Type} {enc : TypeId × Value → H} {P : Program} {W : World} {t e : TypeId} {v : Value} {d : DataW H} {f0 f1 : Field} (ht : P.underlying t = some (.slice e)) (he : P.underlying e = some (.struct #[f0, f1])) (h0 : P.underlying f0.type = some (.int .i64)) (h1 : P.underlying f1.type = some .string)
    (hone : oneCellFields P #[f0, f1] = true) (hC : P.cellsOf e = 2) (h : ArgIn enc P W t v d) :
    ∃ (A : Option Addr) (l : BL) (n c : Nat), v = .slice A n c ∧ n = l.length ∧ n ≤ c ∧ c ≤ maxLen ∧ Reads W W.heap.size 2 A n (bcells l) ∧ n ≤ Rows.uptoBulk d := by
  obtain ⟨⟨base, ho⟩, ⟨p, m, hr⟩, hw⟩ := h
  obtain ⟨A, n, c, rfl⟩ := okWide_slice ht ho
  rcases open_slice_fields ht he hone hC hr with ⟨hcs, hx⟩ | ⟨a, l, cc, mm, D, Pl, hcs, _, hl, hm, hmm, hx, hf⟩
  · simp [Value.cells] at hcs
    obtain ⟨rfl, rfl, rfl⟩ := hcs
    exact ⟨none, [], 0, 0, rfl, rfl, Nat.le_refl _, by omega, Reads.none_, Nat.zero_le _⟩
  · simp [Value.cells] at hcs
    obtain ⟨rfl, rfl, rfl⟩ := hcs
    simp only [Prod.mk.injEq] at hx
    have hmn : n ≤ mm := by rw [hmm]; split <;> omega
    have hq : ∀ i, i < n → ∃ x : Int × List UInt8, W.cell? (a.add (i * 2)) = some (.int .i64 x.1) ∧ W.cell? (a.add (i * 2 + 1)) = some (.string ⟨x.2.toArray⟩) := by
      intro i hi
      obtain ⟨ys, k, _, _, _, hj⟩ := hf i (by omega)
      obtain ⟨u0, y0, c0, _, t0⟩ := hj 0 f0 rfl
      obtain ⟨u1, y1, c1, _, t1⟩ := hj 1 f1 rfl
      obtain ⟨z, hz, _⟩ := DataW.trod_int h0 t0
      obtain ⟨s, hs, _⟩ := DataW.trod_string h1 t1
      simp at hz hs
      subst hz hs
      exact ⟨(z, s.data.toList), c0, by simpa using c1⟩
    obtain ⟨f, hf2⟩ : ∃ f : Nat → Int × List UInt8, ∀ i, i < n → W.cell? (a.add (i * 2)) = some (.int .i64 (f i).1) ∧ W.cell? (a.add (i * 2 + 1)) = some (.string ⟨(f i).2.toArray⟩) :=
      ⟨fun i => if h : i < n then Classical.choose (hq i h) else (0, []), fun i hi => by simp only [dif_pos hi]; exact Classical.choose_spec (hq i hi)⟩
    refine ⟨some a, (List.range n).map f, n, c, rfl, by simp, hl, hm, ⟨by rw [bcells_length]; simp, fun hn => ⟨a, rfl, ?_, fun j u hu => ?_⟩⟩, ?_⟩
    · have := World.block_lt_of_cell? W _ (hf2 0 hn).1
      rwa [block_of_add] at this
    · have hj : j < n * 2 := by
        have h3 := (List.getElem?_eq_some_iff.1 hu).1
        rw [bcells_length] at h3
        simpa using h3
      obtain ⟨g1, g2⟩ := bcells_get ((List.range n).map f) (j / 2) (by simp; omega)
      obtain ⟨q1, q2⟩ := hf2 (j / 2) (by omega)
      rcases Nat.mod_two_eq_zero_or_one j with e | e
      · rw [show j / 2 * 2 = j by omega] at g1 q1
        rw [g1] at hu
        rw [q1, ← hu]
        simp
      · rw [show j / 2 * 2 + 1 = j by omega] at g2 q2
        rw [g2] at hu
        rw [q2, ← hu]
        simp
    · rw [hx.1]
      simp only [Rows.uptoBulk]
      have h5 : ∀ xs : List (DataW H), (∀ x ∈ xs, 1 ≤ Rows.uptoBulk x) → xs.length ≤ Rows.uptoBulkAll xs := by
        intro xs
        induction xs with
        | nil => intro _; simp
        | cons x r ih =>
          intro hh
          have h6 := hh x (List.mem_cons_self ..)
          have h7 := ih fun y hy => hh y (List.mem_cons_of_mem _ hy)
          simp only [List.length_cons, Rows.uptoBulkAll]
          omega
      have := h5 ((List.range n).map D) (fun x hx2 => by
        obtain ⟨i, hi, rfl⟩ := List.mem_map.1 hx2
        obtain ⟨ys, _, e, _⟩ := hf i (by have := List.mem_range.1 hi; omega)
        rw [e]
        simp only [Rows.uptoBulk]
        omega)
      simp at this
      omega
end Go.Proofs.Ytfknlijbphoceaa
