/-
  An argument that is a list of properties: []api.Prop. (open_slice_fields: turned from the guide's page extra-structs.)
-/
import Derived.Test.YthfjfkjlgdnohaaPrForce
import Derived.Deep.Slices
import Derived.Deep.Fields
import Derived.ChangeSame
namespace Go.Proofs.Ythfjfkjlgdnohaa
open Go.RowKit Go.ChangeShapes Go.WideShapes Go.Deep Go.ChangeAt

section
variable {H : Type} {enc : TypeId × Value → H} {P : Program} {w : World} {base : Nat} {spare : Nat → Bool} {held : Bool}
theorem open_slice_fields {t e : TypeId} {fs : Array Field} {fuel : Nat} {cs : List Value} {x : DataW H × List MemPlace} (ht : P.underlying t = some (.slice e)) (he : P.underlying e = some (.struct fs))
    (hone : oneCellFields P fs = true) (hC : P.cellsOf e = fs.size) (h : DataW.trod enc P w base spare held fuel t cs = some x) :
    (cs = [.slice none 0 0] ∧ x = (.nil, [])) ∨
    ∃ (a : Addr) (len cap m : Nat) (D : Nat → DataW H) (Pl : Nat → List MemPlace), cs = [.slice (some a) len cap] ∧ base ≤ a.block ∧ len ≤ cap ∧ cap ≤ maxLen ∧ m = (if spare a.block then cap else len) ∧
      x = (.slice ((List.range len).map D) ((List.range (m - len)).map fun j => D (len + j)), MemPlace.row a (m * fs.size) ++ (List.range m).flatMap Pl) ∧
      ∀ i, i < m → ∃ (ys : List (DataW H × List MemPlace)) (n : Nat), D i = .agg (ys.map (·.1)) ∧ Pl i = ys.flatMap (·.2) ∧ ys.length = fs.size ∧
        ∀ (j : Nat) (f : Field), fs[j]? = some f → ∃ (v : Value) (y : DataW H × List MemPlace), w.cell? (a.add (i * fs.size + j)) = some v ∧ ys[j]? = some y ∧ DataW.trod enc P w base spare held n f.type [v] = some y := by
  rcases open_slice ht h with h0 | ⟨a, len, cap, m, n, D, Pl, hcs, hb, hl, hm, hmm, hx, hi⟩
  · exact .inl h0
  · refine .inr ⟨a, len, cap, m, D, Pl, hcs, hb, hl, hm, hmm, by rw [hC] at hx; exact hx, fun i him => ?_⟩
    obtain ⟨cs', hc, ht'⟩ := hi i him
    rw [hC] at hc
    obtain ⟨ys, n', hn', hy, hlen, hyl, hf⟩ := DataW.trod_struct he ht'
    obtain ⟨_, hcl, hat⟩ := World.cells?_some hc
    simp only [Prod.mk.injEq] at hy
    refine ⟨ys, n', hy.1, hy.2, hyl, fun j f hj => ?_⟩
    obtain ⟨ho, hk⟩ := hone_of hone j f hj
    have hjl : j < fs.size := (Array.getElem?_eq_some_iff.1 hj).1
    have hcell := hat j hjl
    have hv : cs'[j]? = some (cs'[j]'(by omega)) := List.getElem?_eq_getElem (by omega)
    have h1 := hf j f hj
    rw [ho, hk] at h1
    have hone' : (cs'.drop j).take 1 = [cs'[j]'(by omega)] := by
      rw [List.drop_eq_getElem_cons (by omega)]
      rfl
    rw [hone'] at h1
    have hys : ys[j]? = some (ys[j]'(by omega)) := List.getElem?_eq_getElem (by omega)
    refine ⟨_, _, ?_, hys, h1.trans hys⟩
    rw [← Go.Deep.add_add, hcell, hv]
end


theorem weightsAll_mem {H : Type} {P : Program} {e : TypeId} {L : List (DataW H)} {x : DataW H} {n : Nat} (hx : x ∈ L) (hn : n ∈ x.weights P e) : n ∈ DataW.weightsAll P e L := by
  induction L with
  | nil => cases hx
  | cons y L ih =>
    simp only [DataW.weightsAll, List.mem_append]
    rcases List.mem_cons.1 hx with rfl | hx
    · exact .inl hn
    · exact .inr (ih hx)
theorem bulkAll_mem {H : Type} {L : List (DataW H)} (h : ∀ x ∈ L, 1 ≤ Rows.uptoBulk x) : L.length ≤ Rows.uptoBulkAll L := by
  induction L with
  | nil => exact Nat.zero_le _
  | cons x r ih =>
    have h6 := h x (List.mem_cons_self ..)
    have h7 := ih fun y hy => h y (List.mem_cons_of_mem _ hy)
    simp only [List.length_cons, Rows.uptoBulkAll]
    omega
theorem ArgIn.props {H : Type} {enc : TypeId × Value → H} {P : Program} {W : World} {t e : TypeId} {v : Value} {d : DataW H} {f0 f1 : Field} (ht : P.underlying t = some (.slice e)) (he : P.underlying e = some (.struct #[f0, f1])) (h0 : P.underlying f0.type = some .string) (h1 : P.underlying f1.type = some .string)
    (hone : oneCellFields P #[f0, f1] = true) (hC : P.cellsOf e = 2) (hB : P.bytesOf e = 32) (h : ArgIn enc P W t v d) :
    ∃ (A : Option Addr) (l : PL) (n c : Nat), v = .slice A n c ∧ n = l.length ∧ n ≤ c ∧ c ≤ 4398046511104 ∧ Reads W W.heap.size 2 A n (pcells l) ∧ strOk l ∧ n ≤ Rows.uptoBulk d := by
  obtain ⟨⟨base, ho⟩, ⟨p, m, hr⟩, hw⟩ := h
  obtain ⟨A, n, c, rfl⟩ := okWide_slice ht ho
  rcases open_slice_fields ht he hone hC hr with ⟨hcs, hx⟩ | ⟨a, l, cc, mm, D, Pl, hcs, _, hl, hm, hmm, hx, hf⟩
  · simp [Value.cells] at hcs
    obtain ⟨rfl, rfl, rfl⟩ := hcs
    exact ⟨none, [], 0, 0, rfl, rfl, Nat.le_refl _, by omega, Reads.none_, (by intro x hx; cases hx), Nat.zero_le _⟩
  · simp [Value.cells] at hcs
    obtain ⟨rfl, rfl, rfl⟩ := hcs
    simp only [Prod.mk.injEq] at hx
    have hmc : mm = c := by rw [hmm]; rfl
    have hcb : c ≤ 4398046511104 := by
      have := hw ((((List.range n).map D).length + ((List.range (mm - n)).map fun j => D (n + j)).length) * 32) (by rw [hx.1]; simp [DataW.weights, ht, hB])
      simp only [reachBytes, List.length_map, List.length_range] at this
      omega
    have hq : ∀ i, i < n → ∃ x : BS × BS, W.cell? (a.add (i * 2)) = some (.string ⟨x.1.toArray⟩) ∧ W.cell? (a.add (i * 2 + 1)) = some (.string ⟨x.2.toArray⟩) ∧ x.1.length ≤ 140737488351232 ∧ x.2.length ≤ 140737488351232 := by
      intro i hi
      obtain ⟨ys, k, hD, _, hyl, hj⟩ := hf i (by omega)
      obtain ⟨u0, y0, c0, hy0, t0⟩ := hj 0 f0 rfl
      obtain ⟨u1, y1, c1, hy1, t1⟩ := hj 1 f1 rfl
      obtain ⟨s0, hs0, hd0, _⟩ := DataW.trod_string h0 t0
      obtain ⟨s1, hs1, hd1, _⟩ := DataW.trod_string h1 t1
      simp at hs0 hs1
      subst hs0 hs1
      have hys : ys = [y0, y1] := by
        match ys, hyl, hy0, hy1 with
        | [a, b], _, e0, e1 => simp at e0 e1; rw [e0, e1]
      have hmem : ∀ q, q ∈ (DataW.agg [y0.1, y1.1] : DataW H).weights P e → q ≤ reachBytes := by
        intro q hq
        refine hw q ?_
        rw [hx.1]
        simp only [DataW.weights, ht, List.mem_cons, List.mem_append]
        right
        left
        refine weightsAll_mem (List.mem_map.2 ⟨i, List.mem_range.2 hi, rfl⟩) ?_
        rw [hD, hys]
        exact hq
      have b0 := hmem s0.data.toList.length (by rw [hd0, hd1]; simp [DataW.weights, DataW.weightsEach, he])
      have b1 := hmem s1.data.toList.length (by rw [hd0, hd1]; simp [DataW.weights, DataW.weightsEach, he])
      exact ⟨(s0.data.toList, s1.data.toList), by simpa using c0, by simpa using c1, b0, b1⟩
    obtain ⟨f, hf2⟩ : ∃ f : Nat → BS × BS, ∀ i, i < n → W.cell? (a.add (i * 2)) = some (.string ⟨(f i).1.toArray⟩) ∧ W.cell? (a.add (i * 2 + 1)) = some (.string ⟨(f i).2.toArray⟩) ∧ (f i).1.length ≤ 140737488351232 ∧ (f i).2.length ≤ 140737488351232 :=
      ⟨fun i => if h : i < n then Classical.choose (hq i h) else ([], []), fun i hi => by simp only [dif_pos hi]; exact Classical.choose_spec (hq i hi)⟩
    refine ⟨some a, (List.range n).map f, n, c, rfl, by simp, hl, hcb, ⟨by rw [pcells_length]; simp, fun hn => ⟨a, rfl, ?_, fun j u hu => ?_⟩⟩, ?_, ?_⟩
    · have := World.block_lt_of_cell? W _ (hf2 0 hn).1
      rwa [block_of_add] at this
    · have hj : j < n * 2 := by
        have h3 := (List.getElem?_eq_some_iff.1 hu).1
        rw [pcells_length] at h3
        simpa using h3
      obtain ⟨g1, g2⟩ := pcells_get ((List.range n).map f) (j / 2) (by simp; omega)
      obtain ⟨q1, q2, _⟩ := hf2 (j / 2) (by omega)
      rcases Nat.mod_two_eq_zero_or_one j with e | e
      · rw [show j / 2 * 2 = j by omega] at g1 q1
        rw [g1] at hu
        rw [q1, ← hu]
        simp [strV]
      · rw [show j / 2 * 2 + 1 = j by omega] at g2 q2
        rw [g2] at hu
        rw [q2, ← hu]
        simp [strV]
    · intro x hx2
      obtain ⟨i, hi, rfl⟩ := List.mem_map.1 hx2
      exact (hf2 i (List.mem_range.1 hi)).2.2
    · rw [hx.1]
      simp only [Rows.uptoBulk]
      have := bulkAll_mem (L := (List.range n).map D) (fun x hx2 => by
        obtain ⟨i, hi, rfl⟩ := List.mem_map.1 hx2
        obtain ⟨ys, _, e, _⟩ := hf i (by have := List.mem_range.1 hi; omega)
        rw [e]
        simp only [Rows.uptoBulk]
        omega)
      simp at this
      omega
end Go.Proofs.Ythfjfkjlgdnohaa
