/-
  Arguments opened field by field, to any depth: what a row of cells reads as.
-/
import Derived.Test.YteafdncnnamakaaGreatDoorFrame
import Derived.Deep.Slices
import Derived.Deep.Fields
import Derived.ChangeSame
namespace Go.Proofs.YteafdncnnamakaaGreatDoor
open Go.RowKit Go.ChangeShapes Go.WideShapes Go.Deep Go.ChangeAt

structure CellsIn {H : Type} (enc : TypeId × Value → H) (P : Program) (W : World) (K : Nat) (t : TypeId) (cs : List Value) (d : DataW H) : Prop where
  rd : ∃ fuel p, DataW.trod enc P W 0 (fun _ => true) true fuel t cs = some (d, p)
  wt : ∀ n ∈ d.weights P t, n ≤ reachBytes
  bk : Rows.uptoBulk d ≤ K

section
variable {H : Type} {enc : TypeId × Value → H} {P : Program} {W : World} {K : Nat} {t : TypeId} {cs : List Value} {d : DataW H}
theorem ArgIn.cellsIn {v : Value} (h : ArgIn enc P W t v d) : CellsIn enc P W (Rows.uptoBulk d) t v.cells.toList d := by
  obtain ⟨_, ⟨p, m, hr⟩, hw⟩ := h
  exact ⟨⟨m, p, hr⟩, hw, Nat.le_refl _⟩
theorem ArgIn.agg {v : Value} {fs : Array Field} (h : ArgIn enc P W t v d) (ht : P.underlying t = some (.struct fs)) : ∃ cs, v = .agg cs ∧ CellsIn enc P W (Rows.uptoBulk d) t cs.toList d := by
  have hc := h.cellsIn
  obtain ⟨⟨base, ho⟩, _, _⟩ := h
  obtain ⟨cs, rfl, _⟩ := okWide_struct ht ho
  exact ⟨cs, rfl, hc⟩
theorem ArgIn.slc {v : Value} {e : TypeId} (h : ArgIn enc P W t v d) (ht : P.underlying t = some (.slice e)) : ∃ A n c, v = .slice A n c ∧ CellsIn enc P W (Rows.uptoBulk d) t [.slice A n c] d := by
  have hc := h.cellsIn
  obtain ⟨⟨base, ho⟩, _, _⟩ := h
  obtain ⟨A, n, c, rfl⟩ := okWide_slice ht ho
  exact ⟨A, n, c, rfl, by simpa [Value.cells] using hc⟩
theorem CellsIn.str (h : CellsIn enc P W K t cs d) (ht : P.underlying t = some .string) : ∃ s : List UInt8, cs = [.string ⟨s.toArray⟩] ∧ s.length ≤ 140737488351232 ∧ s.length + 1 ≤ K := by
  obtain ⟨⟨m, p, hr⟩, hw, hb⟩ := h
  obtain ⟨s, rfl, hx, _⟩ := DataW.trod_string ht hr
  simp only [Prod.mk.injEq] at hx
  rw [hx.1] at hw hb
  refine ⟨s.data.toList, by simp, ?_, ?_⟩
  · have := hw s.data.toList.length (by simp [DataW.weights])
    simpa [reachBytes] using this
  · simpa [Rows.uptoBulk] using hb
theorem CellsIn.int {k : IntKind} (h : CellsIn enc P W K t cs d) (ht : P.underlying t = some (.int k)) : ∃ n, cs = [.int k n] ∧ (Lit.int k n).wf = true := by
  obtain ⟨⟨m, p, hr⟩, hw, hb⟩ := h
  obtain ⟨n, hcs, _, hn⟩ := DataW.trod_int ht hr
  exact ⟨n, hcs, hn⟩
theorem CellsIn.i64 (h : CellsIn enc P W K t cs d) (ht : P.underlying t = some (.int .i64)) : ∃ n : Int, cs = [.int .i64 n] ∧ -9223372036854775808 ≤ n ∧ n ≤ 9223372036854775807 := by
  obtain ⟨n, hcs, hn⟩ := h.int ht
  simp [Lit.wf, IntKind.min, IntKind.max, IntKind.signed, IntKind.bits] at hn
  exact ⟨n, hcs, by omega, by omega⟩
theorem CellsIn.u64 (h : CellsIn enc P W K t cs d) (ht : P.underlying t = some (.int .u64)) : ∃ n : Int, cs = [.int .u64 n] ∧ 0 ≤ n ∧ n < 18446744073709551616 := by
  obtain ⟨n, hcs, hn⟩ := h.int ht
  simp [Lit.wf, IntKind.min, IntKind.max, IntKind.signed, IntKind.bits] at hn
  exact ⟨n, hcs, by omega, by omega⟩
theorem CellsIn.u8 (h : CellsIn enc P W K t cs d) (ht : P.underlying t = some (.int .u8)) : ∃ b : UInt8, cs = [.int .u8 (b.toNat : Int)] := by
  obtain ⟨n, hcs, hn⟩ := h.int ht
  simp [Lit.wf, IntKind.min, IntKind.max, IntKind.signed, IntKind.bits] at hn
  refine ⟨UInt8.ofNat n.toNat, ?_⟩
  rw [hcs]
  have : (UInt8.ofNat n.toNat).toNat = n.toNat := by rw [UInt8.toNat_ofNat']; omega
  rw [this, Int.toNat_of_nonneg (by omega)]
theorem CellsIn.bool (h : CellsIn enc P W K t cs d) (ht : P.underlying t = some .bool) : ∃ b, cs = [.bool b] := by
  obtain ⟨⟨m, p, hr⟩, hw, hb⟩ := h
  obtain ⟨b, hcs, _⟩ := DataW.trod_bool ht hr
  exact ⟨b, hcs⟩
theorem weightsEach_get : ∀ (ts : List TypeId) (ds : List (DataW H)) (j : Nat) (u : TypeId) (y : DataW H) (n : Nat), ts[j]? = some u → ds[j]? = some y → n ∈ y.weights P u → n ∈ DataW.weightsEach P ts ds
  | [], _, j, _, _, _, h, _, _ => by simp at h
  | _ :: _, [], j, _, _, _, _, h, _ => by simp at h
  | a :: ts, b :: ds, 0, u, y, n, h, h', hn => by
    simp only [List.getElem?_cons_zero, Option.some.injEq] at h h'
    subst h h'
    simp only [DataW.weightsEach, List.mem_append]
    exact .inl hn
  | a :: ts, b :: ds, j + 1, u, y, n, h, h', hn => by
    simp only [List.getElem?_cons_succ] at h h'
    simp only [DataW.weightsEach, List.mem_append]
    exact .inr (weightsEach_get ts ds j u y n h h' hn)
theorem weightsAll_get {L : List (DataW H)} {e : TypeId} {x : DataW H} {n : Nat} (hx : x ∈ L) (hn : n ∈ x.weights P e) : n ∈ DataW.weightsAll P e L := by
  induction L with
  | nil => cases hx
  | cons y L ih =>
    simp only [DataW.weightsAll, List.mem_append]
    rcases List.mem_cons.1 hx with rfl | hx
    · exact .inl hn
    · exact .inr (ih hx)
theorem bulk_pos (d : DataW H) : 1 ≤ Rows.uptoBulk d := by
  cases d with
  | lit l => cases l <;> simp [Rows.uptoBulk]
  | _ => simp [Rows.uptoBulk]
theorem bulkAll_get {L : List (DataW H)} {x : DataW H} (hx : x ∈ L) : Rows.uptoBulk x ≤ Rows.uptoBulkAll L := by
  induction L with
  | nil => cases hx
  | cons y L ih =>
    simp only [Rows.uptoBulkAll]
    rcases List.mem_cons.1 hx with rfl | hx
    · omega
    · have := ih hx
      omega
theorem bulkAll_len (L : List (DataW H)) : L.length ≤ Rows.uptoBulkAll L := by
  induction L with
  | nil => exact Nat.zero_le _
  | cons x r ih =>
    have := bulk_pos x
    simp only [List.length_cons, Rows.uptoBulkAll]
    omega
theorem CellsIn.fields {fs : Array Field} (h : CellsIn enc P W K t cs d) (ht : P.underlying t = some (.struct fs)) :
    cs.length = P.cellsOf t ∧ ∀ (j : Nat) (f : Field), fs[j]? = some f → ∃ y, CellsIn enc P W K f.type ((cs.drop f.offset).take (P.cellsOf f.type)) y := by
  obtain ⟨⟨m, p, hr⟩, hw, hb⟩ := h
  obtain ⟨xs, n, _, hx, hl, hxl, hj⟩ := DataW.trod_struct ht hr
  simp only [Prod.mk.injEq] at hx
  rw [hx.1] at hw hb
  refine ⟨hl, fun j f hf => ?_⟩
  have hlt : j < fs.size := (Array.getElem?_eq_some_iff.1 hf).1
  have hg : xs[j]? = some (xs[j]'(by omega)) := List.getElem?_eq_getElem (by omega)
  refine ⟨(xs[j]'(by omega)).1, ⟨n, _, (hj j f hf).trans hg⟩, ?_, ?_⟩
  · intro q hq
    refine hw q ?_
    simp only [DataW.weights, ht]
    refine weightsEach_get _ _ j f.type (xs[j]'(by omega)).1 q ?_ (by rw [List.getElem?_map, hg]; rfl) hq
    rw [List.getElem?_map, Array.getElem?_toList, hf]
    rfl
  · have := bulkAll_get (x := (xs[j]'(by omega)).1) (L := xs.map (·.1)) (List.mem_map.2 ⟨xs[j]'(by omega), List.getElem_mem _, rfl⟩)
    simp only [Rows.uptoBulk] at hb
    omega
theorem CellsIn.slice {e : TypeId} (h : CellsIn enc P W K t cs d) (ht : P.underlying t = some (.slice e)) :
    cs = [.slice none 0 0] ∨ ∃ (a : Addr) (n c : Nat) (D : Nat → DataW H), cs = [.slice (some a) n c] ∧ n ≤ c ∧ c ≤ maxLen ∧ c * P.bytesOf e ≤ 140737488351232 ∧ n ≤ K ∧
      ∀ i, i < n → ∃ cs', W.cells? 0 (a.add (i * P.cellsOf e)) (P.cellsOf e) = some cs' ∧ CellsIn enc P W K e cs' (D i) := by
  obtain ⟨⟨m, p, hr⟩, hw, hb⟩ := h
  rcases Go.Deep.open_slice ht hr with ⟨hcs, hx⟩ | ⟨a, l, cc, mm, nn, D, Pl, hcs, _, hl, hm, hmm, hx, hi⟩
  · exact .inl hcs
  · right
    simp only [Prod.mk.injEq] at hx
    rw [hx.1] at hw hb
    have hmc : mm = cc := by rw [hmm]; rfl
    have hw1 := hw ((((List.range l).map D).length + ((List.range (mm - l)).map fun j => D (l + j)).length) * P.bytesOf e) (by simp only [DataW.weights, ht]; exact List.mem_cons_self ..)
    have hl2 : l + (mm - l) = cc := by omega
    simp only [List.length_map, List.length_range, hl2, reachBytes] at hw1
    have hbl := bulkAll_len ((List.range l).map D)
    simp only [Rows.uptoBulk, List.length_map, List.length_range] at hb hbl
    refine ⟨a, l, cc, D, hcs, hl, hm, hw1, by omega, fun i hil => ?_⟩
    obtain ⟨cs', hc, ht'⟩ := hi i (by omega)
    have hmem : D i ∈ (List.range l).map D := List.mem_map.2 ⟨i, List.mem_range.2 hil, rfl⟩
    refine ⟨cs', hc, ⟨_, _, ht'⟩, ?_, ?_⟩
    · intro q hq
      refine hw q ?_
      simp only [DataW.weights, ht, List.mem_cons, List.mem_append]
      exact .inr (.inl (weightsAll_get hmem hq))
    · have := bulkAll_get hmem
      omega
theorem flatMap_len {α : Type} {Enc : α → List Value} {k : Nat} (hE : ∀ x, (Enc x).length = k) (l : List α) : (l.flatMap Enc).length = l.length * k := by
  induction l with
  | nil => simp
  | cons x l ih => rw [List.flatMap_cons, List.length_append, hE, ih, List.length_cons, Nat.add_mul]; omega
theorem flatMap_get {α : Type} {Enc : α → List Value} {k : Nat} (hE : ∀ x, (Enc x).length = k) (l : List α) (i j : Nat) (hi : i < l.length) (hj : j < k) : (l.flatMap Enc)[i * k + j]? = (Enc l[i])[j]? := by
  induction l generalizing i with
  | nil => cases hi
  | cons x l ih =>
    rw [List.flatMap_cons]
    cases i with
    | zero => rw [Nat.zero_mul, Nat.zero_add, List.getElem?_append_left (by rw [hE]; exact hj)]; rfl
    | succ i =>
      rw [List.getElem?_append_right (by rw [hE, Nat.add_mul]; omega), hE, show (i + 1) * k + j - k = i * k + j by rw [Nat.add_mul]; omega, ih i (by simpa using hi)]
      rfl
/-- A LIST: each element by its own law -/
theorem CellsIn.list {α : Type} {e : TypeId} {k : Nat} (Enc : α → List Value) (G : α → Prop) (hE : ∀ x, (Enc x).length = k) (hk : 0 < k) (hC : P.cellsOf e = k) (ht : P.underlying t = some (.slice e))
    (hel : ∀ cs d, CellsIn enc P W K e cs d → ∃ x : α, cs = Enc x ∧ G x) (h : CellsIn enc P W K t cs d) :
    ∃ (A : Option Addr) (l : List α) (n c : Nat), cs = [.slice A n c] ∧ n = l.length ∧ n ≤ c ∧ c ≤ maxLen ∧ c * P.bytesOf e ≤ 140737488351232 ∧ n ≤ K ∧ Reads W W.heap.size k A n (l.flatMap Enc) ∧ ∀ x ∈ l, G x := by
  rcases h.slice ht with rfl | ⟨a, n, c, D, rfl, hn, hm, hb, hK, hi⟩
  · exact ⟨none, [], 0, 0, rfl, rfl, Nat.le_refl _, by unfold maxLen; omega, by omega, Nat.zero_le _, ⟨by simp, fun h => absurd h (by omega)⟩, by simp⟩
  · rw [hC] at hi
    have hq : ∀ i, i < n → ∃ x : α, (∀ j, j < k → W.cell? (a.add (i * k + j)) = (Enc x)[j]?) ∧ G x := by
      intro i hin
      obtain ⟨cs', hc, hcell⟩ := hi i hin
      obtain ⟨x, rfl, hg⟩ := hel _ _ hcell
      obtain ⟨_, hcl, hat⟩ := World.cells?_some hc
      refine ⟨x, fun j hj => ?_, hg⟩
      have := hat j hj
      rwa [add_of_add] at this
    obtain ⟨l, hl, hlx⟩ : ∃ l : List α, l.length = n ∧ ∀ i (h : i < l.length), (∀ j, j < k → W.cell? (a.add (i * k + j)) = (Enc l[i])[j]?) ∧ G l[i] := by
      clear hi hK hb hm hn h
      induction n with
      | zero => exact ⟨[], rfl, fun i h => by simp at h⟩
      | succ n ih =>
        obtain ⟨l, hl, hlx⟩ := ih (fun i hin => hq i (by omega))
        obtain ⟨x, hx, hg⟩ := hq n (by omega)
        refine ⟨l ++ [x], by simp [hl], fun i hin => ?_⟩
        rcases Nat.lt_or_ge i l.length with hlt | hge
        · rw [List.getElem_append_left hlt]
          exact hlx i hlt
        · have : i = l.length := by simp at hin; omega
          subst this
          rw [List.getElem_append_right (Nat.le_refl _)]
          simp only [Nat.sub_self, List.getElem_cons_zero]
          rw [hl]
          exact ⟨hx, hg⟩
    refine ⟨some a, l, n, c, rfl, hl.symm, hn, hm, hb, hK, ⟨by rw [flatMap_len hE, hl], fun h0 => ⟨a, rfl, ?_, fun j u hu => ?_⟩⟩, fun x hx => ?_⟩
    · obtain ⟨h1, _⟩ := hlx 0 (by omega)
      have h2 := h1 0 hk
      rw [List.getElem?_eq_getElem (by rw [hE]; exact hk)] at h2
      have := World.block_lt_of_cell? W _ h2
      rwa [block_of_add] at this
    · have hj : j < n * k := by
        have h3 := (List.getElem?_eq_some_iff.1 hu).1
        rwa [flatMap_len hE, hl] at h3
      have hdm := Nat.div_add_mod j k
      have hmod := Nat.mod_lt j hk
      have hdv : j / k < n := Nat.div_lt_of_lt_mul (by rw [Nat.mul_comm]; exact hj)
      have e1 : j = j / k * k + j % k := by rw [Nat.mul_comm]; exact hdm.symm
      rw [e1, flatMap_get hE l _ _ (by omega) hmod] at hu
      rw [e1, (hlx (j / k) (by omega)).1 (j % k) hmod]
      exact hu
    · obtain ⟨i, hil, rfl⟩ := List.getElem_of_mem hx
      exact (hlx i hil).2
end
end Go.Proofs.YteafdncnnamakaaGreatDoor
