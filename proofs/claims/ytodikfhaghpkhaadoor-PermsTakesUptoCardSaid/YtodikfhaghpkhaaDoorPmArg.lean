/-
  An argument that is a list of grants; six arguments.
-/
import Derived.Test.YtodikfhaghpkhaaDoorOpen
import Derived.Test.YtodikfhaghpkhaaDoorPmCheck
namespace Go.Proofs.YtodikfhaghpkhaaDoor
open Go.RowKit Go.ChangeShapes Go.WideShapes Go.ChangeAt

theorem list3' {α : Type} {l : List α} (h : l.length = 3) : ∃ a b c, l = [a, b, c] := by
  match l, h with
  | [a, b, c], _ => exact ⟨a, b, c, rfl⟩
theorem Tryd.cofGrant : Tryd.prog.cellsOf 45 = 3 := by kernel_rfl
theorem Tryd.cofStrG : Tryd.prog.cellsOf 9 = 1 := by kernel_rfl
theorem Tryd.cofIntG : Tryd.prog.cellsOf 3 = 1 := by kernel_rfl
theorem Tryd.bofGrant : Tryd.prog.bytesOf 45 = 40 := by kernel_rfl
section
variable {H : Type} {enc : TypeId × Value → H} {W : World} {K : Nat} {cs : List Value} {d : DataW H}
theorem CellsIn.grant (h : CellsIn enc Tryd.prog W K 45 cs d) : ∃ x : GT, cs = [.string ⟨x.1.toArray⟩, .string ⟨x.2.1.toArray⟩, .int .i64 x.2.2] ∧ (x.1.length ≤ K ∧ x.2.1.length ≤ K) := by
  obtain ⟨hl, hf⟩ := h.fields Tryd.underlying45
  obtain ⟨c0, c1, c2, rfl⟩ := list3' (hl.trans Tryd.cofGrant)
  obtain ⟨y0, q0⟩ := hf 0 _ rfl
  obtain ⟨y1, q1⟩ := hf 1 _ rfl
  obtain ⟨y2, q2⟩ := hf 2 _ rfl
  obtain ⟨s0, e0, _, b0⟩ := q0.str Tryd.underlying9
  obtain ⟨s1, e1, _, b1⟩ := q1.str Tryd.underlying9
  obtain ⟨n2, e2, _, _⟩ := q2.i64 Tryd.underlying3
  simp [Tryd.cofStrG] at e0 e1
  simp [Tryd.cofIntG] at e2
  exact ⟨(s0, s1, n2), by rw [e0, e1, e2], by simp only; omega, by simp only; omega⟩
theorem CellsIn.grants (h : CellsIn enc Tryd.prog W K 23 cs d) :
    ∃ (A : Option Addr) (l : GL) (n c : Nat), cs = [.slice A n c] ∧ n = l.length ∧ n ≤ c ∧ n ≤ K ∧ Reads W W.heap.size 3 A n (gcells l) ∧ ∀ x ∈ l, x.1.length ≤ K ∧ x.2.1.length ≤ K := by
  obtain ⟨A, l, n, c, hcs, hn, hc, _, _, hK, hr, hg⟩ := h.list (fun x : GT => [.string ⟨x.1.toArray⟩, .string ⟨x.2.1.toArray⟩, .int .i64 x.2.2]) (fun x => x.1.length ≤ K ∧ x.2.1.length ≤ K) (fun _ => rfl) (by decide) Tryd.cofGrant Tryd.underlying23 (fun _ _ h => h.grant)
  exact ⟨A, l, n, c, hcs, hn, hc, hK, hr, hg⟩
theorem ArgIn.grants {v : Value} (h : ArgIn enc Tryd.prog W 23 v d) :
    ∃ (A : Option Addr) (l : GL) (n c : Nat), v = .slice A n c ∧ n = l.length ∧ n ≤ c ∧ n ≤ Rows.uptoBulk d ∧ Reads W W.heap.size 3 A n (gcells l) ∧ ∀ x ∈ l, x.1.length ≤ Rows.uptoBulk d ∧ x.2.1.length ≤ Rows.uptoBulk d := by
  obtain ⟨A, n, c, rfl, hc⟩ := h.slc Tryd.underlying23
  obtain ⟨A2, l, n2, c2, hcs, r⟩ := hc.grants
  simp only [List.cons.injEq, Value.slice.injEq, and_true] at hcs
  obtain ⟨rfl, rfl, rfl⟩ := hcs
  exact ⟨A, l, n, c, rfl, r⟩
theorem ArgIn.grantsV {v : Value} (h : ArgIn enc Tryd.prog W 23 v d) : ∃ (A : Option Addr) (n c : Nat), v = .slice A n c := by
  obtain ⟨A, n, c, rfl, _⟩ := h.slc Tryd.underlying23
  exact ⟨A, n, c, rfl⟩
theorem ArgIn.str {v : Value} (h : ArgIn enc Tryd.prog W 9 v d) : ∃ s : BS, v = .string ⟨s.toArray⟩ ∧ s.length + 1 ≤ Rows.uptoBulk d := by
  obtain ⟨s, rfl, _, rfl⟩ := h.string Tryd.underlying9
  exact ⟨s.data.toList, by simp, by simp [Rows.uptoBulk]⟩
theorem ArgIn.i64G {v : Value} (h : ArgIn enc Tryd.prog W 3 v d) : ∃ n : Int, v = .int .i64 n ∧ -9223372036854775808 ≤ n ∧ n ≤ 9223372036854775807 := by
  obtain ⟨n, rfl, hn⟩ := h.int Tryd.underlying3
  simp [Lit.wf, IntKind.min, IntKind.max, IntKind.signed, IntKind.bits] at hn
  exact ⟨n, rfl, by omega, by omega⟩
end
theorem argsIn6 {H : Type} {enc : TypeId × Value → H} {P : Program} {W : World} {t0 t1 t2 t3 t4 t5 : TypeId} {args : Array Value} {ds : List (DataW H)} (h : ArgsIn enc P W [t0, t1, t2, t3, t4, t5] args.toList ds) :
    ∃ v0 v1 v2 v3 v4 v5 d0 d1 d2 d3 d4 d5, args = #[v0, v1, v2, v3, v4, v5] ∧ ds = [d0, d1, d2, d3, d4, d5] ∧ ArgIn enc P W t0 v0 d0 ∧ ArgIn enc P W t1 v1 d1 ∧ ArgIn enc P W t2 v2 d2 ∧ ArgIn enc P W t3 v3 d3 ∧ ArgIn enc P W t4 v4 d4 ∧ ArgIn enc P W t5 v5 d5 := by
  obtain ⟨v0, _, d0, _, e0, rfl, h0, h⟩ := argsIn_cons h
  obtain ⟨v1, _, d1, _, rfl, rfl, h1, h⟩ := argsIn_cons h
  obtain ⟨v2, _, d2, _, rfl, rfl, h2, h⟩ := argsIn_cons h
  obtain ⟨v3, _, d3, _, rfl, rfl, h3, h⟩ := argsIn_cons h
  obtain ⟨v4, _, d4, _, rfl, rfl, h4, h⟩ := argsIn_cons h
  obtain ⟨v5, _, d5, _, rfl, rfl, h5, h⟩ := argsIn_cons h
  obtain ⟨rfl, rfl⟩ := argsIn_nil h
  exact ⟨v0, v1, v2, v3, v4, v5, d0, d1, d2, d3, d4, d5, by apply Array.toList_inj.1; simpa using e0, rfl, h0, h1, h2, h3, h4, h5⟩
end Go.Proofs.YtodikfhaghpkhaaDoor
