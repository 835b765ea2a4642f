/-
  An argument that is a stage.
-/
import Derived.Test.YtjdebhemoeojiaaDoorOpen
import Derived.Test.YtjdebhemoeojiaaDoorTen
namespace Go.Proofs.YtjdebhemoeojiaaDoor
open Go.RowKit Go.ChangeShapes Go.WideShapes Go.ChangeAt

theorem len2 {α : Type} {l : List α} (h : l.length = 2) : ∃ a0 a1, l = [a0, a1] := by
  match l, h with
  | [a0, a1], _ => exact ⟨a0, a1, rfl⟩
theorem len4 {α : Type} {l : List α} (h : l.length = 4) : ∃ a0 a1 a2 a3, l = [a0, a1, a2, a3] := by
  match l, h with
  | [a0, a1, a2, a3], _ => exact ⟨a0, a1, a2, a3, rfl⟩
theorem len5 {α : Type} {l : List α} (h : l.length = 5) : ∃ a0 a1 a2 a3 a4, l = [a0, a1, a2, a3, a4] := by
  match l, h with
  | [a0, a1, a2, a3, a4], _ => exact ⟨a0, a1, a2, a3, a4, rfl⟩
theorem len7 {α : Type} {l : List α} (h : l.length = 7) : ∃ a0 a1 a2 a3 a4 a5 a6, l = [a0, a1, a2, a3, a4, a5, a6] := by
  match l, h with
  | [a0, a1, a2, a3, a4, a5, a6], _ => exact ⟨a0, a1, a2, a3, a4, a5, a6, rfl⟩
theorem len12 {α : Type} {l : List α} (h : l.length = 12) : ∃ a0 a1 a2 a3 a4 a5 a6 a7 a8 a9 a10 a11, l = [a0, a1, a2, a3, a4, a5, a6, a7, a8, a9, a10, a11] := by
  match l, h with
  | [a0, a1, a2, a3, a4, a5, a6, a7, a8, a9, a10, a11], _ => exact ⟨a0, a1, a2, a3, a4, a5, a6, a7, a8, a9, a10, a11, rfl⟩
theorem len21 {α : Type} {l : List α} (h : l.length = 21) : ∃ a0 a1 a2 a3 a4 a5 a6 a7 a8 a9 a10 a11 a12 a13 a14 a15 a16 a17 a18 a19 a20, l = [a0, a1, a2, a3, a4, a5, a6, a7, a8, a9, a10, a11, a12, a13, a14, a15, a16, a17, a18, a19, a20] := by
  match l, h with
  | [a0, a1, a2, a3, a4, a5, a6, a7, a8, a9, a10, a11, a12, a13, a14, a15, a16, a17, a18, a19, a20], _ => exact ⟨a0, a1, a2, a3, a4, a5, a6, a7, a8, a9, a10, a11, a12, a13, a14, a15, a16, a17, a18, a19, a20, rfl⟩
theorem cofT_str : Tryd.prog.cellsOf 9 = 1 := by kernel_rfl
theorem cofT_int : Tryd.prog.cellsOf 3 = 1 := by kernel_rfl
theorem cofT_errno : Tryd.prog.cellsOf 28 = 1 := by kernel_rfl
theorem cofT_bool : Tryd.prog.cellsOf 4 = 1 := by kernel_rfl
theorem cofT_u64 : Tryd.prog.cellsOf 53 = 1 := by kernel_rfl
theorem cofT_strs : Tryd.prog.cellsOf 87 = 1 := by kernel_rfl
theorem cofT_blks : Tryd.prog.cellsOf 58 = 1 := by kernel_rfl
theorem cofT_prps : Tryd.prog.cellsOf 52 = 1 := by kernel_rfl
theorem cofT_sum : Tryd.prog.cellsOf 55 = 4 := by kernel_rfl
theorem cofT_rec : Tryd.prog.cellsOf 57 = 12 := by kernel_rfl
section
variable {H : Type} {enc : TypeId × Value → H} {W : World} {K : Nat} {cs : List Value} {d : DataW H}
theorem CellsIn.sumT (h : CellsIn enc Tryd.prog W K 55 cs d) : ∃ s : Sm, cs = smV s := by
  obtain ⟨hl, hf⟩ := h.fields Tryd.underlying55
  obtain ⟨c0, c1, c2, c3, rfl⟩ := len4 (hl.trans cofT_sum)
  obtain ⟨y0, q0⟩ := hf 0 _ rfl
  obtain ⟨y1, q1⟩ := hf 1 _ rfl
  obtain ⟨y2, q2⟩ := hf 2 _ rfl
  obtain ⟨y3, q3⟩ := hf 3 _ rfl
  obtain ⟨n0, e0, _⟩ := q0.u64 Tryd.underlying53
  obtain ⟨n1, e1, _⟩ := q1.u64 Tryd.underlying53
  obtain ⟨n2, e2, _⟩ := q2.u64 Tryd.underlying53
  obtain ⟨n3, e3, _⟩ := q3.u64 Tryd.underlying53
  simp [cofT_u64] at e0 e1 e2 e3
  exact ⟨⟨n0, n1, n2, n3⟩, by rw [e0, e1, e2, e3]; rfl⟩
theorem CellsIn.strT (hK : K ≤ 1048576) (h : CellsIn enc Tryd.prog W K 9 cs d) : ∃ x : BS, cs = encS x ∧ x.length ≤ 4000000000 := by
  obtain ⟨s, e, _, b⟩ := h.str Tryd.underlying9
  exact ⟨s, e, by omega⟩
theorem cofT_blk : Tryd.prog.cellsOf 127 = 2 := by kernel_rfl
theorem CellsIn.blkT (_hK : K ≤ 1048576) (h : CellsIn enc Tryd.prog W K 127 cs d) : ∃ x : BlkT, cs = encB x ∧ (True) := by
  obtain ⟨hl, hf⟩ := h.fields Tryd.underlying127
  obtain ⟨a0, a1, rfl⟩ := len2 (hl.trans cofT_blk)
  obtain ⟨y0, q0⟩ := hf 0 _ rfl
  obtain ⟨y1, q1⟩ := hf 1 _ rfl
  obtain ⟨s0, e0, _⟩ := q0.i64 Tryd.underlying3
  obtain ⟨s1, e1, _, b1⟩ := q1.str Tryd.underlying9
  simp [cofT_int, cofT_str] at e0 e1
  exact ⟨(s0, s1), by rw [e0, e1]; rfl, trivial⟩
theorem cofT_prp : Tryd.prog.cellsOf 144 = 2 := by kernel_rfl
theorem CellsIn.prpT (hK : K ≤ 1048576) (h : CellsIn enc Tryd.prog W K 144 cs d) : ∃ x : (BS × BS), cs = encP x ∧ ((x.1.length ≤ 4000000000 ∧ x.2.length ≤ 4000000000)) := by
  obtain ⟨hl, hf⟩ := h.fields Tryd.underlying144
  obtain ⟨a0, a1, rfl⟩ := len2 (hl.trans cofT_prp)
  obtain ⟨y0, q0⟩ := hf 0 _ rfl
  obtain ⟨y1, q1⟩ := hf 1 _ rfl
  obtain ⟨s0, e0, _, b0⟩ := q0.str Tryd.underlying9
  obtain ⟨s1, e1, _, b1⟩ := q1.str Tryd.underlying9
  simp [cofT_str] at e0 e1
  exact ⟨(s0, s1), by rw [e0, e1]; rfl, by simp only; omega, by simp only; omega⟩
theorem CellsIn.strs (hK : K ≤ 1048576) (h : CellsIn enc Tryd.prog W K 87 cs d) : ∃ s : FS BS, cs = [s.val] ∧ s.rd W W.heap.size 1 encS ∧ s.n ≤ 1000000000000 ∧ ∀ x ∈ s.l, x.length ≤ 4000000000 := by
  obtain ⟨A, l, n, c, hcs, hn, hc, _, _, hK2, hr, hg⟩ := h.list (fun x : BS => encS x) (fun x => x.length ≤ 4000000000) (fun _ => rfl) (by decide) cofT_str Tryd.underlying87 (fun _ _ h => h.strT hK)
  exact ⟨⟨A, n, c, l⟩, hcs, ⟨hn, hc, hr⟩, by show n ≤ _; omega, hg⟩
theorem CellsIn.blks (hK : K ≤ 1048576) (h : CellsIn enc Tryd.prog W K 58 cs d) : ∃ s : FS BlkT, cs = [s.val] ∧ s.rd W W.heap.size 2 encB ∧ s.n ≤ 1000000000000 ∧ ∀ x ∈ s.l, True := by
  obtain ⟨A, l, n, c, hcs, hn, hc, _, _, hK2, hr, hg⟩ := h.list (fun x : BlkT => encB x) (fun x => True) (fun _ => rfl) (by decide) cofT_blk Tryd.underlying58 (fun _ _ h => h.blkT hK)
  exact ⟨⟨A, n, c, l⟩, hcs, ⟨hn, hc, hr⟩, by show n ≤ _; omega, hg⟩
theorem CellsIn.prps (hK : K ≤ 1048576) (h : CellsIn enc Tryd.prog W K 52 cs d) : ∃ s : FS (BS × BS), cs = [s.val] ∧ s.rd W W.heap.size 2 encP ∧ s.n ≤ 1000000000000 ∧ ∀ x ∈ s.l, (x.1.length ≤ 4000000000 ∧ x.2.length ≤ 4000000000) := by
  obtain ⟨A, l, n, c, hcs, hn, hc, _, _, hK2, hr, hg⟩ := h.list (fun x : (BS × BS) => encP x) (fun x => (x.1.length ≤ 4000000000 ∧ x.2.length ≤ 4000000000)) (fun _ => rfl) (by decide) cofT_prp Tryd.underlying52 (fun _ _ h => h.prpT hK)
  exact ⟨⟨A, n, c, l⟩, hcs, ⟨hn, hc, hr⟩, by show n ≤ _; omega, hg⟩
structure RecR where
  kind : Int
  nm : BS
  frm : Int
  gd : Int
  own : FS (BS × BS)
  ix : Int
  ct : Int
  dt : BS
  sm : Sm
def encRec (x : RecR) : List Value := [.int .i64 x.kind, strV x.nm, .int .i64 x.frm, .int .i64 x.gd, x.own.val, .int .i64 x.ix, .int .i64 x.ct, strV x.dt] ++ smV x.sm
theorem cofT_rec2 : Tryd.prog.cellsOf 57 = 12 := by kernel_rfl
theorem CellsIn.recT (hK : K ≤ 1048576) (h : CellsIn enc Tryd.prog W K 57 cs d) : ∃ x : RecR, cs = encRec x ∧ (x.own.rd W W.heap.size 2 encP ∧ x.own.n ≤ 1000000000000 ∧ (∀ p ∈ x.own.l, p.1.length ≤ 4000000000 ∧ p.2.length ≤ 4000000000) ∧ x.nm.length ≤ 4000000000 ∧ x.dt.length ≤ 4000000000) := by
  obtain ⟨hl, hf⟩ := h.fields Tryd.underlying57
  obtain ⟨a0, a1, a2, a3, a4, a5, a6, a7, a8, a9, a10, a11, rfl⟩ := len12 (hl.trans cofT_rec2)
  obtain ⟨y0, q0⟩ := hf 0 _ rfl
  obtain ⟨y1, q1⟩ := hf 1 _ rfl
  obtain ⟨y2, q2⟩ := hf 2 _ rfl
  obtain ⟨y3, q3⟩ := hf 3 _ rfl
  obtain ⟨y4, q4⟩ := hf 4 _ rfl
  obtain ⟨y5, q5⟩ := hf 5 _ rfl
  obtain ⟨y6, q6⟩ := hf 6 _ rfl
  obtain ⟨y7, q7⟩ := hf 7 _ rfl
  obtain ⟨y8, q8⟩ := hf 8 _ rfl
  obtain ⟨s0, e0, _⟩ := q0.i64 Tryd.underlying3
  obtain ⟨s1, e1, _, b1⟩ := q1.str Tryd.underlying9
  obtain ⟨s2, e2, _⟩ := q2.i64 Tryd.underlying3
  obtain ⟨s3, e3, _⟩ := q3.i64 Tryd.underlying3
  obtain ⟨s4, e4, g4⟩ := q4.prps hK
  obtain ⟨s5, e5, _⟩ := q5.i64 Tryd.underlying3
  obtain ⟨s6, e6, _⟩ := q6.i64 Tryd.underlying3
  obtain ⟨s7, e7, _, b7⟩ := q7.str Tryd.underlying9
  obtain ⟨s8, e8⟩ := q8.sumT
  simp [cofT_int, cofT_str, cofT_prps, cofT_sum] at e0 e1 e2 e3 e4 e5 e6 e7 e8
  obtain ⟨r4, n4, k4⟩ := g4
  simp [smV] at e8
  obtain ⟨e8, e9, e10, e11⟩ := e8
  exact ⟨⟨s0, s1, s2, s3, s4, s5, s6, s7, s8⟩, by rw [e0, e1, e2, e3, e4, e5, e6, e7, e8, e9, e10, e11]; rfl, r4, n4, k4, by show s1.length ≤ _; omega, by show s7.length ≤ _; omega⟩
theorem cofT_stage : Tryd.prog.cellsOf 60 = 21 := by kernel_rfl
theorem CellsIn.stageT (hK : K ≤ 1048576) (h : CellsIn enc Tryd.prog W K 60 cs d) : ∃ x : StageR, cs = encStage x ∧ (x.rd W W.heap.size ∧ x.sz) := by
  obtain ⟨hl, hf⟩ := h.fields Tryd.underlying60
  obtain ⟨a0, a1, a2, a3, a4, a5, a6, a7, a8, a9, a10, a11, a12, a13, a14, a15, a16, a17, a18, a19, a20, rfl⟩ := len21 (hl.trans cofT_stage)
  obtain ⟨y0, q0⟩ := hf 0 _ rfl
  obtain ⟨y1, q1⟩ := hf 1 _ rfl
  obtain ⟨y2, q2⟩ := hf 2 _ rfl
  obtain ⟨y3, q3⟩ := hf 3 _ rfl
  obtain ⟨y4, q4⟩ := hf 4 _ rfl
  obtain ⟨y5, q5⟩ := hf 5 _ rfl
  obtain ⟨y6, q6⟩ := hf 6 _ rfl
  obtain ⟨s0, e0, _, b0⟩ := q0.str Tryd.underlying9
  obtain ⟨s1, e1, g1⟩ := q1.recT hK
  obtain ⟨s2, e2, g2⟩ := q2.blks hK
  obtain ⟨s3, e3, _⟩ := q3.i64 Tryd.underlying3
  obtain ⟨s4, e4, _⟩ := q4.i64 Tryd.underlying3
  obtain ⟨s5, e5⟩ := q5.sumT
  obtain ⟨s6, e6⟩ := q6.bool Tryd.underlying4
  simp [cofT_str, cofT_rec, cofT_blks, cofT_int, cofT_sum, cofT_bool] at e0 e1 e2 e3 e4 e5 e6
  obtain ⟨r1, n1, k1, m1, m2⟩ := g1
  obtain ⟨r2, n2, _⟩ := g2
  simp [smV, encRec] at e1 e5
  obtain ⟨f0, f1, f2, f3, f4, f5, f6, f7, f8, f9, f10, f11⟩ := e1
  obtain ⟨h0, h1, h2, h3⟩ := e5
  exact ⟨⟨s0, s1.kind, s1.nm, s1.frm, s1.gd, s1.own, s1.ix, s1.ct, s1.dt, s1.sm, s2, s3, s4, s5, s6⟩, by rw [e0, f0, f1, f2, f3, f4, f5, f6, f7, f8, f9, f10, f11, e2, e3, e4, h0, h1, h2, h3, e6]; rfl, ⟨r1, r2⟩, ⟨by show s0.length ≤ _; omega, m1, m2, n1, k1, n2⟩⟩
theorem len3 {α : Type} {l : List α} (h : l.length = 3) : ∃ a b c, l = [a, b, c] := by
  match l, h with
  | [a, b, c], _ => exact ⟨a, b, c, rfl⟩
theorem ArgIn.stage {v : Value} (hK : Rows.uptoBulk d ≤ 1048576) (h : ArgIn enc Tryd.prog W 60 v d) : ∃ x : StageR, v = .agg (encStage x).toArray ∧ x.rd W W.heap.size ∧ x.sz := by
  obtain ⟨cs, rfl, hc⟩ := h.agg Tryd.underlying60
  obtain ⟨x, hcs, h1, h2⟩ := hc.stageT hK
  refine ⟨x, ?_, h1, h2⟩
  show Value.agg _ = Value.agg _
  congr 1
  exact Array.toList_inj.1 hcs
theorem ArgIn.strT {v : Value} (h : ArgIn enc Tryd.prog W 9 v d) : ∃ s : BS, v = .string ⟨s.toArray⟩ ∧ s.length + 1 ≤ Rows.uptoBulk d := by
  obtain ⟨s, rfl, _, rfl⟩ := h.string Tryd.underlying9
  exact ⟨s.data.toList, by simp, by simp [Rows.uptoBulk]⟩
end
end Go.Proofs.YtjdebhemoeojiaaDoor
