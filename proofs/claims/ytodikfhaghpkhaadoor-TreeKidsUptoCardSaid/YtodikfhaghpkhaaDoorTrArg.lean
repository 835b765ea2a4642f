/-
  An argument that is a tenant.
-/
import Derived.Test.YtodikfhaghpkhaaDoorOpen
import Derived.Test.YtodikfhaghpkhaaDoorTrChk
namespace Go.Proofs.YtodikfhaghpkhaaDoor
open Go.RowKit Go.ChangeShapes Go.WideShapes Go.ChangeAt

theorem len2 {α : Type} {l : List α} (h : l.length = 2) : ∃ a0 a1, l = [a0, a1] := by
  match l, h with
  | [a0, a1], _ => exact ⟨a0, a1, rfl⟩
theorem len4 {α : Type} {l : List α} (h : l.length = 4) : ∃ a0 a1 a2 a3, l = [a0, a1, a2, a3] := by
  match l, h with
  | [a0, a1, a2, a3], _ => exact ⟨a0, a1, a2, a3, rfl⟩
theorem len5 {α : Type} {l : List α} (h : l.length = 5) : ∃ a0 a1 a2 a3 a4, l = [a0, a1, a2, a3, a4] := by
  match l, h with
  | [a0, a1, a2, a3, a4], _ => exact ⟨a0, a1, a2, a3, a4, rfl⟩
theorem len7 {α : Type} {l : List α} (h : l.length = 7) : ∃ a0 a1 a2 a3 a4 a5 a6, l = [a0, a1, a2, a3, a4, a5, a6] := by
  match l, h with
  | [a0, a1, a2, a3, a4, a5, a6], _ => exact ⟨a0, a1, a2, a3, a4, a5, a6, rfl⟩
theorem len12 {α : Type} {l : List α} (h : l.length = 12) : ∃ a0 a1 a2 a3 a4 a5 a6 a7 a8 a9 a10 a11, l = [a0, a1, a2, a3, a4, a5, a6, a7, a8, a9, a10, a11] := by
  match l, h with
  | [a0, a1, a2, a3, a4, a5, a6, a7, a8, a9, a10, a11], _ => exact ⟨a0, a1, a2, a3, a4, a5, a6, a7, a8, a9, a10, a11, rfl⟩
theorem len21 {α : Type} {l : List α} (h : l.length = 21) : ∃ a0 a1 a2 a3 a4 a5 a6 a7 a8 a9 a10 a11 a12 a13 a14 a15 a16 a17 a18 a19 a20, l = [a0, a1, a2, a3, a4, a5, a6, a7, a8, a9, a10, a11, a12, a13, a14, a15, a16, a17, a18, a19, a20] := by
  match l, h with
  | [a0, a1, a2, a3, a4, a5, a6, a7, a8, a9, a10, a11, a12, a13, a14, a15, a16, a17, a18, a19, a20], _ => exact ⟨a0, a1, a2, a3, a4, a5, a6, a7, a8, a9, a10, a11, a12, a13, a14, a15, a16, a17, a18, a19, a20, rfl⟩
theorem cofT_str : Tryd.prog.cellsOf 9 = 1 := by kernel_rfl
theorem cofT_int : Tryd.prog.cellsOf 3 = 1 := by kernel_rfl
theorem cofT_errno : Tryd.prog.cellsOf 30 = 1 := by kernel_rfl
theorem cofT_bool : Tryd.prog.cellsOf 4 = 1 := by kernel_rfl
theorem cofT_u64 : Tryd.prog.cellsOf 63 = 1 := by kernel_rfl
theorem cofT_strs : Tryd.prog.cellsOf 32 = 1 := by kernel_rfl
theorem cofT_blks : Tryd.prog.cellsOf 34 = 1 := by kernel_rfl
theorem cofT_prps : Tryd.prog.cellsOf 36 = 1 := by kernel_rfl
theorem cofT_snaps : Tryd.prog.cellsOf 35 = 1 := by kernel_rfl
theorem cofT_sets : Tryd.prog.cellsOf 22 = 1 := by kernel_rfl
theorem cofT_grants : Tryd.prog.cellsOf 23 = 1 := by kernel_rfl
theorem cofT_stages : Tryd.prog.cellsOf 24 = 1 := by kernel_rfl
theorem cofT_log : Tryd.prog.cellsOf 25 = 1 := by kernel_rfl
theorem cofT_sum : Tryd.prog.cellsOf 65 = 4 := by kernel_rfl
theorem cofT_rec : Tryd.prog.cellsOf 67 = 12 := by kernel_rfl
section
variable {H : Type} {enc : TypeId × Value → H} {W : World} {K : Nat} {cs : List Value} {d : DataW H}
theorem CellsIn.sumT (h : CellsIn enc Tryd.prog W K 65 cs d) : ∃ s : Sm, cs = smV s := by
  obtain ⟨hl, hf⟩ := h.fields Tryd.underlying65
  obtain ⟨c0, c1, c2, c3, rfl⟩ := len4 (hl.trans cofT_sum)
  obtain ⟨y0, q0⟩ := hf 0 _ rfl
  obtain ⟨y1, q1⟩ := hf 1 _ rfl
  obtain ⟨y2, q2⟩ := hf 2 _ rfl
  obtain ⟨y3, q3⟩ := hf 3 _ rfl
  obtain ⟨n0, e0, _⟩ := q0.u64 Tryd.underlying63
  obtain ⟨n1, e1, _⟩ := q1.u64 Tryd.underlying63
  obtain ⟨n2, e2, _⟩ := q2.u64 Tryd.underlying63
  obtain ⟨n3, e3, _⟩ := q3.u64 Tryd.underlying63
  simp [cofT_u64] at e0 e1 e2 e3
  exact ⟨⟨n0, n1, n2, n3⟩, by rw [e0, e1, e2, e3]; rfl⟩
theorem CellsIn.strT (hK : K ≤ 1048576) (h : CellsIn enc Tryd.prog W K 9 cs d) : ∃ x : BS, cs = encS x ∧ x.length ≤ 4000000000 := by
  obtain ⟨s, e, _, b⟩ := h.str Tryd.underlying9
  exact ⟨s, e, by omega⟩
theorem cofT_blk : Tryd.prog.cellsOf 100 = 2 := by kernel_rfl
theorem CellsIn.blkT (_hK : K ≤ 1048576) (h : CellsIn enc Tryd.prog W K 100 cs d) : ∃ x : BlkT, cs = encB x ∧ (True) := by
  obtain ⟨hl, hf⟩ := h.fields Tryd.underlying100
  obtain ⟨a0, a1, rfl⟩ := len2 (hl.trans cofT_blk)
  obtain ⟨y0, q0⟩ := hf 0 _ rfl
  obtain ⟨y1, q1⟩ := hf 1 _ rfl
  obtain ⟨s0, e0, _⟩ := q0.i64 Tryd.underlying3
  obtain ⟨s1, e1, _, b1⟩ := q1.str Tryd.underlying9
  simp [cofT_int, cofT_str] at e0 e1
  exact ⟨(s0, s1), by rw [e0, e1]; rfl, trivial⟩
theorem cofT_prp : Tryd.prog.cellsOf 102 = 2 := by kernel_rfl
theorem CellsIn.prpT (hK : K ≤ 1048576) (h : CellsIn enc Tryd.prog W K 102 cs d) : ∃ x : (BS × BS), cs = encP x ∧ ((x.1.length ≤ 4000000000 ∧ x.2.length ≤ 4000000000)) := by
  obtain ⟨hl, hf⟩ := h.fields Tryd.underlying102
  obtain ⟨a0, a1, rfl⟩ := len2 (hl.trans cofT_prp)
  obtain ⟨y0, q0⟩ := hf 0 _ rfl
  obtain ⟨y1, q1⟩ := hf 1 _ rfl
  obtain ⟨s0, e0, _, b0⟩ := q0.str Tryd.underlying9
  obtain ⟨s1, e1, _, b1⟩ := q1.str Tryd.underlying9
  simp [cofT_str] at e0 e1
  exact ⟨(s0, s1), by rw [e0, e1]; rfl, by simp only; omega, by simp only; omega⟩
theorem CellsIn.strs (hK : K ≤ 1048576) (h : CellsIn enc Tryd.prog W K 32 cs d) : ∃ s : FS BS, cs = [s.val] ∧ s.rd W W.heap.size 1 encS ∧ s.n ≤ 1000000000000 ∧ ∀ x ∈ s.l, x.length ≤ 4000000000 := by
  obtain ⟨A, l, n, c, hcs, hn, hc, _, _, hK2, hr, hg⟩ := h.list (fun x : BS => encS x) (fun x => x.length ≤ 4000000000) (fun _ => rfl) (by decide) cofT_str Tryd.underlying32 (fun _ _ h => h.strT hK)
  exact ⟨⟨A, n, c, l⟩, hcs, ⟨hn, hc, hr⟩, by show n ≤ _; omega, hg⟩
theorem CellsIn.blks (hK : K ≤ 1048576) (h : CellsIn enc Tryd.prog W K 34 cs d) : ∃ s : FS BlkT, cs = [s.val] ∧ s.rd W W.heap.size 2 encB ∧ s.n ≤ 1000000000000 ∧ ∀ x ∈ s.l, True := by
  obtain ⟨A, l, n, c, hcs, hn, hc, _, _, hK2, hr, hg⟩ := h.list (fun x : BlkT => encB x) (fun x => True) (fun _ => rfl) (by decide) cofT_blk Tryd.underlying34 (fun _ _ h => h.blkT hK)
  exact ⟨⟨A, n, c, l⟩, hcs, ⟨hn, hc, hr⟩, by show n ≤ _; omega, hg⟩
theorem CellsIn.prps (hK : K ≤ 1048576) (h : CellsIn enc Tryd.prog W K 36 cs d) : ∃ s : FS (BS × BS), cs = [s.val] ∧ s.rd W W.heap.size 2 encP ∧ s.n ≤ 1000000000000 ∧ ∀ x ∈ s.l, (x.1.length ≤ 4000000000 ∧ x.2.length ≤ 4000000000) := by
  obtain ⟨A, l, n, c, hcs, hn, hc, _, _, hK2, hr, hg⟩ := h.list (fun x : (BS × BS) => encP x) (fun x => (x.1.length ≤ 4000000000 ∧ x.2.length ≤ 4000000000)) (fun _ => rfl) (by decide) cofT_prp Tryd.underlying36 (fun _ _ h => h.prpT hK)
  exact ⟨⟨A, n, c, l⟩, hcs, ⟨hn, hc, hr⟩, by show n ≤ _; omega, hg⟩
theorem cofT_snap : Tryd.prog.cellsOf 89 = 5 := by kernel_rfl
theorem CellsIn.snapT (hK : K ≤ 1048576) (h : CellsIn enc Tryd.prog W K 89 cs d) : ∃ x : SnapR, cs = encSnap x ∧ (x.rd W W.heap.size ∧ x.sz) := by
  obtain ⟨hl, hf⟩ := h.fields Tryd.underlying89
  obtain ⟨a0, a1, a2, a3, a4, rfl⟩ := len5 (hl.trans cofT_snap)
  obtain ⟨y0, q0⟩ := hf 0 _ rfl
  obtain ⟨y1, q1⟩ := hf 1 _ rfl
  obtain ⟨y2, q2⟩ := hf 2 _ rfl
  obtain ⟨y3, q3⟩ := hf 3 _ rfl
  obtain ⟨y4, q4⟩ := hf 4 _ rfl
  obtain ⟨s0, e0, _, b0⟩ := q0.str Tryd.underlying9
  obtain ⟨s1, e1, _⟩ := q1.i64 Tryd.underlying3
  obtain ⟨s2, e2, g2⟩ := q2.blks hK
  obtain ⟨s3, e3, g3⟩ := q3.strs hK
  obtain ⟨s4, e4, g4⟩ := q4.prps hK
  simp [cofT_str, cofT_int, cofT_blks, cofT_strs, cofT_prps] at e0 e1 e2 e3 e4
  obtain ⟨r2, n2, _⟩ := g2
  obtain ⟨r3, n3, k3⟩ := g3
  obtain ⟨r4, n4, k4⟩ := g4
  exact ⟨⟨s0, s1, s2, s3, s4⟩, by rw [e0, e1, e2, e3, e4]; rfl, ⟨r2, r3, r4⟩, ⟨by show s0.length ≤ _; omega, n2, n3, k3, n4, k4⟩⟩
theorem CellsIn.snaps (hK : K ≤ 1048576) (h : CellsIn enc Tryd.prog W K 35 cs d) : ∃ s : FS SnapR, cs = [s.val] ∧ s.rd W W.heap.size 5 encSnap ∧ s.n ≤ 1000000000000 ∧ ∀ x ∈ s.l, (x.rd W W.heap.size ∧ x.sz) := by
  obtain ⟨A, l, n, c, hcs, hn, hc, _, _, hK2, hr, hg⟩ := h.list (fun x : SnapR => encSnap x) (fun x => (x.rd W W.heap.size ∧ x.sz)) (fun _ => rfl) (by decide) cofT_snap Tryd.underlying35 (fun _ _ h => h.snapT hK)
  exact ⟨⟨A, n, c, l⟩, hcs, ⟨hn, hc, hr⟩, by show n ≤ _; omega, hg⟩
theorem cofT_set : Tryd.prog.cellsOf 38 = 5 := by kernel_rfl
theorem CellsIn.setT (hK : K ≤ 1048576) (h : CellsIn enc Tryd.prog W K 38 cs d) : ∃ x : SetR, cs = encSet x ∧ (x.rd W W.heap.size ∧ x.sz) := by
  obtain ⟨hl, hf⟩ := h.fields Tryd.underlying38
  obtain ⟨a0, a1, a2, a3, a4, rfl⟩ := len5 (hl.trans cofT_set)
  obtain ⟨y0, q0⟩ := hf 0 _ rfl
  obtain ⟨y1, q1⟩ := hf 1 _ rfl
  obtain ⟨y2, q2⟩ := hf 2 _ rfl
  obtain ⟨y3, q3⟩ := hf 3 _ rfl
  obtain ⟨y4, q4⟩ := hf 4 _ rfl
  obtain ⟨s0, e0, _, b0⟩ := q0.str Tryd.underlying9
  obtain ⟨s1, e1, _, b1⟩ := q1.str Tryd.underlying9
  obtain ⟨s2, e2, g2⟩ := q2.blks hK
  obtain ⟨s3, e3, g3⟩ := q3.snaps hK
  obtain ⟨s4, e4, g4⟩ := q4.prps hK
  simp [cofT_str, cofT_blks, cofT_snaps, cofT_prps] at e0 e1 e2 e3 e4
  obtain ⟨r2, n2, _⟩ := g2
  obtain ⟨r3, n3, k3⟩ := g3
  obtain ⟨r4, n4, k4⟩ := g4
  exact ⟨⟨s0, s1, s2, s3, s4⟩, by rw [e0, e1, e2, e3, e4]; rfl, ⟨r2, r3, fun y hy => (k3 y hy).1, r4⟩, ⟨by show s0.length ≤ _; omega, by show s1.length ≤ _; omega, n2, n3, fun y hy => (k3 y hy).2, n4, k4⟩⟩
theorem CellsIn.sets (hK : K ≤ 1048576) (h : CellsIn enc Tryd.prog W K 22 cs d) : ∃ s : FS SetR, cs = [s.val] ∧ s.rd W W.heap.size 5 encSet ∧ s.n ≤ 1000000000000 ∧ ∀ x ∈ s.l, (x.rd W W.heap.size ∧ x.sz) := by
  obtain ⟨A, l, n, c, hcs, hn, hc, _, _, hK2, hr, hg⟩ := h.list (fun x : SetR => encSet x) (fun x => (x.rd W W.heap.size ∧ x.sz)) (fun _ => rfl) (by decide) cofT_set Tryd.underlying22 (fun _ _ h => h.setT hK)
  exact ⟨⟨A, n, c, l⟩, hcs, ⟨hn, hc, hr⟩, by show n ≤ _; omega, hg⟩
structure RecR where
  kind : Int
  nm : BS
  frm : Int
  gd : Int
  own : FS (BS × BS)
  ix : Int
  ct : Int
  dt : BS
  sm : Sm
def encRec (x : RecR) : List Value := [.int .i64 x.kind, strV x.nm, .int .i64 x.frm, .int .i64 x.gd, x.own.val, .int .i64 x.ix, .int .i64 x.ct, strV x.dt] ++ smV x.sm
theorem cofT_rec2 : Tryd.prog.cellsOf 67 = 12 := by kernel_rfl
theorem CellsIn.recT (hK : K ≤ 1048576) (h : CellsIn enc Tryd.prog W K 67 cs d) : ∃ x : RecR, cs = encRec x ∧ (x.own.rd W W.heap.size 2 encP ∧ x.own.n ≤ 1000000000000 ∧ (∀ p ∈ x.own.l, p.1.length ≤ 4000000000 ∧ p.2.length ≤ 4000000000) ∧ x.nm.length ≤ 4000000000 ∧ x.dt.length ≤ 4000000000) := by
  obtain ⟨hl, hf⟩ := h.fields Tryd.underlying67
  obtain ⟨a0, a1, a2, a3, a4, a5, a6, a7, a8, a9, a10, a11, rfl⟩ := len12 (hl.trans cofT_rec2)
  obtain ⟨y0, q0⟩ := hf 0 _ rfl
  obtain ⟨y1, q1⟩ := hf 1 _ rfl
  obtain ⟨y2, q2⟩ := hf 2 _ rfl
  obtain ⟨y3, q3⟩ := hf 3 _ rfl
  obtain ⟨y4, q4⟩ := hf 4 _ rfl
  obtain ⟨y5, q5⟩ := hf 5 _ rfl
  obtain ⟨y6, q6⟩ := hf 6 _ rfl
  obtain ⟨y7, q7⟩ := hf 7 _ rfl
  obtain ⟨y8, q8⟩ := hf 8 _ rfl
  obtain ⟨s0, e0, _⟩ := q0.i64 Tryd.underlying3
  obtain ⟨s1, e1, _, b1⟩ := q1.str Tryd.underlying9
  obtain ⟨s2, e2, _⟩ := q2.i64 Tryd.underlying3
  obtain ⟨s3, e3, _⟩ := q3.i64 Tryd.underlying3
  obtain ⟨s4, e4, g4⟩ := q4.prps hK
  obtain ⟨s5, e5, _⟩ := q5.i64 Tryd.underlying3
  obtain ⟨s6, e6, _⟩ := q6.i64 Tryd.underlying3
  obtain ⟨s7, e7, _, b7⟩ := q7.str Tryd.underlying9
  obtain ⟨s8, e8⟩ := q8.sumT
  simp [cofT_int, cofT_str, cofT_prps, cofT_sum] at e0 e1 e2 e3 e4 e5 e6 e7 e8
  obtain ⟨r4, n4, k4⟩ := g4
  simp [smV] at e8
  obtain ⟨e8, e9, e10, e11⟩ := e8
  exact ⟨⟨s0, s1, s2, s3, s4, s5, s6, s7, s8⟩, by rw [e0, e1, e2, e3, e4, e5, e6, e7, e8, e9, e10, e11]; rfl, r4, n4, k4, by show s1.length ≤ _; omega, by show s7.length ≤ _; omega⟩
theorem cofT_stage : Tryd.prog.cellsOf 69 = 21 := by kernel_rfl
theorem CellsIn.stageT (hK : K ≤ 1048576) (h : CellsIn enc Tryd.prog W K 69 cs d) : ∃ x : StageR, cs = encStage x ∧ (x.rd W W.heap.size ∧ x.sz) := by
  obtain ⟨hl, hf⟩ := h.fields Tryd.underlying69
  obtain ⟨a0, a1, a2, a3, a4, a5, a6, a7, a8, a9, a10, a11, a12, a13, a14, a15, a16, a17, a18, a19, a20, rfl⟩ := len21 (hl.trans cofT_stage)
  obtain ⟨y0, q0⟩ := hf 0 _ rfl
  obtain ⟨y1, q1⟩ := hf 1 _ rfl
  obtain ⟨y2, q2⟩ := hf 2 _ rfl
  obtain ⟨y3, q3⟩ := hf 3 _ rfl
  obtain ⟨y4, q4⟩ := hf 4 _ rfl
  obtain ⟨y5, q5⟩ := hf 5 _ rfl
  obtain ⟨y6, q6⟩ := hf 6 _ rfl
  obtain ⟨s0, e0, _, b0⟩ := q0.str Tryd.underlying9
  obtain ⟨s1, e1, g1⟩ := q1.recT hK
  obtain ⟨s2, e2, g2⟩ := q2.blks hK
  obtain ⟨s3, e3, _⟩ := q3.i64 Tryd.underlying3
  obtain ⟨s4, e4, _⟩ := q4.i64 Tryd.underlying3
  obtain ⟨s5, e5⟩ := q5.sumT
  obtain ⟨s6, e6⟩ := q6.bool Tryd.underlying4
  simp [cofT_str, cofT_rec, cofT_blks, cofT_int, cofT_sum, cofT_bool] at e0 e1 e2 e3 e4 e5 e6
  obtain ⟨r1, n1, k1, m1, m2⟩ := g1
  obtain ⟨r2, n2, _⟩ := g2
  simp [smV, encRec] at e1 e5
  obtain ⟨f0, f1, f2, f3, f4, f5, f6, f7, f8, f9, f10, f11⟩ := e1
  obtain ⟨h0, h1, h2, h3⟩ := e5
  exact ⟨⟨s0, s1.kind, s1.nm, s1.frm, s1.gd, s1.own, s1.ix, s1.ct, s1.dt, s1.sm, s2, s3, s4, s5, s6⟩, by rw [e0, f0, f1, f2, f3, f4, f5, f6, f7, f8, f9, f10, f11, e2, e3, e4, h0, h1, h2, h3, e6]; rfl, ⟨r1, r2⟩, ⟨by show s0.length ≤ _; omega, m1, m2, n1, k1, n2⟩⟩
theorem CellsIn.stages (hK : K ≤ 1048576) (h : CellsIn enc Tryd.prog W K 24 cs d) : ∃ s : FS StageR, cs = [s.val] ∧ s.rd W W.heap.size 21 encStage ∧ s.n ≤ 1000000000000 ∧ ∀ x ∈ s.l, (x.rd W W.heap.size ∧ x.sz) := by
  obtain ⟨A, l, n, c, hcs, hn, hc, _, _, hK2, hr, hg⟩ := h.list (fun x : StageR => encStage x) (fun x => (x.rd W W.heap.size ∧ x.sz)) (fun _ => rfl) (by decide) cofT_stage Tryd.underlying24 (fun _ _ h => h.stageT hK)
  exact ⟨⟨A, n, c, l⟩, hcs, ⟨hn, hc, hr⟩, by show n ≤ _; omega, hg⟩
theorem cofT_entry : Tryd.prog.cellsOf 72 = 4 := by kernel_rfl
theorem CellsIn.entryT (hK : K ≤ 1048576) (h : CellsIn enc Tryd.prog W K 72 cs d) : ∃ x : EntryR, cs = encEntry x ∧ (x.sz) := by
  obtain ⟨hl, hf⟩ := h.fields Tryd.underlying72
  obtain ⟨a0, a1, a2, a3, rfl⟩ := len4 (hl.trans cofT_entry)
  obtain ⟨y0, q0⟩ := hf 0 _ rfl
  obtain ⟨y1, q1⟩ := hf 1 _ rfl
  obtain ⟨y2, q2⟩ := hf 2 _ rfl
  obtain ⟨y3, q3⟩ := hf 3 _ rfl
  obtain ⟨s0, e0, _, b0⟩ := q0.str Tryd.underlying9
  obtain ⟨s1, e1, _⟩ := q1.i64 Tryd.underlying3
  obtain ⟨s2, e2, _, b2⟩ := q2.str Tryd.underlying9
  obtain ⟨s3, e3, _⟩ := q3.i64 Tryd.underlying30
  simp [cofT_str, cofT_int, cofT_errno] at e0 e1 e2 e3
  exact ⟨⟨s0, s1, s2, s3⟩, by rw [e0, e1, e2, e3]; rfl, ⟨by show s0.length ≤ _; omega, by show s2.length ≤ _; omega⟩⟩
theorem CellsIn.log (hK : K ≤ 1048576) (h : CellsIn enc Tryd.prog W K 25 cs d) : ∃ s : FS EntryR, cs = [s.val] ∧ s.rd W W.heap.size 4 encEntry ∧ s.n ≤ 1000000000000 ∧ ∀ x ∈ s.l, x.sz := by
  obtain ⟨A, l, n, c, hcs, hn, hc, _, _, hK2, hr, hg⟩ := h.list (fun x : EntryR => encEntry x) (fun x => x.sz) (fun _ => rfl) (by decide) cofT_entry Tryd.underlying25 (fun _ _ h => h.entryT hK)
  exact ⟨⟨A, n, c, l⟩, hcs, ⟨hn, hc, hr⟩, by show n ≤ _; omega, hg⟩
theorem cofT_grant : Tryd.prog.cellsOf 45 = 3 := by kernel_rfl
theorem len3 {α : Type} {l : List α} (h : l.length = 3) : ∃ a b c, l = [a, b, c] := by
  match l, h with
  | [a, b, c], _ => exact ⟨a, b, c, rfl⟩
theorem CellsIn.grantT (hK : K ≤ 1048576) (h : CellsIn enc Tryd.prog W K 45 cs d) : ∃ x : GT, cs = encG x ∧ (x.1.length ≤ 4000000000 ∧ x.2.1.length ≤ 4000000000) := by
  obtain ⟨hl, hf⟩ := h.fields Tryd.underlying45
  obtain ⟨c0, c1, c2, rfl⟩ := len3 (hl.trans cofT_grant)
  obtain ⟨y0, q0⟩ := hf 0 _ rfl
  obtain ⟨y1, q1⟩ := hf 1 _ rfl
  obtain ⟨y2, q2⟩ := hf 2 _ rfl
  obtain ⟨s0, e0, _, b0⟩ := q0.str Tryd.underlying9
  obtain ⟨s1, e1, _, b1⟩ := q1.str Tryd.underlying9
  obtain ⟨n2, e2, _, _⟩ := q2.i64 Tryd.underlying3
  simp [cofT_str, cofT_int] at e0 e1 e2
  exact ⟨(s0, s1, n2), by rw [e0, e1, e2]; rfl, by simp only; omega, by simp only; omega⟩
theorem CellsIn.grantsT (hK : K ≤ 1048576) (h : CellsIn enc Tryd.prog W K 23 cs d) : ∃ s : FS GT, cs = [s.val] ∧ s.rd W W.heap.size 3 encG ∧ s.n ≤ 1000000000000 ∧ ∀ x ∈ s.l, (x.1.length ≤ 4000000000 ∧ x.2.1.length ≤ 4000000000) := by
  obtain ⟨A, l, n, c, hcs, hn, hc, _, _, hK2, hr, hg⟩ := h.list (fun x : GT => encG x) (fun x => (x.1.length ≤ 4000000000 ∧ x.2.1.length ≤ 4000000000)) (fun _ => rfl) (by decide) cofT_grant Tryd.underlying23 (fun _ _ h => h.grantT hK)
  exact ⟨⟨A, n, c, l⟩, hcs, ⟨hn, hc, hr⟩, by show n ≤ _; omega, hg⟩
theorem cofT_ten : Tryd.prog.cellsOf 27 = 7 := by kernel_rfl
theorem CellsIn.tenT (hK : K ≤ 1048576) (h : CellsIn enc Tryd.prog W K 27 cs d) : ∃ x : TenR, cs = TenR.cells x ∧ (x.rd W W.heap.size ∧ x.sz) := by
  obtain ⟨hl, hf⟩ := h.fields Tryd.underlying27
  obtain ⟨a0, a1, a2, a3, a4, a5, a6, rfl⟩ := len7 (hl.trans cofT_ten)
  obtain ⟨y0, q0⟩ := hf 0 _ rfl
  obtain ⟨y1, q1⟩ := hf 1 _ rfl
  obtain ⟨y2, q2⟩ := hf 2 _ rfl
  obtain ⟨y3, q3⟩ := hf 3 _ rfl
  obtain ⟨y4, q4⟩ := hf 4 _ rfl
  obtain ⟨y5, q5⟩ := hf 5 _ rfl
  obtain ⟨y6, q6⟩ := hf 6 _ rfl
  obtain ⟨s0, e0, _, b0⟩ := q0.str Tryd.underlying9
  obtain ⟨s1, e1, _⟩ := q1.i64 Tryd.underlying3
  obtain ⟨s2, e2, _⟩ := q2.i64 Tryd.underlying3
  obtain ⟨s3, e3, g3⟩ := q3.sets hK
  obtain ⟨s4, e4, g4⟩ := q4.grantsT hK
  obtain ⟨s5, e5, g5⟩ := q5.stages hK
  obtain ⟨s6, e6, g6⟩ := q6.log hK
  simp [cofT_str, cofT_int, cofT_sets, cofT_grants, cofT_stages, cofT_log] at e0 e1 e2 e3 e4 e5 e6
  obtain ⟨r3, n3, k3⟩ := g3
  obtain ⟨r4, n4, k4⟩ := g4
  obtain ⟨r5, n5, k5⟩ := g5
  obtain ⟨r6, n6, k6⟩ := g6
  exact ⟨⟨s0, s1, s2, s3, s4, s5, s6⟩, by rw [e0, e1, e2, e3, e4, e5, e6]; rfl, ⟨r3, fun y hy => (k3 y hy).1, r4, r5, fun y hy => (k5 y hy).1, r6⟩, ⟨by show s0.length ≤ _; omega, n3, fun y hy => (k3 y hy).2, n4, k4, n5, fun y hy => (k5 y hy).2, n6, k6⟩⟩
theorem ArgIn.ten {v : Value} (hK : Rows.uptoBulk d ≤ 1048576) (h : ArgIn enc Tryd.prog W 27 v d) : ∃ t : TenR, v = t.val ∧ t.rd W W.heap.size ∧ t.sz := by
  obtain ⟨cs, rfl, hc⟩ := h.agg Tryd.underlying27
  obtain ⟨t, hcs, h1, h2⟩ := hc.tenT hK
  refine ⟨t, ?_, h1, h2⟩
  show Value.agg _ = Value.agg _
  congr 1
  exact Array.toList_inj.1 hcs
end
end Go.Proofs.YtodikfhaghpkhaaDoor
