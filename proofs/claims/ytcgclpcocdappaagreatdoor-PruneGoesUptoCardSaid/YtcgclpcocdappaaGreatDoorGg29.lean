/-
  An argument that is a tenant. usage.Fits: is what a tenant is charged for at most its quota? Tenants by content alone: what they read, wherever they lie. What a tenant's content tells: whether it may be, and what it is charged for. shape.Settle: a changed tenant, if it may be and if it fits.
-/
import Derived.WalkKit
import Derived.WalkSpells
import Derived.Below
import Derived.Laws.OwnMore
import Derived.Deep.AppendLies
import Derived.Deep.Draws
import Derived.Laws.Rows
import Derived.Maps.AppendAt
import Derived.RegionTactic
import Derived.OwnWalk
import Derived.Deep.QuietTactic
import Derived.BigQuiet
import Derived.Lib.Hide
import Derived.Laws.CopyOwn
import Derived.IntWalk
import Derived.Test.YtcgclpcocdappaaGreatDoorRows
import Derived.Handy
import Derived.Deep.Quiet
import Derived.ProofKit
import Derived.OpenShut
import Derived.ShutString
import Derived.ChangeOld
import Derived.Carry
import Derived.SizedLaws
import Derived.JoinedCond
import Derived.Deep.CondSized
import Derived.Deep.Slices
import Derived.Deep.Fields
import Derived.Lib.SmallJoins
import Derived.Orders
import Derived.Lib.SplitLaws
import Derived.Lib.LastIndexByte
import Derived.Lib.Strings
import Derived.ChangeSame
import Derived.Sort.Walk0
import Derived.Sort.KeysCollected
import Derived.Shelf.Strings.Search1
import Derived.Shelf.Strings.Search2
import Derived.Shelf.Strings.Search3
import Derived.Shelf.Strings.Cut
import Derived.Shelf.Strings.Count
import Derived.Shelf.LaysM
import Derived.Shelf.Strings.Shaped
import Derived.Shelf.Strings.LastIndex
import Derived.Shelf.Strings.Split
import Derived.Shelf.Strings.SplitShaped
import Derived.Shelf.Unicode.Decode
import Derived.Shelf.Strings.RuneCount
import Derived.Shelf.Strings.Explode
import Derived.Shelf.Unicode.DecodeSlow
import Derived.Test.YtcgclpcocdappaaGreatDoorProg
import Derived.Laws.BytesString
import Derived.Laws.IdiomStrings
import Derived.Lib.ConvBytes
import Derived.Deep.MidRow
import Derived.Great.BuildSlice
import Derived.Deep.DeepCutAuto
import Derived.Test.YtcgclpcocdappaaGreatDoorG0
import Derived.Test.YtcgclpcocdappaaGreatDoorGg1
import Derived.Test.YtcgclpcocdappaaGreatDoorGg2
import Derived.Test.YtcgclpcocdappaaGreatDoorGg3
import Derived.Test.YtcgclpcocdappaaGreatDoorGg5
import Derived.Test.YtcgclpcocdappaaGreatDoorGg6
import Derived.Test.YtcgclpcocdappaaGreatDoorGg7
import Derived.Test.YtcgclpcocdappaaGreatDoorGg13
import Derived.Test.YtcgclpcocdappaaGreatDoorGg17
import Derived.Test.YtcgclpcocdappaaGreatDoorGg20
import Derived.Test.YtcgclpcocdappaaGreatDoorGg21
import Derived.Test.YtcgclpcocdappaaGreatDoorGg22
import Derived.Test.YtcgclpcocdappaaGreatDoorGg27
namespace Go.Proofs.YtcgclpcocdappaaGreatDoor
open Go.RowKit Go.ChangeShapes Go.WideShapes Go.ChangeAt
theorem len2 {α:Type} {l:List α} (h:l.length=2):∃ a0 a1,l=[a0,a1]:=by
 match l,h with
 | [a0,a1],_=>exact ⟨a0,a1,rfl⟩
theorem len4 {α:Type} {l:List α} (h:l.length=4):∃ a0 a1 a2 a3,l=[a0,a1,a2,a3]:=by
 match l,h with
 | [a0,a1,a2,a3],_=>exact ⟨a0,a1,a2,a3,rfl⟩
theorem len5 {α:Type} {l:List α} (h:l.length=5):∃ a0 a1 a2 a3 a4,l=[a0,a1,a2,a3,a4]:=by
 match l,h with
 | [a0,a1,a2,a3,a4],_=>exact ⟨a0,a1,a2,a3,a4,rfl⟩
theorem len7 {α:Type} {l:List α} (h:l.length=7):∃ a0 a1 a2 a3 a4 a5 a6,l=[a0,a1,a2,a3,a4,a5,a6]:=by
 match l,h with
 | [a0,a1,a2,a3,a4,a5,a6],_=>exact ⟨a0,a1,a2,a3,a4,a5,a6,rfl⟩
theorem len12 {α:Type} {l:List α} (h:l.length=12):∃ a0 a1 a2 a3 a4 a5 a6 a7 a8 a9 a10 a11,l=[a0,a1,a2,a3,a4,a5,a6,a7,a8,a9,a10,a11]:=by
 match l,h with
 | [a0,a1,a2,a3,a4,a5,a6,a7,a8,a9,a10,a11],_=>exact ⟨a0,a1,a2,a3,a4,a5,a6,a7,a8,a9,a10,a11,rfl⟩
theorem len21 {α:Type} {l:List α} (h:l.length=21):∃ a0 a1 a2 a3 a4 a5 a6 a7 a8 a9 a10 a11 a12 a13 a14 a15 a16 a17 a18 a19 a20,l=[a0,a1,a2,a3,a4,a5,a6,a7,a8,a9,a10,a11,a12,a13,a14,a15,a16,a17,a18,a19,a20]:=by
 match l,h with
 | [a0,a1,a2,a3,a4,a5,a6,a7,a8,a9,a10,a11,a12,a13,a14,a15,a16,a17,a18,a19,a20],_=>exact ⟨a0,a1,a2,a3,a4,a5,a6,a7,a8,a9,a10,a11,a12,a13,a14,a15,a16,a17,a18,a19,a20,rfl⟩
theorem cofT_str:Tryz.prog.cellsOf 9=1:=by kernel_rfl
theorem cofT_int:Tryz.prog.cellsOf 3=1:=by kernel_rfl
theorem cofT_errno:Tryz.prog.cellsOf 29=1:=by kernel_rfl
theorem cofT_bool:Tryz.prog.cellsOf 4=1:=by kernel_rfl
theorem cofT_u64:Tryz.prog.cellsOf 97=1:=by kernel_rfl
theorem cofT_strs:Tryz.prog.cellsOf 48=1:=by kernel_rfl
theorem cofT_blks:Tryz.prog.cellsOf 38=1:=by kernel_rfl
theorem cofT_prps:Tryz.prog.cellsOf 40=1:=by kernel_rfl
theorem cofT_snaps:Tryz.prog.cellsOf 39=1:=by kernel_rfl
theorem cofT_sets:Tryz.prog.cellsOf 22=1:=by kernel_rfl
theorem cofT_grants:Tryz.prog.cellsOf 23=1:=by kernel_rfl
theorem cofT_stages:Tryz.prog.cellsOf 24=1:=by kernel_rfl
theorem cofT_log:Tryz.prog.cellsOf 25=1:=by kernel_rfl
theorem cofT_sum:Tryz.prog.cellsOf 99=4:=by kernel_rfl
theorem cofT_rec:Tryz.prog.cellsOf 101=12:=by kernel_rfl
section
variable {H:Type} {enc:TypeId×Value→H} {W:World} {K:Nat} {cs:List Value} {d:DataW H}
theorem CellsIn.sumT (h:CellsIn enc Tryz.prog W K 99 cs d):∃ s:Sm,cs=smV s:=by
 obtain ⟨hl,hf⟩:=h.fields Tryz.underlying99
 obtain ⟨c0,c1,c2,c3,rfl⟩:=len4 (hl.trans cofT_sum)
 obtain ⟨y0,q0⟩:=hf 0 _ rfl
 obtain ⟨y1,q1⟩:=hf 1 _ rfl
 obtain ⟨y2,q2⟩:=hf 2 _ rfl
 obtain ⟨y3,q3⟩:=hf 3 _ rfl
 obtain ⟨n0,e0,_⟩:=q0.u64 Tryz.underlying97
 obtain ⟨n1,e1,_⟩:=q1.u64 Tryz.underlying97
 obtain ⟨n2,e2,_⟩:=q2.u64 Tryz.underlying97
 obtain ⟨n3,e3,_⟩:=q3.u64 Tryz.underlying97
 simp [cofT_u64] at e0 e1 e2 e3
 exact ⟨⟨n0,n1,n2,n3⟩,by rw [e0,e1,e2,e3];rfl⟩
theorem CellsIn.strT (hK:K≤1048576) (h:CellsIn enc Tryz.prog W K 9 cs d):∃ x:BS,cs=encS x∧x.length≤4000000000:=by
 obtain ⟨s,e,_,b⟩:=h.str Tryz.underlying9
 exact ⟨s,e,by omega⟩
theorem cofT_blk:Tryz.prog.cellsOf 75=2:=by kernel_rfl
theorem CellsIn.blkT (_hK:K≤1048576) (h:CellsIn enc Tryz.prog W K 75 cs d):∃ x:BlkT,cs=encB x∧(True):=by
 obtain ⟨hl,hf⟩:=h.fields Tryz.underlying75
 obtain ⟨a0,a1,rfl⟩:=len2 (hl.trans cofT_blk)
 obtain ⟨y0,q0⟩:=hf 0 _ rfl
 obtain ⟨y1,q1⟩:=hf 1 _ rfl
 obtain ⟨s0,e0,_⟩:=q0.i64 Tryz.underlying3
 obtain ⟨s1,e1,_,b1⟩:=q1.str Tryz.underlying9
 simp [cofT_int,cofT_str] at e0 e1
 exact ⟨(s0,s1),by rw [e0,e1];rfl,trivial⟩
theorem cofT_prp:Tryz.prog.cellsOf 78=2:=by kernel_rfl
theorem CellsIn.prpT (hK:K≤1048576) (h:CellsIn enc Tryz.prog W K 78 cs d):∃ x:(BS×BS),cs=encP x∧((x.1.length≤4000000000∧x.2.length≤4000000000)):=by
 obtain ⟨hl,hf⟩:=h.fields Tryz.underlying78
 obtain ⟨a0,a1,rfl⟩:=len2 (hl.trans cofT_prp)
 obtain ⟨y0,q0⟩:=hf 0 _ rfl
 obtain ⟨y1,q1⟩:=hf 1 _ rfl
 obtain ⟨s0,e0,_,b0⟩:=q0.str Tryz.underlying9
 obtain ⟨s1,e1,_,b1⟩:=q1.str Tryz.underlying9
 simp [cofT_str] at e0 e1
 exact ⟨(s0,s1),by rw [e0,e1];rfl,by simp only;omega,by simp only;omega⟩
theorem CellsIn.strs (hK:K≤1048576) (h:CellsIn enc Tryz.prog W K 48 cs d):∃ s:FS BS,cs=[s.val]∧s.rd W W.heap.size 1 encS∧s.n≤1000000000000∧∀ x∈s.l,x.length≤4000000000:=by
 obtain ⟨A,l,n,c,hcs,hn,hc,_,_,hK2,hr,hg⟩:=h.list (fun x:BS=>encS x) (fun x=>x.length≤4000000000) (fun _=>rfl) (by decide) cofT_str Tryz.underlying48 (fun _ _ h=>h.strT hK)
 exact ⟨⟨A,n,c,l⟩,hcs,⟨hn,hc,hr⟩,by show n≤_;omega,hg⟩
theorem CellsIn.blks (hK:K≤1048576) (h:CellsIn enc Tryz.prog W K 38 cs d):∃ s:FS BlkT,cs=[s.val]∧s.rd W W.heap.size 2 encB∧s.n≤1000000000000∧∀ x∈s.l,True:=by
 obtain ⟨A,l,n,c,hcs,hn,hc,_,_,hK2,hr,hg⟩:=h.list (fun x:BlkT=>encB x) (fun x=>True) (fun _=>rfl) (by decide) cofT_blk Tryz.underlying38 (fun _ _ h=>h.blkT hK)
 exact ⟨⟨A,n,c,l⟩,hcs,⟨hn,hc,hr⟩,by show n≤_;omega,hg⟩
theorem CellsIn.prps (hK:K≤1048576) (h:CellsIn enc Tryz.prog W K 40 cs d):∃ s:FS (BS×BS),cs=[s.val]∧s.rd W W.heap.size 2 encP∧s.n≤1000000000000∧∀ x∈s.l,(x.1.length≤4000000000∧x.2.length≤4000000000):=by
 obtain ⟨A,l,n,c,hcs,hn,hc,_,_,hK2,hr,hg⟩:=h.list (fun x:(BS×BS)=>encP x) (fun x=>(x.1.length≤4000000000∧x.2.length≤4000000000)) (fun _=>rfl) (by decide) cofT_prp Tryz.underlying40 (fun _ _ h=>h.prpT hK)
 exact ⟨⟨A,n,c,l⟩,hcs,⟨hn,hc,hr⟩,by show n≤_;omega,hg⟩
theorem cofT_snap:Tryz.prog.cellsOf 57=5:=by kernel_rfl
theorem CellsIn.snapT (hK:K≤1048576) (h:CellsIn enc Tryz.prog W K 57 cs d):∃ x:SnapR,cs=encSnap x∧(x.rd W W.heap.size∧x.sz):=by
 obtain ⟨hl,hf⟩:=h.fields Tryz.underlying57
 obtain ⟨a0,a1,a2,a3,a4,rfl⟩:=len5 (hl.trans cofT_snap)
 obtain ⟨y0,q0⟩:=hf 0 _ rfl
 obtain ⟨y1,q1⟩:=hf 1 _ rfl
 obtain ⟨y2,q2⟩:=hf 2 _ rfl
 obtain ⟨y3,q3⟩:=hf 3 _ rfl
 obtain ⟨y4,q4⟩:=hf 4 _ rfl
 obtain ⟨s0,e0,_,b0⟩:=q0.str Tryz.underlying9
 obtain ⟨s1,e1,_⟩:=q1.i64 Tryz.underlying3
 obtain ⟨s2,e2,g2⟩:=q2.blks hK
 obtain ⟨s3,e3,g3⟩:=q3.strs hK
 obtain ⟨s4,e4,g4⟩:=q4.prps hK
 simp [cofT_str,cofT_int,cofT_blks,cofT_strs,cofT_prps] at e0 e1 e2 e3 e4
 obtain ⟨r2,n2,_⟩:=g2
 obtain ⟨r3,n3,k3⟩:=g3
 obtain ⟨r4,n4,k4⟩:=g4
 exact ⟨⟨s0,s1,s2,s3,s4⟩,by rw [e0,e1,e2,e3,e4];rfl,⟨r2,r3,r4⟩,⟨by show s0.length≤_;omega,n2,n3,k3,n4,k4⟩⟩
theorem CellsIn.snaps (hK:K≤1048576) (h:CellsIn enc Tryz.prog W K 39 cs d):∃ s:FS SnapR,cs=[s.val]∧s.rd W W.heap.size 5 encSnap∧s.n≤1000000000000∧∀ x∈s.l,(x.rd W W.heap.size∧x.sz):=by
 obtain ⟨A,l,n,c,hcs,hn,hc,_,_,hK2,hr,hg⟩:=h.list (fun x:SnapR=>encSnap x) (fun x=>(x.rd W W.heap.size∧x.sz)) (fun _=>rfl) (by decide) cofT_snap Tryz.underlying39 (fun _ _ h=>h.snapT hK)
 exact ⟨⟨A,n,c,l⟩,hcs,⟨hn,hc,hr⟩,by show n≤_;omega,hg⟩
theorem cofT_set:Tryz.prog.cellsOf 42=5:=by kernel_rfl
theorem CellsIn.setT (hK:K≤1048576) (h:CellsIn enc Tryz.prog W K 42 cs d):∃ x:SetR,cs=encSet x∧(x.rd W W.heap.size∧x.sz):=by
 obtain ⟨hl,hf⟩:=h.fields Tryz.underlying42
 obtain ⟨a0,a1,a2,a3,a4,rfl⟩:=len5 (hl.trans cofT_set)
 obtain ⟨y0,q0⟩:=hf 0 _ rfl
 obtain ⟨y1,q1⟩:=hf 1 _ rfl
 obtain ⟨y2,q2⟩:=hf 2 _ rfl
 obtain ⟨y3,q3⟩:=hf 3 _ rfl
 obtain ⟨y4,q4⟩:=hf 4 _ rfl
 obtain ⟨s0,e0,_,b0⟩:=q0.str Tryz.underlying9
 obtain ⟨s1,e1,_,b1⟩:=q1.str Tryz.underlying9
 obtain ⟨s2,e2,g2⟩:=q2.blks hK
 obtain ⟨s3,e3,g3⟩:=q3.snaps hK
 obtain ⟨s4,e4,g4⟩:=q4.prps hK
 simp [cofT_str,cofT_blks,cofT_snaps,cofT_prps] at e0 e1 e2 e3 e4
 obtain ⟨r2,n2,_⟩:=g2
 obtain ⟨r3,n3,k3⟩:=g3
 obtain ⟨r4,n4,k4⟩:=g4
 exact ⟨⟨s0,s1,s2,s3,s4⟩,by rw [e0,e1,e2,e3,e4];rfl,⟨r2,r3,fun y hy=>(k3 y hy).1,r4⟩,⟨by show s0.length≤_;omega,by show s1.length≤_;omega,n2,n3,fun y hy=>(k3 y hy).2,n4,k4⟩⟩
theorem CellsIn.sets (hK:K≤1048576) (h:CellsIn enc Tryz.prog W K 22 cs d):∃ s:FS SetR,cs=[s.val]∧s.rd W W.heap.size 5 encSet∧s.n≤1000000000000∧∀ x∈s.l,(x.rd W W.heap.size∧x.sz):=by
 obtain ⟨A,l,n,c,hcs,hn,hc,_,_,hK2,hr,hg⟩:=h.list (fun x:SetR=>encSet x) (fun x=>(x.rd W W.heap.size∧x.sz)) (fun _=>rfl) (by decide) cofT_set Tryz.underlying22 (fun _ _ h=>h.setT hK)
 exact ⟨⟨A,n,c,l⟩,hcs,⟨hn,hc,hr⟩,by show n≤_;omega,hg⟩
structure RecR where
 kind:Int
 nm:BS
 frm:Int
 gd:Int
 own:FS (BS×BS)
 ix:Int
 ct:Int
 dt:BS
 sm:Sm
def encRec (x:RecR):List Value:=[.int .i64 x.kind,strV x.nm,.int .i64 x.frm,.int .i64 x.gd,x.own.val,.int .i64 x.ix,.int .i64 x.ct,strV x.dt]++smV x.sm
theorem cofT_rec2:Tryz.prog.cellsOf 101=12:=by kernel_rfl
theorem CellsIn.recT (hK:K≤1048576) (h:CellsIn enc Tryz.prog W K 101 cs d):∃ x:RecR,cs=encRec x∧(x.own.rd W W.heap.size 2 encP∧x.own.n≤1000000000000∧(∀ p∈x.own.l,p.1.length≤4000000000∧p.2.length≤4000000000)∧x.nm.length≤4000000000∧x.dt.length≤4000000000):=by
 obtain ⟨hl,hf⟩:=h.fields Tryz.underlying101
 obtain ⟨a0,a1,a2,a3,a4,a5,a6,a7,a8,a9,a10,a11,rfl⟩:=len12 (hl.trans cofT_rec2)
 obtain ⟨y0,q0⟩:=hf 0 _ rfl
 obtain ⟨y1,q1⟩:=hf 1 _ rfl
 obtain ⟨y2,q2⟩:=hf 2 _ rfl
 obtain ⟨y3,q3⟩:=hf 3 _ rfl
 obtain ⟨y4,q4⟩:=hf 4 _ rfl
 obtain ⟨y5,q5⟩:=hf 5 _ rfl
 obtain ⟨y6,q6⟩:=hf 6 _ rfl
 obtain ⟨y7,q7⟩:=hf 7 _ rfl
 obtain ⟨y8,q8⟩:=hf 8 _ rfl
 obtain ⟨s0,e0,_⟩:=q0.i64 Tryz.underlying3
 obtain ⟨s1,e1,_,b1⟩:=q1.str Tryz.underlying9
 obtain ⟨s2,e2,_⟩:=q2.i64 Tryz.underlying3
 obtain ⟨s3,e3,_⟩:=q3.i64 Tryz.underlying3
 obtain ⟨s4,e4,g4⟩:=q4.prps hK
 obtain ⟨s5,e5,_⟩:=q5.i64 Tryz.underlying3
 obtain ⟨s6,e6,_⟩:=q6.i64 Tryz.underlying3
 obtain ⟨s7,e7,_,b7⟩:=q7.str Tryz.underlying9
 obtain ⟨s8,e8⟩:=q8.sumT
 simp [cofT_int,cofT_str,cofT_prps,cofT_sum] at e0 e1 e2 e3 e4 e5 e6 e7 e8
 obtain ⟨r4,n4,k4⟩:=g4
 simp [smV] at e8
 obtain ⟨e8,e9,e10,e11⟩:=e8
 exact ⟨⟨s0,s1,s2,s3,s4,s5,s6,s7,s8⟩,by rw [e0,e1,e2,e3,e4,e5,e6,e7,e8,e9,e10,e11];rfl,r4,n4,k4,by show s1.length≤_;omega,by show s7.length≤_;omega⟩
theorem cofT_stage:Tryz.prog.cellsOf 103=21:=by kernel_rfl
theorem CellsIn.stageT (hK:K≤1048576) (h:CellsIn enc Tryz.prog W K 103 cs d):∃ x:StageR,cs=encStage x∧(x.rd W W.heap.size∧x.sz):=by
 obtain ⟨hl,hf⟩:=h.fields Tryz.underlying103
 obtain ⟨a0,a1,a2,a3,a4,a5,a6,a7,a8,a9,a10,a11,a12,a13,a14,a15,a16,a17,a18,a19,a20,rfl⟩:=len21 (hl.trans cofT_stage)
 obtain ⟨y0,q0⟩:=hf 0 _ rfl
 obtain ⟨y1,q1⟩:=hf 1 _ rfl
 obtain ⟨y2,q2⟩:=hf 2 _ rfl
 obtain ⟨y3,q3⟩:=hf 3 _ rfl
 obtain ⟨y4,q4⟩:=hf 4 _ rfl
 obtain ⟨y5,q5⟩:=hf 5 _ rfl
 obtain ⟨y6,q6⟩:=hf 6 _ rfl
 obtain ⟨s0,e0,_,b0⟩:=q0.str Tryz.underlying9
 obtain ⟨s1,e1,g1⟩:=q1.recT hK
 obtain ⟨s2,e2,g2⟩:=q2.blks hK
 obtain ⟨s3,e3,_⟩:=q3.i64 Tryz.underlying3
 obtain ⟨s4,e4,_⟩:=q4.i64 Tryz.underlying3
 obtain ⟨s5,e5⟩:=q5.sumT
 obtain ⟨s6,e6⟩:=q6.bool Tryz.underlying4
 simp [cofT_str,cofT_rec,cofT_blks,cofT_int,cofT_sum,cofT_bool] at e0 e1 e2 e3 e4 e5 e6
 obtain ⟨r1,n1,k1,m1,m2⟩:=g1
 obtain ⟨r2,n2,_⟩:=g2
 simp [smV,encRec] at e1 e5
 obtain ⟨f0,f1,f2,f3,f4,f5,f6,f7,f8,f9,f10,f11⟩:=e1
 obtain ⟨h0,h1,h2,h3⟩:=e5
 exact ⟨⟨s0,s1.kind,s1.nm,s1.frm,s1.gd,s1.own,s1.ix,s1.ct,s1.dt,s1.sm,s2,s3,s4,s5,s6⟩,by rw [e0,f0,f1,f2,f3,f4,f5,f6,f7,f8,f9,f10,f11,e2,e3,e4,h0,h1,h2,h3,e6];rfl,⟨r1,r2⟩,⟨by show s0.length≤_;omega,m1,m2,n1,k1,n2⟩⟩
theorem CellsIn.stages (hK:K≤1048576) (h:CellsIn enc Tryz.prog W K 24 cs d):∃ s:FS StageR,cs=[s.val]∧s.rd W W.heap.size 21 encStage∧s.n≤500000000000∧∀ x∈s.l,(x.rd W W.heap.size∧x.sz):=by
 obtain ⟨A,l,n,c,hcs,hn,hc,_,_,hK2,hr,hg⟩:=h.list (fun x:StageR=>encStage x) (fun x=>(x.rd W W.heap.size∧x.sz)) (fun _=>rfl) (by decide) cofT_stage Tryz.underlying24 (fun _ _ h=>h.stageT hK)
 exact ⟨⟨A,n,c,l⟩,hcs,⟨hn,hc,hr⟩,by show n≤_;omega,hg⟩
theorem cofT_entry:Tryz.prog.cellsOf 106=4:=by kernel_rfl
theorem CellsIn.entryT (hK:K≤1048576) (h:CellsIn enc Tryz.prog W K 106 cs d):∃ x:EntryR,cs=encEntry x∧(x.sz):=by
 obtain ⟨hl,hf⟩:=h.fields Tryz.underlying106
 obtain ⟨a0,a1,a2,a3,rfl⟩:=len4 (hl.trans cofT_entry)
 obtain ⟨y0,q0⟩:=hf 0 _ rfl
 obtain ⟨y1,q1⟩:=hf 1 _ rfl
 obtain ⟨y2,q2⟩:=hf 2 _ rfl
 obtain ⟨y3,q3⟩:=hf 3 _ rfl
 obtain ⟨s0,e0,_,b0⟩:=q0.str Tryz.underlying9
 obtain ⟨s1,e1,_⟩:=q1.i64 Tryz.underlying3
 obtain ⟨s2,e2,_,b2⟩:=q2.str Tryz.underlying9
 obtain ⟨s3,e3,_⟩:=q3.i64 Tryz.underlying29
 simp [cofT_str,cofT_int,cofT_errno] at e0 e1 e2 e3
 exact ⟨⟨s0,s1,s2,s3⟩,by rw [e0,e1,e2,e3];rfl,⟨by show s0.length≤_;omega,by show s2.length≤_;omega⟩⟩
theorem CellsIn.log (hK:K≤1048576) (h:CellsIn enc Tryz.prog W K 25 cs d):∃ s:FS EntryR,cs=[s.val]∧s.rd W W.heap.size 4 encEntry∧s.n≤1000000000000∧∀ x∈s.l,x.sz:=by
 obtain ⟨A,l,n,c,hcs,hn,hc,_,_,hK2,hr,hg⟩:=h.list (fun x:EntryR=>encEntry x) (fun x=>x.sz) (fun _=>rfl) (by decide) cofT_entry Tryz.underlying25 (fun _ _ h=>h.entryT hK)
 exact ⟨⟨A,n,c,l⟩,hcs,⟨hn,hc,hr⟩,by show n≤_;omega,hg⟩
theorem cofT_grant:Tryz.prog.cellsOf 147=3:=by kernel_rfl
theorem len3 {α:Type} {l:List α} (h:l.length=3):∃ a b c,l=[a,b,c]:=by
 match l,h with
 | [a,b,c],_=>exact ⟨a,b,c,rfl⟩
theorem CellsIn.grantT (hK:K≤1048576) (h:CellsIn enc Tryz.prog W K 147 cs d):∃ x:GT,cs=encG x∧(x.1.length≤4000000000∧x.2.1.length≤4000000000):=by
 obtain ⟨hl,hf⟩:=h.fields Tryz.underlying147
 obtain ⟨c0,c1,c2,rfl⟩:=len3 (hl.trans cofT_grant)
 obtain ⟨y0,q0⟩:=hf 0 _ rfl
 obtain ⟨y1,q1⟩:=hf 1 _ rfl
 obtain ⟨y2,q2⟩:=hf 2 _ rfl
 obtain ⟨s0,e0,_,b0⟩:=q0.str Tryz.underlying9
 obtain ⟨s1,e1,_,b1⟩:=q1.str Tryz.underlying9
 obtain ⟨n2,e2,_,_⟩:=q2.i64 Tryz.underlying3
 simp [cofT_str,cofT_int] at e0 e1 e2
 exact ⟨(s0,s1,n2),by rw [e0,e1,e2];rfl,by simp only;omega,by simp only;omega⟩
theorem CellsIn.grantsT (hK:K≤1048576) (h:CellsIn enc Tryz.prog W K 23 cs d):∃ s:FS GT,cs=[s.val]∧s.rd W W.heap.size 3 encG∧s.n≤1000000000000∧∀ x∈s.l,(x.1.length≤4000000000∧x.2.1.length≤4000000000):=by
 obtain ⟨A,l,n,c,hcs,hn,hc,_,_,hK2,hr,hg⟩:=h.list (fun x:GT=>encG x) (fun x=>(x.1.length≤4000000000∧x.2.1.length≤4000000000)) (fun _=>rfl) (by decide) cofT_grant Tryz.underlying23 (fun _ _ h=>h.grantT hK)
 exact ⟨⟨A,n,c,l⟩,hcs,⟨hn,hc,hr⟩,by show n≤_;omega,hg⟩
theorem cofT_ten:Tryz.prog.cellsOf 27=7:=by kernel_rfl
theorem CellsIn.tenT (hK:K≤1048576) (h:CellsIn enc Tryz.prog W K 27 cs d):∃ x:TenR,cs=TenR.cells x∧(x.rd W W.heap.size∧x.sz∧x.stages.n≤500000000000):=by
 obtain ⟨hl,hf⟩:=h.fields Tryz.underlying27
 obtain ⟨a0,a1,a2,a3,a4,a5,a6,rfl⟩:=len7 (hl.trans cofT_ten)
 obtain ⟨y0,q0⟩:=hf 0 _ rfl
 obtain ⟨y1,q1⟩:=hf 1 _ rfl
 obtain ⟨y2,q2⟩:=hf 2 _ rfl
 obtain ⟨y3,q3⟩:=hf 3 _ rfl
 obtain ⟨y4,q4⟩:=hf 4 _ rfl
 obtain ⟨y5,q5⟩:=hf 5 _ rfl
 obtain ⟨y6,q6⟩:=hf 6 _ rfl
 obtain ⟨s0,e0,_,b0⟩:=q0.str Tryz.underlying9
 obtain ⟨s1,e1,_⟩:=q1.i64 Tryz.underlying3
 obtain ⟨s2,e2,_⟩:=q2.i64 Tryz.underlying3
 obtain ⟨s3,e3,g3⟩:=q3.sets hK
 obtain ⟨s4,e4,g4⟩:=q4.grantsT hK
 obtain ⟨s5,e5,g5⟩:=q5.stages hK
 obtain ⟨s6,e6,g6⟩:=q6.log hK
 simp [cofT_str,cofT_int,cofT_sets,cofT_grants,cofT_stages,cofT_log] at e0 e1 e2 e3 e4 e5 e6
 obtain ⟨r3,n3,k3⟩:=g3
 obtain ⟨r4,n4,k4⟩:=g4
 obtain ⟨r5,n5,k5⟩:=g5
 obtain ⟨r6,n6,k6⟩:=g6
 exact ⟨⟨s0,s1,s2,s3,s4,s5,s6⟩,by rw [e0,e1,e2,e3,e4,e5,e6];rfl,⟨r3,fun y hy=>(k3 y hy).1,r4,r5,fun y hy=>(k5 y hy).1,r6⟩,⟨by show s0.length≤_;omega,n3,fun y hy=>(k3 y hy).2,n4,k4,Nat.le_trans n5 (by decide),fun y hy=>(k5 y hy).2,n6,k6⟩,n5⟩
theorem ArgIn.ten {v:Value} (hK:Rows.uptoBulk d≤1048576) (h:ArgIn enc Tryz.prog W 27 v d):∃ t:TenR,v=t.val∧t.rd W W.heap.size∧t.sz:=by
 obtain ⟨cs,rfl,hc⟩:=h.agg Tryz.underlying27
 obtain ⟨t,hcs,h1,h2,_⟩:=hc.tenT hK
 refine ⟨t,?_,h1,h2⟩
 show Value.agg _=Value.agg _
 congr 1
 exact Array.toList_inj.1 hcs
/-- the same, the number of stages smaller (a row of them can be made anew) -/
theorem ArgIn.ten2 {v:Value} (hK:Rows.uptoBulk d≤1048576) (h:ArgIn enc Tryz.prog W 27 v d):∃ t:TenR,v=t.val∧t.rd W W.heap.size∧t.sz∧t.stages.n≤500000000000:=by
 obtain ⟨cs,rfl,hc⟩:=h.agg Tryz.underlying27
 obtain ⟨t,hcs,h1,h2,h3⟩:=hc.tenT hK
 refine ⟨t,?_,h1,h2,h3⟩
 show Value.agg _=Value.agg _
 congr 1
 exact Array.toList_inj.1 hcs
end
end Go.Proofs.YtcgclpcocdappaaGreatDoor
namespace Go.Proofs.YtcgclpcocdappaaGreatDoor
open Go.RowKit
theorem ubody_any (A:Option Addr) (n c:Nat) (w:World) (hn:n≤5000000000000):Calls Tryz.prog 78 #[.slice A n c] w fun e w'=>e=.returned (.int .i64 ((n:Int)+1))∧w'=w:=by
 have hw:IntKind.i64.wrap ((n:Int)+1)=(n:Int)+1:=IntWalk.i64_in _ (by omega)
 go_enter Tryz.func78,Tryz.ntmps78
 go_wp2_with fail
 go_ret
 exact ⟨rfl,rfl⟩
def sumB (l:List SnapR) (k:Nat):Int:=((l.take k).map fun x=>(x.body.n:Int)+1).sum
theorem sumB_zero (l:List SnapR):sumB l 0=0:=by simp [sumB]
theorem sumB_succ (l:List SnapR) (k:Nat) (h:k<l.length):sumB l (k+1)=sumB l k+(((l[k]'h).body.n:Int)+1):=by
 unfold sumB
 rw [List.take_add_one,List.getElem?_eq_getElem h,Option.toList_some,List.map_append,List.sum_append,List.map_cons,List.map_nil,List.sum_cons,List.sum_nil,Int.add_zero]
theorem sumB_mono (l:List SnapR) (k:Nat):0≤sumB l k∧sumB l k≤sumB l l.length:=by
 have h0:∀ k,0≤sumB l k:=by
  intro k
  unfold sumB
  induction l.take k with
  | nil=>simp
  | cons x r ih=>simp only [List.map_cons,List.sum_cons];omega
 refine ⟨h0 k,?_⟩
 have h1:sumB l l.length=sumB l k+((l.drop k).map fun x=>(x.body.n:Int)+1).sum:=by
  unfold sumB
  rw [List.take_length]
  conv=>lhs;rw [← List.take_append_drop k l]
  rw [List.map_append,List.sum_append]
 have h2:0≤((l.drop k).map fun x=>(x.body.n:Int)+1).sum:=by
  induction l.drop k with
  | nil=>simp
  | cons x r ih=>simp only [List.map_cons,List.sum_cons];omega
 omega
/-- what a set adds -/
def setSum (x:SetR):Int:=((x.body.n:Int)+1)+sumB x.snaps.l x.snaps.l.length
def sumS (l:List SetR) (k:Nat):Int:=((l.take k).map setSum).sum
def sumG (l:List StageR) (k:Nat):Int:=((l.take k).map fun x=>(x.body.n:Int)+1).sum
theorem setSum_nonneg (x:SetR):0≤setSum x:=by
 have:=(sumB_mono x.snaps.l x.snaps.l.length).1
 unfold setSum
 omega
theorem sum_nonneg {α:Type} (f:α→Int) (hf:∀ a,0≤f a) (l:List α):0≤(l.map f).sum:=by
 induction l with
 | nil=>simp
 | cons x r ih=>have:=hf x;simp only [List.map_cons,List.sum_cons];omega
theorem sumS_succ (l:List SetR) (k:Nat) (h:k<l.length):sumS l (k+1)=sumS l k+setSum (l[k]'h):=by
 unfold sumS
 rw [List.take_add_one,List.getElem?_eq_getElem h,Option.toList_some,List.map_append,List.sum_append,List.map_cons,List.map_nil,List.sum_cons,List.sum_nil,Int.add_zero]
theorem sumG_succ (l:List StageR) (k:Nat) (h:k<l.length):sumG l (k+1)=sumG l k+(((l[k]'h).body.n:Int)+1):=by
 unfold sumG
 rw [List.take_add_one,List.getElem?_eq_getElem h,Option.toList_some,List.map_append,List.sum_append,List.map_cons,List.map_nil,List.sum_cons,List.sum_nil,Int.add_zero]
theorem sumS_mono (l:List SetR) (k:Nat):0≤sumS l k∧sumS l k≤sumS l l.length:=by
 refine ⟨sum_nonneg _ setSum_nonneg _,?_⟩
 have h1:sumS l l.length=sumS l k+((l.drop k).map setSum).sum:=by
  unfold sumS
  rw [List.take_length]
  conv=>lhs;rw [← List.take_append_drop k l]
  rw [List.map_append,List.sum_append]
 have:=sum_nonneg _ setSum_nonneg (l.drop k)
 omega
theorem sumG_mono (l:List StageR) (k:Nat):0≤sumG l k∧sumG l k≤sumG l l.length:=by
 refine ⟨sum_nonneg _ (fun _=>by omega) _,?_⟩
 have h1:sumG l l.length=sumG l k+((l.drop k).map fun x=>(x.body.n:Int)+1).sum:=by
  unfold sumG
  rw [List.take_length]
  conv=>lhs;rw [← List.take_append_drop k l]
  rw [List.map_append,List.sum_append]
 have:=sum_nonneg (fun x:StageR=>(x.body.n:Int)+1) (fun _=>by omega) (l.drop k)
 omega
/-- what a tenant is charged for, as it lies -/
def tenSum (t:TenR):Int:=sumS t.sets.l t.sets.l.length+sumG t.stages.l t.stages.l.length
end Go.Proofs.YtcgclpcocdappaaGreatDoor
namespace Go.Proofs.YtcgclpcocdappaaGreatDoor
open Go.RowKit
structure SnapC where
 nm:BS
 gd:Int
 body:List BlkT
 tags:List BS
 own:List (BS×BS)
structure SetC where
 path:BS
 org:BS
 body:List BlkT
 snaps:List SnapC
 own:List (BS×BS)
structure StageC where
 into:BS
 kind:Int
 nm:BS
 frm:Int
 gd:Int
 own:List (BS×BS)
 ix:Int
 ct:Int
 dt:BS
 sm:Sm
 body:List BlkT
 at_:Int
 nx:Int
 sum:Sm
 done:Bool
structure TenC where
 nm:BS
 quota:Int
 next:Int
 sets:List SetC
 grants:List GT
 stages:List StageC
 log:List EntryR
def SnapR.con (x:SnapR):SnapC:=⟨x.nm,x.gd,x.body.l,x.tags.l,x.own.l⟩
def SetR.con (x:SetR):SetC:=⟨x.path,x.org,x.body.l,x.snaps.l.map SnapR.con,x.own.l⟩
def StageR.con (x:StageR):StageC:=⟨x.into,x.kind,x.nm,x.frm,x.gd,x.own.l,x.ix,x.ct,x.dt,x.sm,x.body.l,x.at_,x.nx,x.sum,x.done⟩
def TenR.con (x:TenR):TenC:=⟨x.nm,x.quota,x.next,x.sets.l.map SetR.con,x.grants.l,x.stages.l.map StageR.con,x.log.l⟩
theorem each_map {α β:Type} {f:α→β} {l l':List α}:l.map f=l'.map f↔l.length=l'.length∧∀ i (h:i<l.length) (h':i<l'.length),f (l[i]'h)=f (l'[i]'h'):=by
 constructor
 ·intro h
  have hl:l.length=l'.length:=by simpa using congrArg List.length h
  refine ⟨hl,fun i h1 h2=>?_⟩
  have:=congrArg (fun m:List β=>m[i]?) h
  simpa [h1,h2] using this
 ·rintro ⟨hl,he⟩
  apply List.ext_getElem
  ·simpa using hl
  ·intro i h1 h2
   simp only [List.length_map] at h1 h2
   rw [List.getElem_map,List.getElem_map]
   exact he i h1 h2
theorem SnapR.eqv_iff (x y:SnapR):x.eqv y↔x.con=y.con:=by
 constructor
 ·rintro ⟨h1,h2,h3,h4,h5⟩
  simp only [SnapR.con,h1,h2,h3,h4,h5]
 ·intro h
  simp only [SnapR.con,SnapC.mk.injEq] at h
  exact ⟨h.1,h.2.1,h.2.2.1,h.2.2.2.1,h.2.2.2.2⟩
theorem SetR.eqv_iff (x y:SetR):x.eqv y↔x.con=y.con:=by
 constructor
 ·rintro ⟨h1,h2,h3,h4,h5,h6⟩
  have:=each_map.2 ⟨h4,fun i a b=>(SnapR.eqv_iff _ _).1 (h5 i a b)⟩
  simp only [SetR.con,h1,h2,h3,this,h6]
 ·intro h
  simp only [SetR.con,SetC.mk.injEq] at h
  obtain ⟨h1,h2,h3,h4,h5⟩:=h
  obtain ⟨h6,h7⟩:=each_map.1 h4
  exact ⟨h1,h2,h3,h6,fun i a b=>(SnapR.eqv_iff _ _).2 (h7 i a b),h5⟩
theorem StageR.eqv_iff (x y:StageR):x.eqv y↔x.con=y.con:=by
 constructor
 ·rintro ⟨h1,h2,h3,h4,h5,h6,h7,h8,h9,h10,h11,h12,h13,h14,h15⟩
  simp only [StageR.con,h1,h2,h3,h4,h5,h6,h7,h8,h9,h10,h11,h12,h13,h14,h15]
 ·intro h
  simp only [StageR.con,StageC.mk.injEq] at h
  obtain ⟨h1,h2,h3,h4,h5,h6,h7,h8,h9,h10,h11,h12,h13,h14,h15⟩:=h
  exact ⟨h1,h2,h3,h4,h5,h6,h7,h8,h9,h10,h11,h12,h13,h14,h15⟩
/-- tenants are of one content just if they read alike -/
theorem TenR.eqv_iff (x y:TenR):x.eqv y↔x.con=y.con:=by
 constructor
 ·rintro ⟨h1,h2,h3,h4,h5,h6,h7,h8,h9⟩
  have e1:=each_map.2 ⟨h4,fun i a b=>(SetR.eqv_iff _ _).1 (h5 i a b)⟩
  have e2:=each_map.2 ⟨h7,fun i a b=>(StageR.eqv_iff _ _).1 (h8 i a b)⟩
  simp only [TenR.con,h1,h2,h3,e1,h6,e2,h9]
 ·intro h
  simp only [TenR.con,TenC.mk.injEq] at h
  obtain ⟨h1,h2,h3,h4,h5,h6,h7⟩:=h
  obtain ⟨h8,h9⟩:=each_map.1 h4
  obtain ⟨h10,h11⟩:=each_map.1 h6
  exact ⟨h1,h2,h3,h8,fun i a b=>(SetR.eqv_iff _ _).2 (h9 i a b),h5,h10,fun i a b=>(StageR.eqv_iff _ _).2 (h11 i a b),h7⟩
/-- what a tenant is charged for -/
def SetC.charge (s:SetC):Nat:=1+s.body.length+(s.snaps.map fun x=>1+x.body.length).sum
def TenC.charge (t:TenC):Nat:=(t.sets.map SetC.charge).sum+(t.stages.map fun s=>1+s.body.length).sum
end Go.Proofs.YtcgclpcocdappaaGreatDoor
namespace Go.Proofs.YtcgclpcocdappaaGreatDoor
open Go.RowKit
/-! ### a content as a tenant of its own -/
def mkF {α:Type} (l:List α):FS α:=⟨none,l.length,l.length,l⟩
def SnapC.r (x:SnapC):SnapR:=⟨x.nm,x.gd,mkF x.body,mkF x.tags,mkF x.own⟩
def SetC.r (x:SetC):SetR:=⟨x.path,x.org,mkF x.body,mkF (x.snaps.map SnapC.r),mkF x.own⟩
def StageC.r (x:StageC):StageR:=⟨x.into,x.kind,x.nm,x.frm,x.gd,mkF x.own,x.ix,x.ct,x.dt,x.sm,mkF x.body,x.at_,x.nx,x.sum,x.done⟩
def TenC.r (x:TenC):TenR:=⟨x.nm,x.quota,x.next,mkF (x.sets.map SetC.r),mkF x.grants,mkF (x.stages.map StageC.r),mkF x.log⟩
theorem firstI_map {α β:Type} (f:α→β) (p:β→Bool) (l:List α):firstI p (l.map f)=firstI (fun x=>p (f x)) l:=by
 have h:firstP p (l.map f)=firstP (fun x=>p (f x)) l:=by
  unfold firstP
  induction l with
  | nil=>rfl
  | cons x r ih =>
   rw [List.map_cons]
   cases hp:p (f x) with
   | true=>rw [List.takeWhile_cons_of_neg (by simp [hp]),List.takeWhile_cons_of_neg (by simp [hp])];rfl
   | false=>rw [List.takeWhile_cons_of_pos (by simp [hp]),List.takeWhile_cons_of_pos (by simp [hp]),List.length_cons,List.length_cons,ih]
 unfold firstI
 rw [h,List.length_map]
theorem snapsFrom_n (p:Option Int) (l:List SnapR):snapsFrom p (l.map fun x=>x.con.r)=snapsFrom p l:=by
 induction l generalizing p with
 | nil=>cases p <;> rfl
 | cons x l ih =>
  rw [List.map_cons,snapsFrom_cons,snapsFrom_cons,ih]
  rfl
theorem snapsB_n (l:List SnapR):snapsB (l.map fun x=>x.con.r)=snapsB l:=by
 unfold snapsB
 rw [snapsFrom_n,List.length_map,List.map_map]
 rfl
theorem setC_r (x:SetR):x.con.r=⟨x.path,x.org,mkF x.body.l,mkF (x.snaps.l.map fun y=>y.con.r),mkF x.own.l⟩:=by
 show SetR.mk _ _ _ _ _=_
 rw [show (x.con.snaps.map SnapC.r)=(x.snaps.l.map fun y=>y.con.r) from List.map_map]
 rfl
theorem find_map {α β:Type} (f:α→β) (p:β→Bool) (l:List α):(l.map f).find? p=(l.find? fun x=>p (f x)).map f:=by
 induction l with
 | nil=>rfl
 | cons x r ih =>
  rw [List.map_cons,List.find?_cons,List.find?_cons]
  cases p (f x) with
  | true=>rfl
  | false=>exact ih
theorem originB_n (all:List SetR) (s:SetR):originB (all.map fun x=>x.con.r) s.con.r=originB all s:=by
 unfold originB
 show (s.org == [] || match splitL s.org with
  | none=>false
  | some (p,n)=>!(p == s.path) && match (all.map fun x=>x.con.r).find? (fun x=>x.path == p) with
   | none=>false
   | some x=>x.snaps.l.any fun y=>y.nm == n)=_
 cases splitL s.org with
 | none=>rfl
 | some v =>
  obtain ⟨p,n⟩:=v
  simp only []
  rw [find_map]
  have e:(all.find? fun x:SetR=>x.con.r.path == p)=all.find? fun x=>x.path == p:=rfl
  rw [e]
  cases all.find? (fun x=>x.path == p) with
  | none=>rfl
  | some x =>
   simp only [Option.map_some]
   rw [setC_r x]
   show (s.org == [] || !(p == s.path) && (x.snaps.l.map fun y=>y.con.r).any fun y=>y.nm == n)=_
   rw [List.any_map]
   rfl
theorem setB_n (all:List SetR) (s:SetR):setB (all.map fun x=>x.con.r) s.con.r=setB all s:=by
 unfold setB
 rw [originB_n,setC_r s]
 show ((pathB s.path && match parB s.path with
  | none=>true
  | some u=>(all.map fun x=>x.con.r).any fun x=>x.path == u) && propsB s.own.l && okL s.body.l && snapsB (s.snaps.l.map fun y=>y.con.r) && originB all s)=_
 rw [snapsB_n]
 cases parB s.path with
 | none=>rfl
 | some u =>
  simp only []
  rw [List.any_map]
  rfl
theorem setsFrom_n (all:List SetR) (p:Option BS) (l:List SetR):setsFrom (all.map fun x=>x.con.r) p (l.map fun x=>x.con.r)=setsFrom all p l:=by
 induction l generalizing p with
 | nil=>cases p <;> rfl
 | cons x l ih =>
  have e:∀ (a:List SetR) (y:SetR) (r:List SetR),setsFrom a p (y :: r)=(setB a y && (match p with | none=>true | some q=>Op.bytesLess q y.path) && setsFrom a (some y.path) r):=by
   intro a y r
   cases p <;> rfl
  rw [List.map_cons,e,e,setB_n,show x.con.r.path=x.path from rfl,ih]
theorem setsB_n (l:List SetR):setsB (l.map fun x=>x.con.r)=setsB l:=by
 unfold setsB
 rw [setsFrom_n,List.length_map,List.any_map]
 rfl
theorem stagesFrom_n (p:Option BS) (l:List StageR):stagesFrom p (l.map fun x=>x.con.r)=stagesFrom p l:=by
 induction l generalizing p with
 | nil=>cases p <;> rfl
 | cons x l ih =>
  have e:∀ (y:StageR) (r:List StageR),stagesFrom p (y :: r)=(stageB y && (match p with | none=>true | some q=>Op.bytesLess q y.into) && stagesFrom (some y.into) r):=by
   intro y r
   cases p <;> rfl
  rw [List.map_cons,e,e,show x.con.r.into=x.into from rfl,ih]
  rfl
theorem stagesB_n (l:List StageR):stagesB (l.map fun x=>x.con.r)=stagesB l:=by
 unfold stagesB
 rw [stagesFrom_n,List.length_map]
theorem tenC_r (t:TenR):t.con.r=⟨t.nm,t.quota,t.next,mkF (t.sets.l.map fun x=>x.con.r),mkF t.grants.l,mkF (t.stages.l.map fun x=>x.con.r),mkF t.log.l⟩:=by
 show TenR.mk _ _ _ _ _ _ _=_
 rw [show (t.con.sets.map SetC.r)=(t.sets.l.map fun y=>y.con.r) from List.map_map,show (t.con.stages.map StageC.r)=(t.stages.l.map fun y=>y.con.r) from List.map_map]
 rfl
/-- whether a tenant may be hangs on its content alone -/
def TenC.E (c:TenC):Int:=tenE c.r
theorem tenE_con (t:TenR):tenE t=t.con.E:=by
 unfold TenC.E tenE
 have:tenB t.con.r=tenB t:=by
  rw [tenC_r]
  show (nameB t.nm && amt t.quota 0 && amt t.next 1 && setsB (t.sets.l.map fun x=>x.con.r) && grantsB t.grants.l && stagesB (t.stages.l.map fun x=>x.con.r) && logB t.log.l)=_
  rw [setsB_n,stagesB_n]
  rfl
 rw [this]
theorem TenC.E_two (c:TenC):c.E=0∨c.E=9:=by unfold TenC.E tenE;split <;> simp
/-! ### what it is charged for -/
theorem cast_sum {α:Type} (f:α→Nat) (g:α→Int) (l:List α) (h:∀ x∈l,g x=(f x:Int)):(l.map g).sum=((l.map f).sum:Nat):=by
 induction l with
 | nil=>rfl
 | cons x r ih =>
  rw [List.map_cons,List.map_cons,List.sum_cons,List.sum_cons,Int.natCast_add,h x List.mem_cons_self,ih fun y hy=>h y (List.mem_cons_of_mem _ hy)]
theorem setSum_con (x:SetR) (w:World) (B:Nat) (h:x.rd w B):setSum x=(x.con.charge:Nat):=by
 unfold setSum sumB SetC.charge
 rw [List.take_length,cast_sum (fun y:SnapR=>1+y.body.l.length) _ _ (fun y hy=>by rw [(h.each y hy).body.1];omega)]
 rw [h.body.1]
 show _=((1+x.body.l.length+((x.snaps.l.map SnapR.con).map fun y=>1+y.body.length).sum:Nat):Int)
 rw [List.map_map]
 show _=((1+x.body.l.length+(x.snaps.l.map fun y=>1+y.body.l.length).sum:Nat):Int)
 omega
theorem tenSum_con (t:TenR) (w:World) (B:Nat) (h:t.rd w B):tenSum t=(t.con.charge:Nat):=by
 unfold tenSum sumS sumG TenC.charge
 rw [List.take_length,List.take_length,cast_sum (fun y:SetR=>y.con.charge) _ _ (fun y hy=>setSum_con y w B (h.eachS y hy)),cast_sum (fun y:StageR=>1+y.body.l.length) _ _ (fun y hy=>by rw [(h.eachG y hy).body.1];omega)]
 show _=((((t.sets.l.map SetR.con).map SetC.charge).sum+((t.stages.l.map StageR.con).map fun s=>1+s.body.length).sum:Nat):Int)
 rw [List.map_map,List.map_map]
 rfl
end Go.Proofs.YtcgclpcocdappaaGreatDoor
namespace Go.Proofs.YtcgclpcocdappaaGreatDoor
open Go.RowKit
theorem results_cell_tmp {P:Program} {fn:Func} {tmps:Array Value} {a b:Tmp} {t:TypeId} {ad:Addr} {v u:Value} {w:World} (hr:fn.results=#[.cell a t,.tmp b]) (ha:tmps[a]?.getD undef=.pointer (some ad)) (hl:(loadVar t ad).run P w=.ok v w) (hu:tmps[b]?.getD undef=u:=by rfl):(results fn tmps).run P w=.ok (.tuple #[v,u]) w:=by
 simp [results,hr,ha,hl,hu,asAddr]
theorem grown_cellsS (g:Nat) (cs:List Value):∀ (W:World) (o:Nat),W.grownBy (W.setCells g o cs) (some g):=by
 induction cs with
 | nil=>intro W o;exact ⟨rfl,rfl,rfl,Nat.le_refl _,fun _ _ _=>rfl⟩
 | cons u r ih=>intro W o;exact grown_tr (grown_box W g o u) (ih _ _)
theorem sum_le_len {α:Type} (f:α→Int) (c:Int) (l:List α) (h:∀ x∈l,f x≤c):(l.map f).sum≤l.length*c:=by
 induction l with
 | nil=>simp
 | cons x r ih =>
  have h1:=h x List.mem_cons_self
  have h2:=ih (fun y hy=>h y (List.mem_cons_of_mem _ hy))
  simp only [List.map_cons,List.sum_cons,List.length_cons,Int.natCast_add,Int.add_mul,Int.natCast_one,Int.one_mul]
  omega
theorem setSum_small (x:SetR) (hz:x.sz) (h:x.snaps.l.length≤16):setSum x≤20000000000000:=by
 unfold setSum sumB
 rw [List.take_length]
 have h1:=hz.body
 have h2:=sum_le_len (fun y:SnapR=>(y.body.n:Int)+1) 1000000000001 x.snaps.l (fun y hy=>by have:=(hz.each y hy).body;omega)
 omega
/-- what may be is not much -/
theorem tenSum_small (t:TenR) (hz:t.sz) (h:tenE t=0):tenSum t≤4000000000000000000:=by
 unfold tenE at h
 split at h
 ·rename_i hb
  unfold tenB at hb
  simp only [Bool.and_eq_true] at hb
  have hS:=hb.1.1.1.2
  have hG:=hb.1.2
  unfold setsB at hS
  unfold stagesB at hG
  simp only [Bool.and_eq_true,decide_eq_true_eq] at hS hG
  have hx:=((setsFrom_iff _ _ _).1 hS.2).1
  have h1:=sum_le_len setSum 20000000000000 t.sets.l (fun x hm=>by
   have h3:=hx x hm
   unfold setB at h3
   simp only [Bool.and_eq_true] at h3
   have h4:=h3.1.2
   unfold snapsB at h4
   simp only [Bool.and_eq_true,decide_eq_true_eq] at h4
   exact setSum_small x (hz.eachS x hm) h4.1.1)
  have h2:=sum_le_len (fun x:StageR=>(x.body.n:Int)+1) 1000000000001 t.stages.l (fun y hy=>by have:=(hz.eachT y hy).body;omega)
  unfold tenSum sumS sumG
  rw [List.take_length,List.take_length]
  have h5:=hS.1.1
  have h6:=hG.1
  omega
 ·cases h
def ZEROT:Value:=.agg #[.string ⟨#[]⟩,.int .i64 0,.int .i64 0,.slice none 0 0,.slice none 0 0,.slice none 0 0,.slice none 0 0]
theorem tenE_09 (t:TenR):tenE t=0∨tenE t=9:=by unfold tenE;split <;> simp
end Go.Proofs.YtcgclpcocdappaaGreatDoor
