/-
  HoldsTellsUptoCardSaid: any tenant with a tag more, without one, whether a snapshot is held, and all that are, are as the page says. Condition: the arguments' bulk is at most 1048576 (the card is of the pruned copy of the project: see the seat's AIM).
-/
import Derived.Test.YtiojfffgiejibaaGreatDoorTtM1
import Derived.WalkKit
import Derived.WalkSpells
import Derived.Below
import Derived.Laws.OwnMore
import Derived.Deep.AppendLies
import Derived.Deep.Draws
import Derived.Laws.Rows
import Derived.Maps.AppendAt
import Derived.RegionTactic
import Derived.OwnWalk
import Derived.Deep.QuietTactic
import Derived.BigQuiet
import Derived.Lib.Hide
import Derived.Laws.CopyOwn
import Derived.IntWalk
import Derived.Test.YtiojfffgiejibaaGreatDoorRows
import Derived.Handy
import Derived.Lib.AppendZeros
import Derived.ProofKit
import Derived.Deep.Quiet
import Derived.OpenShut
import Derived.ShutString
import Derived.ChangeOld
import Derived.Carry
import Derived.SizedLaws
import Derived.JoinedCond
import Derived.Deep.CondSized
import Derived.Deep.Slices
import Derived.Deep.Fields
import Derived.Lib.SmallJoins
import Derived.Deep.RegionLaw
import Derived.Orders
import Derived.Test.YtiojfffgiejibaaGreatDoorCards
import Derived.Test.YtiojfffgiejibaaGreatDoorTie
import Derived.Deep.DeepHandedRow
import Derived.Lib.LaidTab
import Derived.Lib.SplitLaws
import Derived.Lib.LastIndexByte
import Derived.Lib.Strings
import Derived.ChangeSame
import Derived.Sort.Walk0
import Derived.Sort.KeysCollected
import Derived.Shelf.SlIter.Nil
import Derived.Shelf.SortM.Plain
import Derived.Shelf.SortM.SortNone
import Derived.Maps.OwnSet
import Derived.Maps.StringElems
import Derived.Deep.MidRow
import Derived.Shelf.Strings.Search1
import Derived.Shelf.Strings.Search2
import Derived.Shelf.Strings.Search3
import Derived.Shelf.Strings.Cut
import Derived.Shelf.Strings.Count
import Derived.Shelf.LaysM
import Derived.Shelf.Strings.Shaped
import Derived.Shelf.Strings.LastIndex
import Derived.Shelf.Strings.Split
import Derived.Shelf.Strings.SplitShaped
import Derived.Shelf.Unicode.Decode
import Derived.Shelf.Strings.RuneCount
import Derived.Shelf.Strings.Explode
import Derived.Shelf.Unicode.DecodeSlow
import Derived.Shelf.Slices.Turned
import Derived.Test.YtiojfffgiejibaaGreatDoorProg
import Derived.Lib.Overlaps
import Derived.Lib.AppendZerosOnto
import Derived.Laws.BytesString
import Derived.Laws.IdiomStrings
import Derived.Lib.ConvBytes
import Derived.Deep.DeepCutAuto
import Derived.Great.BuildSlice
import Derived.Test.YtiojfffgiejibaaGreatDoorT0
import Derived.Test.YtiojfffgiejibaaGreatDoorTt1
import Derived.Test.YtiojfffgiejibaaGreatDoorTt5
import Derived.Test.YtiojfffgiejibaaGreatDoorTt7
import Derived.Test.YtiojfffgiejibaaGreatDoorTt10
import Derived.Test.YtiojfffgiejibaaGreatDoorTt16
import Derived.Test.YtiojfffgiejibaaGreatDoorTt20
import Derived.Test.YtiojfffgiejibaaGreatDoorTt21
import Derived.Test.YtiojfffgiejibaaGreatDoorTt24
import Derived.Test.YtiojfffgiejibaaGreatDoorTt39
import Derived.Test.YtiojfffgiejibaaGreatDoorTt43
import Derived.Test.YtiojfffgiejibaaGreatDoorTt45
import Derived.Test.YtiojfffgiejibaaGreatDoorTt46
import Derived.Test.YtiojfffgiejibaaGreatDoorTt47
import Derived.Test.YtiojfffgiejibaaGreatDoorTt48
namespace Go.Proofs.YtiojfffgiejibaaGreatDoor
open Go.ChangeShapes Go.WideShapes Go.ChangeAt Go.RowKit Go.Deep Go.Joins
theorem ArgIn.txt {H:Type} {enc:TypeId×Value→H} {W:World} {d:DataW H} {v:Value} (h:ArgIn enc Tryz.prog W 9 v d):∃ s:BS,v=.string ⟨s.toArray⟩∧s.length+1≤Rows.uptoBulk d:=by
 obtain ⟨s,rfl,_,rfl⟩:=h.string Tryz.underlying9
 exact ⟨s.data.toList,by simp,by simp [Rows.uptoBulk]⟩
theorem holdsTells_core (H:Type) (enc:TypeId×Value→H) (W:World) (args:Array Value) (ds:List (DataW H)) (h:ArgsIn enc Tryz.prog W [27,9,9,9] args.toList ds) (hk:Rows.uptoBulkAll ds≤1048576) (hsh:W.ShapedOpen Tryz.prog) :
  LawCalls Tryz.prog 6 args W:=by
 obtain ⟨v0,_,d0,_,e0,rfl,a0,k1⟩:=argsIn_cons h
 obtain ⟨v1,_,d1,_,e1,rfl,a1,k2⟩:=argsIn_cons k1
 obtain ⟨v2,_,d2,_,e2,rfl,a2,k3⟩:=argsIn_cons k2
 obtain ⟨v3,_,d3,_,e3,rfl,a3,k4⟩:=argsIn_cons k3
 obtain ⟨rfl,rfl⟩:=argsIn_nil k4
 obtain rfl:args=#[v0,v1,v2,v3]:=by apply Array.toList_inj.1;rw [e0,e1,e2,e3]
 simp only [Rows.uptoBulkAll] at hk
 obtain ⟨t,rfl,hr,hz,hst,hn,hs⟩:=a0.ten3 tZ1
 obtain ⟨s1,rfl,hs1⟩:=a1.txt
 obtain ⟨s2,rfl,hs2⟩:=a2.txt
 obtain ⟨s3,rfl,hs3⟩:=a3.txt
 have htot:(allH t.sets.l).length≤2000000000000:=by
  have h1:=allH_small t.sets.l 1048576 (fun y hy=>by rw [← (hr.eachS y hy).snaps.1];exact (hs y hy).1)
  have h2:t.sets.l.length≤1048576:=by rw [← hr.sets.1];exact hn
  have h3:=Nat.mul_le_mul_right 1048576 h2
  omega
 exact holdsTells_any t s1 s2 s3 W hr hz hst (fun y hy x hx=>Nat.le_trans ((hs y hy).2 x hx) tZ3) htot tZ1 tZ1 tZ1 (HasMax.of_shaped hsh)
theorem holdsTells_spec {H:Type} {enc:TypeId×Value→H} (vs:List Value) (ds:List (DataW H)) (W:World) (p:List MemPlace) (h:DataW.TrodAll enc Tryz.prog W 0 (fun _=>true) true [27,9,9,9] vs ds p) :
  (Rows.holdsTellsSpec.fn H ds).results=[.lit (.bool true)]∧(Rows.holdsTellsSpec.fn H ds).args=ds∧(Rows.holdsTellsSpec.fn H ds).vars=[]:=by
 obtain ⟨_,_,d0,ds0,_,_,rfl,rfl,_,_,r0⟩:=trodAll_cons h
 obtain ⟨_,_,d1,ds1,_,_,rfl,rfl,_,_,r1⟩:=trodAll_cons r0
 obtain ⟨_,_,d2,ds2,_,_,rfl,rfl,_,_,r2⟩:=trodAll_cons r1
 obtain ⟨_,_,d3,ds3,_,_,rfl,rfl,_,_,r3⟩:=trodAll_cons r2
 obtain ⟨rfl,rfl,rfl⟩:=trodAll_nil r3
 exact ⟨rfl,rfl,rfl⟩
theorem holdsTells_laid (os:Os):laidMet Tryz.prog Rows.holdsTellsUptoRow.laid ((laidWorld os).forCall (fun _ _=>0) ⟨#[],#[.agg #[.string ⟨#[]⟩,.int .i64 0,.int .i64 0,.slice none 0 0,.slice none 0 0,.slice none 0 0,.slice none 0 0],.string ⟨#[]⟩,.string ⟨#[]⟩,.string ⟨#[]⟩],[]⟩).memory :=
 laidMet_of_run' 8 tZ2 tZ2
theorem holdsTells_reads (os:Os) {H:Type} (enc:TypeId×Value→H):∃ places,DataW.whole enc Tryz.prog ((laidWorld os).forCall (fun _ _=>0) ⟨#[],#[.agg #[.string ⟨#[]⟩,.int .i64 0,.int .i64 0,.slice none 0 0,.slice none 0 0,.slice none 0 0,.slice none 0 0],.string ⟨#[]⟩,.string ⟨#[]⟩,.string ⟨#[]⟩],[]⟩).memory Tryz.f6.params.toList Rows.holdsTellsSpec.vars false #[.agg #[.string ⟨#[]⟩,.int .i64 0,.int .i64 0,.slice none 0 0,.slice none 0 0,.slice none 0 0,.slice none 0 0],.string ⟨#[]⟩,.string ⟨#[]⟩,.string ⟨#[]⟩].toList 8=some ([.agg [.lit (.string []),.lit (.int .i64 0),.lit (.int .i64 0),.nil,.nil,.nil,.nil],.lit (.string []),.lit (.string []),.lit (.string [])],[],places) :=
 ⟨[],by kernel_rfl⟩
set_option maxRecDepth 100000 in
theorem holdsTells_lifted (os:Os) (started:os.Started) (H:Type) (enc:TypeId×Value→H) (F:Stop.Interp) :
  ReturnsInHanded {} Tryz.checked os 6 .any ((Rows.OpenSpec.upto Rows.holdsTellsSpec).preRow enc Tryz.prog Tryz.f6 Rows.holdsTellsUptoRow.domain false Rows.holdsTellsUptoRow.laid) (((Rows.OpenSpec.upto Rows.holdsTellsSpec).at F).post enc Tryz.prog Tryz.f6 false true false false):=by
 obtain ⟨places,hx⟩:=holdsTells_reads os enc
 refine returnsInHanded_of_row (C:=Tryz.checked) (s:=Rows.OpenSpec.upto Rows.holdsTellsSpec) Tryz.own started tZ2 Tryz.func6
  (witness_row_at (enc:=enc) (C:=Tryz.checked) false (laidWorld os) #[.agg #[.string ⟨#[]⟩,.int .i64 0,.int .i64 0,.slice none 0 0,.slice none 0 0,.slice none 0 0,.slice none 0 0],.string ⟨#[]⟩,.string ⟨#[]⟩,.string ⟨#[]⟩] rfl tZ2 tZ2 tZ2
   (OpenSpec.preRow_of_cond 8 hx tZ2 (fun k hk=>by cases hk;kernel_rfl) tZ2 (holdsTells_laid os))) ?_
 intro W base args ds gs before hval hW _ hcond hsz _ hshape _
 have hk:=hcond _ rfl
 refine law_contract (s:=Rows.holdsTellsSpec) Tryz.laidOut Tryz.underlying4 (ps:=[27,9,9,9]) rfl rfl rfl tZ2 holdsTells_spec W base args ds gs before hval hW hsz (fun h hg=>?_)
 subst hg
 exact holdsTells_core H enc W args ds h (of_decide_eq_true (show decide (Rows.uptoBulkAll ds≤1048576)=true from by rw [List.append_nil] at hk;exact hk)) hshape
theorem holdsTells_said:Rows.HoldsTellsUptoSaid :=
 OpenClaim.holds_of_cond 6 Tryz.f6 rfl rfl rfl rfl rfl rfl rfl ⟨rfl,rfl,rfl,rfl,rfl⟩ rfl rfl rfl rfl rfl tZ2 Tryz.func6 tZ2
  (of_decide_eq_true tZ2) (by unfold Func.isWrapper;first | (rw [if_pos (by decide +kernel)];kernel_rfl) | (rw [if_neg (by decide +kernel)];exact ⟨rfl,rfl⟩))
  (fun os started H enc _ F=>by rw [OpenClaim.pre_eq_preRow];exact holdsTells_lifted os started H enc F)
theorem holdsTells_plain (f:FuncId) (fn:Func) (hf:Tryz.pinned.checked.prog.funcNamed "godown/godownlaw18.HoldsTells" = some f) (hfn:Tryz.pinned.checked.prog.funcs[f]?=some fn) :
  false=Tryz.pinned.checked.prog.looks []∧∀ (j:Nat) t,fn.params[j]?=some t→Tryz.pinned.checked.prog.wantsStandIn t=false:=by
 obtain rfl:f=6:=Option.some.inj ((show Tryz.prog.funcNamed "godown/godownlaw18.HoldsTells" = some 6 by kernel_rfl).symm.trans hf) |>.symm
 obtain rfl:fn=Tryz.f6:=(Option.some.inj (Tryz.func6.symm.trans hfn)).symm
 refine ⟨by kernel_rfl,fun j t ht=>?_⟩
 have hall:(Tryz.f6.params.toList.all fun t=>!Tryz.pinned.checked.prog.wantsStandIn t)=true:=tZ2
 have:=List.all_eq_true.1 hall t (Array.mem_toList_iff.2 (Array.mem_of_getElem? ht))
 simpa using this
theorem holdsTells_card:Rows.HoldsTellsUptoCardSaid :=
 Claim7.holds_tied_plain_at .later [] _ _ _ _ holdsTells_said (fun _ h=>by cases h) tZ2 (fun _ h=>by cases h) holdsTellsUpto_row_tie rfl ⟨rfl,rfl⟩ tZ2 rfl holdsTells_plain tZ2
end Go.Proofs.YtiojfffgiejibaaGreatDoor
