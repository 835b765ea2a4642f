/-
  SnapsClonesUptoCardSaid: a clone has what the snapshot has; the snapshot may not go as long as the clone is there; a new name of the snapshot stands at the clone. Condition: the arguments' bulk is at most 1048576 (the card is of the pruned copy of the project: see the seat's AIM).
-/
import Derived.WalkKit
import Derived.WalkSpells
import Derived.Below
import Derived.Laws.OwnMore
import Derived.Deep.AppendLies
import Derived.Deep.Draws
import Derived.Laws.Rows
import Derived.Maps.AppendAt
import Derived.RegionTactic
import Derived.OwnWalk
import Derived.Deep.QuietTactic
import Derived.BigQuiet
import Derived.Lib.Hide
import Derived.Laws.CopyOwn
import Derived.IntWalk
import Derived.Test.YtcgclpcocdappaaGreatDoorRows
import Derived.Handy
import Derived.Lib.AppendZeros
import Derived.ProofKit
import Derived.Deep.Quiet
import Derived.OpenShut
import Derived.ShutString
import Derived.ChangeOld
import Derived.Carry
import Derived.SizedLaws
import Derived.JoinedCond
import Derived.Deep.CondSized
import Derived.Deep.Slices
import Derived.Deep.Fields
import Derived.Lib.SmallJoins
import Derived.Orders
import Derived.Test.YtcgclpcocdappaaGreatDoorCards
import Derived.Test.YtcgclpcocdappaaGreatDoorTie
import Derived.Deep.DeepHandedRow
import Derived.Lib.LaidTab
import Derived.Lib.SplitLaws
import Derived.Lib.LastIndexByte
import Derived.Lib.Strings
import Derived.ChangeSame
import Derived.Deep.RegionLaw
import Derived.Sort.Walk0
import Derived.Sort.KeysCollected
import Derived.Shelf.SlIter.Nil
import Derived.Shelf.SortM.Plain
import Derived.Shelf.SortM.SortNone
import Derived.Maps.OwnSet
import Derived.Maps.StringElems
import Derived.Deep.MidRow
import Derived.Shelf.Strings.Search1
import Derived.Shelf.Strings.Search2
import Derived.Shelf.Strings.Search3
import Derived.Shelf.Strings.Cut
import Derived.Shelf.Strings.Count
import Derived.Shelf.LaysM
import Derived.Shelf.Strings.Shaped
import Derived.Shelf.Strings.LastIndex
import Derived.Shelf.Strings.Split
import Derived.Shelf.Strings.SplitShaped
import Derived.Shelf.Unicode.Decode
import Derived.Shelf.Strings.RuneCount
import Derived.Shelf.Strings.Explode
import Derived.Shelf.Unicode.DecodeSlow
import Derived.Test.YtcgclpcocdappaaGreatDoorProg
import Derived.Lib.Overlaps
import Derived.Lib.AppendZerosOnto
import Derived.Laws.BytesString
import Derived.Laws.IdiomStrings
import Derived.Lib.ConvBytes
import Derived.Deep.DeepCutAuto
import Derived.Great.BuildSlice
import Derived.Test.YtcgclpcocdappaaGreatDoorJ0
import Derived.Test.YtcgclpcocdappaaGreatDoorJbkv1
import Derived.Test.YtcgclpcocdappaaGreatDoorJbkv3
import Derived.Test.YtcgclpcocdappaaGreatDoorJbkv4
import Derived.Test.YtcgclpcocdappaaGreatDoorJbkv5
import Derived.Test.YtcgclpcocdappaaGreatDoorJbkv8
import Derived.Test.YtcgclpcocdappaaGreatDoorJbkv10
import Derived.Test.YtcgclpcocdappaaGreatDoorJbkv15
import Derived.Test.YtcgclpcocdappaaGreatDoorJbkv16
import Derived.Test.YtcgclpcocdappaaGreatDoorJbkv17
import Derived.Test.YtcgclpcocdappaaGreatDoorJbkv21
import Derived.Test.YtcgclpcocdappaaGreatDoorJbkv27
import Derived.Test.YtcgclpcocdappaaGreatDoorJbkv29
import Derived.Test.YtcgclpcocdappaaGreatDoorJbkv30
import Derived.Test.YtcgclpcocdappaaGreatDoorJbv2
import Derived.Test.YtcgclpcocdappaaGreatDoorJv9
namespace Go.Proofs.YtcgclpcocdappaaGreatDoor
open Go.ChangeShapes Go.WideShapes Go.ChangeAt Go.RowKit Go.Deep Go.Joins
theorem ArgIn.txt {H:Type} {enc:TypeId×Value→H} {W:World} {d:DataW H} {v:Value} (h:ArgIn enc Tryz.prog W 9 v d):∃ s:BS,v=.string ⟨s.toArray⟩∧s.length+1≤Rows.uptoBulk d:=by
 obtain ⟨s,rfl,_,rfl⟩:=h.string Tryz.underlying9
 exact ⟨s.data.toList,by simp,by simp [Rows.uptoBulk]⟩
theorem snapsClones_core (H:Type) (enc:TypeId×Value→H) (W:World) (args:Array Value) (ds:List (DataW H)) (h:ArgsIn enc Tryz.prog W [27,9,9,9,9] args.toList ds) (hk:Rows.uptoBulkAll ds≤1048576) (hsh:W.ShapedOpen Tryz.prog) :
  LawCalls Tryz.prog 5 args W:=by
 obtain ⟨v0,_,d0,_,e0,rfl,a0,k1⟩:=argsIn_cons h
 obtain ⟨v1,_,d1,_,e1,rfl,a1,k2⟩:=argsIn_cons k1
 obtain ⟨v2,_,d2,_,e2,rfl,a2,k3⟩:=argsIn_cons k2
 obtain ⟨v3,_,d3,_,e3,rfl,a3,k4⟩:=argsIn_cons k3
 obtain ⟨v4,_,d4,_,e4,rfl,a4,k5⟩:=argsIn_cons k4
 obtain ⟨rfl,rfl⟩:=argsIn_nil k5
 obtain rfl:args=#[v0,v1,v2,v3,v4]:=by apply Array.toList_inj.1;rw [e0,e1,e2,e3,e4]
 simp only [Rows.uptoBulkAll] at hk
 obtain ⟨t,rfl,hr,hz,hst⟩:=a0.ten2 (by omega)
 obtain ⟨s1,rfl,hs1⟩:=a1.txt
 obtain ⟨s2,rfl,hs2⟩:=a2.txt
 obtain ⟨s3,rfl,hs3⟩:=a3.txt
 obtain ⟨s4,rfl,hs4⟩:=a4.txt
 exact snapsClones_any t s1 s2 s3 s4 W hr hz (by omega) (by omega) (by omega) (by omega) (HasMax.of_shaped hsh)
theorem snapsClones_spec {H:Type} {enc:TypeId×Value→H} (vs:List Value) (ds:List (DataW H)) (W:World) (p:List MemPlace) (h:DataW.TrodAll enc Tryz.prog W 0 (fun _=>true) true [27,9,9,9,9] vs ds p) :
  (Rows.snapsClonesSpec.fn H ds).results=[.lit (.bool true)]∧(Rows.snapsClonesSpec.fn H ds).args=ds∧(Rows.snapsClonesSpec.fn H ds).vars=[]:=by
 obtain ⟨_,_,d0,ds0,_,_,rfl,rfl,_,_,r0⟩:=trodAll_cons h
 obtain ⟨_,_,d1,ds1,_,_,rfl,rfl,_,_,r1⟩:=trodAll_cons r0
 obtain ⟨_,_,d2,ds2,_,_,rfl,rfl,_,_,r2⟩:=trodAll_cons r1
 obtain ⟨_,_,d3,ds3,_,_,rfl,rfl,_,_,r3⟩:=trodAll_cons r2
 obtain ⟨_,_,d4,ds4,_,_,rfl,rfl,_,_,r4⟩:=trodAll_cons r3
 obtain ⟨rfl,rfl,rfl⟩:=trodAll_nil r4
 exact ⟨rfl,rfl,rfl⟩
theorem snapsClones_laid (os:Os):laidMet Tryz.prog Rows.snapsClonesUptoRow.laid ((laidWorld os).forCall (fun _ _=>0) ⟨#[],#[.agg #[.string ⟨#[]⟩,.int .i64 0,.int .i64 0,.slice none 0 0,.slice none 0 0,.slice none 0 0,.slice none 0 0],.string ⟨#[]⟩,.string ⟨#[]⟩,.string ⟨#[]⟩,.string ⟨#[]⟩],[]⟩).memory :=
 laidMet_of_run' 8 (by kernel_rfl) (by kernel_rfl)
theorem snapsClones_reads (os:Os) {H:Type} (enc:TypeId×Value→H):∃ places,DataW.whole enc Tryz.prog ((laidWorld os).forCall (fun _ _=>0) ⟨#[],#[.agg #[.string ⟨#[]⟩,.int .i64 0,.int .i64 0,.slice none 0 0,.slice none 0 0,.slice none 0 0,.slice none 0 0],.string ⟨#[]⟩,.string ⟨#[]⟩,.string ⟨#[]⟩,.string ⟨#[]⟩],[]⟩).memory Tryz.f5.params.toList Rows.snapsClonesSpec.vars false #[.agg #[.string ⟨#[]⟩,.int .i64 0,.int .i64 0,.slice none 0 0,.slice none 0 0,.slice none 0 0,.slice none 0 0],.string ⟨#[]⟩,.string ⟨#[]⟩,.string ⟨#[]⟩,.string ⟨#[]⟩].toList 8=some ([.agg [.lit (.string []),.lit (.int .i64 0),.lit (.int .i64 0),.nil,.nil,.nil,.nil],.lit (.string []),.lit (.string []),.lit (.string []),.lit (.string [])],[],places) :=
 ⟨[],by kernel_rfl⟩
set_option maxRecDepth 100000 in
theorem snapsClones_lifted (os:Os) (started:os.Started) (H:Type) (enc:TypeId×Value→H) (F:Stop.Interp) :
  ReturnsInHanded {} Tryz.checked os 5 .any ((Rows.OpenSpec.upto Rows.snapsClonesSpec).preRow enc Tryz.prog Tryz.f5 Rows.snapsClonesUptoRow.domain false Rows.snapsClonesUptoRow.laid) (((Rows.OpenSpec.upto Rows.snapsClonesSpec).at F).post enc Tryz.prog Tryz.f5 false true false false):=by
 obtain ⟨places,hx⟩:=snapsClones_reads os enc
 refine returnsInHanded_of_row (C:=Tryz.checked) (s:=Rows.OpenSpec.upto Rows.snapsClonesSpec) Tryz.own started (by kernel_rfl) Tryz.func5
  (witness_row_at (enc:=enc) (C:=Tryz.checked) false (laidWorld os) #[.agg #[.string ⟨#[]⟩,.int .i64 0,.int .i64 0,.slice none 0 0,.slice none 0 0,.slice none 0 0,.slice none 0 0],.string ⟨#[]⟩,.string ⟨#[]⟩,.string ⟨#[]⟩,.string ⟨#[]⟩] rfl (by kernel_rfl) (by kernel_rfl) (by kernel_rfl)
   (OpenSpec.preRow_of_cond 8 hx (by kernel_rfl) (fun k hk=>by cases hk;kernel_rfl) (by kernel_rfl) (snapsClones_laid os))) ?_
 intro W base args ds gs before hval hW _ hcond hsz _ hshape _
 have hk:=hcond _ rfl
 refine law_contract (s:=Rows.snapsClonesSpec) Tryz.laidOut Tryz.underlying4 (ps:=[27,9,9,9,9]) rfl rfl rfl (by kernel_rfl) snapsClones_spec W base args ds gs before hval hW hsz (fun h hg=>?_)
 subst hg
 exact snapsClones_core H enc W args ds h (of_decide_eq_true (show decide (Rows.uptoBulkAll ds≤1048576)=true from by rw [List.append_nil] at hk;exact hk)) hshape
theorem snapsClones_said:Rows.SnapsClonesUptoSaid :=
 OpenClaim.holds_of_cond 5 Tryz.f5 rfl rfl rfl rfl rfl rfl rfl ⟨rfl,rfl,rfl,rfl,rfl⟩ rfl rfl rfl rfl rfl (by kernel_rfl) Tryz.func5 (by kernel_rfl)
  (of_decide_eq_true (by kernel_rfl)) (by unfold Func.isWrapper;first | (rw [if_pos (by decide +kernel)];kernel_rfl) | (rw [if_neg (by decide +kernel)];exact ⟨rfl,rfl⟩))
  (fun os started H enc _ F=>by rw [OpenClaim.pre_eq_preRow];exact snapsClones_lifted os started H enc F)
theorem snapsClones_plain (f:FuncId) (fn:Func) (hf:Tryz.pinned.checked.prog.funcNamed "godown/godownlaw17.SnapsClones" = some f) (hfn:Tryz.pinned.checked.prog.funcs[f]?=some fn) :
  false=Tryz.pinned.checked.prog.looks []∧∀ (j:Nat) t,fn.params[j]?=some t→Tryz.pinned.checked.prog.wantsStandIn t=false:=by
 obtain rfl:f=5:=Option.some.inj ((show Tryz.prog.funcNamed "godown/godownlaw17.SnapsClones" = some 5 by kernel_rfl).symm.trans hf) |>.symm
 obtain rfl:fn=Tryz.f5:=(Option.some.inj (Tryz.func5.symm.trans hfn)).symm
 refine ⟨by kernel_rfl,fun j t ht=>?_⟩
 have hall:(Tryz.f5.params.toList.all fun t=>!Tryz.pinned.checked.prog.wantsStandIn t)=true:=by kernel_rfl
 have:=List.all_eq_true.1 hall t (Array.mem_toList_iff.2 (Array.mem_of_getElem? ht))
 simpa using this
theorem snapsClones_card:Rows.SnapsClonesUptoCardSaid :=
 Claim7.holds_tied_plain_at .later [] _ _ _ _ snapsClones_said (fun _ h=>by cases h) (by kernel_rfl) (fun _ h=>by cases h) snapsClonesUpto_row_tie rfl ⟨rfl,rfl⟩ (by kernel_rfl) rfl snapsClones_plain (by kernel_rfl)
end Go.Proofs.YtcgclpcocdappaaGreatDoor
