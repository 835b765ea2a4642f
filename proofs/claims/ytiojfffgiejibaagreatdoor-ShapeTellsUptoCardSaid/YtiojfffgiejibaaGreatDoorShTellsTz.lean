/-
  ShapeTellsUptoCardSaid: any tenant with a set more, without one, and settled, is as the page says. Condition: the arguments' bulk is at most 1048576 (the card is of the pruned copy of the project: see the seat's AIM).
-/
import Derived.Test.YtiojfffgiejibaaGreatDoorQsM1
import Derived.WalkKit
import Derived.WalkSpells
import Derived.Below
import Derived.Laws.OwnMore
import Derived.Deep.AppendLies
import Derived.Deep.Draws
import Derived.Laws.Rows
import Derived.Maps.AppendAt
import Derived.RegionTactic
import Derived.OwnWalk
import Derived.Deep.QuietTactic
import Derived.BigQuiet
import Derived.Lib.Hide
import Derived.Laws.CopyOwn
import Derived.IntWalk
import Derived.Test.YtiojfffgiejibaaGreatDoorRows
import Derived.Handy
import Derived.Deep.Quiet
import Derived.ProofKit
import Derived.OpenShut
import Derived.ShutString
import Derived.ChangeOld
import Derived.Carry
import Derived.SizedLaws
import Derived.JoinedCond
import Derived.Deep.CondSized
import Derived.Deep.Slices
import Derived.Deep.Fields
import Derived.Lib.SmallJoins
import Derived.Orders
import Derived.Test.YtiojfffgiejibaaGreatDoorCards
import Derived.Test.YtiojfffgiejibaaGreatDoorTie
import Derived.Deep.DeepHandedRow
import Derived.Lib.LaidTab
import Derived.Lib.SplitLaws
import Derived.Lib.LastIndexByte
import Derived.Lib.Strings
import Derived.ChangeSame
import Derived.Sort.Walk0
import Derived.Sort.KeysCollected
import Derived.Deep.MidRow
import Derived.Deep.RegionLaw
import Derived.Lib.AppendZeros
import Derived.Shelf.Strings.Search1
import Derived.Shelf.Strings.Search2
import Derived.Shelf.Strings.Search3
import Derived.Shelf.Strings.Cut
import Derived.Shelf.Strings.Count
import Derived.Shelf.LaysM
import Derived.Shelf.Strings.Shaped
import Derived.Shelf.Strings.LastIndex
import Derived.Shelf.Strings.Split
import Derived.Shelf.Strings.SplitShaped
import Derived.Shelf.Unicode.Decode
import Derived.Shelf.Strings.RuneCount
import Derived.Shelf.Strings.Explode
import Derived.Shelf.Unicode.DecodeSlow
import Derived.Shelf.Slices.Turned
import Derived.Test.YtiojfffgiejibaaGreatDoorProg
import Derived.Lib.Overlaps
import Derived.Lib.AppendZerosOnto
import Derived.Laws.BytesString
import Derived.Laws.IdiomStrings
import Derived.Lib.ConvBytes
import Derived.Deep.DeepCutAuto
import Derived.Great.BuildSlice
import Derived.Test.YtiojfffgiejibaaGreatDoorQ0
import Derived.Test.YtiojfffgiejibaaGreatDoorQs1
import Derived.Test.YtiojfffgiejibaaGreatDoorQs5
import Derived.Test.YtiojfffgiejibaaGreatDoorQs7
import Derived.Test.YtiojfffgiejibaaGreatDoorQs10
import Derived.Test.YtiojfffgiejibaaGreatDoorQs16
import Derived.Test.YtiojfffgiejibaaGreatDoorQs20
import Derived.Test.YtiojfffgiejibaaGreatDoorQs21
import Derived.Test.YtiojfffgiejibaaGreatDoorQs36
import Derived.Test.YtiojfffgiejibaaGreatDoorQs43
import Derived.Test.YtiojfffgiejibaaGreatDoorQs44
import Derived.Test.YtiojfffgiejibaaGreatDoorQs45
import Derived.Test.YtiojfffgiejibaaGreatDoorQs46
namespace Go.Proofs.YtiojfffgiejibaaGreatDoor
open Go.ChangeShapes Go.WideShapes Go.ChangeAt Go.RowKit Go.Deep Go.Joins
theorem ArgIn.txt {H:Type} {enc:TypeId×Value→H} {W:World} {d:DataW H} {v:Value} (h:ArgIn enc Tryz.prog W 9 v d):∃ s:BS,v=.string ⟨s.toArray⟩∧s.length+1≤Rows.uptoBulk d:=by
 obtain ⟨s,rfl,_,rfl⟩:=h.string Tryz.underlying9
 exact ⟨s.data.toList,by simp,by simp [Rows.uptoBulk]⟩
theorem shapeTells_core (H:Type) (enc:TypeId×Value→H) (W:World) (args:Array Value) (ds:List (DataW H)) (h:ArgsIn enc Tryz.prog W [27,9] args.toList ds) (hk:Rows.uptoBulkAll ds≤1048576) (hsh:W.ShapedOpen Tryz.prog) :
  LawCalls Tryz.prog 3 args W:=by
 obtain ⟨v0,_,d0,_,e0,rfl,a0,k1⟩:=argsIn_cons h
 obtain ⟨v1,_,d1,_,e1,rfl,a1,k2⟩:=argsIn_cons k1
 obtain ⟨rfl,rfl⟩:=argsIn_nil k2
 obtain rfl:args=#[v0,v1]:=by apply Array.toList_inj.1;rw [e0,e1]
 simp only [Rows.uptoBulkAll] at hk
 obtain ⟨t,rfl,hr,hz,hst⟩:=a0.ten2 tZ1
 obtain ⟨p,rfl,hp⟩:=a1.txt
 exact shapeTells_any t p W hr hz hst tZ1 (HasMax.of_shaped hsh)
theorem shapeTells_spec {H:Type} {enc:TypeId×Value→H} (vs:List Value) (ds:List (DataW H)) (W:World) (p:List MemPlace) (h:DataW.TrodAll enc Tryz.prog W 0 (fun _=>true) true [27,9] vs ds p) :
  (Rows.shapeTellsSpec.fn H ds).results=[.lit (.bool true)]∧(Rows.shapeTellsSpec.fn H ds).args=ds∧(Rows.shapeTellsSpec.fn H ds).vars=[]:=by
 obtain ⟨_,_,d0,ds0,_,_,rfl,rfl,_,_,r0⟩:=trodAll_cons h
 obtain ⟨_,_,d1,ds1,_,_,rfl,rfl,_,_,r1⟩:=trodAll_cons r0
 obtain ⟨rfl,rfl,rfl⟩:=trodAll_nil r1
 exact ⟨rfl,rfl,rfl⟩
theorem shapeTells_laid (os:Os):laidMet Tryz.prog Rows.shapeTellsUptoRow.laid ((laidWorld os).forCall (fun _ _=>0) ⟨#[],#[.agg #[.string ⟨#[]⟩,.int .i64 0,.int .i64 0,.slice none 0 0,.slice none 0 0,.slice none 0 0,.slice none 0 0],.string ⟨#[]⟩],[]⟩).memory :=
 laidMet_of_run' 8 tZ2 tZ2
theorem shapeTells_reads (os:Os) {H:Type} (enc:TypeId×Value→H):∃ places,DataW.whole enc Tryz.prog ((laidWorld os).forCall (fun _ _=>0) ⟨#[],#[.agg #[.string ⟨#[]⟩,.int .i64 0,.int .i64 0,.slice none 0 0,.slice none 0 0,.slice none 0 0,.slice none 0 0],.string ⟨#[]⟩],[]⟩).memory Tryz.f3.params.toList Rows.shapeTellsSpec.vars false #[.agg #[.string ⟨#[]⟩,.int .i64 0,.int .i64 0,.slice none 0 0,.slice none 0 0,.slice none 0 0,.slice none 0 0],.string ⟨#[]⟩].toList 8=some ([.agg [.lit (.string []),.lit (.int .i64 0),.lit (.int .i64 0),.nil,.nil,.nil,.nil],.lit (.string [])],[],places) :=
 ⟨[],by kernel_rfl⟩
set_option maxRecDepth 100000 in
theorem shapeTells_lifted (os:Os) (started:os.Started) (H:Type) (enc:TypeId×Value→H) (F:Stop.Interp) :
  ReturnsInHanded {} Tryz.checked os 3 .any ((Rows.OpenSpec.upto Rows.shapeTellsSpec).preRow enc Tryz.prog Tryz.f3 Rows.shapeTellsUptoRow.domain false Rows.shapeTellsUptoRow.laid) (((Rows.OpenSpec.upto Rows.shapeTellsSpec).at F).post enc Tryz.prog Tryz.f3 false true false false):=by
 obtain ⟨places,hx⟩:=shapeTells_reads os enc
 refine returnsInHanded_of_row (C:=Tryz.checked) (s:=Rows.OpenSpec.upto Rows.shapeTellsSpec) Tryz.own started tZ2 Tryz.func3
  (witness_row_at (enc:=enc) (C:=Tryz.checked) false (laidWorld os) #[.agg #[.string ⟨#[]⟩,.int .i64 0,.int .i64 0,.slice none 0 0,.slice none 0 0,.slice none 0 0,.slice none 0 0],.string ⟨#[]⟩] rfl tZ2 tZ2 tZ2
   (OpenSpec.preRow_of_cond 8 hx tZ2 (fun k hk=>by cases hk;kernel_rfl) tZ2 (shapeTells_laid os))) ?_
 intro W base args ds gs before hval hW _ hcond hsz _ hshape _
 have hk:=hcond _ rfl
 refine law_contract (s:=Rows.shapeTellsSpec) Tryz.laidOut Tryz.underlying4 (ps:=[27,9]) rfl rfl rfl tZ2 shapeTells_spec W base args ds gs before hval hW hsz (fun h hg=>?_)
 subst hg
 exact shapeTells_core H enc W args ds h (of_decide_eq_true (show decide (Rows.uptoBulkAll ds≤1048576)=true from by rw [List.append_nil] at hk;exact hk)) hshape
theorem shapeTells_said:Rows.ShapeTellsUptoSaid :=
 OpenClaim.holds_of_cond 3 Tryz.f3 rfl rfl rfl rfl rfl rfl rfl ⟨rfl,rfl,rfl,rfl,rfl⟩ rfl rfl rfl rfl rfl tZ2 Tryz.func3 tZ2
  (of_decide_eq_true tZ2) (by unfold Func.isWrapper;first | (rw [if_pos (by decide +kernel)];kernel_rfl) | (rw [if_neg (by decide +kernel)];exact ⟨rfl,rfl⟩))
  (fun os started H enc _ F=>by rw [OpenClaim.pre_eq_preRow];exact shapeTells_lifted os started H enc F)
theorem shapeTells_plain (f:FuncId) (fn:Func) (hf:Tryz.pinned.checked.prog.funcNamed "godown/godownlaw16.ShapeTells" = some f) (hfn:Tryz.pinned.checked.prog.funcs[f]?=some fn) :
  false=Tryz.pinned.checked.prog.looks []∧∀ (j:Nat) t,fn.params[j]?=some t→Tryz.pinned.checked.prog.wantsStandIn t=false:=by
 obtain rfl:f=3:=Option.some.inj ((show Tryz.prog.funcNamed "godown/godownlaw16.ShapeTells" = some 3 by kernel_rfl).symm.trans hf) |>.symm
 obtain rfl:fn=Tryz.f3:=(Option.some.inj (Tryz.func3.symm.trans hfn)).symm
 refine ⟨by kernel_rfl,fun j t ht=>?_⟩
 have hall:(Tryz.f3.params.toList.all fun t=>!Tryz.pinned.checked.prog.wantsStandIn t)=true:=tZ2
 have:=List.all_eq_true.1 hall t (Array.mem_toList_iff.2 (Array.mem_of_getElem? ht))
 simpa using this
theorem shapeTells_card:Rows.ShapeTellsUptoCardSaid :=
 Claim7.holds_tied_plain_at .later [] _ _ _ _ shapeTells_said (fun _ h=>by cases h) tZ2 (fun _ h=>by cases h) shapeTellsUpto_row_tie rfl ⟨rfl,rfl⟩ tZ2 rfl shapeTells_plain tZ2
end Go.Proofs.YtiojfffgiejibaaGreatDoor
