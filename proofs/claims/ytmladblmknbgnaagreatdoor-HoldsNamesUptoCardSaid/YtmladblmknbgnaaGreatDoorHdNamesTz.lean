/-
  HoldsNames: each of all that are held is a snapshot and its path and name. The bulk of the argument is at most 1048576; the memory is one that the program can have.
-/
import Derived.Test.YtmladblmknbgnaaGreatDoorH0
import Derived.Test.YtmladblmknbgnaaGreatDoorH24
import Derived.Test.YtmladblmknbgnaaGreatDoorH3
import Derived.Test.YtmladblmknbgnaaGreatDoorH2
import Derived.Test.YtmladblmknbgnaaGreatDoorH15
namespace Go.Proofs.YtmladblmknbgnaaGreatDoor
open Go.ChangeShapes Go.WideShapes Go.ChangeAt Go.RowKit Go.Deep Go.Joins
theorem holdsNames_core (H:Type) (enc:TypeId×Value→H) (W:World) (args:Array Value) (ds:List (DataW H)) (h:ArgsIn enc Tryz.prog W [27] args.toList ds) (hk:Rows.uptoBulkAll ds≤1048576) (hsh:W.ShapedOpen Tryz.prog) :
  LawCalls Tryz.prog 9 args W:=by
 obtain ⟨v0,_,d0,_,e0,rfl,a0,k1⟩:=argsIn_cons h
 obtain ⟨rfl,rfl⟩:=argsIn_nil k1
 obtain rfl:args=#[v0]:=by apply Array.toList_inj.1;rw [e0]
 simp only [Rows.uptoBulkAll] at hk
 obtain ⟨t,rfl,hr,hz,-⟩:=a0.ten2 (by omega)
 exact holdsNames_any t W hr hz (HasMax.of_shaped hsh)
theorem holdsNames_spec {H:Type} {enc:TypeId×Value→H} (vs:List Value) (ds:List (DataW H)) (W:World) (p:List MemPlace) (h:DataW.TrodAll enc Tryz.prog W 0 (fun _=>true) true [27] vs ds p) :
  (Rows.holdsNamesSpec.fn H ds).results=[.lit (.bool true)]∧(Rows.holdsNamesSpec.fn H ds).args=ds∧(Rows.holdsNamesSpec.fn H ds).vars=[]:=by
 obtain ⟨_,_,d0,ds0,_,_,rfl,rfl,_,_,r0⟩:=trodAll_cons h
 obtain ⟨rfl,rfl,rfl⟩:=trodAll_nil r0
 exact ⟨rfl,rfl,rfl⟩
theorem holdsNames_laid (os:Os):laidMet Tryz.prog Rows.holdsNamesUptoRow.laid ((laidWorld os).forCall (fun _ _=>0) ⟨#[],#[.agg #[.string ⟨#[]⟩,.int .i64 0,.int .i64 0,.slice none 0 0,.slice none 0 0,.slice none 0 0,.slice none 0 0]],[]⟩).memory :=
 laidMet_of_run' 8 (by kernel_rfl) (by kernel_rfl)
theorem holdsNames_reads (os:Os) {H:Type} (enc:TypeId×Value→H):∃ places,DataW.whole enc Tryz.prog ((laidWorld os).forCall (fun _ _=>0) ⟨#[],#[.agg #[.string ⟨#[]⟩,.int .i64 0,.int .i64 0,.slice none 0 0,.slice none 0 0,.slice none 0 0,.slice none 0 0]],[]⟩).memory Tryz.f9.params.toList Rows.holdsNamesSpec.vars false #[.agg #[.string ⟨#[]⟩,.int .i64 0,.int .i64 0,.slice none 0 0,.slice none 0 0,.slice none 0 0,.slice none 0 0]].toList 8=some ([.agg [.lit (.string []),.lit (.int .i64 0),.lit (.int .i64 0),.nil,.nil,.nil,.nil]],[],places) :=
 ⟨[],by kernel_rfl⟩
set_option maxRecDepth 100000 in
theorem holdsNames_lifted (os:Os) (started:os.Started) (H:Type) (enc:TypeId×Value→H) (F:Stop.Interp) :
  ReturnsInHanded {} Tryz.checked os 9 .any ((Rows.OpenSpec.upto Rows.holdsNamesSpec).preRow enc Tryz.prog Tryz.f9 Rows.holdsNamesUptoRow.domain false Rows.holdsNamesUptoRow.laid) (((Rows.OpenSpec.upto Rows.holdsNamesSpec).at F).post enc Tryz.prog Tryz.f9 false true false false):=by
 obtain ⟨places,hx⟩:=holdsNames_reads os enc
 refine returnsInHanded_of_row (C:=Tryz.checked) (s:=Rows.OpenSpec.upto Rows.holdsNamesSpec) Tryz.own started (by kernel_rfl) Tryz.func9
  (witness_row_at (enc:=enc) (C:=Tryz.checked) false (laidWorld os) #[.agg #[.string ⟨#[]⟩,.int .i64 0,.int .i64 0,.slice none 0 0,.slice none 0 0,.slice none 0 0,.slice none 0 0]] rfl (by kernel_rfl) (by kernel_rfl) (by kernel_rfl)
   (OpenSpec.preRow_of_cond 8 hx (by kernel_rfl) (fun k hk=>by cases hk;kernel_rfl) (by kernel_rfl) (holdsNames_laid os))) ?_
 intro W base args ds gs before hval hW _ hcond hsz _ hshape _
 have hk:=hcond _ rfl
 refine law_contract (s:=Rows.holdsNamesSpec) Tryz.laidOut Tryz.underlying4 (ps:=[27]) rfl rfl rfl (by kernel_rfl) holdsNames_spec W base args ds gs before hval hW hsz (fun h hg=>?_)
 subst hg
 exact holdsNames_core H enc W args ds h (of_decide_eq_true (show decide (Rows.uptoBulkAll ds≤1048576)=true from by rw [List.append_nil] at hk;exact hk)) hshape
theorem holdsNames_said:Rows.HoldsNamesUptoSaid :=
 OpenClaim.holds_of_cond 9 Tryz.f9 rfl rfl rfl rfl rfl rfl rfl ⟨rfl,rfl,rfl,rfl,rfl⟩ rfl rfl rfl rfl rfl (by kernel_rfl) Tryz.func9 (by kernel_rfl)
  (of_decide_eq_true (by kernel_rfl)) (by unfold Func.isWrapper;first | (rw [if_pos (by decide +kernel)];kernel_rfl) | (rw [if_neg (by decide +kernel)];exact ⟨rfl,rfl⟩))
  (fun os started H enc _ F=>by rw [OpenClaim.pre_eq_preRow];exact holdsNames_lifted os started H enc F)
theorem holdsNames_plain (f:FuncId) (fn:Func) (hf:Tryz.pinned.checked.prog.funcNamed "godown/godownlaw18.HoldsNames" = some f) (hfn:Tryz.pinned.checked.prog.funcs[f]?=some fn) :
  false=Tryz.pinned.checked.prog.looks []∧∀ (j:Nat) t,fn.params[j]?=some t→Tryz.pinned.checked.prog.wantsStandIn t=false:=by
 obtain rfl:f=9:=Option.some.inj ((show Tryz.prog.funcNamed "godown/godownlaw18.HoldsNames" = some 9 by kernel_rfl).symm.trans hf) |>.symm
 obtain rfl:fn=Tryz.f9:=(Option.some.inj (Tryz.func9.symm.trans hfn)).symm
 refine ⟨by kernel_rfl,fun j t ht=>?_⟩
 have hall:(Tryz.f9.params.toList.all fun t=>!Tryz.pinned.checked.prog.wantsStandIn t)=true:=by kernel_rfl
 have:=List.all_eq_true.1 hall t (Array.mem_toList_iff.2 (Array.mem_of_getElem? ht))
 simpa using this
theorem holdsNames_card:Rows.HoldsNamesUptoCardSaid :=
 Claim7.holds_tied_plain_at .later [] _ _ _ _ holdsNames_said (fun _ h=>by cases h) (by kernel_rfl) (fun _ h=>by cases h) holdsNamesUpto_row_tie rfl ⟨rfl,rfl⟩ (by kernel_rfl) rfl holdsNames_plain (by kernel_rfl)
end Go.Proofs.YtmladblmknbgnaaGreatDoor
