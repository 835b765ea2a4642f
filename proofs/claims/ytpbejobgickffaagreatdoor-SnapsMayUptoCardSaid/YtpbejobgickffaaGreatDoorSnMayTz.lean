/-
  SnapsMayUptoCardSaid: what comes of a tenant that may be may be. Condition: the arguments' bulk is at most 1048576 (the card is of the pruned copy of the project that the seat holds).
-/
import Derived.Test.YtpbejobgickffaaGreatDoorU0
import Derived.Test.YtpbejobgickffaaGreatDoorU28
import Derived.Test.YtpbejobgickffaaGreatDoorU17
import Derived.Test.YtpbejobgickffaaGreatDoorU3
namespace Go.Proofs.YtpbejobgickffaaGreatDoor
open Go.ChangeShapes Go.WideShapes Go.ChangeAt Go.RowKit Go.Deep Go.Joins
theorem ArgIn.txt {H:Type} {enc:TypeId×Value→H} {W:World} {d:DataW H} {v:Value} (h:ArgIn enc Tryz.prog W 9 v d):∃ s:BS,v=.string ⟨s.toArray⟩∧s.length+1≤Rows.uptoBulk d:=by
 obtain ⟨s,rfl,_,rfl⟩:=h.string Tryz.underlying9
 exact ⟨s.data.toList,by simp,by simp [Rows.uptoBulk]⟩
theorem snapsMay_core (H:Type) (enc:TypeId×Value→H) (W:World) (args:Array Value) (ds:List (DataW H)) (h:ArgsIn enc Tryz.prog W [27,9,9,9] args.toList ds) (hk:Rows.uptoBulkAll ds≤1048576) (hsh:W.ShapedOpen Tryz.prog) :
  LawCalls Tryz.prog 6 args W:=by
 obtain ⟨v0,_,d0,_,e0,rfl,a0,k1⟩:=argsIn_cons h
 obtain ⟨v1,_,d1,_,e1,rfl,a1,k2⟩:=argsIn_cons k1
 obtain ⟨v2,_,d2,_,e2,rfl,a2,k3⟩:=argsIn_cons k2
 obtain ⟨v3,_,d3,_,e3,rfl,a3,k4⟩:=argsIn_cons k3
 obtain ⟨rfl,rfl⟩:=argsIn_nil k4
 obtain rfl:args=#[v0,v1,v2,v3]:=by apply Array.toList_inj.1;rw [e0,e1,e2,e3]
 simp only [Rows.uptoBulkAll] at hk
 obtain ⟨t,rfl,hr,hz,hst⟩:=a0.ten2 (by omega)
 obtain ⟨s1,rfl,hs1⟩:=a1.txt
 obtain ⟨s2,rfl,hs2⟩:=a2.txt
 obtain ⟨s3,rfl,hs3⟩:=a3.txt
 exact snapsMay_any t s1 s2 s3 W hr hz (by omega) (by omega) (by omega) (HasMax.of_shaped hsh)
theorem snapsMay_spec {H:Type} {enc:TypeId×Value→H} (vs:List Value) (ds:List (DataW H)) (W:World) (p:List MemPlace) (h:DataW.TrodAll enc Tryz.prog W 0 (fun _=>true) true [27,9,9,9] vs ds p) :
  (Rows.snapsMaySpec.fn H ds).results=[.lit (.bool true)]∧(Rows.snapsMaySpec.fn H ds).args=ds∧(Rows.snapsMaySpec.fn H ds).vars=[]:=by
 obtain ⟨_,_,d0,ds0,_,_,rfl,rfl,_,_,r0⟩:=trodAll_cons h
 obtain ⟨_,_,d1,ds1,_,_,rfl,rfl,_,_,r1⟩:=trodAll_cons r0
 obtain ⟨_,_,d2,ds2,_,_,rfl,rfl,_,_,r2⟩:=trodAll_cons r1
 obtain ⟨_,_,d3,ds3,_,_,rfl,rfl,_,_,r3⟩:=trodAll_cons r2
 obtain ⟨rfl,rfl,rfl⟩:=trodAll_nil r3
 exact ⟨rfl,rfl,rfl⟩
theorem snapsMay_laid (os:Os):laidMet Tryz.prog Rows.snapsMayUptoRow.laid ((laidWorld os).forCall (fun _ _=>0) ⟨#[],#[.agg #[.string ⟨#[]⟩,.int .i64 0,.int .i64 0,.slice none 0 0,.slice none 0 0,.slice none 0 0,.slice none 0 0],.string ⟨#[]⟩,.string ⟨#[]⟩,.string ⟨#[]⟩],[]⟩).memory :=
 laidMet_of_run' 8 (by kernel_rfl) (by kernel_rfl)
theorem snapsMay_reads (os:Os) {H:Type} (enc:TypeId×Value→H):∃ places,DataW.whole enc Tryz.prog ((laidWorld os).forCall (fun _ _=>0) ⟨#[],#[.agg #[.string ⟨#[]⟩,.int .i64 0,.int .i64 0,.slice none 0 0,.slice none 0 0,.slice none 0 0,.slice none 0 0],.string ⟨#[]⟩,.string ⟨#[]⟩,.string ⟨#[]⟩],[]⟩).memory Tryz.f6.params.toList Rows.snapsMaySpec.vars false #[.agg #[.string ⟨#[]⟩,.int .i64 0,.int .i64 0,.slice none 0 0,.slice none 0 0,.slice none 0 0,.slice none 0 0],.string ⟨#[]⟩,.string ⟨#[]⟩,.string ⟨#[]⟩].toList 8=some ([.agg [.lit (.string []),.lit (.int .i64 0),.lit (.int .i64 0),.nil,.nil,.nil,.nil],.lit (.string []),.lit (.string []),.lit (.string [])],[],places) :=
 ⟨[],by kernel_rfl⟩
set_option maxRecDepth 100000 in
theorem snapsMay_lifted (os:Os) (started:os.Started) (H:Type) (enc:TypeId×Value→H) (F:Stop.Interp) :
  ReturnsInHanded {} Tryz.checked os 6 .any ((Rows.OpenSpec.upto Rows.snapsMaySpec).preRow enc Tryz.prog Tryz.f6 Rows.snapsMayUptoRow.domain false Rows.snapsMayUptoRow.laid) (((Rows.OpenSpec.upto Rows.snapsMaySpec).at F).post enc Tryz.prog Tryz.f6 false true false false):=by
 obtain ⟨places,hx⟩:=snapsMay_reads os enc
 refine returnsInHanded_of_row (C:=Tryz.checked) (s:=Rows.OpenSpec.upto Rows.snapsMaySpec) Tryz.own started (by kernel_rfl) Tryz.func6
  (witness_row_at (enc:=enc) (C:=Tryz.checked) false (laidWorld os) #[.agg #[.string ⟨#[]⟩,.int .i64 0,.int .i64 0,.slice none 0 0,.slice none 0 0,.slice none 0 0,.slice none 0 0],.string ⟨#[]⟩,.string ⟨#[]⟩,.string ⟨#[]⟩] rfl (by kernel_rfl) (by kernel_rfl) (by kernel_rfl)
   (OpenSpec.preRow_of_cond 8 hx (by kernel_rfl) (fun k hk=>by cases hk;kernel_rfl) (by kernel_rfl) (snapsMay_laid os))) ?_
 intro W base args ds gs before hval hW _ hcond hsz _ hshape _
 have hk:=hcond _ rfl
 refine law_contract (s:=Rows.snapsMaySpec) Tryz.laidOut Tryz.underlying4 (ps:=[27,9,9,9]) rfl rfl rfl (by kernel_rfl) snapsMay_spec W base args ds gs before hval hW hsz (fun h hg=>?_)
 subst hg
 exact snapsMay_core H enc W args ds h (of_decide_eq_true (show decide (Rows.uptoBulkAll ds≤1048576)=true from by rw [List.append_nil] at hk;exact hk)) hshape
theorem snapsMay_said:Rows.SnapsMayUptoSaid :=
 OpenClaim.holds_of_cond 6 Tryz.f6 rfl rfl rfl rfl rfl rfl rfl ⟨rfl,rfl,rfl,rfl,rfl⟩ rfl rfl rfl rfl rfl (by kernel_rfl) Tryz.func6 (by kernel_rfl)
  (of_decide_eq_true (by kernel_rfl)) (by unfold Func.isWrapper;first | (rw [if_pos (by decide +kernel)];kernel_rfl) | (rw [if_neg (by decide +kernel)];exact ⟨rfl,rfl⟩))
  (fun os started H enc _ F=>by rw [OpenClaim.pre_eq_preRow];exact snapsMay_lifted os started H enc F)
theorem snapsMay_plain (f:FuncId) (fn:Func) (hf:Tryz.pinned.checked.prog.funcNamed "godown/godownlaw17.SnapsMay" = some f) (hfn:Tryz.pinned.checked.prog.funcs[f]?=some fn) :
  false=Tryz.pinned.checked.prog.looks []∧∀ (j:Nat) t,fn.params[j]?=some t→Tryz.pinned.checked.prog.wantsStandIn t=false:=by
 obtain rfl:f=6:=Option.some.inj ((show Tryz.prog.funcNamed "godown/godownlaw17.SnapsMay" = some 6 by kernel_rfl).symm.trans hf) |>.symm
 obtain rfl:fn=Tryz.f6:=(Option.some.inj (Tryz.func6.symm.trans hfn)).symm
 refine ⟨by kernel_rfl,fun j t ht=>?_⟩
 have hall:(Tryz.f6.params.toList.all fun t=>!Tryz.pinned.checked.prog.wantsStandIn t)=true:=by kernel_rfl
 have:=List.all_eq_true.1 hall t (Array.mem_toList_iff.2 (Array.mem_of_getElem? ht))
 simpa using this
theorem snapsMay_card:Rows.SnapsMayUptoCardSaid :=
 Claim7.holds_tied_plain_at .later [] _ _ _ _ snapsMay_said (fun _ h=>by cases h) (by kernel_rfl) (fun _ h=>by cases h) snapsMayUpto_row_tie rfl ⟨rfl,rfl⟩ (by kernel_rfl) rfl snapsMay_plain (by kernel_rfl)
end Go.Proofs.YtpbejobgickffaaGreatDoor
