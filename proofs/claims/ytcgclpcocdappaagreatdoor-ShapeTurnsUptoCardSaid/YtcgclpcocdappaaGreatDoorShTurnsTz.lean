/-
  ShapeTurnsUptoCardSaid: any tenant with a block written, blocks freed, a property set, or unset, is as the page says. Condition: the arguments' bulk is at most 1048576 (the card is of the pruned copy of the project that the seat holds).
-/
import Derived.Test.YtcgclpcocdappaaGreatDoorXM1
import Derived.Test.YtcgclpcocdappaaGreatDoorX0
import Derived.Test.YtcgclpcocdappaaGreatDoorX34
import Derived.Test.YtcgclpcocdappaaGreatDoorX20
import Derived.Test.YtcgclpcocdappaaGreatDoorX4
namespace Go.Proofs.YtcgclpcocdappaaGreatDoor
open Go.ChangeShapes Go.WideShapes Go.ChangeAt Go.RowKit Go.Deep Go.Joins
theorem ArgIn.txt {H:Type} {enc:TypeId×Value→H} {W:World} {d:DataW H} {v:Value} (h:ArgIn enc Tryz.prog W 9 v d):∃ s:BS,v=.string ⟨s.toArray⟩∧s.length+1≤Rows.uptoBulk d:=by
 obtain ⟨s,rfl,_,rfl⟩:=h.string Tryz.underlying9
 exact ⟨s.data.toList,by simp,by simp [Rows.uptoBulk]⟩
theorem ArgIn.i64arg {H:Type} {enc:TypeId×Value→H} {P:Program} {W:World} {t:TypeId} {v:Value} {d:DataW H} (ht:P.underlying t=some (.int .i64)) (h:ArgIn enc P W t v d):∃ n,v=.int .i64 n:=by
 obtain ⟨⟨base,ho⟩,_,_⟩:=h
 exact okWide_int ht ho
theorem shapeTurns_core (H:Type) (enc:TypeId×Value→H) (W:World) (args:Array Value) (ds:List (DataW H)) (h:ArgsIn enc Tryz.prog W [27,9,3,3,9,9] args.toList ds) (hk:Rows.uptoBulkAll ds≤1048576) (hsh:W.ShapedOpen Tryz.prog) :
  LawCalls Tryz.prog 6 args W:=by
 obtain ⟨v0,_,d0,_,e0,rfl,a0,k1⟩:=argsIn_cons h
 obtain ⟨v1,_,d1,_,e1,rfl,a1,k2⟩:=argsIn_cons k1
 obtain ⟨v2,_,d2,_,e2,rfl,a2,k3⟩:=argsIn_cons k2
 obtain ⟨v3,_,d3,_,e3,rfl,a3,k4⟩:=argsIn_cons k3
 obtain ⟨v4,_,d4,_,e4,rfl,a4,k5⟩:=argsIn_cons k4
 obtain ⟨v5,_,d5,_,e5,rfl,a5,k6⟩:=argsIn_cons k5
 obtain ⟨rfl,rfl⟩:=argsIn_nil k6
 obtain rfl:args=#[v0,v1,v2,v3,v4,v5]:=by apply Array.toList_inj.1;rw [e0,e1,e2,e3,e4,e5]
 simp only [Rows.uptoBulkAll] at hk
 obtain ⟨t,rfl,hr,hz,hst⟩:=a0.ten2 tZ1
 obtain ⟨p,rfl,hp⟩:=a1.txt
 obtain ⟨i,rfl⟩:=a2.i64arg Tryz.underlying3
 obtain ⟨ct,rfl⟩:=a3.i64arg Tryz.underlying3
 obtain ⟨n,rfl,hn⟩:=a4.txt
 obtain ⟨d,rfl,hd⟩:=a5.txt
 exact shapeTurns_any t p i ct n d W hr hz hst tZ1 tZ1 tZ1 (HasMax.of_shaped hsh)
theorem shapeTurns_spec {H:Type} {enc:TypeId×Value→H} (vs:List Value) (ds:List (DataW H)) (W:World) (p:List MemPlace) (h:DataW.TrodAll enc Tryz.prog W 0 (fun _=>true) true [27,9,3,3,9,9] vs ds p) :
  (Rows.shapeTurnsSpec.fn H ds).results=[.lit (.bool true)]∧(Rows.shapeTurnsSpec.fn H ds).args=ds∧(Rows.shapeTurnsSpec.fn H ds).vars=[]:=by
 obtain ⟨_,_,d0,ds0,_,_,rfl,rfl,_,_,r0⟩:=trodAll_cons h
 obtain ⟨_,_,d1,ds1,_,_,rfl,rfl,_,_,r1⟩:=trodAll_cons r0
 obtain ⟨_,_,d2,ds2,_,_,rfl,rfl,_,_,r2⟩:=trodAll_cons r1
 obtain ⟨_,_,d3,ds3,_,_,rfl,rfl,_,_,r3⟩:=trodAll_cons r2
 obtain ⟨_,_,d4,ds4,_,_,rfl,rfl,_,_,r4⟩:=trodAll_cons r3
 obtain ⟨_,_,d5,ds5,_,_,rfl,rfl,_,_,r5⟩:=trodAll_cons r4
 obtain ⟨rfl,rfl,rfl⟩:=trodAll_nil r5
 exact ⟨rfl,rfl,rfl⟩
theorem shapeTurns_laid (os:Os):laidMet Tryz.prog Rows.shapeTurnsUptoRow.laid ((laidWorld os).forCall (fun _ _=>0) ⟨#[],#[.agg #[.string ⟨#[]⟩,.int .i64 0,.int .i64 0,.slice none 0 0,.slice none 0 0,.slice none 0 0,.slice none 0 0],.string ⟨#[]⟩,.int .i64 0,.int .i64 0,.string ⟨#[]⟩,.string ⟨#[]⟩],[]⟩).memory :=
 laidMet_of_run' 8 tZ2 tZ2
theorem shapeTurns_reads (os:Os) {H:Type} (enc:TypeId×Value→H):∃ places,DataW.whole enc Tryz.prog ((laidWorld os).forCall (fun _ _=>0) ⟨#[],#[.agg #[.string ⟨#[]⟩,.int .i64 0,.int .i64 0,.slice none 0 0,.slice none 0 0,.slice none 0 0,.slice none 0 0],.string ⟨#[]⟩,.int .i64 0,.int .i64 0,.string ⟨#[]⟩,.string ⟨#[]⟩],[]⟩).memory Tryz.f6.params.toList Rows.shapeTurnsSpec.vars false #[.agg #[.string ⟨#[]⟩,.int .i64 0,.int .i64 0,.slice none 0 0,.slice none 0 0,.slice none 0 0,.slice none 0 0],.string ⟨#[]⟩,.int .i64 0,.int .i64 0,.string ⟨#[]⟩,.string ⟨#[]⟩].toList 8=some ([.agg [.lit (.string []),.lit (.int .i64 0),.lit (.int .i64 0),.nil,.nil,.nil,.nil],.lit (.string []),.lit (.int .i64 0),.lit (.int .i64 0),.lit (.string []),.lit (.string [])],[],places) :=
 ⟨[],by kernel_rfl⟩
set_option maxRecDepth 100000 in
theorem shapeTurns_lifted (os:Os) (started:os.Started) (H:Type) (enc:TypeId×Value→H) (F:Stop.Interp) :
  ReturnsInHanded {} Tryz.checked os 6 .any ((Rows.OpenSpec.upto Rows.shapeTurnsSpec).preRow enc Tryz.prog Tryz.f6 Rows.shapeTurnsUptoRow.domain false Rows.shapeTurnsUptoRow.laid) (((Rows.OpenSpec.upto Rows.shapeTurnsSpec).at F).post enc Tryz.prog Tryz.f6 false true false false):=by
 obtain ⟨places,hx⟩:=shapeTurns_reads os enc
 refine returnsInHanded_of_row (C:=Tryz.checked) (s:=Rows.OpenSpec.upto Rows.shapeTurnsSpec) Tryz.own started tZ2 Tryz.func6
  (witness_row_at (enc:=enc) (C:=Tryz.checked) false (laidWorld os) #[.agg #[.string ⟨#[]⟩,.int .i64 0,.int .i64 0,.slice none 0 0,.slice none 0 0,.slice none 0 0,.slice none 0 0],.string ⟨#[]⟩,.int .i64 0,.int .i64 0,.string ⟨#[]⟩,.string ⟨#[]⟩] rfl tZ2 tZ2 tZ2
   (OpenSpec.preRow_of_cond 8 hx tZ2 (fun k hk=>by cases hk;kernel_rfl) tZ2 (shapeTurns_laid os))) ?_
 intro W base args ds gs before hval hW _ hcond hsz _ hshape _
 have hk:=hcond _ rfl
 refine law_contract (s:=Rows.shapeTurnsSpec) Tryz.laidOut Tryz.underlying4 (ps:=[27,9,3,3,9,9]) rfl rfl rfl tZ2 shapeTurns_spec W base args ds gs before hval hW hsz (fun h hg=>?_)
 subst hg
 exact shapeTurns_core H enc W args ds h (of_decide_eq_true (show decide (Rows.uptoBulkAll ds≤1048576)=true from by rw [List.append_nil] at hk;exact hk)) hshape
theorem shapeTurns_said:Rows.ShapeTurnsUptoSaid :=
 OpenClaim.holds_of_cond 6 Tryz.f6 rfl rfl rfl rfl rfl rfl rfl ⟨rfl,rfl,rfl,rfl,rfl⟩ rfl rfl rfl rfl rfl tZ2 Tryz.func6 tZ2
  (of_decide_eq_true tZ2) (by unfold Func.isWrapper;first | (rw [if_pos (by decide +kernel)];kernel_rfl) | (rw [if_neg (by decide +kernel)];exact ⟨rfl,rfl⟩))
  (fun os started H enc _ F=>by rw [OpenClaim.pre_eq_preRow];exact shapeTurns_lifted os started H enc F)
theorem shapeTurns_plain (f:FuncId) (fn:Func) (hf:Tryz.pinned.checked.prog.funcNamed "godown/godownlaw16.ShapeTurns" = some f) (hfn:Tryz.pinned.checked.prog.funcs[f]?=some fn) :
  false=Tryz.pinned.checked.prog.looks []∧∀ (j:Nat) t,fn.params[j]?=some t→Tryz.pinned.checked.prog.wantsStandIn t=false:=by
 obtain rfl:f=6:=Option.some.inj ((show Tryz.prog.funcNamed "godown/godownlaw16.ShapeTurns" = some 6 by kernel_rfl).symm.trans hf) |>.symm
 obtain rfl:fn=Tryz.f6:=(Option.some.inj (Tryz.func6.symm.trans hfn)).symm
 refine ⟨by kernel_rfl,fun j t ht=>?_⟩
 have hall:(Tryz.f6.params.toList.all fun t=>!Tryz.pinned.checked.prog.wantsStandIn t)=true:=tZ2
 have:=List.all_eq_true.1 hall t (Array.mem_toList_iff.2 (Array.mem_of_getElem? ht))
 simpa using this
theorem shapeTurns_card:Rows.ShapeTurnsUptoCardSaid :=
 Claim7.holds_tied_plain_at .later [] _ _ _ _ shapeTurns_said (fun _ h=>by cases h) tZ2 (fun _ h=>by cases h) shapeTurnsUpto_row_tie rfl ⟨rfl,rfl⟩ tZ2 rfl shapeTurns_plain tZ2
end Go.Proofs.YtcgclpcocdappaaGreatDoor
