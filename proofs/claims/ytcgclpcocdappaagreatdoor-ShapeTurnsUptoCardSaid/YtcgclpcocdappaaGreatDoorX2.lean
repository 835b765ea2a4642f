/-
  The frame of every law of this seat: from a contract 'returns true, below the old heap nothing has turned' to the row's post. slices.Clone at blocks, texts, properties and entries; the page's Own of contents: by their contracts. The shelf's words of a text's parts, in the words of the plain law. Lists of elements of several cells each, in memory: the cells of one element; where a sorted list is parted. A wide struct: loaded, and stored into a block that has just been made, all its cells at once. A region that draws its order, whose operations each have one value in every world of a class: one walk in the order of the text. 'string(b)' of octets; a row with a mark behind its end (what '[]byte(s)' makes). slices.Clone at elements of 3 cells, by its contract. slices.Clone at elements of 2 cells, by its contract. The words of properties and of records: the part of the plain law that speaks of no octets.
-/
import Derived.Test.YtcgclpcocdappaaGreatDoorXM1
import Derived.Test.YtcgclpcocdappaaGreatDoorX0
import Derived.Test.YtcgclpcocdappaaGreatDoorX1
import Derived.Test.YtcgclpcocdappaaGreatDoorRows
import Derived.ProofKit
import Derived.OpenShut
import Derived.ShutString
import Derived.ChangeOld
import Derived.Carry
import Derived.SizedLaws
import Derived.JoinedCond
import Derived.Deep.CondSized
import Derived.Deep.Slices
import Derived.Deep.Fields
import Derived.Lib.SmallJoins
import Derived.Handy
import Derived.Lib.SplitLaws
import Derived.Lib.LastIndexByte
import Derived.Lib.Strings
import Derived.Deep.MidRow
import Derived.Deep.Quiet
import Derived.Deep.QuietTactic
import Derived.Laws.BytesString
import Derived.Laws.IdiomStrings
import Derived.Lib.ConvBytes
namespace Go.Proofs.YtcgclpcocdappaaGreatDoor
open Go.ChangeShapes Go.WideShapes Go.ChangeAt Go.RowKit Go.Deep Go.Joins
open Go.ChangeMaps (open_string shut_string)
theorem Tryz.own:ownKnob Tryz.prog.godebug=none:=tZ2
theorem Tryz.laidOut:laidOutB Tryz.prog=true:=tZ2
section
variable {H:Type} {enc:TypeId×Value→H} {P:Program}
/-- may these types be read, one by one? -/
def readables (P:Program) (ts:List TypeId):Bool:=ts.all fun t=>P.readableRec t && decide (t<P.types.size)
theorem trodAll_below (hl:laidOutB P=true) {W W':World} (hb:Below W.heap.size W W') (ts:List TypeId):∀ (vs:List Value) (ds:List (DataW H)) (p:List MemPlace),readables P ts=true →
  DataW.TrodAll enc P W 0 (fun _=>true) true ts vs ds p→(∀ x∈p,x.block<W.heap.size)→DataW.TrodAll enc P W' 0 (fun b=>decide (b<W.heap.size)) true ts vs ds p:=by
 induction ts with
 | nil =>
  intro vs ds p _ h _
  match vs,ds with
  | [],[]=>exact h
  | [],_ :: _=>exact h.elim
  | _ :: _,[]=>exact h.elim
  | _ :: _,_ :: _=>exact h.elim
 | cons t ts ih =>
  intro vs ds p hr h hlt
  match vs,ds with
  | v :: vs,d :: ds =>
   obtain ⟨p1,q,h1,h2,rfl⟩:=h
   simp only [readables,List.all_cons,Bool.and_eq_true,decide_eq_true_eq] at hr
   exact ⟨p1,q,Below.trod hl hr.1.1 hr.1.2 h1 hb (fun x hx=>hlt x tZ129),ih vs ds q hr.2 h2 (fun x hx=>hlt x tZ129),rfl⟩
  | [],[]=>exact h.elim
  | [],_ :: _=>exact h.elim
  | _ :: _,[]=>exact h.elim
theorem trodAll_lt {W:World} (ts:List TypeId):∀ (vs:List Value) (ds:List (DataW H)) (p:List MemPlace),
  DataW.TrodAll enc P W 0 (fun _=>true) true ts vs ds p→∀ x∈p,x.block<W.heap.size:=by
 induction ts with
 | nil =>
  intro vs ds p h
  match vs,ds with
  | [],[]=>subst h;simp
  | [],_ :: _=>exact h.elim
  | _ :: _,[]=>exact h.elim
  | _ :: _,_ :: _=>exact h.elim
 | cons t ts ih =>
  intro vs ds p h
  match vs,ds with
  | v :: vs,d :: ds =>
   obtain ⟨p1,q,⟨m,hm⟩,h2,rfl⟩:=h
   intro x hx
   rcases List.mem_append.1 hx with hx | hx
   ·exact DataW.trod_lt m _ _ _ hm x hx
   ·exact ih vs ds q h2 x hx
  | [],[]=>exact h.elim
  | [],_ :: _=>exact h.elim
  | _ :: _,[]=>exact h.elim
/-- what a law's walk owes -/
def LawCalls (P:Program) (f:FuncId) (args:Array Value) (W:World):Prop:=Calls P f args W fun e w'=>e=.returned (.bool true)∧Below W.heap.size W w'
theorem law_post (hl:laidOutB P=true) {s:ChangeSpec} {f:FuncId} {fn:Func} {ps:List TypeId} {tb:TypeId} (htb:P.underlying tb=some .bool) (hps:fn.params.toList=ps) (hrt:fn.resultTypes=#[tb]) (hv:s.vars=[]) (hread:readables P ps=true)
  (hspec:∀ (vs:List Value) (ds:List (DataW H)) (W:World) p,DataW.TrodAll enc P W 0 (fun _=>true) true ps vs ds p→(s.fn H ds).results=[.lit (.bool true)]∧(s.fn H ds).args=ds∧(s.fn H ds).vars=[])
  (W:World) (args:Array Value) (ds gs:List (DataW H)) (before:List MemPlace)
  (hW:DataW.Whole enc P fn.params.toList s.vars false W args.toList ds gs before) (h:LawCalls P f args W) :
  Calls P f args W fun e W'=>∃ v,e=.returned v∧s.post enc P fn false true false false W args v W':=by
 refine h.mono fun e W' ⟨he,hb⟩=>?_
 subst he
 refine ⟨_,rfl,?_⟩
 have hW0:=hW
 obtain ⟨p,q,hA,hV,rfl,hfz,hnd⟩:=hW
 rw [hv] at hV
 obtain ⟨rfl,rfl⟩:=trodVars_none hV
 rw [hps] at hA
 have hs:=hspec _ _ _ _ hA
 refine ⟨ds,[],p++[],[],p,[],hW0,?_,?_,?_,hb.frame _,fun h=>by cases h⟩
 ·rw [List.append_nil,hs.1,hrt]
  exact trodAll_mk1 (shut_bool htb _)
 ·rw [List.append_nil,hs.2.1,hps]
  exact trodAll_below hl hb _ _ _ _ hread hA (trodAll_lt _ _ _ _ hA)
 ·rw [List.append_nil,hs.2.2,hv]
  rfl
/-- one argument as the form hands it over -/
structure ArgIn (enc:TypeId×Value→H) (P:Program) (W:World) (t:TypeId) (v:Value) (d:DataW H):Prop where
 ok:∃ base,Value.okWide P W .any base t v
 rd:∃ p,DataW.Trod enc P W 0 (fun _=>true) true t v d p
 wt:∀ n∈d.weights P t,n≤reachBytes
def ArgsIn (enc:TypeId×Value→H) (P:Program) (W:World):List TypeId→List Value→List (DataW H)→Prop
 | [],[],[]=>True
 | t :: ts,v :: vs,d :: ds=>ArgIn enc P W t v d∧ArgsIn enc P W ts vs ds
 | _,_,_=>False
theorem argsIn {W:World} {base:Nat} (ts:List TypeId):∀ (vs:List Value) (ds:List (DataW H)) (p:List MemPlace),DataW.TrodAll enc P W 0 (fun _=>true) true ts vs ds p →
  (∀ (j:Nat) t v,ts[j]?=some t→vs[j]?=some v→Value.okWide P W .any base t v)→(∀ n∈DataW.weightsEach P ts ds,n≤reachBytes)→ArgsIn enc P W ts vs ds:=by
 induction ts with
 | nil =>
  intro vs ds p h _ _
  match vs,ds with
  | [],[]=>trivial
  | [],_ :: _=>exact h.elim
  | _ :: _,[]=>exact h.elim
  | _ :: _,_ :: _=>exact h.elim
 | cons t ts ih =>
  intro vs ds p h hok hw
  match vs,ds with
  | v :: vs,d :: ds =>
   obtain ⟨p1,q,h1,h2,rfl⟩:=h
   simp only [DataW.weightsEach] at hw
   exact ⟨⟨⟨base,hok 0 t v rfl rfl⟩,⟨p1,h1⟩,fun n hn=>hw n (List.mem_append_left _ hn)⟩,ih vs ds q h2 (fun j t v hj hv=>hok (j+1) t v (by simpa using hj) (by simpa using hv)) (fun n hn=>hw n (List.mem_append_right _ hn))⟩
  | [],[]=>exact h.elim
  | [],_ :: _=>exact h.elim
  | _ :: _,[]=>exact h.elim
/-- THE LAW's CONTRACT, as both builders ask it -/
theorem law_contract (hl:laidOutB P=true) {s:ChangeSpec} {f:FuncId} {fn:Func} {ps:List TypeId} {tb:TypeId} (htb:P.underlying tb=some .bool) (hps:fn.params.toList=ps) (hrt:fn.resultTypes=#[tb]) (hv:s.vars=[]) (hread:readables P ps=true)
  (hspec:∀ (vs:List Value) (ds:List (DataW H)) (W:World) p,DataW.TrodAll enc P W 0 (fun _=>true) true ps vs ds p→(s.fn H ds).results=[.lit (.bool true)]∧(s.fn H ds).args=ds∧(s.fn H ds).vars=[])
  (W:World) (base:Nat) (args:Array Value) (ds gs:List (DataW H)) (before:List MemPlace)
  (hval:∀ (j:Nat) t v,fn.params[j]?=some t→args[j]?=some v→Value.okWide P W .any base t v)
  (hW:DataW.Whole enc P fn.params.toList s.vars false W args.toList ds gs before)
  (hsz:(DataW.weightsEach P (fn.params.toList++s.plain.varTypes P) (ds++gs)).all (·≤reachBytes)=true)
  (h:ArgsIn enc P W ps args.toList ds→gs=[]→LawCalls P f args W) :
  Calls P f args W fun e W'=>∃ v,e=.returned v∧s.post enc P fn false true false false W args v W':=by
 refine law_post hl htb hps hrt hv hread hspec W args ds gs before hW ?_
 obtain ⟨p,q,hA,hV,_⟩:=hW
 have hvt:s.plain.varTypes P=[]:=by simp [ChangeSpec.plain,DataSpec.varTypes,hv]
 rw [hv] at hV
 obtain ⟨rfl,rfl⟩:=trodVars_none hV
 rw [hps] at hA hsz
 rw [hvt,List.append_nil,List.append_nil] at hsz
 refine h (argsIn (base:=base) _ _ _ _ hA ?_ ?_) rfl
 ·intro j t v hj hv
  refine hval j t v ?_ ?_
  ·rw [← hps] at hj;simpa using hj
  ·simpa using hv
 ·intro n hn
  simpa using List.all_eq_true.1 hsz n hn
theorem argsIn_cons {W:World} {t:TypeId} {ts:List TypeId} {vs:List Value} {ds:List (DataW H)} (h:ArgsIn enc P W (t :: ts) vs ds):∃ v vs' d ds',vs=v :: vs'∧ds=d :: ds'∧ArgIn enc P W t v d∧ArgsIn enc P W ts vs' ds':=by
 match vs,ds with
 | v :: vs,d :: ds=>exact ⟨v,vs,d,ds,rfl,rfl,h.1,h.2⟩
 | [],[]=>exact h.elim
 | [],_ :: _=>exact h.elim
 | _ :: _,[]=>exact h.elim
theorem argsIn_nil {W:World} {vs:List Value} {ds:List (DataW H)} (h:ArgsIn enc P W [] vs ds):vs=[]∧ds=[]:=by
 match vs,ds with
 | [],[]=>exact ⟨rfl,rfl⟩
 | _ :: _,_ :: _=>exact h.elim
 | [],_ :: _=>exact h.elim
 | _ :: _,[]=>exact h.elim
/-! ### Opening arguments -/
section
variable {W:World} {t:TypeId} {v:Value} {d:DataW H}
theorem ArgIn.int {k:IntKind} (ht:P.underlying t=some (.int k)) (h:ArgIn enc P W t v d):∃ n,v=.int k n∧(Lit.int k n).wf=true:=by
 obtain ⟨⟨base,ho⟩,⟨p,hr⟩,_⟩:=h
 obtain ⟨n,hv,_,_,hw⟩:=open_int ht ho hr
 exact ⟨n,hv,hw⟩
theorem ArgIn.bool (ht:P.underlying t=some .bool) (h:ArgIn enc P W t v d):∃ n,v=.bool n:=by
 obtain ⟨⟨base,ho⟩,⟨p,hr⟩,_⟩:=h
 obtain ⟨n,hv,_⟩:=open_bool ht ho hr
 exact ⟨n,hv⟩
theorem ArgIn.string (ht:P.underlying t=some .string) (h:ArgIn enc P W t v d):∃ s:ByteArray,v=.string s∧s.size≤140737488351232∧d=.lit (.string s.data.toList):=by
 obtain ⟨⟨base,ho⟩,⟨p,hr⟩,hw⟩:=h
 obtain ⟨s,hv,rfl,_,_⟩:=open_string ht ho hr
 refine ⟨s,hv,?_,rfl⟩
 have:=hw s.data.toList.length (by simp [DataW.weights])
 simp only [reachBytes] at this
 simpa using this
theorem ArgIn.bytes {e:TypeId} (ht:P.underlying t=some (.slice e)) (he:P.underlying e=some (.int .u8)) (hc:P.cellsOf e=1) (hb:P.bytesOf e=1) (h:ArgIn enc P W t v d) :
  ∃ (A:Option Addr) (b:List UInt8) (c:Nat),v=.slice A b.length c∧b.length≤c∧c≤140737488351232∧Reads W W.heap.size 1 A b.length (bts b)∧(d=.nil∧b=[]∨∃ sp,d=.slice (b.map fun x=>.lit (.int .u8 (x.toNat:Int))) sp):=by
 obtain ⟨⟨base,ho⟩,⟨p,m,hr⟩,hw⟩:=h
 obtain ⟨A,n,c,rfl⟩:=okWide_slice ht ho
 rcases open_ints ht he hc hr with ⟨hcs,hx⟩ | ⟨x,l,cc,zs,hcs,_,hl,hm,hz,hx,hcell,hwz⟩
 ·simp [Value.cells] at hcs
  obtain ⟨rfl,rfl,rfl⟩:=hcs
  simp at hx
  exact ⟨none,[],0,rfl,Nat.le_refl _,by omega,Reads.none_,.inl ⟨hx.1,rfl⟩⟩
 ·simp [Value.cells] at hcs
  obtain ⟨rfl,rfl,rfl⟩:=hcs
  simp only [Prod.mk.injEq] at hx
  have hz':zs.length=c:=by simpa using hz
  have hcb:c≤140737488351232:=by
   have:=hw ((lits (H:=H) .u8 (zs.take n)).length+(lits (H:=H) .u8 (zs.drop n)).length) (by rw [hx.1];simp [DataW.weights,ht,hb])
   simp only [reachBytes,lits,List.length_map,List.length_take,List.length_drop] at this
   omega
  have hbyte:∀ z∈zs,((UInt8.ofNat z.toNat).toNat:Int)=z:=by
   intro z hzm
   have:=hwz z hzm
   simp [Lit.wf,IntKind.min,IntKind.max,IntKind.signed,IntKind.bits] at this
   rw [UInt8.toNat_ofNat_of_lt' (by show z.toNat<256;omega)]
   omega
  have hlen:((zs.take n).map fun z=>UInt8.ofNat z.toNat).length=n:=tZ6
  have hget:∀ i u,(bts ((zs.take n).map fun z=>UInt8.ofNat z.toNat))[i]?=some u→i<n∧u=.int .u8 (zs.getD i 0):=by
   intro i u hu
   have hi:i<n:=by
    have h1:=(List.getElem?_eq_some_iff.1 hu).1
    rw [bts_length,hlen] at h1
    exact h1
   refine ⟨hi,?_⟩
   have hzi:i<zs.length:=tZ1
   simp [bts,hi,List.getElem?_eq_getElem hzi] at hu
   rw [← hu]
   have:=hbyte zs[i] (List.getElem_mem hzi)
   simp at this
   simp [List.getD_eq_getElem?_getD,List.getElem?_eq_getElem hzi,this]
  refine ⟨some x,(zs.take n).map fun z=>UInt8.ofNat z.toNat,c,by rw [hlen],by omega,hcb,⟨by rw [bts_length];simp,fun hn=>⟨x,rfl,?_,?_⟩⟩,.inr ⟨lits .u8 (zs.drop n),?_⟩⟩
  ·have h0:0<zs.length:=by rw [hlen] at hn;omega
   have:=World.block_lt_of_cell? W _ (hcell 0 h0)
   rwa [block_of_add] at this
  ·intro i u hu
   obtain ⟨hi,rfl⟩:=hget i u hu
   exact hcell i tZ1
  ·rw [hx.1]
   simp only [lits,List.map_map]
   congr 1
   apply List.map_congr_left
   intro z hzm
   show _=DataW.lit (Lit.int .u8 ((UInt8.ofNat z.toNat).toNat:Int))
   rw [hbyte z (List.mem_of_mem_take hzm)]
end
end
end Go.Proofs.YtcgclpcocdappaaGreatDoor
namespace Go.Proofs.YtcgclpcocdappaaGreatDoor
open Go.RowKit
theorem Tryz.cloneBl_info:(Tryz.prog.info? 75).map (fun i=>(i.zero,i.size,i.bytes))=some (some (.agg #[.int .i64 0,.string ByteArray.empty]),2,24):=tZ2
set_option maxRecDepth 100000 in
theorem cloneBl_any (xs:List Value) (n:Nat) (A:Option Addr) (c:Nat) (w:World) (B:Nat) (hr:Reads w B 2 A n xs) (hB:B≤w.heap.size) (h1:∀ u∈xs,u.oneCell'=true) (hn:n*24≤140737488355328) :
  Calls Tryz.prog 45 #[.slice A n c] w fun e w'=>∃ v,e=.returned v∧w'.ownsRow w.heap.size 75 2 v n xs∧Below w.heap.size w w':=by
 obtain ⟨i0,hi0,hz0,hz1,hz2⟩:=info_parts Tryz.cloneBl_info
 exact mZ15
theorem Tryz.cloneSt_info:(Tryz.prog.info? 9).map (fun i=>(i.zero,i.size,i.bytes))=some (some (.string ByteArray.empty),1,16):=tZ2
set_option maxRecDepth 100000 in
theorem cloneSt_any (xs:List Value) (n:Nat) (A:Option Addr) (c:Nat) (w:World) (B:Nat) (hr:Reads w B 1 A n xs) (hB:B≤w.heap.size) (h1:∀ u∈xs,u.oneCell'=true) (hn:n*16≤140737488355328) :
  Calls Tryz.prog 99 #[.slice A n c] w fun e w'=>∃ v,e=.returned v∧w'.ownsRow w.heap.size 9 1 v n xs∧Below w.heap.size w w':=by
 obtain ⟨i0,hi0,hz0,hz1,hz2⟩:=info_parts Tryz.cloneSt_info
 rcases A with _ | ad
 ·obtain rfl:n=0:=by
   exact mZ14
  obtain rfl:xs=[]:=List.eq_nil_of_length_eq_zero tZ87
  have heq:=fun W=>Lib.run_eql_slice_nil (P:=Tryz.prog) W 48 9 none 0 c 0 0 Tryz.underlying48
  go_enter Tryz.func99,Tryz.ntmps99
  exact mZ13
 ·have heq:=fun W=>Lib.run_eql_slice_nil (P:=Tryz.prog) W 48 9 (some ad) n c 0 0 Tryz.underlying48
  have hown:(w.alloc (.cells #[] 9)).ownsRow w.heap.size 9 1 (.slice (some ⟨w.heap.size,0,none⟩) 0 0) 0 []:=World.ownsRow_made w #[] 0 (Nat.le_refl _) tZ107 rfl
  have hra:=hr.alloc hB (.cells #[] 9)
  go_enter Tryz.func99,Tryz.ntmps99
  go_wp2_with (at_builtin;(refine wpList_append_any _ rfl (.tmp 5) (.tmp 6) _ rfl w.heap.size 9 i0 _ 1 16 Tryz.underlying48 hi0 hz0 hz1 hz2 rfl tZ1 (.slice (some ⟨w.heap.size,0,none⟩) 0 0) 0 [] rfl hown B (some ad) n c xs rfl hra h1 tZ9 tZ1 tZ3 ?_);intro v1 w2 hown1 hg1 hat1)
  exact mZ12
theorem Tryz.clonePr_info:(Tryz.prog.info? 78).map (fun i=>(i.zero,i.size,i.bytes))=some (some (.agg #[.string ByteArray.empty,.string ByteArray.empty]),2,32):=tZ2
set_option maxRecDepth 100000 in
theorem clonePr_any (xs:List Value) (n:Nat) (A:Option Addr) (c:Nat) (w:World) (B:Nat) (hr:Reads w B 2 A n xs) (hB:B≤w.heap.size) (h1:∀ u∈xs,u.oneCell'=true) (hn:n*32≤140737488355328) :
  Calls Tryz.prog 46 #[.slice A n c] w fun e w'=>∃ v,e=.returned v∧w'.ownsRow w.heap.size 78 2 v n xs∧Below w.heap.size w w':=by
 obtain ⟨i0,hi0,hz0,hz1,hz2⟩:=info_parts Tryz.clonePr_info
 exact mZ16
theorem Tryz.cloneEn_info:(Tryz.prog.info? 106).map (fun i=>(i.zero,i.size,i.bytes))=some (some (.agg #[.string ByteArray.empty,.int .i64 0,.string ByteArray.empty,.int .i64 0]),4,48):=tZ2
set_option maxRecDepth 100000 in
theorem cloneEn_any (xs:List Value) (n:Nat) (A:Option Addr) (c:Nat) (w:World) (B:Nat) (hr:Reads w B 4 A n xs) (hB:B≤w.heap.size) (h1:∀ u∈xs,u.oneCell'=true) (hn:n*48≤140737488355328) :
  Calls Tryz.prog 113 #[.slice A n c] w fun e w'=>∃ v,e=.returned v∧w'.ownsRow w.heap.size 106 4 v n xs∧Below w.heap.size w w':=by
 obtain ⟨i0,hi0,hz0,hz1,hz2⟩:=info_parts Tryz.cloneEn_info
 rcases A with _ | ad
 ·obtain rfl:n=0:=by
   exact mZ14
  obtain rfl:xs=[]:=List.eq_nil_of_length_eq_zero tZ87
  have heq:=fun W=>Lib.run_eql_slice_nil (P:=Tryz.prog) W 25 106 none 0 c 0 0 Tryz.underlying25
  go_enter Tryz.func113,Tryz.ntmps113
  exact mZ13
 ·have heq:=fun W=>Lib.run_eql_slice_nil (P:=Tryz.prog) W 25 106 (some ad) n c 0 0 Tryz.underlying25
  have hown:(w.alloc (.cells #[] 106)).ownsRow w.heap.size 106 4 (.slice (some ⟨w.heap.size,0,none⟩) 0 0) 0 []:=World.ownsRow_made w #[] 0 (Nat.le_refl _) tZ107 rfl
  have hra:=hr.alloc hB (.cells #[] 106)
  go_enter Tryz.func113,Tryz.ntmps113
  go_wp2_with (at_builtin;(refine wpList_append_any _ rfl (.tmp 5) (.tmp 6) _ rfl w.heap.size 106 i0 _ 4 48 Tryz.underlying25 hi0 hz0 hz1 hz2 rfl tZ1 (.slice (some ⟨w.heap.size,0,none⟩) 0 0) 0 [] rfl hown B (some ad) n c xs rfl hra h1 tZ9 tZ1 tZ3 ?_);intro v1 w2 hown1 hg1 hat1)
  exact mZ12
set_option maxRecDepth 100000 in
theorem rownT_any (xs:List Value) (n:Nat) (A:Option Addr) (c:Nat) (w:World) (B:Nat) (hr:Reads w B 2 A n xs) (h1:∀ u∈xs,u.oneCell'=true) (hn:n≤5000000000000) :
  Calls Tryz.prog 116 #[.slice A n c] w fun e w'=>∃ v,e=.returned v∧w'.ownsRow w.heap.size 75 2 v n xs∧Below w.heap.size w w':=by
 obtain ⟨i0,hi0,hz0,hz1,hz2⟩:=info_parts Tryz.cloneBl_info
 go_enter Tryz.func116,Tryz.ntmps116
 go_wp2_with (at_builtin;(refine wpList_append_any _ rfl (.tmp 4) (.tmp 5) _ rfl w.heap.size 75 i0 _ 2 24 Tryz.underlying38 hi0 hz0 hz1 hz2 rfl tZ1 (.slice none 0 0) 0 [] rfl (World.ownsRow_nil _ _ _ _) B A n c xs rfl hr h1 tZ9 tZ1 (Nat.le_refl _) ?_);intro v1 w1 hown1 hg1 _)
 go_ret
 refine ⟨v1,rfl,by simpa using hown1,((Below.refl _ _).grown hg1 (Nat.le_refl _) (fun k hk=>by simp [Value.ownBlock] at hk))⟩
end Go.Proofs.YtcgclpcocdappaaGreatDoor
namespace Go.Proofs.YtcgclpcocdappaaGreatDoor
open Go.Lib
theorem index_none (c:UInt8) (s:List UInt8) (h:c ∉ s):index s [c]=-1:=by
 induction s with
 | nil=>rfl
 | cons b r ih =>
  have hb:([c].isPrefixOf (b :: r))=false:=by
   exact mZ17
  unfold index
  rw [hb,ih (fun e=>h (List.mem_cons_of_mem _ e))]
  rfl
theorem index_some (c:UInt8) (a r:List UInt8) (h:c ∉ a):index (a++c :: r) [c]=(a.length:Int):=by
 induction a with
 | nil=>simp [index,List.isPrefixOf]
 | cons b a ih =>
  have hb:([c].isPrefixOf (b :: (a++c :: r)))=false:=by
   exact mZ17
  rw [List.cons_append]
  unfold index
  rw [hb,ih (fun e=>h (List.mem_cons_of_mem _ e))]
  have:(((a.length:Nat):Int) == -1)=false:=tZ171
  simp [this]
/-- a text holds no c, or one first -/
theorem first_split (c:UInt8) (s:List UInt8):c ∉ s∨∃ a r,s=a++c :: r∧c ∉ a:=by
 induction s with
 | nil=>exact .inl tZ3
 | cons b s ih =>
  by_cases hb:c=b
  ·exact .inr ⟨[],s,by simp [hb],by simp⟩
  ·rcases ih with h | ⟨a,r,rfl,h⟩
   ·exact .inl (by simp [hb,h])
   ·exact .inr ⟨b :: a,r,rfl,by simp [hb,h]⟩
theorem partsL_one (a:List UInt8) (h:47 ∉ a):partsL a=[a]:=by
 induction a with
 | nil=>rfl
 | cons b a ih =>
  unfold partsL
  exact mZ18
theorem partsL_two (a r:List UInt8) (h:47 ∉ a):partsL (a++47 :: r)=a :: partsL r:=by
 induction a with
 | nil=>simp [partsL]
 | cons b a ih =>
  rw [List.cons_append,partsL,if_neg (fun e=>h tZ109),ih (fun e=>h (List.mem_cons_of_mem _ e))]
theorem splitK_parts (n:Nat):∀ s:List UInt8,s.length≤n→splitK [47] 0 (count s [47]) s=partsL s:=by
 induction n with
 | zero =>
  intro s hs
  obtain rfl:=List.eq_nil_of_length_eq_zero (Nat.le_zero.1 hs)
  rfl
 | succ n ih =>
  intro s hs
  rcases first_split 47 s with h | ⟨a,r,rfl,h⟩
  ·rw [partsL_one s h,count_miss (index_none 47 s h)]
   rfl
  ·have hi:=index_some 47 a r h
   have hd:(a++47 :: r).drop (a.length+1)=r:=by
    rw [← List.drop_drop,List.drop_append_of_le_length (Nat.le_refl _)]
    simp
   have hc:=count_hit (s:=a++47 :: r) (sub:=[47]) (i:=a.length) tZ3 hi
   rw [partsL_two a r h,hc]
   rw [show ([47]:List UInt8).length=1 from rfl,hd,Nat.add_comm 1]
   have hm:(index (a++47 :: r) [47] == -1)=false:=by rw [hi,beq_eq_false_iff_ne];omega
   unfold splitK
   rw [hm,hi,if_neg tZ3]
   simp only [Int.toNat_natCast,Nat.add_zero,List.length_singleton,hd]
   rw [List.take_left' rfl,ih r (by simp at hs;omega)]
theorem splitB_parts (s:ByteArray):(splitB ⟨#[47]⟩ 0 (countB s ⟨#[47]⟩) s).map (·.data.toList)=partsL s.data.toList:=by
 rw [splitB_data]
 exact splitK_parts _ _ (Nat.le_refl _)
theorem splitB_len (s:ByteArray):(splitB ⟨#[47]⟩ 0 (countB s ⟨#[47]⟩) s).length=countB s ⟨#[47]⟩+1:=splitB_all ⟨#[47]⟩ (Nat.le_refl _) 0 _ s rfl
theorem atL_none (s:List UInt8) (h:64 ∉ s):atL s=none:=by
 induction s with
 | nil=>rfl
 | cons b s ih =>
  unfold atL
  exact mZ18
theorem cut_at (s:List UInt8):cut s [64]=match atL s with
  | some (p,n)=>(p,n,true)
  | none=>(s,[],false):=by
 rcases first_split 64 s with h | ⟨a,r,rfl,h⟩
 ·rw [atL_none s h]
  unfold cut
  rw [index_none 64 s h]
  rfl
 ·rw [atL_join a r (fun c hc e=>h (by rw [← e];exact hc))]
  unfold cut
  rw [index_some 64 a r h,if_pos tZ1]
  have hd:(a++64 :: r).drop (a.length+1)=r:=by
   rw [← List.drop_drop,List.drop_append_of_le_length (Nat.le_refl _)]
   simp
  simp only [Int.toNat_natCast,List.length_singleton,hd]
  rw [List.take_left' rfl]
theorem lastS_spec (l:List UInt8):(lastS l=none∧47 ∉ l)∨∃ k,lastS l=some k∧l[k]?=some 47∧∀ j,k<j→l[j]?≠some 47:=by
 induction l with
 | nil=>exact .inl ⟨rfl,by simp⟩
 | cons b l ih =>
  unfold lastS
  rcases ih with ⟨h,hn⟩ | ⟨k,h,hk,hj⟩
  ·rw [h]
   by_cases hb:b=47
   ·refine .inr ⟨0,by simp [hb],by simp [hb],?_⟩
    intro j hj e
    obtain ⟨j,rfl⟩:∃ i,j=i+1:=⟨j-1,by omega⟩
    rw [zD] at e
    exact hn (List.mem_of_getElem? e)
   ·exact .inl ⟨by simp [hb],by simp [hn];exact fun e=>hb e.symm⟩
  ·rw [h]
   refine .inr ⟨k+1,rfl,by simpa using hk,?_⟩
   intro j hlt e
   obtain ⟨j,rfl⟩:∃ i,j=i+1:=⟨j-1,by omega⟩
   rw [zD] at e
   exact hj j tZ1 e
theorem data_get (s:ByteArray) (j:Nat) (hj:j<s.size):s.data.toList[j]?=some s.data[j]!:=by
 have h:j<s.data.size:=hj
 rw [getElem!_pos s.data j h,Array.getElem?_toList,Array.getElem?_eq_getElem h]
theorem last_eq (s:ByteArray):(max (Lib.lastIndexByte s 47) 0)=(((lastS s.data.toList).getD 0:Nat):Int):=by
 rcases Lib.lastIndexByte_spec s 47 with ⟨h,hn⟩ | ⟨i,hi,h,hc,hn⟩
 ·rw [h]
  rcases lastS_spec s.data.toList with ⟨h2,_⟩ | ⟨k,_,hk,_⟩
  ·rw [h2];rfl
  ·exfalso
   have hks:k<s.size:=(List.getElem?_eq_some_iff.1 hk).1
   rw [data_get s k hks] at hk
   exact hn k hks (by rw [Option.some.inj hk];rfl)
 ·rw [h]
  have h47:s.data[i]! = 47:=UInt8.toNat_inj.1 (by have e:(47:UInt8).toNat=47:=rfl;rw [e];omega)
  have hi2:s.data.toList[i]?=some 47:=by rw [data_get s i hi,h47]
  rcases lastS_spec s.data.toList with ⟨_,h3⟩ | ⟨k,h2,hk,hj⟩
  ·exact absurd (List.mem_of_getElem? hi2) h3
  ·rw [h2]
   have hks:k<s.size:=(List.getElem?_eq_some_iff.1 hk).1
   have hki:k=i:=by
    rcases Nat.lt_trichotomy k i with hl | he | hg
    ·exact absurd hi2 (hj i hl)
    ·exact he
    ·rw [data_get s k hks] at hk
     exact absurd (by rw [Option.some.inj hk];rfl) (hn k hg hks)
   subst hki
   simp
theorem last_bound (l:List UInt8):(lastS l).getD 0≤l.length:=by
 rcases lastS_spec l with ⟨h,_⟩ | ⟨k,h,hk,_⟩
 ·rw [h];simp
 ·rw [h]
  have:=(List.getElem?_eq_some_iff.1 hk).1
  simp only [Option.getD_some]
  omega
end Go.Proofs.YtcgclpcocdappaaGreatDoor
namespace Go.Proofs.YtcgclpcocdappaaGreatDoor
open Go.RowKit
section
variable {α:Type}
def cellsK (enc:α→List Value) (l:List α):List Value:=l.flatMap enc
theorem cellsK_append (enc:α→List Value) (a b:List α):cellsK enc (a++b)=cellsK enc a++cellsK enc b:=by simp [cellsK]
theorem cellsK_one (enc:α→List Value) (x:α):cellsK enc [x]=enc x:=by simp [cellsK]
theorem cellsK_length {enc:α→List Value} {k:Nat} (hk:∀ x,(enc x).length=k) (l:List α):(cellsK enc l).length=l.length*k:=by
 induction l with
 | nil=>simp [cellsK]
 | cons x l ih =>
  simp only [cellsK,List.flatMap_cons,List.length_append,List.length_cons] at ih ⊢
  rw [ih,hk,Nat.add_mul,Nat.one_mul,Nat.add_comm]
theorem cellsK_get {enc:α→List Value} {k:Nat} (hk:∀ x,(enc x).length=k) (l:List α) (i:Nat) (h:i<l.length) (j:Nat) (hj:j<k):(cellsK enc l)[i*k+j]?=(enc l[i])[j]?:=by
 induction l generalizing i with
 | nil=>simp at h
 | cons x l ih =>
  have e:cellsK enc (x :: l)=enc x++cellsK enc l:=rfl
  rw [e]
  cases i with
  | zero=>rw [Nat.zero_mul,Nat.zero_add,List.getElem?_append_left (by rw [hk];exact hj)];rfl
  | succ i =>
   rw [List.getElem?_append_right tZ139,hk,show (i+1)*k+j-k=i*k+j by rw [Nat.add_mul];omega]
   exact ih i tZ72
theorem cellsK_take {enc:α→List Value} {k:Nat} (hk:∀ x,(enc x).length=k) (l:List α) (i:Nat):cellsK enc (l.take i)=(cellsK enc l).take (i*k):=by
 induction l generalizing i with
 | nil=>simp [cellsK]
 | cons x l ih =>
  cases i with
  | zero=>simp [cellsK]
  | succ i =>
   have e:cellsK enc (x :: l)=enc x++cellsK enc l:=rfl
   have e2:cellsK enc ((x :: l).take (i+1))=enc x++cellsK enc (l.take i):=rfl
   rw [e,e2,ih,List.take_append,hk,List.take_of_length_le (l:=enc x) tZ139,show (i+1)*k-k=i*k by rw [Nat.add_mul];omega]
theorem cellsK_drop {enc:α→List Value} {k:Nat} (hk:∀ x,(enc x).length=k) (l:List α) (i:Nat):cellsK enc (l.drop i)=(cellsK enc l).drop (i*k):=by
 induction l generalizing i with
 | nil=>simp [cellsK]
 | cons x l ih =>
  cases i with
  | zero=>simp
  | succ i =>
   have e:cellsK enc (x :: l)=enc x++cellsK enc l:=rfl
   rw [e,List.drop_succ_cons,ih,List.drop_append,hk,@List.drop_eq_nil_of_le _ (enc x) _ tZ139,List.nil_append,show (i+1)*k-k=i*k by rw [Nat.add_mul];omega]
theorem Reads.elK {enc:α→List Value} {k:Nat} (hk:∀ x,(enc x).length=k) {w:World} {B n:Nat} {A:Option Addr} {l:List α} (h:Reads w B k A n (cellsK enc l)) (hn:n=l.length) {i:Nat} (hi:i<n) :
  ∃ ad,A=some ad∧ad.block<B∧∀ j,j<k→w.cell? ((ad.add (i*k)).add j)=(enc (l[i]'tZ1))[j]?:=by
 obtain ⟨ad,e,hb,hc⟩:=h.2 tZ1
 refine ⟨ad,e,hb,fun j hj=>?_⟩
 have hl:j<(enc (l[i]'tZ1)).length:=by rw [hk];exact hj
 rw [List.getElem?_eq_getElem hl,add_of_add]
 exact hc _ _ ((cellsK_get hk l i tZ1 j hj).trans (List.getElem?_eq_getElem hl))
theorem addr_add_succ (a:Addr) (j:Nat):a.add (j+1)=⟨a.block,a.off+(j+1),none⟩:=by simp [Addr.add]
theorem Reads.el2 {f0 f1:α→Value} {w:World} {B n:Nat} {A:Option Addr} {l:List α} (h:Reads w B 2 A n (cellsK (fun x=>[f0 x,f1 x]) l)) (hn:n=l.length) {i:Nat} (hi:i<n) :
  ∃ ad,A=some ad∧ad.block<B∧w.cell? (ad.add (i*2))=some (f0 (l[i]'tZ1))∧w.cell? ⟨(ad.add (i*2)).block,(ad.add (i*2)).off+1,none⟩=some (f1 (l[i]'tZ1)):=by
 obtain ⟨ad,e,hb,hc⟩:=Reads.elK (k:=2) (fun _=>rfl) h hn hi
 refine ⟨ad,e,hb,?_,?_⟩
 ·exact mZ20
 ·exact mZ19
theorem Reads.el3 {f0 f1 f2:α→Value} {w:World} {B n:Nat} {A:Option Addr} {l:List α} (h:Reads w B 3 A n (cellsK (fun x=>[f0 x,f1 x,f2 x]) l)) (hn:n=l.length) {i:Nat} (hi:i<n) :
  ∃ ad,A=some ad∧ad.block<B∧w.cell? (ad.add (i*3))=some (f0 (l[i]'tZ1))∧w.cell? ⟨(ad.add (i*3)).block,(ad.add (i*3)).off+1,none⟩=some (f1 (l[i]'tZ1))∧w.cell? ⟨(ad.add (i*3)).block,(ad.add (i*3)).off+2,none⟩=some (f2 (l[i]'tZ1)):=by
 obtain ⟨ad,e,hb,hc⟩:=Reads.elK (k:=3) (fun _=>rfl) h hn hi
 refine ⟨ad,e,hb,?_,?_,?_⟩
 ·exact mZ20
 ·exact mZ19
 ·exact mZ21
/-! ### where a list is parted -/
def posF (cf:α→Int) (l:List α):Nat:=(l.takeWhile fun x=>decide (cf x<0)).length
def atF (cf:α→Int) (l:List α):Bool:=(l[posF cf l]?).any fun x=>cf x == 0
def SignAsc (cf:α→Int) (l:List α):Prop:=∀ (i j:Nat) x y,i<j→l[i]?=some x→l[j]?=some y→cf y<0→cf x<0
theorem posF_le (cf:α→Int) (l:List α):posF cf l≤l.length:=by
 unfold posF
 exact (List.takeWhile_sublist _).length_le
theorem posF_eq (cf:α→Int) (l:List α) (a:Nat) (ha:a≤l.length) (h1:∀ k x,k<a→l[k]?=some x→cf x<0) (h2:∀ x,l[a]?=some x→0≤cf x):posF cf l=a:=by
 unfold posF
 induction l generalizing a with
 | nil=>simp at ha;simp [ha]
 | cons y r ih =>
  cases a with
  | zero =>
   have:=h2 y rfl
   rw [List.takeWhile_cons_of_neg tZ6]
   rfl
  | succ a =>
   have:=h1 0 y tZ1 rfl
   rw [List.takeWhile_cons_of_pos (by simpa using this),List.length_cons]
   have:=ih a (by simpa using ha) (fun k x hk hx=>h1 (k+1) x tZ1 tZ101) (fun x hx=>h2 x tZ101)
   omega
theorem posF_cons (cf:α→Int) (x:α) (l:List α):posF cf (x :: l)=if cf x<0 then posF cf l+1 else 0:=by
 unfold posF
 rw [List.takeWhile_cons]
 by_cases h:cf x<0
 ·rw [if_pos tZ72,if_pos h];rfl
 ·rw [if_neg tZ72,if_neg h];rfl
theorem atF_cons (cf:α→Int) (x:α) (l:List α):atF cf (x :: l)=if cf x<0 then atF cf l else cf x == 0:=by
 unfold atF
 rw [posF_cons]
 by_cases h:cf x<0
 ·rw [if_pos h,if_pos h];rfl
 ·rw [if_neg h,if_neg h];rfl
end
end Go.Proofs.YtcgclpcocdappaaGreatDoor
namespace Go.Proofs.YtcgclpcocdappaaGreatDoor
open Go.RowKit
theorem run_loadVar_at {P:Program} (w:World) (a:Addr) (ty:TypeId) (cs:List Value) (d:TypeDesc) (hc:∀ (j:Nat) (v:Value),cs[j]?=some v→w.cell? (a.add j)=some v)
  (hu:P.underlying ty=some d) (hd:d.isRow=true) (hi:(P.info? ty).map (·.size)=some cs.length):(loadVar ty a).run P w=.ok (.agg cs.toArray) w:=by
 have hl:(loadCells a cs.length).run P w=.ok cs.toArray w:=run_loadCells_list (P:=P) w a cs hc
 cases hq:P.info? ty with
 | none=>simp [hq] at hi
 | some i =>
  have hs:i.size=cs.length:=by simpa [hq] using hi
  have hagg:(isAgg ty).run P w=.ok true w:=by
   unfold isAgg
   rw [Sem.run_bind,run_underlying hu w]
   cases d <;> simp_all
  simp [loadVar,Sem.run_bind,hagg,sizeOf,typeInfo,hq,hs,hl]
theorem wpList_load_at {P:Program} {ops:Array Oper} {rest:List Oper} {op:Oper} {a:Act} {w:World} {Q:Exit→Act→World→Prop} (hgd:op.guard=none) (ty:TypeId) (x:Operand) (ho:op.op=.load ty x)
  (ad:Addr) (hx:a.eval x=.pointer (some ad)) (cs:List Value) (d:TypeDesc) (hc:∀ (j:Nat) (v:Value),cs[j]?=some v→w.cell? (ad.add j)=some v)
  (hu:P.underlying ty=some d) (hd:d.isRow=true) (hi:(P.info? ty).map (·.size)=some cs.length)
  (h:wpList P ops Q rest (a.put op.dst (.agg cs.toArray)) w):wpList P ops Q (op :: rest) a w:=by
 refine wpList_plain hgd fun K hK=>?_
 unfold Oper.wp execOp
 simp only [ho,hx,Instr.loadAt,Instr.sureAddr,Sem.run_bind,Sem.run_pure,Result.andThen_ok,run_loadVar_at w ad ty cs d hc hu hd hi]
 exact hK _ _ h
theorem setCell_new (w:World) (l:List Value) (t:TypeId) (i:Nat) (v:Value):(w.alloc (.cells l.toArray t)).setCell ⟨w.heap.size,i,none⟩ v=w.alloc (.cells (l.set i v).toArray t):=by
 unfold World.setCell World.alloc
 simp only
 congr 1
 apply Array.ext
 ·simp
 ·intro j h1 h2
  simp only [Array.getElem_modify,Array.getElem_push]
  by_cases hj:j<w.heap.size
  ·have hne:¬ w.heap.size=j:=tZ1
   simp [hj,hne]
  ·have hje:w.heap.size=j:=by simp at h1;omega
   simp [hje]
theorem setCells_new (w:World) (t:TypeId) (cs:List Value):∀ (pre post:List Value),post.length=cs.length→(w.alloc (.cells (pre++post).toArray t)).setCells w.heap.size pre.length cs=w.alloc (.cells (pre++cs).toArray t):=by
 induction cs with
 | nil =>
  intro pre post h
  rw [List.eq_nil_of_length_eq_zero h]
  rfl
 | cons v cs ih =>
  intro pre post h
  cases post with
  | nil=>simp at h
  | cons p post =>
   show ((w.alloc _).setCell ⟨w.heap.size,pre.length,none⟩ v).setCells w.heap.size (pre.length+1) cs=_
   rw [setCell_new,show (pre++p :: post).set pre.length v=(pre++[v])++post by simp [List.set_append_right]]
   have:=ih (pre++[v]) post tZ72
   rw [List.length_append] at this
   rw [show pre.length+1=pre.length+[v].length from rfl,this]
   simp
theorem wpList_store_new {P:Program} {ops:Array Oper} {rest:List Oper} {op:Oper} {a:Act} {Q:Exit→Act→World→Prop} (w:World) (hgd:op.guard=none) (ty:TypeId) (x y:Operand) (ho:op.op=.store ty x y) (t:TypeId) (zs cs:List Value)
  (hx:a.eval x=.pointer (some ⟨w.heap.size,0,none⟩)) (hy:a.eval y=.agg cs.toArray) (hl:zs.length=cs.length) (hi:(P.info? ty).map (·.size)=some cs.length) (h1:∀ v∈cs,v.oneCell'=true)
  (h:wpList P ops Q rest (a.put op.dst undef) (w.alloc (.cells cs.toArray t))):wpList P ops Q (op :: rest) a (w.alloc (.cells zs.toArray t)):=by
 refine wpList_store_mid hgd ty x y ho w.heap.size 0 cs.toArray hx hy ?_ tZ138 (all_oneCell_toArray h1) ?_
 ·intro j hj
  have hj2:j<zs.toArray.size:=by simp at hj ⊢;omega
  have hb:=Blk.new w t zs.toArray
  rw [Nat.zero_add]
  exact ⟨by rw [hb.cell j];simp [hl];simpa using hj,hb.frozen j⟩
 ·have:=setCells_new w t cs [] zs hl
  simp only [List.nil_append,List.length_nil] at this
  rw [show cs.toArray.toList=cs from rfl,this]
  exact h
end Go.Proofs.YtcgclpcocdappaaGreatDoor
namespace Go.Proofs.YtcgclpcocdappaaGreatDoor
open Go.RowKit
section
variable {P:Program} {ops:Array Oper} {C:World→Prop} {Q:Act→Prop}
theorem wpC_read {o:Oper} {rest:List Oper} {a:Act} {v:Value} (hg:o.guard=none) (h:∀ w,C w→o.quietAt P a C w v) (hn:wpQuiet P ops C Q rest (a.put o.dst v)):wpQuiet P ops C Q (o :: rest) a:=by
 have hw:Region.wanted o (yielded ops a.tmps)=true:=by simp [Region.wanted,hg]
 unfold wpQuiet
 rw [if_pos hw]
 exact ⟨v,h,hn⟩
theorem yielded_tmps {tmps:Array Value} {g k:Nat} (hd:(ops[g]?).bind (·.dst)=some k):yielded ops tmps g=match tmps[k]?.getD undef with | .bool b=>some b | _=>none:=by
 unfold yielded
 rw [hd]
 simp only [Option.bind_some]
 cases tmps[k]? with
 | none=>rfl
 | some v=>cases v <;> rfl
theorem wpC_gread {o:Oper} {rest:List Oper} {a:Act} {v:Value} {g k:Nat} {b:Bool} (hg:o.guard=some (g,b)) (hd:(ops[g]?).bind (·.dst)=some k) (ht:a.tmps[k]?.getD undef=.bool b)
  (h:∀ w,C w→o.quietAt P a C w v) (hn:wpQuiet P ops C Q rest (a.put o.dst v)):wpQuiet P ops C Q (o :: rest) a:=by
 have hw:Region.wanted o (yielded ops a.tmps)=true:=by simp [Region.wanted,hg,yielded_tmps hd,ht]
 unfold wpQuiet
 rw [if_pos hw]
 exact ⟨v,h,hn⟩
theorem wpC_skip {o:Oper} {rest:List Oper} {a:Act} {g k:Nat} {b:Bool} (hg:o.guard=some (g,b)) (hd:(ops[g]?).bind (·.dst)=some k) (ht:a.tmps[k]?.getD undef=.bool (!b)∨a.tmps[k]?.getD undef=undef)
  (hn:wpQuiet P ops C Q rest (a.put o.dst undef)):wpQuiet P ops C Q (o :: rest) a:=by
 have hw:¬ Region.wanted o (yielded ops a.tmps)=true:=by
  rcases ht with ht | ht
  ·simp [Region.wanted,hg,yielded_tmps hd,ht]
  ·have hu:yielded ops a.tmps g=none:=by rw [yielded_tmps hd,ht];rfl
   simp [Region.wanted,hg,hu]
 unfold wpQuiet
 rw [if_neg hw]
 exact hn
theorem wpC_region {id:Nat} {R:Exit→Act→World→Prop} {a:Act} {w:World} {l:List Oper} (C:World→Prop) (hm:P.follows .mixedOrders=true) (hB:Region.lexB .any l.toArray=true) (hC:C w.drew)
  (h:∀ (OPS:Array Oper) (D:World→Prop) (QQ:Act→Prop),Hid (OPS=l.toArray)→(∀ W,D W→C W)→(∀ W,C W→D W)→(∀ a',(∀ w',C w'→R .normal a' w')→QQ a')→wpQuiet P OPS D QQ l a):(Code.region id l.toArray true).wp P R a w :=
 wp_region_quiet (C:=C) hm hB hC (by simpa using h l.toArray C (fun a'=>∀ w',C w'→R .normal a' w') rfl (fun _ h=>h) (fun _ h=>h) (fun _ h=>h))
end
theorem geqS (t:TypeId) (a b:List UInt8):binOp .geq t (.string ⟨a.toArray⟩) (.string ⟨b.toArray⟩)=pure (.bool !(Op.bytesLess a b)):=tZ66
theorem lssS (t:TypeId) (a b:List UInt8):binOp .lss t (.string ⟨a.toArray⟩) (.string ⟨b.toArray⟩)=pure (.bool (Op.bytesLess a b)):=tZ66
theorem leqS (t:TypeId) (a b:List UInt8):binOp .leq t (.string ⟨a.toArray⟩) (.string ⟨b.toArray⟩)=pure (.bool (Op.bytesLess a b || a == b)):=tZ66
theorem gtrS (t:TypeId) (a b:List UInt8):binOp .gtr t (.string ⟨a.toArray⟩) (.string ⟨b.toArray⟩)=pure (.bool !(Op.bytesLess a b || a == b)):=tZ66
end Go.Proofs.YtcgclpcocdappaaGreatDoor
namespace Go.Proofs.YtcgclpcocdappaaGreatDoor
open Go.RowKit
theorem toList_data (s:ByteArray):s.toList=s.data.toList:=by
 obtain ⟨⟨l⟩⟩:=s
 exact ByteArray.toList_mk l
theorem mk_data (a:ByteArray):(⟨a.data.toList.toArray⟩:ByteArray)=a:=by obtain ⟨⟨l⟩⟩:=a;rfl
theorem eq_mk (a:ByteArray) (l:List UInt8) (h:a.data.toList=l):a=⟨l.toArray⟩:=by rw [← h,mk_data]
/-- the row that '[]byte(s)' makes -/
theorem bytesWorld_below (w:World) (e:TypeId) (s:ByteArray):Below w.heap.size w (Lib.bytesWorld w e s) :=
 ⟨rfl,rfl,rfl,by rw [Lib.bytesWorld_size];omega,fun j hj=>Lib.bytesWorld_at_old w e s j hj⟩
theorem bytesWorld_reads (w:World) (e:TypeId) (s:ByteArray):Reads (Lib.bytesWorld w e s) (w.heap.size+1) 1 (some ⟨w.heap.size,0,none⟩) s.size (bts s.data.toList):=by
 refine ⟨by rw [bts_length,Lib.size_eq];simp,fun hn=>⟨_,rfl,Nat.lt_succ_self _,?_⟩⟩
 intro j u hu
 have hj:j<s.size:=by
  have:=(List.getElem?_eq_some_iff.1 hu).1
  rw [bts_length,← Lib.size_eq] at this
  exact this
 rw [addr_add0,Lib.bytesWorld_cell w e s j hj]
 rw [bts_get,List.getElem?_eq_getElem (by rw [← Lib.size_eq];exact hj)] at hu
 rw [← hu]
 simp [List.getD,List.getElem?_eq_getElem (show j<s.data.toList.length by rw [← Lib.size_eq];exact hj)]
/-- a row of which the first n cells bear no mark -/
def RowM (w:World) (g:Nat) (t:TypeId) (n:Nat) (cs:Array Value):Prop:=n≤cs.size∧∃ hi,w.heap[g]?=some (.cells cs t (cs.size,hi))
section
variable {w w':World} {g n:Nat} {t:TypeId} {cs:Array Value}
theorem RowM.lt (h:RowM w g t n cs):g<w.heap.size:=by
 obtain ⟨_,hi,h⟩:=h
 rcases Nat.lt_or_ge g w.heap.size with hlt | hge
 ·exact hlt
 ·rw [Array.getElem?_eq_none hge] at h;cases h
theorem RowM.cell (h:RowM w g t n cs) (i:Nat):w.cell? ⟨g,i,none⟩=cs[i]?:=by
 obtain ⟨_,hi,h⟩:=h
 exact cell_of_row w g i cs t (cs.size,hi) h
theorem RowM.frozen (h:RowM w g t n cs) {i:Nat} (hi:i<n):w.frozen? ⟨g,i,none⟩=false:=by
 obtain ⟨hn,hh,h⟩:=h
 have:¬ cs.size≤i:=tZ1
 simp [World.frozen?,h,this]
theorem RowM.set_ (h:RowM w g t n cs) (i:Nat) (u:Value):RowM (w.setCell ⟨g,i,none⟩ u) g t n (cs.setIfInBounds i u):=by
 obtain ⟨hn,hh,h⟩:=h
 refine ⟨by simpa using hn,hh,?_⟩
 simp [World.setCell,Array.getElem?_modify,h]
theorem RowM.below {B:Nat} (h:RowM w g t n cs) (hb:Below B w w') (hg:g<B):RowM w' g t n cs:=⟨h.1,h.2.choose,(hb.block g hg).trans h.2.choose_spec⟩
theorem RowM.reads (h:RowM w g t n cs) (b z:List UInt8) (hc:cs=(bts (b++z)).toArray) (hn:b.length=n):Reads w (g+1) 1 (some ⟨g,0,none⟩) n (bts b):=by
 refine ⟨by rw [bts_length];omega,fun _=>⟨_,rfl,Nat.lt_succ_self _,?_⟩⟩
 intro j u hu
 rw [addr_add0,h.cell j,hc,zF,bts_append,List.getElem?_append_left (List.getElem?_eq_some_iff.1 hu).1]
 exact hu
end
end Go.Proofs.YtcgclpcocdappaaGreatDoor
namespace Go.Proofs.YtcgclpcocdappaaGreatDoor
open Go.RowKit
theorem Tryz.cloneG_info:(Tryz.prog.info? 147).map (fun i=>(i.zero,i.size,i.bytes))=some (some (.agg #[.string ByteArray.empty,.string ByteArray.empty,.int .i64 0]),3,40):=tZ2
set_option maxRecDepth 100000 in
theorem cloneG_any (xs:List Value) (n:Nat) (A:Option Addr) (c:Nat) (w:World) (B:Nat) (hr:Reads w B 3 A n xs) (hB:B≤w.heap.size) (h1:∀ u∈xs,u.oneCell'=true) (hn:n*40≤140737488355328) :
  Calls Tryz.prog 110 #[.slice A n c] w fun e w'=>∃ v,e=.returned v∧w'.ownsRow w.heap.size 147 3 v n xs∧Below w.heap.size w w':=by
 obtain ⟨i0,hi0,hz0,hz1,hz2⟩:=info_parts Tryz.cloneG_info
 rcases A with _ | ad
 ·obtain rfl:n=0:=by
   exact mZ14
  obtain rfl:xs=[]:=List.eq_nil_of_length_eq_zero tZ87
  have heq:=fun W=>Lib.run_eql_slice_nil (P:=Tryz.prog) W 23 147 none 0 c 0 0 Tryz.underlying23
  go_enter Tryz.func110,Tryz.ntmps110
  exact mZ13
 ·have heq:=fun W=>Lib.run_eql_slice_nil (P:=Tryz.prog) W 23 147 (some ad) n c 0 0 Tryz.underlying23
  have hown:(w.alloc (.cells #[] 147)).ownsRow w.heap.size 147 3 (.slice (some ⟨w.heap.size,0,none⟩) 0 0) 0 []:=World.ownsRow_made w #[] 0 (Nat.le_refl _) tZ107 rfl
  have hra:=hr.alloc hB (.cells #[] 147)
  go_enter Tryz.func110,Tryz.ntmps110
  go_wp2_with (at_builtin;(refine wpList_append_any _ rfl (.tmp 5) (.tmp 6) _ rfl w.heap.size 147 i0 _ 3 40 Tryz.underlying23 hi0 hz0 hz1 hz2 rfl tZ1 (.slice (some ⟨w.heap.size,0,none⟩) 0 0) 0 [] rfl hown B (some ad) n c xs rfl hra h1 tZ9 tZ1 tZ3 ?_);intro v1 w2 hown1 hg1 hat1)
  exact mZ12
end Go.Proofs.YtcgclpcocdappaaGreatDoor
namespace Go.Proofs.YtcgclpcocdappaaGreatDoor
open Go.RowKit
theorem Tryz.cloneP_info:(Tryz.prog.info? 78).map (fun i=>(i.zero,i.size,i.bytes))=some (some (.agg #[.string ByteArray.empty,.string ByteArray.empty]),2,32):=tZ2
set_option maxRecDepth 100000 in
theorem cloneP_any (xs:List Value) (n:Nat) (A:Option Addr) (c:Nat) (w:World) (B:Nat) (hr:Reads w B 2 A n xs) (hB:B≤w.heap.size) (h1:∀ u∈xs,u.oneCell'=true) (hn:n*32≤140737488355328) :
  Calls Tryz.prog 46 #[.slice A n c] w fun e w'=>∃ v,e=.returned v∧w'.ownsRow w.heap.size 78 2 v n xs∧Below w.heap.size w w':=by
 obtain ⟨i0,hi0,hz0,hz1,hz2⟩:=info_parts Tryz.cloneP_info
 exact mZ16
end Go.Proofs.YtcgclpcocdappaaGreatDoor
namespace Go.Proofs.YtcgclpcocdappaaGreatDoor
open Go.RowKit
abbrev BS:=List UInt8
/-! ### Records -/
abbrev PL:=List (BS×BS)
def valB (s:BS):Bool:=decide (s.length≤32) && s.all fun c=>decide (32≤c) && decide (c≤126)
def propsFrom:Option BS→PL→Bool
 | _,[]=>true
 | p,x :: l=>nameB x.1 && valB x.2 && (match p with | none=>true | some q=>Op.bytesLess q x.1) && propsFrom (some x.1) l
def propsB (l:PL):Bool:=decide (l.length≤8) && propsFrom none l
def smZ (s:Sm):Bool:=decide (s.a=0∧s.b=0∧s.c=0∧s.d=0)
def amt (n:Int) (least:Int):Bool:=decide (least≤n) && decide (n≤1099511627776)
/-! ### A record that may be -/
theorem propsFrom_small (o:Option BS) (l:PL) (h:propsFrom o l=true):∀ x∈l,nameB x.1=true∧valB x.2=true:=by
 induction l generalizing o with
 | nil=>intro x hx;cases hx
 | cons y l ih =>
  unfold propsFrom at h
  simp only [Bool.and_eq_true] at h
  intro x hx
  rcases List.mem_cons.1 hx with rfl | hx
  ·exact ⟨h.1.1.1,h.1.1.2⟩
  ·exact ih _ h.2 x hx
theorem nameB_len (s:BS) (h:nameB s=true):s.length≤16:=by
 unfold nameB at h
 simp only [Bool.and_eq_true,decide_eq_true_eq] at h
 exact h.1.2
theorem valB_len (s:BS) (h:valB s=true):s.length≤32:=by
 unfold valB at h
 simp only [Bool.and_eq_true,decide_eq_true_eq] at h
 exact h.1
end Go.Proofs.YtcgclpcocdappaaGreatDoor
