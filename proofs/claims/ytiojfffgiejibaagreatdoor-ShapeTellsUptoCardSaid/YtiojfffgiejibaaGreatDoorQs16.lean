/-
  The frame of every law of this seat: from a contract 'returns true, below the old heap nothing has turned' to the row's post. tree.odd; slices.IndexFunc and ContainsFunc at entries: by their contracts. A wide store into a block that has been made before.
-/
import Derived.Test.YtiojfffgiejibaaGreatDoorQsM1
import Derived.Test.YtiojfffgiejibaaGreatDoorRows
import Derived.ProofKit
import Derived.OpenShut
import Derived.ShutString
import Derived.ChangeOld
import Derived.Carry
import Derived.SizedLaws
import Derived.JoinedCond
import Derived.Deep.CondSized
import Derived.Deep.Slices
import Derived.Deep.Fields
import Derived.Lib.SmallJoins
import Derived.WalkKit
import Derived.WalkSpells
import Derived.Below
import Derived.Laws.OwnMore
import Derived.Deep.AppendLies
import Derived.Deep.Draws
import Derived.Laws.Rows
import Derived.Maps.AppendAt
import Derived.RegionTactic
import Derived.OwnWalk
import Derived.Deep.QuietTactic
import Derived.BigQuiet
import Derived.Lib.Hide
import Derived.Laws.CopyOwn
import Derived.IntWalk
import Derived.Handy
import Derived.Deep.Quiet
import Derived.Orders
import Derived.Lib.SplitLaws
import Derived.Lib.LastIndexByte
import Derived.Lib.Strings
import Derived.Sort.Walk0
import Derived.Sort.KeysCollected
import Derived.Shelf.Strings.Search1
import Derived.Shelf.Strings.Search2
import Derived.Shelf.Strings.Search3
import Derived.Shelf.Strings.Cut
import Derived.Shelf.Strings.Count
import Derived.Shelf.LaysM
import Derived.Shelf.Strings.Shaped
import Derived.Shelf.Strings.LastIndex
import Derived.Shelf.Strings.Split
import Derived.Shelf.Strings.SplitShaped
import Derived.Shelf.Unicode.Decode
import Derived.Shelf.Strings.RuneCount
import Derived.Shelf.Strings.Explode
import Derived.Shelf.Unicode.DecodeSlow
import Derived.Shelf.Slices.Turned
import Derived.Test.YtiojfffgiejibaaGreatDoorProg
import Derived.Laws.BytesString
import Derived.Laws.IdiomStrings
import Derived.Lib.ConvBytes
import Derived.Deep.MidRow
import Derived.Test.YtiojfffgiejibaaGreatDoorQ0
import Derived.Test.YtiojfffgiejibaaGreatDoorQs1
import Derived.Test.YtiojfffgiejibaaGreatDoorQs2
import Derived.Test.YtiojfffgiejibaaGreatDoorQs3
import Derived.Test.YtiojfffgiejibaaGreatDoorQs5
import Derived.Test.YtiojfffgiejibaaGreatDoorQs7
import Derived.Test.YtiojfffgiejibaaGreatDoorQs10
import Derived.Test.YtiojfffgiejibaaGreatDoorQs11
namespace Go.Proofs.YtiojfffgiejibaaGreatDoor
open Go.ChangeShapes Go.WideShapes Go.ChangeAt Go.RowKit Go.Deep Go.Joins
open Go.ChangeMaps (open_string shut_string)
theorem Tryz.own:ownKnob Tryz.prog.godebug=none:=tZ2
theorem Tryz.laidOut:laidOutB Tryz.prog=true:=tZ2
section
variable {H:Type} {enc:TypeId×Value→H} {P:Program}
/-- may these types be read, one by one? -/
def readables (P:Program) (ts:List TypeId):Bool:=ts.all fun t=>P.readableRec t && decide (t<P.types.size)
theorem trodAll_below (hl:laidOutB P=true) {W W':World} (hb:Below W.heap.size W W') (ts:List TypeId):∀ (vs:List Value) (ds:List (DataW H)) (p:List MemPlace),readables P ts=true →
  DataW.TrodAll enc P W 0 (fun _=>true) true ts vs ds p→(∀ x∈p,x.block<W.heap.size)→DataW.TrodAll enc P W' 0 (fun b=>decide (b<W.heap.size)) true ts vs ds p:=by
 induction ts with
 | nil =>
  intro vs ds p _ h _
  match vs,ds with
  | [],[]=>exact h
  | [],_ :: _=>exact h.elim
  | _ :: _,[]=>exact h.elim
  | _ :: _,_ :: _=>exact h.elim
 | cons t ts ih =>
  intro vs ds p hr h hlt
  match vs,ds with
  | v :: vs,d :: ds =>
   obtain ⟨p1,q,h1,h2,rfl⟩:=h
   simp only [readables,List.all_cons,Bool.and_eq_true,decide_eq_true_eq] at hr
   exact ⟨p1,q,Below.trod hl hr.1.1 hr.1.2 h1 hb (fun x hx=>hlt x (by simp [hx])),ih vs ds q hr.2 h2 (fun x hx=>hlt x (by simp [hx])),rfl⟩
  | [],[]=>exact h.elim
  | [],_ :: _=>exact h.elim
  | _ :: _,[]=>exact h.elim
theorem trodAll_lt {W:World} (ts:List TypeId):∀ (vs:List Value) (ds:List (DataW H)) (p:List MemPlace),
  DataW.TrodAll enc P W 0 (fun _=>true) true ts vs ds p→∀ x∈p,x.block<W.heap.size:=by
 induction ts with
 | nil =>
  intro vs ds p h
  match vs,ds with
  | [],[]=>subst h;simp
  | [],_ :: _=>exact h.elim
  | _ :: _,[]=>exact h.elim
  | _ :: _,_ :: _=>exact h.elim
 | cons t ts ih =>
  intro vs ds p h
  match vs,ds with
  | v :: vs,d :: ds =>
   obtain ⟨p1,q,⟨m,hm⟩,h2,rfl⟩:=h
   intro x hx
   rcases List.mem_append.1 hx with hx | hx
   ·exact DataW.trod_lt m _ _ _ hm x hx
   ·exact ih vs ds q h2 x hx
  | [],[]=>exact h.elim
  | [],_ :: _=>exact h.elim
  | _ :: _,[]=>exact h.elim
/-- what a law's walk owes -/
def LawCalls (P:Program) (f:FuncId) (args:Array Value) (W:World):Prop:=Calls P f args W fun e w'=>e=.returned (.bool true)∧Below W.heap.size W w'
theorem law_post (hl:laidOutB P=true) {s:ChangeSpec} {f:FuncId} {fn:Func} {ps:List TypeId} {tb:TypeId} (htb:P.underlying tb=some .bool) (hps:fn.params.toList=ps) (hrt:fn.resultTypes=#[tb]) (hv:s.vars=[]) (hread:readables P ps=true)
  (hspec:∀ (vs:List Value) (ds:List (DataW H)) (W:World) p,DataW.TrodAll enc P W 0 (fun _=>true) true ps vs ds p→(s.fn H ds).results=[.lit (.bool true)]∧(s.fn H ds).args=ds∧(s.fn H ds).vars=[])
  (W:World) (args:Array Value) (ds gs:List (DataW H)) (before:List MemPlace)
  (hW:DataW.Whole enc P fn.params.toList s.vars false W args.toList ds gs before) (h:LawCalls P f args W) :
  Calls P f args W fun e W'=>∃ v,e=.returned v∧s.post enc P fn false true false false W args v W':=by
 refine h.mono fun e W' ⟨he,hb⟩=>?_
 subst he
 refine ⟨_,rfl,?_⟩
 have hW0:=hW
 obtain ⟨p,q,hA,hV,rfl,hfz,hnd⟩:=hW
 rw [hv] at hV
 obtain ⟨rfl,rfl⟩:=trodVars_none hV
 rw [hps] at hA
 have hs:=hspec _ _ _ _ hA
 refine ⟨ds,[],p++[],[],p,[],hW0,?_,?_,?_,hb.frame _,fun h=>by cases h⟩
 ·rw [List.append_nil,hs.1,hrt]
  exact trodAll_mk1 (shut_bool htb _)
 ·rw [List.append_nil,hs.2.1,hps]
  exact trodAll_below hl hb _ _ _ _ hread hA (trodAll_lt _ _ _ _ hA)
 ·rw [List.append_nil,hs.2.2,hv]
  rfl
/-- one argument as the form hands it over -/
structure ArgIn (enc:TypeId×Value→H) (P:Program) (W:World) (t:TypeId) (v:Value) (d:DataW H):Prop where
 ok:∃ base,Value.okWide P W .any base t v
 rd:∃ p,DataW.Trod enc P W 0 (fun _=>true) true t v d p
 wt:∀ n∈d.weights P t,n≤reachBytes
def ArgsIn (enc:TypeId×Value→H) (P:Program) (W:World):List TypeId→List Value→List (DataW H)→Prop
 | [],[],[]=>True
 | t :: ts,v :: vs,d :: ds=>ArgIn enc P W t v d∧ArgsIn enc P W ts vs ds
 | _,_,_=>False
theorem argsIn {W:World} {base:Nat} (ts:List TypeId):∀ (vs:List Value) (ds:List (DataW H)) (p:List MemPlace),DataW.TrodAll enc P W 0 (fun _=>true) true ts vs ds p →
  (∀ (j:Nat) t v,ts[j]?=some t→vs[j]?=some v→Value.okWide P W .any base t v)→(∀ n∈DataW.weightsEach P ts ds,n≤reachBytes)→ArgsIn enc P W ts vs ds:=by
 induction ts with
 | nil =>
  intro vs ds p h _ _
  match vs,ds with
  | [],[]=>trivial
  | [],_ :: _=>exact h.elim
  | _ :: _,[]=>exact h.elim
  | _ :: _,_ :: _=>exact h.elim
 | cons t ts ih =>
  intro vs ds p h hok hw
  match vs,ds with
  | v :: vs,d :: ds =>
   obtain ⟨p1,q,h1,h2,rfl⟩:=h
   simp only [DataW.weightsEach] at hw
   exact ⟨⟨⟨base,hok 0 t v rfl rfl⟩,⟨p1,h1⟩,fun n hn=>hw n (List.mem_append_left _ hn)⟩,ih vs ds q h2 (fun j t v hj hv=>hok (j+1) t v (by simpa using hj) (by simpa using hv)) (fun n hn=>hw n (List.mem_append_right _ hn))⟩
  | [],[]=>exact h.elim
  | [],_ :: _=>exact h.elim
  | _ :: _,[]=>exact h.elim
/-- THE LAW's CONTRACT, as both builders ask it -/
theorem law_contract (hl:laidOutB P=true) {s:ChangeSpec} {f:FuncId} {fn:Func} {ps:List TypeId} {tb:TypeId} (htb:P.underlying tb=some .bool) (hps:fn.params.toList=ps) (hrt:fn.resultTypes=#[tb]) (hv:s.vars=[]) (hread:readables P ps=true)
  (hspec:∀ (vs:List Value) (ds:List (DataW H)) (W:World) p,DataW.TrodAll enc P W 0 (fun _=>true) true ps vs ds p→(s.fn H ds).results=[.lit (.bool true)]∧(s.fn H ds).args=ds∧(s.fn H ds).vars=[])
  (W:World) (base:Nat) (args:Array Value) (ds gs:List (DataW H)) (before:List MemPlace)
  (hval:∀ (j:Nat) t v,fn.params[j]?=some t→args[j]?=some v→Value.okWide P W .any base t v)
  (hW:DataW.Whole enc P fn.params.toList s.vars false W args.toList ds gs before)
  (hsz:(DataW.weightsEach P (fn.params.toList++s.plain.varTypes P) (ds++gs)).all (·≤reachBytes)=true)
  (h:ArgsIn enc P W ps args.toList ds→gs=[]→LawCalls P f args W) :
  Calls P f args W fun e W'=>∃ v,e=.returned v∧s.post enc P fn false true false false W args v W':=by
 refine law_post hl htb hps hrt hv hread hspec W args ds gs before hW ?_
 obtain ⟨p,q,hA,hV,_⟩:=hW
 have hvt:s.plain.varTypes P=[]:=by simp [ChangeSpec.plain,DataSpec.varTypes,hv]
 rw [hv] at hV
 obtain ⟨rfl,rfl⟩:=trodVars_none hV
 rw [hps] at hA hsz
 rw [hvt,List.append_nil,List.append_nil] at hsz
 refine h (argsIn (base:=base) _ _ _ _ hA ?_ ?_) rfl
 ·intro j t v hj hv
  refine hval j t v ?_ ?_
  ·rw [← hps] at hj;simpa using hj
  ·simpa using hv
 ·intro n hn
  simpa using List.all_eq_true.1 hsz n hn
theorem argsIn_cons {W:World} {t:TypeId} {ts:List TypeId} {vs:List Value} {ds:List (DataW H)} (h:ArgsIn enc P W (t :: ts) vs ds):∃ v vs' d ds',vs=v :: vs'∧ds=d :: ds'∧ArgIn enc P W t v d∧ArgsIn enc P W ts vs' ds':=by
 match vs,ds with
 | v :: vs,d :: ds=>exact ⟨v,vs,d,ds,rfl,rfl,h.1,h.2⟩
 | [],[]=>exact h.elim
 | [],_ :: _=>exact h.elim
 | _ :: _,[]=>exact h.elim
theorem argsIn_nil {W:World} {vs:List Value} {ds:List (DataW H)} (h:ArgsIn enc P W [] vs ds):vs=[]∧ds=[]:=by
 match vs,ds with
 | [],[]=>exact ⟨rfl,rfl⟩
 | _ :: _,_ :: _=>exact h.elim
 | [],_ :: _=>exact h.elim
 | _ :: _,[]=>exact h.elim
/-! ### Opening arguments -/
section
variable {W:World} {t:TypeId} {v:Value} {d:DataW H}
theorem ArgIn.int {k:IntKind} (ht:P.underlying t=some (.int k)) (h:ArgIn enc P W t v d):∃ n,v=.int k n∧(Lit.int k n).wf=true:=by
 obtain ⟨⟨base,ho⟩,⟨p,hr⟩,_⟩:=h
 obtain ⟨n,hv,_,_,hw⟩:=open_int ht ho hr
 exact ⟨n,hv,hw⟩
theorem ArgIn.bool (ht:P.underlying t=some .bool) (h:ArgIn enc P W t v d):∃ n,v=.bool n:=by
 obtain ⟨⟨base,ho⟩,⟨p,hr⟩,_⟩:=h
 obtain ⟨n,hv,_⟩:=open_bool ht ho hr
 exact ⟨n,hv⟩
theorem ArgIn.string (ht:P.underlying t=some .string) (h:ArgIn enc P W t v d):∃ s:ByteArray,v=.string s∧s.size≤140737488351232∧d=.lit (.string s.data.toList):=by
 obtain ⟨⟨base,ho⟩,⟨p,hr⟩,hw⟩:=h
 obtain ⟨s,hv,rfl,_,_⟩:=open_string ht ho hr
 refine ⟨s,hv,?_,rfl⟩
 have:=hw s.data.toList.length (by simp [DataW.weights])
 simp only [reachBytes] at this
 simpa using this
theorem ArgIn.bytes {e:TypeId} (ht:P.underlying t=some (.slice e)) (he:P.underlying e=some (.int .u8)) (hc:P.cellsOf e=1) (hb:P.bytesOf e=1) (h:ArgIn enc P W t v d) :
  ∃ (A:Option Addr) (b:List UInt8) (c:Nat),v=.slice A b.length c∧b.length≤c∧c≤140737488351232∧Reads W W.heap.size 1 A b.length (bts b)∧(d=.nil∧b=[]∨∃ sp,d=.slice (b.map fun x=>.lit (.int .u8 (x.toNat:Int))) sp):=by
 obtain ⟨⟨base,ho⟩,⟨p,m,hr⟩,hw⟩:=h
 obtain ⟨A,n,c,rfl⟩:=okWide_slice ht ho
 rcases open_ints ht he hc hr with ⟨hcs,hx⟩ | ⟨x,l,cc,zs,hcs,_,hl,hm,hz,hx,hcell,hwz⟩
 ·simp [Value.cells] at hcs
  obtain ⟨rfl,rfl,rfl⟩:=hcs
  simp at hx
  exact ⟨none,[],0,rfl,Nat.le_refl _,by omega,Reads.none_,.inl ⟨hx.1,rfl⟩⟩
 ·simp [Value.cells] at hcs
  obtain ⟨rfl,rfl,rfl⟩:=hcs
  simp only [Prod.mk.injEq] at hx
  have hz':zs.length=c:=by simpa using hz
  have hcb:c≤140737488351232:=by
   have:=hw ((lits (H:=H) .u8 (zs.take n)).length+(lits (H:=H) .u8 (zs.drop n)).length) (by rw [hx.1];simp [DataW.weights,ht,hb])
   simp only [reachBytes,lits,List.length_map,List.length_take,List.length_drop] at this
   omega
  have hbyte:∀ z∈zs,((UInt8.ofNat z.toNat).toNat:Int)=z:=by
   intro z hzm
   have:=hwz z hzm
   simp [Lit.wf,IntKind.min,IntKind.max,IntKind.signed,IntKind.bits] at this
   rw [UInt8.toNat_ofNat_of_lt' (by show z.toNat<256;omega)]
   omega
  have hlen:((zs.take n).map fun z=>UInt8.ofNat z.toNat).length=n:=tZ7
  have hget:∀ i u,(bts ((zs.take n).map fun z=>UInt8.ofNat z.toNat))[i]?=some u→i<n∧u=.int .u8 (zs.getD i 0):=by
   intro i u hu
   have hi:i<n:=by
    have h1:=(List.getElem?_eq_some_iff.1 hu).1
    rw [bts_length,hlen] at h1
    exact h1
   refine ⟨hi,?_⟩
   have hzi:i<zs.length:=tZ1
   simp [bts,hi,List.getElem?_eq_getElem hzi] at hu
   rw [← hu]
   have:=hbyte zs[i] (List.getElem_mem hzi)
   simp at this
   simp [List.getD_eq_getElem?_getD,List.getElem?_eq_getElem hzi,this]
  refine ⟨some x,(zs.take n).map fun z=>UInt8.ofNat z.toNat,c,by rw [hlen],by omega,hcb,⟨by rw [bts_length];simp,fun hn=>⟨x,rfl,?_,?_⟩⟩,.inr ⟨lits .u8 (zs.drop n),?_⟩⟩
  ·have h0:0<zs.length:=by rw [hlen] at hn;omega
   have:=World.block_lt_of_cell? W _ (hcell 0 h0)
   rwa [block_of_add] at this
  ·intro i u hu
   obtain ⟨hi,rfl⟩:=hget i u hu
   exact hcell i tZ1
  ·rw [hx.1]
   simp only [lits,List.map_map]
   congr 1
   apply List.map_congr_left
   intro z hzm
   show _=DataW.lit (Lit.int .u8 ((UInt8.ofNat z.toNat).toNat:Int))
   rw [hbyte z (List.mem_of_mem_take hzm)]
end
end
end Go.Proofs.YtiojfffgiejibaaGreatDoor
namespace Go.Proofs.YtiojfffgiejibaaGreatDoor
open Go.RowKit
def entryP (us:BS) (kd:Int) (pa:BS) (er:Int):Bool:=(us == [] || nameB us) && pathB pa && amt kd 0 && amt er 0
theorem entryB_P (x:EntryR):entryB x=entryP x.user x.kind x.path x.err:=rfl
set_option maxRecDepth 100000 in
set_option maxHeartbeats 2000000 in
theorem odd14_any (us:BS) (kd:Int) (pa:BS) (er:Int) (w:World) (hpa:pa.length≤4000000000) (hmx:HasMax w) :
  Calls Tryz.prog 110 #[.agg #[.string ⟨us.toArray⟩,.int .i64 kd,.string ⟨pa.toArray⟩,.int .i64 er]] w fun e w'=>e=.returned (.bool (!(entryP us kd pa er)))∧Below w.heap.size w w':=by
 have hb1:=(Below.refl w.heap.size w).alloc (Nat.le_refl _) (.cells #[.string ⟨us.toArray⟩,.int .i64 kd,.string ⟨pa.toArray⟩,.int .i64 er] 106)
 have kT:=Blk.new w 106 #[.string ⟨us.toArray⟩,.int .i64 kd,.string ⟨pa.toArray⟩,.int .i64 er]
 obtain ⟨W1,hW1⟩:∃ W,W=w.alloc (.cells #[.string ⟨us.toArray⟩,.int .i64 kd,.string ⟨pa.toArray⟩,.int .i64 er] 106):=⟨_,rfl⟩
 have hsz1:W1.heap.size=w.heap.size+1:=tZ32
 rw [← hW1] at hb1 kT
 have hT:=Lib.hid (fun (W':World) (hB':Below W1.heap.size W1 W')=>(⟨(kT.below hB' tZ1).cell 0,(kT.below hB' tZ1).cell 1,(kT.below hB' tZ1).cell 2,(kT.below hB' tZ1).cell 3⟩:W'.cell? ⟨w.heap.size,0,none⟩=some (.string ⟨us.toArray⟩)∧W'.cell? ⟨w.heap.size,1,none⟩=some (.int .i64 kd)∧W'.cell? ⟨w.heap.size,2,none⟩=some (.string ⟨pa.toArray⟩)∧W'.cell? ⟨w.heap.size,3,none⟩=some (.int .i64 er)))
 have hN:Hid (∀ W,Below W1.heap.size W1 W→Calls Tryz.prog 77 #[.string ⟨us.toArray⟩] W fun e W'=>e=.returned (.bool (nameB us))∧Below W.heap.size W W'):=fun W _=>name_any ⟨us.toArray⟩ W
 have hP:Hid (∀ W,Below W1.heap.size W1 W→Calls Tryz.prog 72 #[.string ⟨pa.toArray⟩] W fun e W'=>e=.returned (.bool (pathB pa))∧Below W.heap.size W W'):=fun W hb=>path_any ⟨pa.toArray⟩ W tZ144 (hmx.below (hb1.trans (hb.mono tZ1)))
 have hA0:Hid (∀ W,Below W1.heap.size W1 W→Calls Tryz.prog 105 #[.int .i64 kd,.int .i64 0] W fun e W'=>e=.returned (.bool (amt kd 0))∧Below W.heap.size W W'):=fun W _=>amountB_any kd 0 W
 have hA1:Hid (∀ W,Below W1.heap.size W1 W→Calls Tryz.prog 105 #[.int .i64 er,.int .i64 0] W fun e W'=>e=.returned (.bool (amt er 0))∧Below W.heap.size W W'):=fun W _=>amountB_any er 0 W
 have HV:Hid ((!(entryP us kd pa er))=!((us == [] || nameB us) && (pathB pa && (amt kd 0 && amt er 0)))):=by
  show _=_
  unfold entryP
  simp only [Bool.and_assoc]
 obtain ⟨V,hV⟩:∃ V,V=(!(entryP us kd pa er)):=⟨_,rfl⟩
 obtain ⟨bN,hbN⟩:∃ V,V=nameB us:=⟨_,rfl⟩
 obtain ⟨bP,hbP⟩:∃ V,V=pathB pa:=⟨_,rfl⟩
 obtain ⟨bA,hbA⟩:∃ V,V=amt kd 0:=⟨_,rfl⟩
 obtain ⟨bX,hbX⟩:∃ V,V=amt er 0:=⟨_,rfl⟩
 rw [← hV] at HV ⊢
 rw [← hbN] at HV hN
 rw [← hbP] at HV hP
 rw [← hbA] at HV hA0
 rw [← hbX] at HV hA1
 have HB1:=Lib.hid hb1
 have HSZ1:=Lib.hid hsz1
 clear hV hbN hbA hbP hbX hb1 hsz1 kT
 have hW0:=Below.refl W1.heap.size W1
 by_cases hu:us=[]
 ·subst hu
  have HV:Hid (V=!(true && (bP && (bA && bX)))):=tZ10
  go_enter Tryz.func110,Tryz.ntmps110
  have hc:=hP.out _ hW0
  cases bP with
  | false =>
   exact mZ105
  | true =>
   go_wp2_with fail
   rw [← hW1]
   refine hc.mono ?_
   clear hc
   rintro e w11 ⟨rfl,hbw11⟩
   have hWw11:=hW0.trans (hbw11.mono hW0.size)
   clear hbw11
   obtain ⟨t0,t1,t2,t3⟩:=hT.out _ hWw11
   have hc:=hA0.out _ hWw11
   cases bA with
   | false =>
    exact mZ106
   | true =>
    go_wp2_with fail
    refine hc.mono ?_
    clear hc
    rintro e w12 ⟨rfl,hbw12⟩
    have hWw12:=hWw11.trans (hbw12.mono hWw11.size)
    clear hbw12
    obtain ⟨t0,t1,t2,t3⟩:=hT.out _ hWw12
    have hc:=hA1.out _ hWw12
    cases bX with
    | false =>
     exact mZ107
    | true =>
     exact mZ110
 ·have hu1:(us == [])=false:=by simpa using hu
  have hu2:us.isEmpty=false:=by cases us <;> simp_all
  have HV:Hid (V=!(bN && (bP && (bA && bX)))):=tZ145
  clear hu
  go_enter Tryz.func110,Tryz.ntmps110
  have hc:=hN.out _ hW0
  cases bN with
  | false =>
   exact mZ105
  | true =>
   go_wp2_with fail
   rw [← hW1]
   refine hc.mono ?_
   clear hc
   rintro e w11 ⟨rfl,hbw11⟩
   have hWw11:=hW0.trans (hbw11.mono hW0.size)
   clear hbw11
   obtain ⟨t0,t1,t2,t3⟩:=hT.out _ hWw11
   have hc:=hP.out _ hWw11
   cases bP with
   | false =>
    exact mZ106
   | true =>
    go_wp2_with fail
    refine hc.mono ?_
    clear hc
    rintro e w12 ⟨rfl,hbw12⟩
    have hWw12:=hWw11.trans (hbw12.mono hWw11.size)
    clear hbw12
    obtain ⟨t0,t1,t2,t3⟩:=hT.out _ hWw12
    have hc:=hA0.out _ hWw12
    cases bA with
    | false =>
     exact mZ107
    | true =>
     go_wp2_with fail
     refine hc.mono ?_
     clear hc
     rintro e w13 ⟨rfl,hbw13⟩
     have hWw13:=hWw12.trans (hbw13.mono hWw12.size)
     clear hbw13
     obtain ⟨t0,t1,t2,t3⟩:=hT.out _ hWw13
     have hc:=hA1.out _ hWw13
     cases bX with
     | false =>
      exact mZ108
     | true =>
      exact mZ109
set_option maxRecDepth 100000 in
set_option maxHeartbeats 1000000 in
theorem fiEnt_index {α:Type} (f0 f1 f2 f3:α→Value) (p:α→Bool) (l:List α) (n:Nat) (hnl:n=l.length) (A:Option Addr) (c:Nat) (Keep:World→Prop) (w:World) (B:Nat)
  (hr:Reads w B 4 A n (cellsK (fun x=>[f0 x,f1 x,f2 x,f3 x]) l)) (hB:B≤w.heap.size) (hn:n≤5000000000000) (hp:PredK Tryz.prog 110 #[] (fun x=>#[f0 x,f1 x,f2 x,f3 x]) (·∈l) p Keep) (hk0:Keep w) :
  Calls Tryz.prog 150 #[.slice A n c,.func (.func 110) #[] #[]] w fun e w'=>e=.returned (.int .i64 (firstI p l))∧Below w.heap.size w w':=by
 have HN:=Lib.hid hnl
 have HP:=Lib.hid hp
 clear hnl hp
 go_enter Tryz.func150,Tryz.ntmps150
 go_wp2_with fail
 go_loopw [8] (fun j wr=>∃ k:Nat,k≤n∧j=.int .i64 (k:Int)∧Hid (∀ y∈l.take k,p y=false)∧Below w.heap.size w wr∧Keep wr) (fun j _=>n-(intOf j).toNat)
 case atStart=>exact ⟨0,Nat.zero_le _,rfl,(show ∀ y∈_,_ by simp),Below.refl _ _,hk0⟩
 case round =>
  obtain ⟨k,hk,rfl,hno,hbw,hkw⟩:=hrel
  by_cases hlt:k<n
  ·have hki:(k:Int)<(n:Int):=tZ1
   have hkl:k<l.length:=tZ9
   obtain ⟨ad,rfl,_,c0,c1,c2,c3⟩:=(hr.below (hbw.mono hB)).el4 HN.out hlt
   obtain ⟨x,hx⟩:∃ x,x=l[k]'hkl:=⟨_,rfl⟩
   rw [← hx] at c0 c1 c2 c3
   exact mZ36
  ·have hkn:k=n:=tZ1
   have HF:Hid (firstI p l=-1):=by
    show _=_
    unfold firstI
    rw [firstP_none p l (fun y hy=>hno.out y (by rw [List.take_of_length_le tZ14];exact hy)),if_neg (Nat.lt_irrefl _)]
   clear hr hkn
   exact mZ2
set_option maxRecDepth 100000 in
theorem oddLog_any (l:List EntryR) (n:Nat) (hnl:n=l.length) (A:Option Addr) (c:Nat) (w:World) (B:Nat) (hr:Reads w B 4 A n (cellsK encEntry l)) (hB:B≤w.heap.size) (hn:n≤1000000000000) (hv:∀ y∈l,y.sz) (hmx:HasMax w) :
  Calls Tryz.prog 109 #[.slice A n c,.func (.func 110) #[] #[]] w fun e w'=>e=.returned (.bool (!(l.all entryB)))∧Below w.heap.size w w':=by
 have HC:=Lib.hid (fiEnt_index (fun x:EntryR=>.string ⟨x.user.toArray⟩) (fun x=>.int .i64 x.kind) (fun x=>.string ⟨x.path.toArray⟩) (fun x=>.int .i64 x.err) (fun x=>!(entryB x)) l n hnl A c HasMax w B hr hB tZ1
  ⟨fun x W hx hm=>odd14_any x.user x.kind x.path x.err W (hv x hx).path hm,fun W W' hm hb=>hm.below hb⟩ hmx)
 have HA:Hid (decide ((0:Int)≤firstI (fun x=>!(entryB x)) l)=!(l.all entryB)):=by
  show _=_
  rw [firstI_any,List.all_eq_not_any_not,Bool.not_not]
 clear hnl hr hv
 go_enter Tryz.func109,Tryz.ntmps109
 go_wp2_with fail
 refine HC.out.mono ?_
 exact mZ7
end Go.Proofs.YtiojfffgiejibaaGreatDoor
namespace Go.Proofs.YtiojfffgiejibaaGreatDoor
open Go.RowKit
theorem Blk.setCells {g:Nat} {t:TypeId} (cs:List Value):∀ (w:World) (pre post:List Value),post.length=cs.length→Blk w g t (pre++post).toArray→Blk (w.setCells g pre.length cs) g t (pre++cs).toArray:=by
 induction cs with
 | nil =>
  intro w pre post h hb
  rw [List.eq_nil_of_length_eq_zero h] at hb
  exact hb
 | cons v cs ih =>
  intro w pre post h hb
  cases post with
  | nil=>simp at h
  | cons p post =>
   have h1:=hb.set_ pre.length v
   rw [show (pre++p :: post).toArray.setIfInBounds pre.length v=((pre++[v])++post).toArray by simp [List.set_append_right]] at h1
   have:=ih (w.setCell ⟨g,pre.length,none⟩ v) (pre++[v]) post tZ50 h1
   rw [List.length_append] at this
   rw [show pre++v :: cs=pre++[v]++cs by simp]
   exact this
theorem below_setCells {B g:Nat} {a:World} (hg:B≤g) (cs:List Value):∀ (w:World) (o:Nat),Below B a w→Below B a (w.setCells g o cs):=by
 induction cs with
 | nil=>intro w o h;exact h
 | cons v cs ih=>intro w o h;exact ih _ _ (h.setCell (p:=⟨g,o,none⟩) hg v)
theorem Blk.there {w:World} {g:Nat} {t:TypeId} {cs:Array Value} (h:Blk w g t cs) (n:Nat) (hn:n≤cs.size):w.there g 0 n:=by
 intro j hj
 rw [Nat.zero_add]
 exact ⟨by rw [h.cell j];simp;omega,h.frozen j⟩
end Go.Proofs.YtiojfffgiejibaaGreatDoor
