/-
  A wide struct: loaded, and stored into a block that has just been made, all its cells at once. names.Parent and names.Split, by their contracts. A region that draws its order, by an invariant: each operation is looked at once, whatever the order.
-/
import Derived.Deep.MidRow
import Derived.WalkKit
import Derived.WalkSpells
import Derived.Below
import Derived.Laws.OwnMore
import Derived.Deep.AppendLies
import Derived.Deep.Draws
import Derived.Laws.Rows
import Derived.Maps.AppendAt
import Derived.RegionTactic
import Derived.OwnWalk
import Derived.Deep.QuietTactic
import Derived.BigQuiet
import Derived.Lib.Hide
import Derived.Laws.CopyOwn
import Derived.IntWalk
import Derived.ShutString
import Derived.Lib.SplitLaws
import Derived.Lib.LastIndexByte
import Derived.Lib.Strings
import Derived.Test.YtcgclpcocdappaaGreatDoorRows
import Derived.Handy
import Derived.Shelf.Strings.Search1
import Derived.Shelf.Strings.Search2
import Derived.Shelf.Strings.Search3
import Derived.Shelf.Strings.Cut
import Derived.Shelf.Strings.Count
import Derived.Shelf.LaysM
import Derived.Shelf.Strings.Shaped
import Derived.Shelf.Strings.LastIndex
import Derived.Shelf.Strings.Split
import Derived.Shelf.Strings.SplitShaped
import Derived.Shelf.Unicode.Decode
import Derived.Shelf.Strings.RuneCount
import Derived.Shelf.Strings.Explode
import Derived.Shelf.Unicode.DecodeSlow
import Derived.Test.YtcgclpcocdappaaGreatDoorProg
import Derived.Laws.BytesString
import Derived.Laws.IdiomStrings
import Derived.Lib.ConvBytes
import Derived.Orders
import Derived.Test.YtcgclpcocdappaaGreatDoorJ0
import Derived.Test.YtcgclpcocdappaaGreatDoorJbkv1
import Derived.Test.YtcgclpcocdappaaGreatDoorJbkv2
import Derived.Test.YtcgclpcocdappaaGreatDoorJbkv5
import Derived.Test.YtcgclpcocdappaaGreatDoorJbkv6
namespace Go.Proofs.YtcgclpcocdappaaGreatDoor
open Go.RowKit
theorem run_loadVar_at {P:Program} (w:World) (a:Addr) (ty:TypeId) (cs:List Value) (d:TypeDesc) (hc:∀ (j:Nat) (v:Value),cs[j]?=some v→w.cell? (a.add j)=some v)
  (hu:P.underlying ty=some d) (hd:d.isRow=true) (hi:(P.info? ty).map (·.size)=some cs.length):(loadVar ty a).run P w=.ok (.agg cs.toArray) w:=by
 have hl:(loadCells a cs.length).run P w=.ok cs.toArray w:=run_loadCells_list (P:=P) w a cs hc
 cases hq:P.info? ty with
 | none=>simp [hq] at hi
 | some i =>
  have hs:i.size=cs.length:=by simpa [hq] using hi
  have hagg:(isAgg ty).run P w=.ok true w:=by
   unfold isAgg
   rw [Sem.run_bind,run_underlying hu w]
   cases d <;> simp_all
  simp [loadVar,Sem.run_bind,hagg,sizeOf,typeInfo,hq,hs,hl]
theorem wpList_load_at {P:Program} {ops:Array Oper} {rest:List Oper} {op:Oper} {a:Act} {w:World} {Q:Exit→Act→World→Prop} (hgd:op.guard=none) (ty:TypeId) (x:Operand) (ho:op.op=.load ty x)
  (ad:Addr) (hx:a.eval x=.pointer (some ad)) (cs:List Value) (d:TypeDesc) (hc:∀ (j:Nat) (v:Value),cs[j]?=some v→w.cell? (ad.add j)=some v)
  (hu:P.underlying ty=some d) (hd:d.isRow=true) (hi:(P.info? ty).map (·.size)=some cs.length)
  (h:wpList P ops Q rest (a.put op.dst (.agg cs.toArray)) w):wpList P ops Q (op :: rest) a w:=by
 refine wpList_plain hgd fun K hK=>?_
 unfold Oper.wp execOp
 simp only [ho,hx,Instr.loadAt,Instr.sureAddr,Sem.run_bind,Sem.run_pure,Result.andThen_ok,run_loadVar_at w ad ty cs d hc hu hd hi]
 exact hK _ _ h
theorem setCell_new (w:World) (l:List Value) (t:TypeId) (i:Nat) (v:Value):(w.alloc (.cells l.toArray t)).setCell ⟨w.heap.size,i,none⟩ v=w.alloc (.cells (l.set i v).toArray t):=by
 unfold World.setCell World.alloc
 simp only
 congr 1
 apply Array.ext
 ·simp
 ·intro j h1 h2
  simp only [Array.getElem_modify,Array.getElem_push]
  by_cases hj:j<w.heap.size
  ·have hne:¬ w.heap.size=j:=by omega
   simp [hj,hne]
  ·have hje:w.heap.size=j:=by simp at h1;omega
   simp [hje]
theorem setCells_new (w:World) (t:TypeId) (cs:List Value):∀ (pre post:List Value),post.length=cs.length→(w.alloc (.cells (pre++post).toArray t)).setCells w.heap.size pre.length cs=w.alloc (.cells (pre++cs).toArray t):=by
 induction cs with
 | nil =>
  intro pre post h
  rw [List.eq_nil_of_length_eq_zero h]
  rfl
 | cons v cs ih =>
  intro pre post h
  cases post with
  | nil=>simp at h
  | cons p post =>
   show ((w.alloc _).setCell ⟨w.heap.size,pre.length,none⟩ v).setCells w.heap.size (pre.length+1) cs=_
   rw [setCell_new,show (pre++p :: post).set pre.length v=(pre++[v])++post by simp [List.set_append_right]]
   have:=ih (pre++[v]) post (by simpa using h)
   rw [List.length_append] at this
   rw [show pre.length+1=pre.length+[v].length from rfl,this]
   simp
theorem wpList_store_new {P:Program} {ops:Array Oper} {rest:List Oper} {op:Oper} {a:Act} {Q:Exit→Act→World→Prop} (w:World) (hgd:op.guard=none) (ty:TypeId) (x y:Operand) (ho:op.op=.store ty x y) (t:TypeId) (zs cs:List Value)
  (hx:a.eval x=.pointer (some ⟨w.heap.size,0,none⟩)) (hy:a.eval y=.agg cs.toArray) (hl:zs.length=cs.length) (hi:(P.info? ty).map (·.size)=some cs.length) (h1:∀ v∈cs,v.oneCell'=true)
  (h:wpList P ops Q rest (a.put op.dst undef) (w.alloc (.cells cs.toArray t))):wpList P ops Q (op :: rest) a (w.alloc (.cells zs.toArray t)):=by
 refine wpList_store_mid hgd ty x y ho w.heap.size 0 cs.toArray hx hy ?_ (by simpa using hi) (all_oneCell_toArray h1) ?_
 ·intro j hj
  have hj2:j<zs.toArray.size:=by simp at hj ⊢;omega
  have hb:=Blk.new w t zs.toArray
  rw [Nat.zero_add]
  exact ⟨by rw [hb.cell j];simp [hl];simpa using hj,hb.frozen j⟩
 ·have:=setCells_new w t cs [] zs hl
  simp only [List.nil_append,List.length_nil] at this
  rw [show cs.toArray.toList=cs from rfl,this]
  exact h
end Go.Proofs.YtcgclpcocdappaaGreatDoor
namespace Go.Proofs.YtcgclpcocdappaaGreatDoor
open Go.RowKit
set_option maxRecDepth 100000 in
theorem parent_any (s:ByteArray) (w:World) (hs:s.size≤4000000000) (hm:HasMax w) :
  Calls Tryz.prog 81 #[.string s] w fun e w'=>Below w.heap.size w w' ∧
   ((s.data.toList=[]∨pathB s.data.toList=false)∧e=.returned (.tuple #[.string ⟨#[]⟩,.bool false]) ∨
    s.data.toList≠[]∧pathB s.data.toList=true∧e=.returned (.tuple #[.string ⟨(upL s.data.toList).toArray⟩,.bool true])):=by
 have hts:=Lib.hid (toList_data s)
 go_enter Tryz.func81,Tryz.ntmps81
 go_wp2_with fail
 ·have h0:s.toList=[]:=by assumption
  rw [hts.out] at h0
  refine bodyPost_ret (v:=.tuple #[.string ⟨#[]⟩,.bool false]) (by simp [results,Tryz.results81,go_sem]) rfl ⟨Below.refl _ _,.inl ⟨.inl h0,rfl⟩⟩
 ·have h0:¬ s.toList=[]:=by assumption
  have hie:s.toList.isEmpty=false:=by simpa using h0
  rw [hts.out] at h0
  refine (path_any s w hs hm).mono ?_
  rintro e w1 ⟨rfl,hb1⟩
  obtain ⟨bs,hbs0⟩:∃ b,b=pathB s.data.toList:=⟨_,rfl⟩
  rw [← hbs0]
  simp only [hie]
  clear hie
  have hbs:=Lib.hid hbs0
  have hne:=Lib.hid h0
  have hlast:=Lib.hid (last_eq s)
  have hlb:=Lib.hid (last_bound s.data.toList)
  clear hbs0 h0
  cases bs
  ·go_wp2_with fail
   refine bodyPost_ret (v:=.tuple #[.string ⟨#[]⟩,.bool false]) (by simp [results,Tryz.results81,go_sem]) rfl ⟨hb1,.inl ⟨.inr hbs.out.symm,rfl⟩⟩
  ·go_wp2_with fail
   refine (Tryz.strings_LastIndexByte s 47 (by omega) _).mono ?_
   rintro e w2 ⟨rfl,rfl⟩
   have hm1:=Lib.hid (show max (Lib.lastIndexByte s 47) 0=(((lastS s.data.toList).getD 0:Nat):Int) from hlast.out)
   obtain ⟨k,hk⟩:∃ k,k=(lastS s.data.toList).getD 0:=⟨_,rfl⟩
   rw [← hk] at hlb hm1
   have HK:=Lib.hid hk
   have hks:k≤s.size:=by rw [Lib.size_eq];exact hlb.out
   clear hlast hlb hk
   go_wp2_with fail
   ·have hv:(s.extract 0 (max (Lib.lastIndexByte s 47) 0).toNat)=⟨(upL s.data.toList).toArray⟩:=by
     apply eq_mk
     rw [hm1.out,Lib.extract_from_zero]
     unfold upL
     rw [← HK.out]
     rfl
    refine bodyPost_ret (v:=.tuple #[.string ⟨(upL s.data.toList).toArray⟩,.bool true]) (by simp [results,Tryz.results81,go_sem,hv]) rfl ⟨hb1,.inr ⟨hne.out,hbs.out.symm,rfl⟩⟩
   ·rename_i h0
    exact absurd ⟨by omega,by rw [hm1.out];omega⟩ h0
/-- what Split answers -/
def splitV (l:List UInt8):Value:=match atL l with
 | some (p,n)=>if (pathB p && nameB n)=true then .tuple #[.string ⟨p.toArray⟩,.string ⟨n.toArray⟩,.int .i64 0] else .tuple #[.string ⟨#[]⟩,.string ⟨#[]⟩,.int .i64 31]
 | none=>.tuple #[.string ⟨#[]⟩,.string ⟨#[]⟩,.int .i64 31]
theorem atL_len (l p n:List UInt8) (h:atL l=some (p,n)):p.length+n.length<l.length:=by
 induction l generalizing p with
 | nil=>cases h
 | cons a r ih =>
  unfold atL at h
  split at h
  ·simp only [Option.some.injEq,Prod.mk.injEq] at h
   obtain ⟨rfl,rfl⟩:=h
   simp
  ·split at h
   ·rename_i p' n' e
    simp only [Option.some.injEq,Prod.mk.injEq] at h
    obtain ⟨rfl,rfl⟩:=h
    have:=ih _ e
    simp
    omega
   ·cases h
set_option maxRecDepth 100000 in
theorem split_any (s:ByteArray) (w:World) (hs:s.size≤4000000000) (hm:HasMax w) :
  Calls Tryz.prog 137 #[.string s] w fun e w'=>e=.returned (splitV s.data.toList)∧Below w.heap.size w w':=by
 obtain ⟨m,hmm⟩:=id hm
 have hcut:∃ p n:ByteArray,∃ b:Bool,p.size≤4000000000∧splitV s.data.toList=(if (b && pathB p.data.toList && nameB n.data.toList)=true then .tuple #[.string p,.string n,.int .i64 0] else .tuple #[.string ⟨#[]⟩,.string ⟨#[]⟩,.int .i64 31]) ∧
   Calls Tryz.prog 184 #[.string s,.string ⟨#[64]⟩] w fun e w'=>e=.returned (.tuple #[.string p,.string n,.bool b])∧∃ q,w'=w.drewN q:=by
  have hc:=Tryz.strings_Cut s ⟨#[64]⟩ m w (by omega) hmm
  have he:=cut_at s.data.toList
  have hsz:=Lib.size_eq s
  cases ha:atL s.data.toList with
  | none =>
   rw [ha] at he
   refine ⟨s,⟨#[]⟩,false,hs,by unfold splitV;rw [ha];rfl,hc.mono ?_⟩
   rintro e w' ⟨h1,h2⟩
   refine ⟨?_,h2⟩
   rw [h1]
   simp only at he
   rw [he]
  | some pn =>
   obtain ⟨p,n⟩:=pn
   rw [ha] at he
   have hl:=atL_len _ _ _ ha
   refine ⟨⟨p.toArray⟩,⟨n.toArray⟩,true,by rw [Lib.size_eq];simp;omega,by unfold splitV;rw [ha];rfl,hc.mono ?_⟩
   rintro e w' ⟨h1,h2⟩
   refine ⟨?_,h2⟩
   rw [h1]
   simp only at he
   rw [he]
 clear hmm
 obtain ⟨p,n,b,hps,hv,hcut⟩:=hcut
 have HV:=Lib.hid hv
 clear hv
 go_enter Tryz.func137,Tryz.ntmps137
 go_wp2_with fail
 refine hcut.mono ?_
 clear hcut
 rintro e w1 ⟨rfl,q,rfl⟩
 have hb1:Below w.heap.size w (w.drewN q):=below_drewN (Below.refl _ _) q
 have hm1:=hm.below hb1
 cases b
 ·go_wp2_with fail
  exact bodyPost_ret (v:=.tuple #[.string ⟨#[]⟩,.string ⟨#[]⟩,.int .i64 31]) (by simp [results,Tryz.results137,go_sem]) rfl ⟨by rw [HV.out];rfl,hb1⟩
 ·go_wp2_with fail
  refine (path_any p _ hps hm1).mono ?_
  rintro e w2 ⟨rfl,hb2⟩
  have hb:=hb1.trans (hb2.mono hb1.size)
  obtain ⟨b,hbb⟩:∃ b,b=pathB p.data.toList:=⟨_,rfl⟩
  rw [← hbb] at HV ⊢
  clear hbb
  cases b
  ·go_wp2_with fail
   exact bodyPost_ret (v:=.tuple #[.string ⟨#[]⟩,.string ⟨#[]⟩,.int .i64 31]) (by simp [results,Tryz.results137,go_sem]) rfl ⟨by rw [HV.out];rfl,hb⟩
  ·go_wp2_with fail
   refine (name_any n _).mono ?_
   rintro e w3 ⟨rfl,hb3⟩
   have hb':=hb.trans (hb3.mono hb.size)
   obtain ⟨b,hbb⟩:∃ b,b=nameB n.data.toList:=⟨_,rfl⟩
   rw [← hbb] at HV ⊢
   clear hbb
   cases b
   ·go_wp2_with fail
    exact bodyPost_ret (v:=.tuple #[.string ⟨#[]⟩,.string ⟨#[]⟩,.int .i64 31]) (by simp [results,Tryz.results137,go_sem]) rfl ⟨by rw [HV.out];rfl,hb'⟩
   ·go_wp2_with fail
    exact bodyPost_ret (v:=.tuple #[.string p,.string n,.int .i64 0]) (by simp [results,Tryz.results137,go_sem]) rfl ⟨by rw [HV.out];rfl,hb'⟩
end Go.Proofs.YtcgclpcocdappaaGreatDoor
namespace Go.Proofs.YtcgclpcocdappaaGreatDoor
open Go.RowKit
section
variable {P:Program} {ops:Array Oper}
/-- which operation writes slot k -/
def ownerOf (ops:Array Oper) (k:Nat):Option Nat:=(List.range ops.size).find? fun i=>(ops[i]?.bind (·.dst)) == some k
/-- no two operations write one slot, all slots are there, each waits for earlier ones alone -/
def regionOk (ops:Array Oper) (n:Nat):Bool :=
 (List.range ops.size).all fun i=>match ops[i]? with
  | some o=>(match o.dst with | some d=>decide (ownerOf ops d=some i) && decide (d<n) | none=>true) && o.after.all fun e=>!(Region.binds .any e) || decide (e.on<i)
  | none=>true
def upd (m:Nat→Option Value) (i:Nat) (v:Value):Nat→Option Value:=fun j=>if j=i then some v else m j
theorem upd_self (m:Nat→Option Value) (i:Nat) (v:Value):upd m i v i=some v:=by simp [upd]
theorem upd_ne (m:Nat→Option Value) {i j:Nat} (v:Value) (h:j≠i):upd m i v j=m j:=by simp [upd,h]
/-- the frame when the operations that m knows have come up -/
def frameM (a0:Act) (ops:Array Oper) (m:Nat→Option Value):Act :=
 { tmps:=a0.tmps.mapIdx fun k x=>match ownerOf ops k with | some i=>(m i).getD x | none=>x,defers:=a0.defers }
theorem ownerOf_spec {k i:Nat} (h:ownerOf ops k=some i):∃ o,ops[i]?=some o∧o.dst=some k:=by
 unfold ownerOf at h
 have:=List.find?_some h
 simp only [beq_iff_eq] at this
 cases ho:ops[i]? with
 | none=>rw [ho] at this;cases this
 | some o=>rw [ho] at this;exact ⟨o,rfl,this⟩
theorem regionOk_spec {n:Nat} (h:regionOk ops n=true) {i:Nat} {o:Oper} (ho:ops[i]?=some o):(∀ d,o.dst=some d→ownerOf ops d=some i∧d<n)∧∀ e∈o.after,Region.binds .any e=true→e.on<i:=by
 have hi:i<ops.size:=(Array.getElem?_eq_some_iff.1 ho).1
 have:=List.all_eq_true.1 h i (List.mem_range.2 hi)
 rw [ho] at this
 simp only [Bool.and_eq_true,Array.all_eq_true_iff_forall_mem,Bool.or_eq_true,Bool.not_eq_true',decide_eq_true_eq] at this
 refine ⟨fun d hd=>?_,fun e he hb=>?_⟩
 ·have h1:=this.1
  rw [hd] at h1
  simpa using h1
 ·rcases this.2 e he with h | h
  ·rw [hb] at h;cases h
  ·exact h
theorem frameM_put {a0:Act} {m:Nat→Option Value} (h:regionOk ops a0.tmps.size=true) {i:Nat} {o:Oper} (ho:ops[i]?=some o) (v:Value) :
  (frameM a0 ops m).put o.dst v=frameM a0 ops (upd m i v):=by
 obtain ⟨h1,_⟩:=regionOk_spec h ho
 cases hd:o.dst with
 | none =>
  unfold Act.put frameM
  simp only [Act.mk.injEq,and_true]
  apply Array.ext
  ·simp
  ·intro k hk1 hk2
   simp only [Array.getElem_mapIdx]
   cases hw:ownerOf ops k with
   | none=>rfl
   | some j =>
    obtain ⟨o',ho',hd'⟩:=ownerOf_spec hw
    have hji:j≠i:=by rintro rfl;rw [ho] at ho';cases ho';rw [hd] at hd';cases hd'
    simp only [upd_ne m v hji]
 | some d =>
  obtain ⟨hw,hlt⟩:=h1 d hd
  unfold Act.put frameM
  simp only [Act.mk.injEq,and_true]
  apply Array.ext
  ·simp
  ·intro k hk1 hk2
   by_cases hkd:d=k
   ·subst hkd
    simp [hw,upd_self]
   ·rw [Array.getElem_setIfInBounds_ne (by simpa using hk1) hkd]
    simp only [Array.getElem_mapIdx]
    cases hw':ownerOf ops k with
    | none=>rfl
    | some j =>
     have hji:j≠i:=by
      rintro rfl
      obtain ⟨o',ho',hd'⟩:=ownerOf_spec hw'
      rw [ho] at ho';cases ho';rw [hd] at hd';cases hd';exact hkd rfl
     simp only [upd_ne m v hji]
theorem frameM_none (a0:Act):frameM a0 ops (fun _=>none)=a0:=by
 cases a0 with
 | mk tmps defers =>
  unfold frameM
  simp only [Act.mk.injEq,and_true]
  apply Array.ext
  ·simp
  ·intro k hk1 hk2
   simp only [Array.getElem_mapIdx]
   cases ownerOf ops k <;> rfl
theorem tmps_own {a0:Act} {m:Nat→Option Value} {k i:Nat} {v:Value} (hw:ownerOf ops k=some i) (hv:m i=some v) (hk:k<a0.tmps.size):(frameM a0 ops m).tmps[k]?.getD undef=v:=by
 simp [frameM,hk,hw,hv]
theorem tmps_free {a0:Act} {m:Nat→Option Value} {k:Nat} (hw:ownerOf ops k=none):(frameM a0 ops m).tmps[k]?.getD undef=a0.tmps[k]?.getD undef:=by
 by_cases hk:k<a0.tmps.size
 ·simp [frameM,hk,hw]
 ·simp [frameM,hk]
theorem wp_region_inv {id:Nat} {a0:Act} {w:World} {Q:Exit→Act→World→Prop} (hm:P.follows .mixedOrders=true) (hok:regionOk ops a0.tmps.size=true) (J:(Nat→Option Value)→World→Prop)
  (h0:J (fun _=>none) w.drew)
  (hstep:∀ i o,ops[i]?=some o→∀ m w,J m w→m i=none→(∀ e∈o.after,Region.binds .any e=true→(m e.on).isSome=true) → 
   ∀ (A:Act) (K:Act→World→Prop),A=frameM a0 ops m→(∀ v w',J (upd m i v) w'→K (A.put o.dst v) w')→if Region.wanted o (yielded ops A.tmps)=true then o.wp P A w K Q else K (A.put o.dst undef) w)
  (hend:∀ m w,J m w→(∀ i,i<ops.size→(m i).isSome=true)→Q .normal (frameM a0 ops m) w) :
  (Code.region id ops true).wp P Q a0 w:=by
 refine wp_region_any hm ?_
 have key:∀ (fuel:Nat) (listed:Array Bool) (m:Nat→Option Value) (w:World),J m w→listed.size=ops.size→(∀ i,i<ops.size→listed.getD i true=(m i).isSome) →
   ((List.range ops.size).filter fun i=>(m i).isNone).length≤fuel→wpAny P .any ops Q fuel listed (frameM a0 ops m) w:=by
  intro fuel
  induction fuel with
  | zero =>
   intro listed m w hJ hsz hl hc
   have hall:∀ i,i<ops.size→(m i).isSome=true:=by
    intro i hi
    have he:(List.range ops.size).filter (fun i=>(m i).isNone)=[]:=List.eq_nil_of_length_eq_zero (by omega)
    have:=List.filter_eq_nil_iff.1 he i (List.mem_range.2 hi)
    cases hmi:m i with
    | none=>rw [hmi] at this;exact absurd rfl this
    | some _=>rfl
   refine ⟨?_,hend m w hJ hall⟩
   apply List.eq_nil_iff_forall_not_mem.2
   intro j hj
   obtain ⟨hu,o,ho,_⟩:=mem_ready.1 hj
   have hjs:j<ops.size:=(Array.getElem?_eq_some_iff.1 ho).1
   rw [hl j hjs,hall j hjs] at hu
   cases hu
  | succ fuel ih =>
   intro listed m w hJ hsz hl hc
   refine ⟨fun hr=>hend m w hJ ?_,fun i hi=>?_⟩
   ·-- nothing is ready: all have come up
    intro i
    induction i using Nat.strongRecOn with
    | ind i ihi =>
     intro hi
     cases hmi:m i with
     | some _=>rfl
     | none =>
      exfalso
      have ho:ops[i]?=some ops[i]:=Array.getElem?_eq_getElem hi
      have:i∈Region.ready .any ops listed:=by
       refine mem_ready.2 ⟨by rw [hl i hi,hmi];rfl,ops[i],ho,fun e he hb=>?_⟩
       have hlt:=(regionOk_spec hok ho).2 e he hb
       have h2:=ihi e.on hlt (by omega)
       have h3:=hl e.on (by omega)
       rw [h2] at h3
       have h4:e.on<listed.size:=by omega
       simp [Array.getD,h4] at h3 ⊢
       exact h3
      rw [hr] at this
      cases this
   ·obtain ⟨hu,o,ho,hdeps⟩:=mem_ready.1 hi
    have his:i<ops.size:=(Array.getElem?_eq_some_iff.1 ho).1
    have hmi:m i=none:=by
     rw [hl i his] at hu
     cases hmi:m i with
     | none=>rfl
     | some _=>rw [hmi] at hu;cases hu
    have hs:=hstep i o ho m w hJ hmi (fun e he hb=>by
     have h1:=hdeps e he hb
     have hlt:=(regionOk_spec hok ho).2 e he hb
     have h2:=hl e.on (by omega)
     have h4:e.on<listed.size:=by omega
     simp [Array.getD,h4] at h1 h2
     rw [← h2];exact h1)
    have next:∀ v w',J (upd m i v) w'→wpAny P .any ops Q fuel (listed.setIfInBounds i true) ((frameM a0 ops m).put o.dst v) w':=by
     intro v w' hJ'
     rw [frameM_put hok ho]
     refine ih _ _ _ hJ' (by simpa using hsz) ?_ ?_
     ·intro j hj
      by_cases hji:j=i
      ·subst hji
       simp [upd_self,Array.getD,hsz,hj]
      ·rw [upd_ne m v hji,← hl j hj]
       exact getD_set_ne true (fun h=>hji h.symm)
     ·have hlt:((List.range ops.size).filter fun j=>(upd m i v j).isNone).length<((List.range ops.size).filter fun j=>(m j).isNone).length:=by
       have hsub:(List.range ops.size).filter (fun j=>(upd m i v j).isNone)=((List.range ops.size).filter fun j=>(m j).isNone).filter fun j=>decide (j≠i):=by
        rw [List.filter_filter]
        apply List.filter_congr
        intro j _
        by_cases hji:j=i
        ·subst hji;simp [upd_self]
        ·simp [upd_ne m v hji,hji]
       rw [hsub]
       exact List.length_filter_lt_length_iff_exists.2 ⟨i,List.mem_filter.2 ⟨List.mem_range.2 his,by rw [hmi];rfl⟩,by simp⟩
      omega
    unfold wpOp
    rw [ho]
    show if Region.wanted o (yielded ops (frameM a0 ops m).tmps)=true then _ else _
    have hs':=hs (frameM a0 ops m) (wpAny P .any ops Q fuel (listed.setIfInBounds i true)) rfl (fun v w' h=>next v w' h)
    by_cases hw:Region.wanted o (yielded ops (frameM a0 ops m).tmps)=true
    ·rw [if_pos hw] at hs' ⊢
     exact .inl hs'
    ·rw [if_neg hw] at hs' ⊢
     exact hs'
 have h:=key ops.size (Array.replicate ops.size false) (fun _=>none) w.drew h0 (by simp) (fun i hi=>by simp [Array.getD,hi]) (Nat.le_trans (List.length_filter_le _ _) (by simp))
 rw [frameM_none] at h
 exact h
/-! ### Values that are determined -/
/-! ### The frame behind the region, written out -/
def putAll:Act→List Oper→List Value→Act
 | a,o :: os,v :: vs=>putAll (a.put o.dst v) os vs
 | a,_,_=>a
theorem frameM_congr {a0:Act} {m m':Nat→Option Value} (h:∀ i,i<ops.size→m i=m' i):frameM a0 ops m=frameM a0 ops m':=by
 unfold frameM
 simp only [Act.mk.injEq,and_true]
 apply Array.ext
 ·simp
 ·intro k hk1 hk2
  simp only [Array.getElem_mapIdx]
  cases hw:ownerOf ops k with
  | none=>rfl
  | some j =>
   obtain ⟨o,ho,_⟩:=ownerOf_spec hw
   simp only [h j (Array.getElem?_eq_some_iff.1 ho).1]
theorem putAll_frame {a0:Act} (hok:regionOk ops a0.tmps.size=true):∀ (os:List Oper) (vs:List Value) (k:Nat) (m:Nat→Option Value),(∀ j,os[j]?=ops[k+j]?)→os.length=vs.length →
  putAll (frameM a0 ops m) os vs=frameM a0 ops (fun i=>if k≤i∧i<k+vs.length then vs[i-k]? else m i):=by
 intro os
 induction os with
 | nil =>
  intro vs k m _ hl
  have:vs=[]:=List.eq_nil_of_length_eq_zero hl.symm
  subst this
  show frameM a0 ops m=_
  congr 1
  funext i
  rw [if_neg (by simp)]
 | cons o os ih =>
  intro vs k m ho hl
  match vs,hl with
  | v :: vs,hl =>
   have h0:ops[k]?=some o:=by simpa using (ho 0).symm
   show putAll ((frameM a0 ops m).put o.dst v) os vs=_
   rw [frameM_put hok h0,ih vs (k+1) _ (fun j=>by have:=ho (j+1);simpa [Nat.add_assoc,Nat.add_comm 1 j] using this) (by simpa using hl)]
   congr 1
   funext i
   by_cases h1:i=k
   ·subst h1
    rw [if_neg (by omega),upd_self,if_pos ⟨Nat.le_refl _,by simp⟩]
    simp
   ·by_cases h2:k+1≤i∧i<k+1+vs.length
    ·rw [if_pos h2,if_pos ⟨by omega,by simp;omega⟩]
     obtain ⟨d,rfl⟩:∃ d,i=k+1+d:=⟨i-(k+1),by omega⟩
     rw [show k+1+d-(k+1)=d by omega,show k+1+d-k=d+1 by omega]
     rfl
    ·rw [if_neg h2,upd_ne m v h1,if_neg (by simp;omega)]
theorem frameM_all {a0:Act} {l:List Oper} (hok:regionOk l.toArray a0.tmps.size=true) {m:Nat→Option Value} (vs:List Value) (hl:l.length=vs.length) (h:∀ i,i<l.length→m i=vs[i]?) :
  frameM a0 l.toArray m=putAll a0 l vs:=by
 have:=putAll_frame (ops:=l.toArray) hok l vs 0 (fun _=>none) (fun j=>by simp) hl
 rw [frameM_none] at this
 rw [this]
 exact frameM_congr fun i hi=>by
  have hi':i<l.length:=by simpa using hi
  simp [h i hi',← hl,hi']
end
end Go.Proofs.YtcgclpcocdappaaGreatDoor
