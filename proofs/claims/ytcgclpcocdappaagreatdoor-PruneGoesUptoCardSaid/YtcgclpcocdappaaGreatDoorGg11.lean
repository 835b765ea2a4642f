/-
  A wide struct: loaded, and stored into a block that has just been made, all its cells at once. names.Parent and names.Split, by their contracts.
-/
import Derived.Deep.MidRow
import Derived.WalkKit
import Derived.WalkSpells
import Derived.Below
import Derived.Laws.OwnMore
import Derived.Deep.AppendLies
import Derived.Deep.Draws
import Derived.Laws.Rows
import Derived.Maps.AppendAt
import Derived.RegionTactic
import Derived.OwnWalk
import Derived.Deep.QuietTactic
import Derived.BigQuiet
import Derived.Lib.Hide
import Derived.Laws.CopyOwn
import Derived.IntWalk
import Derived.ShutString
import Derived.Lib.SplitLaws
import Derived.Lib.LastIndexByte
import Derived.Lib.Strings
import Derived.Test.YtcgclpcocdappaaGreatDoorRows
import Derived.Handy
import Derived.Shelf.Strings.Search1
import Derived.Shelf.Strings.Search2
import Derived.Shelf.Strings.Search3
import Derived.Shelf.Strings.Cut
import Derived.Shelf.Strings.Count
import Derived.Shelf.LaysM
import Derived.Shelf.Strings.Shaped
import Derived.Shelf.Strings.LastIndex
import Derived.Shelf.Strings.Split
import Derived.Shelf.Strings.SplitShaped
import Derived.Shelf.Unicode.Decode
import Derived.Shelf.Strings.RuneCount
import Derived.Shelf.Strings.Explode
import Derived.Shelf.Unicode.DecodeSlow
import Derived.Test.YtcgclpcocdappaaGreatDoorProg
import Derived.Laws.BytesString
import Derived.Laws.IdiomStrings
import Derived.Lib.ConvBytes
import Derived.Test.YtcgclpcocdappaaGreatDoorG0
import Derived.Test.YtcgclpcocdappaaGreatDoorGg1
import Derived.Test.YtcgclpcocdappaaGreatDoorGg3
import Derived.Test.YtcgclpcocdappaaGreatDoorGg9
import Derived.Test.YtcgclpcocdappaaGreatDoorGg10
namespace Go.Proofs.YtcgclpcocdappaaGreatDoor
open Go.RowKit
theorem run_loadVar_at {P:Program} (w:World) (a:Addr) (ty:TypeId) (cs:List Value) (d:TypeDesc) (hc:∀ (j:Nat) (v:Value),cs[j]?=some v→w.cell? (a.add j)=some v)
  (hu:P.underlying ty=some d) (hd:d.isRow=true) (hi:(P.info? ty).map (·.size)=some cs.length):(loadVar ty a).run P w=.ok (.agg cs.toArray) w:=by
 have hl:(loadCells a cs.length).run P w=.ok cs.toArray w:=run_loadCells_list (P:=P) w a cs hc
 cases hq:P.info? ty with
 | none=>simp [hq] at hi
 | some i =>
  have hs:i.size=cs.length:=by simpa [hq] using hi
  have hagg:(isAgg ty).run P w=.ok true w:=by
   unfold isAgg
   rw [Sem.run_bind,run_underlying hu w]
   cases d <;> simp_all
  simp [loadVar,Sem.run_bind,hagg,sizeOf,typeInfo,hq,hs,hl]
theorem wpList_load_at {P:Program} {ops:Array Oper} {rest:List Oper} {op:Oper} {a:Act} {w:World} {Q:Exit→Act→World→Prop} (hgd:op.guard=none) (ty:TypeId) (x:Operand) (ho:op.op=.load ty x)
  (ad:Addr) (hx:a.eval x=.pointer (some ad)) (cs:List Value) (d:TypeDesc) (hc:∀ (j:Nat) (v:Value),cs[j]?=some v→w.cell? (ad.add j)=some v)
  (hu:P.underlying ty=some d) (hd:d.isRow=true) (hi:(P.info? ty).map (·.size)=some cs.length)
  (h:wpList P ops Q rest (a.put op.dst (.agg cs.toArray)) w):wpList P ops Q (op :: rest) a w:=by
 refine wpList_plain hgd fun K hK=>?_
 unfold Oper.wp execOp
 simp only [ho,hx,Instr.loadAt,Instr.sureAddr,Sem.run_bind,Sem.run_pure,Result.andThen_ok,run_loadVar_at w ad ty cs d hc hu hd hi]
 exact hK _ _ h
theorem setCell_new (w:World) (l:List Value) (t:TypeId) (i:Nat) (v:Value):(w.alloc (.cells l.toArray t)).setCell ⟨w.heap.size,i,none⟩ v=w.alloc (.cells (l.set i v).toArray t):=by
 unfold World.setCell World.alloc
 simp only
 congr 1
 apply Array.ext
 ·simp
 ·intro j h1 h2
  simp only [Array.getElem_modify,Array.getElem_push]
  by_cases hj:j<w.heap.size
  ·have hne:¬ w.heap.size=j:=by omega
   simp [hj,hne]
  ·have hje:w.heap.size=j:=by simp at h1;omega
   simp [hje]
theorem setCells_new (w:World) (t:TypeId) (cs:List Value):∀ (pre post:List Value),post.length=cs.length→(w.alloc (.cells (pre++post).toArray t)).setCells w.heap.size pre.length cs=w.alloc (.cells (pre++cs).toArray t):=by
 induction cs with
 | nil =>
  intro pre post h
  rw [List.eq_nil_of_length_eq_zero h]
  rfl
 | cons v cs ih =>
  intro pre post h
  cases post with
  | nil=>simp at h
  | cons p post =>
   show ((w.alloc _).setCell ⟨w.heap.size,pre.length,none⟩ v).setCells w.heap.size (pre.length+1) cs=_
   rw [setCell_new,show (pre++p :: post).set pre.length v=(pre++[v])++post by simp [List.set_append_right]]
   have:=ih (pre++[v]) post (by simpa using h)
   rw [List.length_append] at this
   rw [show pre.length+1=pre.length+[v].length from rfl,this]
   simp
theorem wpList_store_new {P:Program} {ops:Array Oper} {rest:List Oper} {op:Oper} {a:Act} {Q:Exit→Act→World→Prop} (w:World) (hgd:op.guard=none) (ty:TypeId) (x y:Operand) (ho:op.op=.store ty x y) (t:TypeId) (zs cs:List Value)
  (hx:a.eval x=.pointer (some ⟨w.heap.size,0,none⟩)) (hy:a.eval y=.agg cs.toArray) (hl:zs.length=cs.length) (hi:(P.info? ty).map (·.size)=some cs.length) (h1:∀ v∈cs,v.oneCell'=true)
  (h:wpList P ops Q rest (a.put op.dst undef) (w.alloc (.cells cs.toArray t))):wpList P ops Q (op :: rest) a (w.alloc (.cells zs.toArray t)):=by
 refine wpList_store_mid hgd ty x y ho w.heap.size 0 cs.toArray hx hy ?_ (by simpa using hi) (all_oneCell_toArray h1) ?_
 ·intro j hj
  have hj2:j<zs.toArray.size:=by simp at hj ⊢;omega
  have hb:=Blk.new w t zs.toArray
  rw [Nat.zero_add]
  exact ⟨by rw [hb.cell j];simp [hl];simpa using hj,hb.frozen j⟩
 ·have:=setCells_new w t cs [] zs hl
  simp only [List.nil_append,List.length_nil] at this
  rw [show cs.toArray.toList=cs from rfl,this]
  exact h
end Go.Proofs.YtcgclpcocdappaaGreatDoor
namespace Go.Proofs.YtcgclpcocdappaaGreatDoor
open Go.RowKit
set_option maxRecDepth 100000 in
theorem parent_any (s:ByteArray) (w:World) (hs:s.size≤4000000000) (hm:HasMax w) :
  Calls Tryz.prog 81 #[.string s] w fun e w'=>Below w.heap.size w w' ∧
   ((s.data.toList=[]∨pathB s.data.toList=false)∧e=.returned (.tuple #[.string ⟨#[]⟩,.bool false]) ∨
    s.data.toList≠[]∧pathB s.data.toList=true∧e=.returned (.tuple #[.string ⟨(upL s.data.toList).toArray⟩,.bool true])):=by
 have hts:=Lib.hid (toList_data s)
 go_enter Tryz.func81,Tryz.ntmps81
 go_wp2_with fail
 ·have h0:s.toList=[]:=by assumption
  rw [hts.out] at h0
  refine bodyPost_ret (v:=.tuple #[.string ⟨#[]⟩,.bool false]) (by simp [results,Tryz.results81,go_sem]) rfl ⟨Below.refl _ _,.inl ⟨.inl h0,rfl⟩⟩
 ·have h0:¬ s.toList=[]:=by assumption
  have hie:s.toList.isEmpty=false:=by simpa using h0
  rw [hts.out] at h0
  refine (path_any s w hs hm).mono ?_
  rintro e w1 ⟨rfl,hb1⟩
  obtain ⟨bs,hbs0⟩:∃ b,b=pathB s.data.toList:=⟨_,rfl⟩
  rw [← hbs0]
  simp only [hie]
  clear hie
  have hbs:=Lib.hid hbs0
  have hne:=Lib.hid h0
  have hlast:=Lib.hid (last_eq s)
  have hlb:=Lib.hid (last_bound s.data.toList)
  clear hbs0 h0
  cases bs
  ·go_wp2_with fail
   refine bodyPost_ret (v:=.tuple #[.string ⟨#[]⟩,.bool false]) (by simp [results,Tryz.results81,go_sem]) rfl ⟨hb1,.inl ⟨.inr hbs.out.symm,rfl⟩⟩
  ·go_wp2_with fail
   refine (Tryz.strings_LastIndexByte s 47 (by omega) _).mono ?_
   rintro e w2 ⟨rfl,rfl⟩
   have hm1:=Lib.hid (show max (Lib.lastIndexByte s 47) 0=(((lastS s.data.toList).getD 0:Nat):Int) from hlast.out)
   obtain ⟨k,hk⟩:∃ k,k=(lastS s.data.toList).getD 0:=⟨_,rfl⟩
   rw [← hk] at hlb hm1
   have HK:=Lib.hid hk
   have hks:k≤s.size:=by rw [Lib.size_eq];exact hlb.out
   clear hlast hlb hk
   go_wp2_with fail
   ·have hv:(s.extract 0 (max (Lib.lastIndexByte s 47) 0).toNat)=⟨(upL s.data.toList).toArray⟩:=by
     apply eq_mk
     rw [hm1.out,Lib.extract_from_zero]
     unfold upL
     rw [← HK.out]
     rfl
    refine bodyPost_ret (v:=.tuple #[.string ⟨(upL s.data.toList).toArray⟩,.bool true]) (by simp [results,Tryz.results81,go_sem,hv]) rfl ⟨hb1,.inr ⟨hne.out,hbs.out.symm,rfl⟩⟩
   ·rename_i h0
    exact absurd ⟨by omega,by rw [hm1.out];omega⟩ h0
/-- what Split answers -/
def splitV (l:List UInt8):Value:=match atL l with
 | some (p,n)=>if (pathB p && nameB n)=true then .tuple #[.string ⟨p.toArray⟩,.string ⟨n.toArray⟩,.int .i64 0] else .tuple #[.string ⟨#[]⟩,.string ⟨#[]⟩,.int .i64 31]
 | none=>.tuple #[.string ⟨#[]⟩,.string ⟨#[]⟩,.int .i64 31]
theorem atL_len (l p n:List UInt8) (h:atL l=some (p,n)):p.length+n.length<l.length:=by
 induction l generalizing p with
 | nil=>cases h
 | cons a r ih =>
  unfold atL at h
  split at h
  ·simp only [Option.some.injEq,Prod.mk.injEq] at h
   obtain ⟨rfl,rfl⟩:=h
   simp
  ·split at h
   ·rename_i p' n' e
    simp only [Option.some.injEq,Prod.mk.injEq] at h
    obtain ⟨rfl,rfl⟩:=h
    have:=ih _ e
    simp
    omega
   ·cases h
set_option maxRecDepth 100000 in
theorem split_any (s:ByteArray) (w:World) (hs:s.size≤4000000000) (hm:HasMax w) :
  Calls Tryz.prog 137 #[.string s] w fun e w'=>e=.returned (splitV s.data.toList)∧Below w.heap.size w w':=by
 obtain ⟨m,hmm⟩:=id hm
 have hcut:∃ p n:ByteArray,∃ b:Bool,p.size≤4000000000∧splitV s.data.toList=(if (b && pathB p.data.toList && nameB n.data.toList)=true then .tuple #[.string p,.string n,.int .i64 0] else .tuple #[.string ⟨#[]⟩,.string ⟨#[]⟩,.int .i64 31]) ∧
   Calls Tryz.prog 184 #[.string s,.string ⟨#[64]⟩] w fun e w'=>e=.returned (.tuple #[.string p,.string n,.bool b])∧∃ q,w'=w.drewN q:=by
  have hc:=Tryz.strings_Cut s ⟨#[64]⟩ m w (by omega) hmm
  have he:=cut_at s.data.toList
  have hsz:=Lib.size_eq s
  cases ha:atL s.data.toList with
  | none =>
   rw [ha] at he
   refine ⟨s,⟨#[]⟩,false,hs,by unfold splitV;rw [ha];rfl,hc.mono ?_⟩
   rintro e w' ⟨h1,h2⟩
   refine ⟨?_,h2⟩
   rw [h1]
   simp only at he
   rw [he]
  | some pn =>
   obtain ⟨p,n⟩:=pn
   rw [ha] at he
   have hl:=atL_len _ _ _ ha
   refine ⟨⟨p.toArray⟩,⟨n.toArray⟩,true,by rw [Lib.size_eq];simp;omega,by unfold splitV;rw [ha];rfl,hc.mono ?_⟩
   rintro e w' ⟨h1,h2⟩
   refine ⟨?_,h2⟩
   rw [h1]
   simp only at he
   rw [he]
 clear hmm
 obtain ⟨p,n,b,hps,hv,hcut⟩:=hcut
 have HV:=Lib.hid hv
 clear hv
 go_enter Tryz.func137,Tryz.ntmps137
 go_wp2_with fail
 refine hcut.mono ?_
 clear hcut
 rintro e w1 ⟨rfl,q,rfl⟩
 have hb1:Below w.heap.size w (w.drewN q):=below_drewN (Below.refl _ _) q
 have hm1:=hm.below hb1
 cases b
 ·go_wp2_with fail
  exact bodyPost_ret (v:=.tuple #[.string ⟨#[]⟩,.string ⟨#[]⟩,.int .i64 31]) (by simp [results,Tryz.results137,go_sem]) rfl ⟨by rw [HV.out];rfl,hb1⟩
 ·go_wp2_with fail
  refine (path_any p _ hps hm1).mono ?_
  rintro e w2 ⟨rfl,hb2⟩
  have hb:=hb1.trans (hb2.mono hb1.size)
  obtain ⟨b,hbb⟩:∃ b,b=pathB p.data.toList:=⟨_,rfl⟩
  rw [← hbb] at HV ⊢
  clear hbb
  cases b
  ·go_wp2_with fail
   exact bodyPost_ret (v:=.tuple #[.string ⟨#[]⟩,.string ⟨#[]⟩,.int .i64 31]) (by simp [results,Tryz.results137,go_sem]) rfl ⟨by rw [HV.out];rfl,hb⟩
  ·go_wp2_with fail
   refine (name_any n _).mono ?_
   rintro e w3 ⟨rfl,hb3⟩
   have hb':=hb.trans (hb3.mono hb.size)
   obtain ⟨b,hbb⟩:∃ b,b=nameB n.data.toList:=⟨_,rfl⟩
   rw [← hbb] at HV ⊢
   clear hbb
   cases b
   ·go_wp2_with fail
    exact bodyPost_ret (v:=.tuple #[.string ⟨#[]⟩,.string ⟨#[]⟩,.int .i64 31]) (by simp [results,Tryz.results137,go_sem]) rfl ⟨by rw [HV.out];rfl,hb'⟩
   ·go_wp2_with fail
    exact bodyPost_ret (v:=.tuple #[.string p,.string n,.int .i64 0]) (by simp [results,Tryz.results137,go_sem]) rfl ⟨by rw [HV.out];rfl,hb'⟩
end Go.Proofs.YtcgclpcocdappaaGreatDoor
