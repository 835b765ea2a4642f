/-
  A region that draws its order and only reads and makes memory: what is said of each operation's value holds whatever comes behind it. The reference's letter, Name, value, Props: by their contracts. cmp.Or at a row of two numbers; the order of grants: by their contracts. The reference's Props, SameProps: by their contracts.
-/
import Derived.WalkKit
import Derived.WalkSpells
import Derived.Below
import Derived.Laws.OwnMore
import Derived.Deep.AppendLies
import Derived.Deep.Draws
import Derived.Laws.Rows
import Derived.Maps.AppendAt
import Derived.RegionTactic
import Derived.OwnWalk
import Derived.Deep.QuietTactic
import Derived.BigQuiet
import Derived.Lib.Hide
import Derived.Laws.CopyOwn
import Derived.IntWalk
import Derived.Orders
import Derived.Deep.Quiet
import Derived.Test.YtcgclpcocdappaaGreatDoorRows
import Derived.Handy
import Derived.Laws.BytesString
import Derived.Laws.IdiomStrings
import Derived.Lib.ConvBytes
import Derived.Lib.Strings
import Derived.Sort.Walk0
import Derived.Sort.KeysCollected
import Derived.Test.YtcgclpcocdappaaGreatDoorG0
import Derived.Test.YtcgclpcocdappaaGreatDoorGg1
import Derived.Test.YtcgclpcocdappaaGreatDoorGg3
import Derived.Test.YtcgclpcocdappaaGreatDoorGg5
import Derived.Test.YtcgclpcocdappaaGreatDoorGg7
import Derived.Test.YtcgclpcocdappaaGreatDoorGg10
namespace Go.Proofs.YtcgclpcocdappaaGreatDoor
open Go.RowKit
section
variable {P:Program} {ops:Array Oper}
/-- what is said of each operation's value, by a list -/
def Says (Gs:List (Value→World→Prop)) (i:Nat) (v:Value) (W:World):Prop:=match Gs[i]? with
 | some p=>p v W
 | none=>True
def Stays (p:Value→World→Prop):Prop:=∀ v W W',p v W→Below W.heap.size W W'→p v W'
theorem Stays.pure {q:Value→Prop}:Stays (fun v _=>q v):=fun _ _ _ h _=>h
theorem Stays.own (base:Nat) (e:TypeId) (size n:Nat) (xs:List Value):Stays (fun v W=>W.ownsRow base e size v n xs):=fun _ _ _ h hb=>own_below h hb
/-- the same; each step is told besides that it has not come up, and that whatever has come up had all that it waits for -/
theorem wp_region_good2 {id:Nat} {a0:Act} {w:World} {Q:Exit→Act→World→Prop} (hm:P.follows .mixedOrders=true) (hok:regionOk ops a0.tmps.size=true) (Gs:List (Value→World→Prop)) (hst:∀ p∈Gs,Stays p)
  (hstep:∀ i o,ops[i]?=some o→∀ (m:Nat→Option Value) (W:World),Below w.heap.size w W→m i=none→(∀ j o',ops[j]?=some o'→(m j).isSome=true→∀ e∈o'.after,Region.binds .any e=true→(m e.on).isSome=true)→(∀ e∈o.after,Region.binds .any e=true→∃ v,m e.on=some v∧Says Gs e.on v W) →
   ∀ (A:Act) (K:Act→World→Prop),A=frameM a0 ops m→(∀ v W',Below W.heap.size W W'→Says Gs i v W'→K (A.put o.dst v) W')→if Region.wanted o (yielded ops A.tmps)=true then o.wp P A W K Q else K (A.put o.dst undef) W)
  (hend:∀ (m:Nat→Option Value) (W:World),Below w.heap.size w W→(∀ i,i<ops.size→∃ v,m i=some v∧Says Gs i v W)→Q .normal (frameM a0 ops m) W) :
  (Code.region id ops true).wp P Q a0 w:=by
 have hsay:∀ i v W W',Says Gs i v W→Below W.heap.size W W'→Says Gs i v W':=by
  intro i v W W' h hb
  unfold Says at h ⊢
  cases hG:Gs[i]? with
  | none=>trivial
  | some p=>rw [hG] at h;exact hst p (List.mem_of_getElem? hG) v W W' h hb
 refine wp_region_inv hm hok (fun m W=>Below w.heap.size w W∧(∀ i v,m i=some v→Says Gs i v W)∧(∀ j o',ops[j]?=some o'→(m j).isSome=true→∀ e∈o'.after,Region.binds .any e=true→(m e.on).isSome=true)) ⟨(Below.refl _ _).drew,fun _ _ h=>(by cases h),fun _ _ _ h=>(by cases h)⟩ ?_ ?_
 ·intro i o ho m W hJ hmi hdeps A K hA hK
  refine hstep i o ho m W hJ.1 hmi hJ.2.2 (fun e he hb=>?_) A K hA (fun v W' hb hS=>hK v W' ⟨below_step hJ.1 hb,fun j u hu=>?_,fun j o' ho' hj e he hbi=>?_⟩)
  ·have:=hdeps e he hb
   cases hme:m e.on with
   | none=>rw [hme] at this;cases this
   | some v=>exact ⟨v,rfl,hJ.2.1 _ _ hme⟩
  ·by_cases hj:j=i
   ·subst hj
    rw [upd_self] at hu
    cases hu
    exact hS
   ·rw [upd_ne m v hj] at hu
    exact hsay j u W W' (hJ.2.1 j u hu) hb
  ·by_cases hei:e.on=i
   ·rw [hei,upd_self];rfl
   ·rw [upd_ne m v hei]
    by_cases hji:j=i
    ·subst hji
     rw [ho] at ho'
     cases ho'
     exact hdeps e he hbi
    ·rw [upd_ne m v hji] at hj
     exact hJ.2.2 j o' ho' hj e he hbi
 ·intro m W hJ hall
  refine hend m W hJ.1 fun i hi=>?_
  have:=hall i hi
  cases hmi:m i with
  | none=>rw [hmi] at this;cases this
  | some v=>exact ⟨v,rfl,hJ.2.1 _ _ hmi⟩
end
theorem none_up {ops:Array Oper} {m:Nat→Option Value} (hcl:∀ j o',ops[j]?=some o'→(m j).isSome=true→∀ e∈o'.after,Region.binds .any e=true→(m e.on).isSome=true) {j:Nat} {o:Oper} (ho:ops[j]?=some o) {e:Edge} (he:e∈o.after) (hb:Region.binds .any e=true) (hi:m e.on=none):m j=none:=by
 cases hj:m j with
 | none=>rfl
 | some v =>
  have:=hcl j o ho (by rw [hj];rfl) e he hb
  rw [hi] at this
  cases this
theorem stays_nil:∀ p∈([]:List (Value→World→Prop)),Stays p:=fun _ h=>by cases h
theorem stays_cons {p:Value→World→Prop} {l:List (Value→World→Prop)} (hp:Stays p) (hl:∀ q∈l,Stays q):∀ q∈p :: l,Stays q:=by
 intro q hq
 rcases List.mem_cons.1 hq with rfl | h
 ·exact hp
 ·exact hl q h
theorem own_lit (W:World) (cs:Array Value) (T:TypeId) (n:Nat) (h:cs.size=n) (hm:n≤maxLen):(W.alloc (.cells cs T)).ownsRow W.heap.size T 1 (.slice (some ⟨W.heap.size,0,none⟩) n n) n cs.toList:=by
 subst h
 refine ⟨by simp,.inr ⟨W.heap.size,cs.size,cs,rfl,Nat.le_refl _,heap_alloc_new W _,Nat.le_refl _,hm,by simp,?_⟩⟩
 rw [Nat.mul_one,List.take_of_length_le (by simp)]
end Go.Proofs.YtcgclpcocdappaaGreatDoor
namespace Go.Proofs.YtcgclpcocdappaaGreatDoor
open Go.RowKit
set_option maxRecDepth 100000 in
theorem letter_any (c:UInt8) (w:World):Calls Tryz.prog 132 #[.int .u8 (c.toNat:Int)] w fun e w'=>e=.returned (.bool (okB c))∧w'=w:=by
 have hc:c.toNat<256:=c.toNat_lt
 have hk:=Lib.hid (okB_iff c)
 go_enter Tryz.func132,Tryz.ntmps132
 go_wp2
 all_goals go_ret
 all_goals refine ⟨congrArg Ending.returned (congrArg Value.bool ?_),rfl⟩
 all_goals rw [Bool.eq_iff_iff,hk.out]
 all_goals simp
 all_goals omega
theorem bget (s:ByteArray) (k:Nat) (h:k<s.size):s.data.toList[k]'h=s[k]'h:=rfl
set_option maxRecDepth 100000 in
set_option maxHeartbeats 1000000 in
theorem refName_s (s:ByteArray) (w:World) (hs:s.size≤140737488351232):Calls Tryz.prog 63 #[.string s] w fun e w'=>e=.returned (.bool (nameB s.data.toList))∧w'=w:=by
 have hsz:s.data.toList.length=s.size:=(Lib.size_eq s).symm
 go_enter Tryz.func63,Tryz.ntmps63
 go_wp2_with fail
 go_loopw [3] (fun i wr=>∃ k:Nat,k≤s.size∧i=.int .i64 (k:Int)∧Hid ((s.data.toList.take k).all okB=true)∧wr=w) (fun i _=>s.size-(intOf i).toNat)
 case atStart=>exact ⟨0,Nat.zero_le _,rfl,rfl,rfl⟩
 case round =>
  obtain ⟨k,hk,rfl,hok,hww⟩:=hrel
  have hww:=hww.symm
  subst hww
  by_cases hlt:k<s.size
  ·have hki:(k:Int)<(s.size:Int):=by omega
   have hkl:k<s.data.toList.length:=by omega
   have htk:=List.take_succ_eq_append_getElem hkl
   have hg:=bget s k hlt
   obtain ⟨y,hy⟩:∃ y,y=s[k]'hlt:=⟨_,rfl⟩
   rw [hg,← hy] at htk
   have HT:=Lib.hid htk
   have HM:=Lib.hid (show y∈s.data.toList by rw [hy,← hg];exact List.getElem_mem _)
   have hc:=letter_any y w
   obtain ⟨b,hb⟩:∃ b,b=okB y:=⟨_,rfl⟩
   rw [← hb] at hc
   have HBB:=Lib.hid hb
   have hyv:((s[k]'hlt).toNat:Int)=(y.toNat:Int):=by rw [hy]
   have HSZ:=Lib.hid hsz
   clear htk hg hy hb hsz
   go_wp2_with fail
   refine hc.mono ?_
   clear hc
   rintro e w1 ⟨rfl,rfl⟩
   cases b with
   | true =>
    go_wp2_with fail
    go_roundw
    case rel =>
     refine ⟨k+1,by omega,by go_num,?_,trivial⟩
     show List.all _ _=_
     rw [HT.out,List.all_append,hok.out]
     simp [HBB.out.symm]
    case measure=>simp [intOf];omega
   | false =>
    have HN:Hid (nameB s.data.toList=false):=by
     show _=_
     unfold nameB
     have:s.data.toList.all okB=false:=by
      rw [← Bool.not_eq_true,List.all_eq_true]
      intro h
      have:=h y HM.out
      rw [← HBB.out] at this
      cases this
     rw [this,Bool.and_false]
    go_wp2_with fail
    go_ret
    exact ⟨by rw [HN.out];rfl,rfl⟩
  ·have HA:Hid (s.data.toList.all okB=true):=by
    show _=_
    have:=hok.out
    rwa [List.take_of_length_le (by omega)] at this
   have HN:Hid (nameB s.data.toList=(!(s.data.toList.isEmpty) && decide (s.data.toList.length≤16))):=by
    show _=_
    unfold nameB
    rw [HA.out,Bool.and_true]
   have HE:Hid (nameB s.data.toList=true↔1≤s.size∧s.size≤16):=by
    show _↔_
    rw [HN.out,Bool.and_eq_true,decide_eq_true_eq,hsz,Bool.not_eq_true']
    constructor
    ·rintro ⟨h1,h2⟩
     refine ⟨?_,h2⟩
     rcases Nat.eq_zero_or_pos s.size with h | h
     ·rw [← hsz] at h
      rw [List.eq_nil_of_length_eq_zero h] at h1
      cases h1
     ·exact h
    ·rintro ⟨h1,h2⟩
     refine ⟨?_,h2⟩
     rw [← Bool.not_eq_true,List.isEmpty_iff]
     intro e
     rw [e] at hsz
     simp at hsz
     omega
   clear hsz HA HN hok
   by_cases h1:1≤s.size
   ·have h1i:(1:Int)≤(s.size:Int):=by omega
    by_cases h2:s.size≤16
    ·have h2i:(s.size:Int)≤16:=by omega
     have HV:Hid (nameB s.data.toList=true):=HE.out.2 ⟨h1,h2⟩
     go_wp2_with fail
     go_ret
     exact ⟨by rw [HV.out];rfl,rfl⟩
    ·have h2i:¬ (s.size:Int)≤16:=by omega
     have HV:Hid (nameB s.data.toList=false):=by show _=_;rw [← Bool.not_eq_true,HE.out];omega
     go_wp2_with fail
     go_ret
     exact ⟨by rw [HV.out];rfl,rfl⟩
   ·have h1i:¬ (1:Int)≤(s.size:Int):=by omega
    have HV:Hid (nameB s.data.toList=false):=by show _=_;rw [← Bool.not_eq_true,HE.out];omega
    go_wp2_with fail
    go_ret
    exact ⟨by rw [HV.out];rfl,rfl⟩
theorem refName_any (n:BS) (w:World) (hs:n.length≤140737488351232):Calls Tryz.prog 63 #[.string ⟨n.toArray⟩] w fun e w'=>e=.returned (.bool (nameB n))∧w'=w:=by
 have:=refName_s ⟨n.toArray⟩ w (by show n.length≤_;exact hs)
 simpa using this
set_option maxRecDepth 100000 in
set_option maxHeartbeats 1000000 in
theorem refValue_s (s:ByteArray) (w:World) (hs:s.size≤140737488351232):Calls Tryz.prog 120 #[.string s] w fun e w'=>e=.returned (.bool (valB s.data.toList))∧w'=w:=by
 have hsz:s.data.toList.length=s.size:=(Lib.size_eq s).symm
 go_enter Tryz.func120,Tryz.ntmps120
 go_wp2_with fail
 go_loopw [3] (fun i wr=>∃ k:Nat,k≤s.size∧i=.int .i64 (k:Int)∧Hid (∀ c∈s.data.toList.take k,32≤c.toNat∧c.toNat≤126)∧wr=w) (fun i _=>s.size-(intOf i).toNat)
 case atStart=>exact ⟨0,Nat.zero_le _,rfl,(show ∀ c∈_,_ by simp),rfl⟩
 case round =>
  obtain ⟨k,hk,rfl,hok,hww⟩:=hrel
  have hww:=hww.symm
  subst hww
  by_cases hlt:k<s.size
  ·have hki:(k:Int)<(s.size:Int):=by omega
   have hkl:k<s.data.toList.length:=by omega
   have htk:=List.take_succ_eq_append_getElem hkl
   have hg:=bget s k hlt
   obtain ⟨y,hy⟩:∃ y,y=s[k]'hlt:=⟨_,rfl⟩
   rw [hg,← hy] at htk
   have HT:=Lib.hid htk
   have HM:=Lib.hid (show y∈s.data.toList by rw [hy,← hg];exact List.getElem_mem _)
   have hyv:((s[k]'hlt).toNat:Int)=(y.toNat:Int):=by rw [hy]
   have hy256:=y.toNat_lt
   have HSZ:=Lib.hid hsz
   have hbad:Hid ((y.toNat<32∨126<y.toNat)→valB s.data.toList=false):=by
    show _→_
    intro h
    unfold valB
    have:s.data.toList.all (fun c=>decide (32≤c) && decide (c≤126))=false:=by
     rw [← Bool.not_eq_true,List.all_eq_true]
     intro h2
     have h3:=h2 y HM.out
     simp only [Bool.and_eq_true,decide_eq_true_eq,UInt8.le_iff_toNat_le] at h3
     have e1:(32:UInt8).toNat=32:=rfl
     have e2:(126:UInt8).toNat=126:=rfl
     omega
    rw [this,Bool.and_false]
   clear htk hg hy hsz
   by_cases h1:y.toNat<32
   ·have h1i:(y.toNat:Int)<32:=by omega
    have HV:=Lib.hid (hbad.out (.inl h1))
    go_wp2_with fail
    go_ret
    exact ⟨by rw [HV.out];rfl,rfl⟩
   ·have h1i:¬ (y.toNat:Int)<32:=by omega
    by_cases h2:126<y.toNat
    ·have h2i:(126:Int)<(y.toNat:Int):=by omega
     have HV:=Lib.hid (hbad.out (.inr h2))
     go_wp2_with fail
     go_ret
     exact ⟨by rw [HV.out];rfl,rfl⟩
    ·have h2i:¬ (126:Int)<(y.toNat:Int):=by omega
     go_wp2_with fail
     go_roundw
     case rel =>
      refine ⟨k+1,by omega,by go_num,?_,trivial⟩
      show ∀ c∈_,_
      intro c hc
      rw [HT.out,List.mem_append,List.mem_singleton] at hc
      rcases hc with hc | rfl
      ·exact hok.out c hc
      ·exact ⟨by omega,by omega⟩
     case measure=>simp [intOf];omega
  ·have HV:Hid (valB s.data.toList=decide ((s.size:Int)≤32)):=by
    show _=_
    unfold valB
    have h:=hok.out
    rw [List.take_of_length_le (by omega)] at h
    have:s.data.toList.all (fun c=>decide (32≤c) && decide (c≤126))=true:=by
     rw [List.all_eq_true]
     intro c hc
     have:=h c hc
     simp only [Bool.and_eq_true,decide_eq_true_eq,UInt8.le_iff_toNat_le]
     exact this
    rw [this,Bool.and_true,hsz]
    exact decide_eq_decide.2 (by omega)
   clear hsz hok
   go_wp2_with fail
   go_ret
   exact ⟨by rw [HV.out];rfl,rfl⟩
theorem refValue_any (n:BS) (w:World) (hs:n.length≤140737488351232):Calls Tryz.prog 120 #[.string ⟨n.toArray⟩] w fun e w'=>e=.returned (.bool (valB n))∧w'=w:=by
 have:=refValue_s ⟨n.toArray⟩ w (by show n.length≤_;exact hs)
 simpa using this
end Go.Proofs.YtcgclpcocdappaaGreatDoor
namespace Go.Proofs.YtcgclpcocdappaaGreatDoor
open Go.RowKit
def orI2 (x y:Int):Int:=if x=0 then y else x
set_option maxRecDepth 100000 in
theorem orI2_any (x y:Int) (A:Option Addr) (c:Nat) (w:World) (B:Nat) (hr:Reads w B 1 A 2 [.int .i64 x,.int .i64 y]) :
  Calls Tryz.prog 204 #[.slice A 2 c] w fun e w'=>e=.returned (.int .i64 (orI2 x y))∧∃ q,w'=w.drewN q:=by
 obtain ⟨ad,rfl,_,hc⟩:=hr.2 (by omega)
 have h0:w.cell? ad=some (.int .i64 x):=by have:=hc 0 _ rfl;rwa [add_zero] at this
 have h1:w.cell? ⟨ad.block,ad.off+1,none⟩=some (.int .i64 y):=by have:=hc 1 _ rfl;rwa [addr_add_succ] at this
 clear hc hr
 by_cases hx:x=0
 ·subst hx
  by_cases hy:y=0
  ·subst hy
   go_enter Tryz.func204,Tryz.ntmps204
   go_wp2_with fail
   refine wp_loop_rounds 3 ?_
   rw [rounds_succ]
   go_wp2_with fail
   rw [rounds_succ]
   go_wp2_with fail
   rw [rounds_succ]
   go_wp2_with fail
   go_ret
   exact ⟨rfl,0,rfl⟩
  ·have hyb:(y == 0)=false:=by simp [hy]
   go_enter Tryz.func204,Tryz.ntmps204
   go_wp2_with fail
   refine wp_loop_rounds 3 ?_
   rw [rounds_succ]
   go_wp2_with fail
   rw [rounds_succ]
   go_wp2_with fail
   go_ret
   exact ⟨by unfold orI2;rw [if_pos rfl];rfl,0,rfl⟩
 ·have hxb:(x == 0)=false:=by simp [hx]
  go_enter Tryz.func204,Tryz.ntmps204
  go_wp2_with fail
  refine wp_loop_rounds 3 ?_
  rw [rounds_succ]
  go_wp2_with fail
  go_ret
  exact ⟨by unfold orI2;rw [if_neg hx];rfl,0,rfl⟩
theorem cmpG_or (a b c d:BS):orI2 (cmpS a c) (cmpS b d)=cmpG a b c d:=rfl
set_option maxRecDepth 100000 in
set_option maxHeartbeats 1000000 in
theorem orderG_any (a b c d:BS) (n m:Int) (w:World) :
  Calls Tryz.prog 180 #[.agg #[.string ⟨a.toArray⟩,.string ⟨b.toArray⟩,.int .i64 n],.agg #[.string ⟨c.toArray⟩,.string ⟨d.toArray⟩,.int .i64 m]] w fun e w'=>e=.returned (.int .i64 (cmpG a b c d))∧Below w.heap.size w w':=by
 obtain ⟨W0,hW0⟩:∃ W0,W0=(w.alloc (.cells #[.string ⟨a.toArray⟩,.string ⟨b.toArray⟩,.int .i64 n] 147)).alloc (.cells #[.string ⟨c.toArray⟩,.string ⟨d.toArray⟩,.int .i64 m] 147):=⟨_,rfl⟩
 have hb1:=(Below.refl w.heap.size w).alloc (Nat.le_refl _) (.cells #[.string ⟨a.toArray⟩,.string ⟨b.toArray⟩,.int .i64 n] 147)
 have hb2:=hb1.alloc hb1.size (.cells #[.string ⟨c.toArray⟩,.string ⟨d.toArray⟩,.int .i64 m] 147)
 have k0:=(Blk.new w 147 #[.string ⟨a.toArray⟩,.string ⟨b.toArray⟩,.int .i64 n]).alloc (.cells #[.string ⟨c.toArray⟩,.string ⟨d.toArray⟩,.int .i64 m] 147)
 have k1:=Blk.new (w.alloc (.cells #[.string ⟨a.toArray⟩,.string ⟨b.toArray⟩,.int .i64 n] 147)) 147 #[.string ⟨c.toArray⟩,.string ⟨d.toArray⟩,.int .i64 m]
 have e1:(w.alloc (.cells #[.string ⟨a.toArray⟩,.string ⟨b.toArray⟩,.int .i64 n] 147)).heap.size=w.heap.size+1:=by simp
 rw [e1] at k1
 rw [← hW0] at hb2 k0 k1
 have hsz:W0.heap.size=w.heap.size+2:=by rw [hW0];simp
 have hS:=Lib.hid (fun (W':World) (hB:Below W0.heap.size W0 W') =>
  (⟨(k0.below hB (by omega)).cell 0,(k0.below hB (by omega)).cell 1,(k1.below hB (by omega)).cell 0,(k1.below hB (by omega)).cell 1⟩ :
   W'.cell? ⟨w.heap.size,0,none⟩=some (.string ⟨a.toArray⟩)∧W'.cell? ⟨w.heap.size,1,none⟩=some (.string ⟨b.toArray⟩)∧W'.cell? ⟨w.heap.size+1,0,none⟩=some (.string ⟨c.toArray⟩)∧W'.cell? ⟨w.heap.size+1,1,none⟩=some (.string ⟨d.toArray⟩)))
 have HSZ:=Lib.hid hsz
 have HG:=Lib.hid (cmpG_or a b c d)
 have HB:=Lib.hid hb2
 clear k0 k1 e1 hsz hb1 hb2
 go_enter Tryz.func180,Tryz.ntmps180
 go_wp2_with fail
 rw [← hW0]
 clear hW0
 refine wp_region_good2 (by kernel_rfl) (by kernel_rfl) [(fun v _=>v=.pointer (some ⟨w.heap.size,0,none⟩)),
  (fun v _=>v=.string ⟨a.toArray⟩),
  (fun v _=>v=.pointer (some ⟨(w.heap.size+1),0,none⟩)),
  (fun v _=>v=.string ⟨c.toArray⟩),
  (fun v _=>v=.int .i64 (cmpS a c)),
  (fun v _=>v=.pointer (some ⟨w.heap.size,1,none⟩)),
  (fun v _=>v=.string ⟨b.toArray⟩),
  (fun v _=>v=.pointer (some ⟨(w.heap.size+1),1,none⟩)),
  (fun v _=>v=.string ⟨d.toArray⟩),
  (fun v _=>v=.int .i64 (cmpS b d)),
  (fun v W=>W.ownsRow w.heap.size 3 1 v 2 [.int .i64 (cmpS a c),.int .i64 (cmpS b d)]),
  (fun v _=>v=.int .i64 (cmpG a b c d)),
  (fun v _=>v=.int .i64 (cmpG a b c d))] ?_ ?_ ?_
 ·repeat' (first | exact stays_nil | refine stays_cons ?_ ?_ | exact Stays.pure | exact Stays.own _ _ _ _ _)
 ·intro i oo ho m2 W hb0 hmi hcl hdeps AA KK hA hK
  rcases i with _ | _ | _ | _ | _ | _ | _ | _ | _ | _ | _ | _ | _ | i
  ·injection ho with ho
   subst ho
   have ef2:AA.tmps[2]?.getD undef=.pointer (some ⟨w.heap.size,0,none⟩):=by rw [hA];exact tmps_free (by kernel_rfl)
   clear hA hdeps hcl hmi
   have hK0:KK (AA.put (some 5) _) _:=hK (.pointer (some ⟨w.heap.size,0,none⟩)) _ (Below.refl _ _) (Eq.refl _)
   clear hK
   go_simp
   exact hK0
  ·injection ho with ho
   subst ho
   obtain ⟨x0,hx0,hg0⟩:=hdeps ⟨0,.data⟩ (by simp) rfl
   have hg0:x0=.pointer (some ⟨w.heap.size,0,none⟩):=hg0
   subst hg0
   have e0:AA.tmps[5]?.getD undef=.pointer (some ⟨w.heap.size,0,none⟩):=by rw [hA];exact tmps_own (by kernel_rfl) hx0 (of_decide_eq_true (by kernel_rfl))
   clear hA hdeps hcl hmi hx0
   obtain ⟨c0,c1,c2,c3⟩:=hS.out W hb0
   have hK0:KK (AA.put (some 6) _) _:=hK (.string ⟨a.toArray⟩) _ (Below.refl _ _) (Eq.refl _)
   clear hK
   go_simp
   exact hK0
  ·injection ho with ho
   subst ho
   have ef3:AA.tmps[3]?.getD undef=.pointer (some ⟨(w.heap.size+1),0,none⟩):=by rw [hA];exact tmps_free (by kernel_rfl)
   clear hA hdeps hcl hmi
   have hK0:KK (AA.put (some 7) _) _:=hK (.pointer (some ⟨(w.heap.size+1),0,none⟩)) _ (Below.refl _ _) (Eq.refl _)
   clear hK
   go_simp
   exact hK0
  ·injection ho with ho
   subst ho
   obtain ⟨x2,hx2,hg2⟩:=hdeps ⟨2,.data⟩ (by simp) rfl
   have hg2:x2=.pointer (some ⟨(w.heap.size+1),0,none⟩):=hg2
   subst hg2
   have e2:AA.tmps[7]?.getD undef=.pointer (some ⟨(w.heap.size+1),0,none⟩):=by rw [hA];exact tmps_own (by kernel_rfl) hx2 (of_decide_eq_true (by kernel_rfl))
   clear hA hdeps hcl hmi hx2
   obtain ⟨c0,c1,c2,c3⟩:=hS.out W hb0
   have hK0:KK (AA.put (some 8) _) _:=hK (.string ⟨c.toArray⟩) _ (Below.refl _ _) (Eq.refl _)
   clear hK
   go_simp
   exact hK0
  ·injection ho with ho
   subst ho
   obtain ⟨x1,hx1,hg1⟩:=hdeps ⟨1,.data⟩ (by simp) rfl
   have hg1:x1=.string ⟨a.toArray⟩:=hg1
   subst hg1
   have e1:AA.tmps[6]?.getD undef=.string ⟨a.toArray⟩:=by rw [hA];exact tmps_own (by kernel_rfl) hx1 (of_decide_eq_true (by kernel_rfl))
   obtain ⟨x3,hx3,hg3⟩:=hdeps ⟨3,.data⟩ (by simp) rfl
   have hg3:x3=.string ⟨c.toArray⟩:=hg3
   subst hg3
   have e3:AA.tmps[8]?.getD undef=.string ⟨c.toArray⟩:=by rw [hA];exact tmps_own (by kernel_rfl) hx3 (of_decide_eq_true (by kernel_rfl))
   clear hA hdeps hcl hmi hx1 hx3
   have hKK:=Lib.hid hK
   clear hK
   go_simp
   refine (compareS_any a c _).mono ?_
   rintro e w5 ⟨rfl,q,rfl⟩
   exact hKK.out _ _ (below_drewN (Below.refl _ _) q) rfl
  ·injection ho with ho
   subst ho
   have ef2:AA.tmps[2]?.getD undef=.pointer (some ⟨w.heap.size,0,none⟩):=by rw [hA];exact tmps_free (by kernel_rfl)
   clear hA hdeps hcl hmi
   have hK0:KK (AA.put (some 10) _) _:=hK (.pointer (some ⟨w.heap.size,1,none⟩)) _ (Below.refl _ _) (Eq.refl _)
   clear hK
   go_simp
   exact hK0
  ·injection ho with ho
   subst ho
   obtain ⟨x5,hx5,hg5⟩:=hdeps ⟨5,.data⟩ (by simp) rfl
   have hg5:x5=.pointer (some ⟨w.heap.size,1,none⟩):=hg5
   subst hg5
   have e5:AA.tmps[10]?.getD undef=.pointer (some ⟨w.heap.size,1,none⟩):=by rw [hA];exact tmps_own (by kernel_rfl) hx5 (of_decide_eq_true (by kernel_rfl))
   clear hA hdeps hcl hmi hx5
   obtain ⟨c0,c1,c2,c3⟩:=hS.out W hb0
   have hK0:KK (AA.put (some 11) _) _:=hK (.string ⟨b.toArray⟩) _ (Below.refl _ _) (Eq.refl _)
   clear hK
   go_simp
   exact hK0
  ·injection ho with ho
   subst ho
   have ef3:AA.tmps[3]?.getD undef=.pointer (some ⟨(w.heap.size+1),0,none⟩):=by rw [hA];exact tmps_free (by kernel_rfl)
   clear hA hdeps hcl hmi
   have hK0:KK (AA.put (some 12) _) _:=hK (.pointer (some ⟨(w.heap.size+1),1,none⟩)) _ (Below.refl _ _) (Eq.refl _)
   clear hK
   go_simp
   exact hK0
  ·injection ho with ho
   subst ho
   obtain ⟨x7,hx7,hg7⟩:=hdeps ⟨7,.data⟩ (by simp) rfl
   have hg7:x7=.pointer (some ⟨(w.heap.size+1),1,none⟩):=hg7
   subst hg7
   have e7:AA.tmps[12]?.getD undef=.pointer (some ⟨(w.heap.size+1),1,none⟩):=by rw [hA];exact tmps_own (by kernel_rfl) hx7 (of_decide_eq_true (by kernel_rfl))
   clear hA hdeps hcl hmi hx7
   obtain ⟨c0,c1,c2,c3⟩:=hS.out W hb0
   have hK0:KK (AA.put (some 13) _) _:=hK (.string ⟨d.toArray⟩) _ (Below.refl _ _) (Eq.refl _)
   clear hK
   go_simp
   exact hK0
  ·injection ho with ho
   subst ho
   obtain ⟨x6,hx6,hg6⟩:=hdeps ⟨6,.data⟩ (by simp) rfl
   have hg6:x6=.string ⟨b.toArray⟩:=hg6
   subst hg6
   have e6:AA.tmps[11]?.getD undef=.string ⟨b.toArray⟩:=by rw [hA];exact tmps_own (by kernel_rfl) hx6 (of_decide_eq_true (by kernel_rfl))
   obtain ⟨x8,hx8,hg8⟩:=hdeps ⟨8,.data⟩ (by simp) rfl
   have hg8:x8=.string ⟨d.toArray⟩:=hg8
   subst hg8
   have e8:AA.tmps[13]?.getD undef=.string ⟨d.toArray⟩:=by rw [hA];exact tmps_own (by kernel_rfl) hx8 (of_decide_eq_true (by kernel_rfl))
   clear hA hdeps hcl hmi hx6 hx8
   have hKK:=Lib.hid hK
   clear hK
   go_simp
   refine (compareS_any b d _).mono ?_
   rintro e w5 ⟨rfl,q,rfl⟩
   exact hKK.out _ _ (below_drewN (Below.refl _ _) q) rfl
  ·injection ho with ho
   subst ho
   obtain ⟨x4,hx4,hg4⟩:=hdeps ⟨4,.data⟩ (by simp) rfl
   have hg4:x4=.int .i64 (cmpS a c):=hg4
   subst hg4
   have e4:AA.tmps[9]?.getD undef=.int .i64 (cmpS a c):=by rw [hA];exact tmps_own (by kernel_rfl) hx4 (of_decide_eq_true (by kernel_rfl))
   obtain ⟨x9,hx9,hg9⟩:=hdeps ⟨9,.data⟩ (by simp) rfl
   have hg9:x9=.int .i64 (cmpS b d):=hg9
   subst hg9
   have e9:AA.tmps[14]?.getD undef=.int .i64 (cmpS b d):=by rw [hA];exact tmps_own (by kernel_rfl) hx9 (of_decide_eq_true (by kernel_rfl))
   clear hA hdeps hcl hmi hx4 hx9
   have hK0:KK (AA.put (some 15) _) _:=hK _ _ ((Below.refl _ _).alloc (Nat.le_refl _) _) (own_mono (own_lit W #[.int .i64 (cmpS a c),.int .i64 (cmpS b d)] 3 2 rfl (by decide)) (by have:=hb0.size;have:=HSZ.out;omega))
   clear hK
   go_simp
   exact hK0
  ·injection ho with ho
   subst ho
   obtain ⟨x10,hx10,hg10⟩:=hdeps ⟨10,.data⟩ (by simp) rfl
   have hg10:W.ownsRow w.heap.size 3 1 x10 2 [.int .i64 (cmpS a c),.int .i64 (cmpS b d)]:=hg10
   have e10:AA.tmps[15]?.getD undef=x10:=by rw [hA];exact tmps_own (by kernel_rfl) hx10 (of_decide_eq_true (by kernel_rfl))
   clear hA hdeps hcl hmi hx10
   obtain ⟨A1,c1,rfl,_,_,hr1⟩:=own_form hg10
   have hKK:=Lib.hid hK
   clear hK hg10
   go_simp
   refine (orI2_any _ _ A1 c1 W W.heap.size hr1).mono ?_
   rintro e w5 ⟨rfl,q,rfl⟩
   exact hKK.out _ _ (below_drewN (Below.refl _ _) q) (show Value.int .i64 (orI2 (cmpS a c) (cmpS b d))=.int .i64 (cmpG a b c d) from congrArg (Value.int .i64) HG.out)
  ·injection ho with ho
   subst ho
   obtain ⟨x11,hx11,hg11⟩:=hdeps ⟨11,.data⟩ (by simp) rfl
   have hg11:x11=.int .i64 (cmpG a b c d):=hg11
   subst hg11
   have e11:AA.tmps[16]?.getD undef=.int .i64 (cmpG a b c d):=by rw [hA];exact tmps_own (by kernel_rfl) hx11 (of_decide_eq_true (by kernel_rfl))
   clear hA hdeps hcl hmi hx11
   have hK0:KK (AA.put (some 4) _) _:=hK (.int .i64 (cmpG a b c d)) _ (Below.refl _ _) (Eq.refl _)
   clear hK
   go_simp
   exact hK0
  ·simp at ho
 ·intro m W hbx hall
  obtain ⟨x0,m0,g0⟩:=hall 0 (by simp)
  replace g0:x0=.pointer (some ⟨w.heap.size,0,none⟩):=g0
  subst g0
  obtain ⟨x1,m1,g1⟩:=hall 1 (by simp)
  replace g1:x1=.string ⟨a.toArray⟩:=g1
  subst g1
  obtain ⟨x2,m2,g2⟩:=hall 2 (by simp)
  replace g2:x2=.pointer (some ⟨(w.heap.size+1),0,none⟩):=g2
  subst g2
  obtain ⟨x3,m3,g3⟩:=hall 3 (by simp)
  replace g3:x3=.string ⟨c.toArray⟩:=g3
  subst g3
  obtain ⟨x4,m4,g4⟩:=hall 4 (by simp)
  replace g4:x4=.int .i64 (cmpS a c):=g4
  subst g4
  obtain ⟨x5,m5,g5⟩:=hall 5 (by simp)
  replace g5:x5=.pointer (some ⟨w.heap.size,1,none⟩):=g5
  subst g5
  obtain ⟨x6,m6,g6⟩:=hall 6 (by simp)
  replace g6:x6=.string ⟨b.toArray⟩:=g6
  subst g6
  obtain ⟨x7,m7,g7⟩:=hall 7 (by simp)
  replace g7:x7=.pointer (some ⟨(w.heap.size+1),1,none⟩):=g7
  subst g7
  obtain ⟨x8,m8,g8⟩:=hall 8 (by simp)
  replace g8:x8=.string ⟨d.toArray⟩:=g8
  subst g8
  obtain ⟨x9,m9,g9⟩:=hall 9 (by simp)
  replace g9:x9=.int .i64 (cmpS b d):=g9
  subst g9
  obtain ⟨x10,m10,g10⟩:=hall 10 (by simp)
  replace g10:W.ownsRow w.heap.size 3 1 x10 2 [.int .i64 (cmpS a c),.int .i64 (cmpS b d)]:=g10
  obtain ⟨x11,m11,g11⟩:=hall 11 (by simp)
  replace g11:x11=.int .i64 (cmpG a b c d):=g11
  subst g11
  obtain ⟨x12,m12,g12⟩:=hall 12 (by simp)
  replace g12:x12=.int .i64 (cmpG a b c d):=g12
  subst g12
  rw [frameM_all (by kernel_rfl) [.pointer (some ⟨w.heap.size,0,none⟩),.string ⟨a.toArray⟩,.pointer (some ⟨(w.heap.size+1),0,none⟩),.string ⟨c.toArray⟩,.int .i64 (cmpS a c),.pointer (some ⟨w.heap.size,1,none⟩),.string ⟨b.toArray⟩,.pointer (some ⟨(w.heap.size+1),1,none⟩),.string ⟨d.toArray⟩,.int .i64 (cmpS b d),x10,.int .i64 (cmpG a b c d),.int .i64 (cmpG a b c d)] rfl (fun i hi=>by
    rcases i with _ | _ | _ | _ | _ | _ | _ | _ | _ | _ | _ | _ | _ | i
    ·exact m0
    ·exact m1
    ·exact m2
    ·exact m3
    ·exact m4
    ·exact m5
    ·exact m6
    ·exact m7
    ·exact m8
    ·exact m9
    ·exact m10
    ·exact m11
    ·exact m12
    ·simp at hi;omega)]
  clear hall m0 m1 m2 m3 m4 m5 m6 m7 m8 m9 m10 m11 m12
  simp only [putAll,Act.put,zA,zC,zB]
  go_wp2_with fail
  go_ret
  exact ⟨rfl,HB.out.trans (hbx.mono (by have:=HSZ.out;omega))⟩
end Go.Proofs.YtcgclpcocdappaaGreatDoor
namespace Go.Proofs.YtcgclpcocdappaaGreatDoor
open Go.RowKit
theorem quietN {P:Program} {f:FuncId} {args:Array Value} {w:World} {p m:Nat} {v:Value} (h:Calls P f args (w.drewN (p+m)) fun e w'=>e=.returned v∧w'=w.drewN (p+m)) :
  Calls P f args (w.drewN (p+m)) fun e w''=>e=.returned v∧∃ n,w''=w.drewN (p+n):=h.mono fun _ _ ⟨h1,h2⟩=>⟨h1,m,h2⟩
set_option maxRecDepth 100000 in
set_option maxHeartbeats 2000000 in
theorem refProps_any (l:PL) (n:Nat) (hnl:n=l.length) (A:Option Addr) (c:Nat) (w:World) (B:Nat) (hr:Reads w B 2 A n (pcells l)) (hn:n≤5000000000000) (hv:∀ x∈l,x.1.length≤140737488351232∧x.2.length≤140737488351232) :
  Calls Tryz.prog 119 #[.slice A n c] w fun e w'=>e=.returned (.int .i64 (propsE l))∧∃ q,w'=w.drewN q:=by
 have HN:=Lib.hid hnl
 obtain ⟨E,hE⟩:∃ E,E=propsE l:=⟨_,rfl⟩
 have hPE:Hid (∀ b,propsFrom none l=b→E=if b=true∧n≤8 then 0 else 9):=by
  show ∀ b,_→_
  rintro b rfl
  rw [hE]
  unfold propsE propsB
  rw [← hnl]
  by_cases h8:n≤8
  ·simp [h8]
  ·simp [h8]
 rw [← hE]
 clear hnl hE
 go_enter Tryz.func119,Tryz.ntmps119
 go_wp2_with fail
 go_loopw [3] (fun j wr=>∃ k:Nat,k≤n∧j=.int .i64 (k:Int)∧Hid (propsFrom none l=propsFrom (prevP l k) (l.drop k))∧∃ p,wr=w.drewN p) (fun j _=>n-(intOf j).toNat)
 case atStart=>exact ⟨0,Nat.zero_le _,rfl,rfl,0,rfl⟩
 case round =>
  obtain ⟨k,hk,rfl,hok,p,rfl⟩:=hrel
  by_cases hlt:k<n
  ·obtain ⟨ad,rfl,hadB,c0,c1⟩:=hr.prop HN.out hlt
   have hki:(k:Int)<(n:Int):=by omega
   have hkl:k<l.length:=by have:=HN.out;omega
   obtain ⟨x,hx⟩:∃ x,x=l[k]'hkl:=⟨_,rfl⟩
   have hxl:=hv x (by rw [hx];exact List.getElem_mem _)
   rw [← hx] at c0 c1
   have hdr:=List.drop_eq_getElem_cons hkl
   rw [← hx] at hdr
   have HX:=Lib.hid hx
   have HDR:=Lib.hid hdr
   obtain ⟨xn,xv⟩:=x
   simp only [strV] at c0 c1 hxl
   have hbad:Hid ((nameB xn=false∨valB xv=false∨(∃ y,prevP l k=some y∧Op.bytesLess y xn=false))→E=9):=by
    show _→_
    intro h
    rw [hPE.out false]
    ·rfl
    rw [hok.out,HDR.out,propsFrom_cons]
    rcases h with h | h | ⟨y,hy,h⟩
    ·rw [h];rfl
    ·rw [h];simp
    ·rw [hy];simp [h]
   have hgood:Hid (nameB xn=true→valB xv=true→(∀ y,prevP l k=some y→Op.bytesLess y xn=true)→propsFrom none l=propsFrom (prevP l (k+1)) (l.drop (k+1))):=by
    show _→_→_→_
    intro h1 h2 h3
    rw [hok.out,HDR.out]
    have hp:prevP l (k+1)=some xn:=by
     show (l[k]?).map (·.1)=_
     rw [List.getElem?_eq_getElem hkl,← HX.out]
     rfl
    rw [hp,propsFrom_cons,h1,h2]
    cases hq:prevP l k with
    | none=>rfl
    | some y=>simp [h3 y hq]
   have hN:∀ m,Calls Tryz.prog 63 #[.string ⟨xn.toArray⟩] (w.drewN (p+m)) fun e W'=>e=.returned (.bool (nameB xn))∧∃ n,W'=w.drewN (p+n):=fun m=>quietN (refName_any xn _ hxl.1)
   have hV:∀ m,Calls Tryz.prog 120 #[.string ⟨xv.toArray⟩] (w.drewN (p+m)) fun e W'=>e=.returned (.bool (valB xv))∧∃ n,W'=w.drewN (p+n):=fun m=>quietN (refValue_any xv _ hxl.2)
   clear hx hdr hok hxl hv
   obtain ⟨bn,hbn0⟩:∃ b,b=nameB xn:=⟨_,rfl⟩
   obtain ⟨bv,hbv0⟩:∃ b,b=valB xv:=⟨_,rfl⟩
   rw [← hbn0] at hbad hgood hN
   rw [← hbv0] at hbad hgood hV
   clear hbn0 hbv0
   cases bn with
   | false =>
    have HB:=Lib.hid (hbad.out (.inl rfl))
    clear hr hbad hgood hV
    go_wp2_with fail
    go_big_quiet ((go_at_call 63;exact hN _))
    clear hN
    go_wp2_with fail
    go_ret
    exact ⟨by rw [HB.out];rfl,_,World.drewN_drewN _ _ _⟩
   | true =>
    cases bv with
    | false =>
     have HB:=Lib.hid (hbad.out (.inr (.inl rfl)))
     clear hr hbad hgood
     go_wp2_with fail
     go_big_quiet (first | (go_at_call 63;exact hN _) | (go_at_call 120;exact hV _))
     clear hN hV
     go_wp2_with fail
     go_ret
     exact ⟨by rw [HB.out];rfl,_,World.drewN_drewN _ _ _⟩
    | true =>
     rcases Nat.eq_zero_or_pos k with h0 | h0
     ·have HG:=Lib.hid (hgood.out rfl rfl (fun y hy=>by subst h0;cases hy))
      have d4:decide ((0:Int)<(k:Int))=false:=by simp;omega
      have d4':decide (0<k)=false:=by simp;omega
      clear h0 hr hbad hgood
      go_wp2_with fail
      go_big_quiet (first | (go_at_call 63;exact hN _) | (go_at_call 120;exact hV _))
      clear hN hV
      go_wp2_with fail
      go_roundw
      case rel=>exact ⟨k+1,by omega,by go_num,HG,_,rfl⟩
      case measure=>simp [intOf];omega
     ·have d4:decide ((0:Int)<(k:Int))=true:=by simp;omega
      have d4':decide (0<k)=true:=by simp;omega
      have hk1l:k-1<l.length:=by omega
      obtain ⟨y,hy⟩:∃ y,y=(l[k-1]'hk1l).1:=⟨_,rfl⟩
      have hpv:prevP l k=some y:=by
       obtain ⟨j,rfl⟩:∃ j,k=j+1:=⟨k-1,by omega⟩
       show (l[j]?).map (·.1)=_
       have hj:j<l.length:=by simpa using hk1l
       rw [List.getElem?_eq_getElem hj,hy]
       rfl
      obtain ⟨ad2,e2,-,c2,-⟩:=(hr.prop HN.out (k:=k-1) (by omega))
      injection e2 with e2
      subst e2
      rw [← hy] at c2
      simp only [strV] at c2
      have i1:(1:Int)≤(k:Int):=by omega
      have i2:(k:Int)-1<(n:Int):=by omega
      have i3:IntKind.i64.wrap ((k:Int)-1)=(k:Int)-1:=IntWalk.i64_in _ (by omega)
      have i4:((k:Int)-1).toNat=k-1:=by omega
      have hleq:=leqS 9 xn y
      cases hcmp:Op.bytesLess y xn with
      | true =>
       have HG:=Lib.hid (hgood.out rfl rfl (fun y' hy'=>by rw [hpv] at hy';cases hy';exact hcmp))
       have f1:(Op.bytesLess xn y || xn == y)=false:=by
        rw [Bool.or_eq_false_iff]
        refine ⟨?_,by simpa using (bl_ne hcmp).symm⟩
        rw [← Bool.not_eq_true]
        intro h
        have:=bl_trans hcmp h
        rw [bl_irrefl] at this
        cases this
       rw [f1] at hleq
       clear hr hbad hgood h0 hpv hy hcmp f1
       go_wp2_with fail
       go_big_quiet (first | (go_at_call 63;exact hN _) | (go_at_call 120;exact hV _))
       clear hN hV hleq
       go_wp2_with fail
       go_roundw
       case rel=>exact ⟨k+1,by omega,by go_num,HG,_,rfl⟩
       case measure=>simp [intOf];omega
      | false =>
       have HB:=Lib.hid (hbad.out (.inr (.inr ⟨y,hpv,hcmp⟩)))
       have f1:(Op.bytesLess xn y || xn == y)=true:=by
        by_cases e:xn=y
        ·simp [e]
        ·rw [bl_tri y xn hcmp (fun h=>e h.symm)];rfl
       rw [f1] at hleq
       clear hr hbad hgood h0 hpv hy hcmp f1
       go_wp2_with fail
       go_big_quiet (first | (go_at_call 63;exact hN _) | (go_at_call 120;exact hV _))
       clear hN hV hleq
       go_wp2_with fail
       go_ret
       exact ⟨by rw [HB.out];rfl,_,World.drewN_drewN _ _ _⟩
  ·have hkn:k=n:=by omega
   have hF:Hid (E=if n≤8 then 0 else 9):=by
    show _=_
    rw [hPE.out true]
    ·simp
    rw [hok.out,List.drop_of_length_le (by rw [hkn,HN.out];exact Nat.le_refl _)]
    rfl
   clear hok hr hkn hPE
   by_cases h8:n≤8
   ·have hi8:¬ (8:Int)<(n:Int):=by omega
    have HV:Hid (E=0):=by show _=_;rw [hF.out,if_pos h8]
    clear hF
    go_wp2_with fail
    go_ret
    exact ⟨by rw [HV.out];rfl,p,rfl⟩
   ·have hi8:(8:Int)<(n:Int):=by omega
    have HV:Hid (E=9):=by show _=_;rw [hF.out,if_neg h8]
    clear hF
    go_wp2_with fail
    go_ret
    exact ⟨by rw [HV.out];rfl,p,rfl⟩
set_option maxRecDepth 100000 in
set_option maxHeartbeats 1000000 in
theorem sameProps_any (a b:PL) (n m:Nat) (hna:n=a.length) (hmb:m=b.length) (A1 A2:Option Addr) (c1 c2:Nat) (w:World) (B1 B2:Nat) (hr1:Reads w B1 2 A1 n (pcells a)) (hr2:Reads w B2 2 A2 m (pcells b)) (hn:n≤5000000000000) (hm:m≤5000000000000) :
  Calls Tryz.prog 14 #[.slice A1 n c1,.slice A2 m c2] w fun e w'=>e=.returned (.bool (decide (a=b)))∧∃ q,w'=w.drewN q:=by
 have HN:=Lib.hid hna
 have HM:=Lib.hid hmb
 clear hna hmb
 by_cases hnm:n=m
 ·subst hnm
  go_enter Tryz.func14,Tryz.ntmps14
  go_wp2_with fail
  go_loopw [5] (fun i wr=>∃ k:Nat,k≤n∧i=.int .i64 (k:Int)∧Hid (a.take k=b.take k)∧∃ q,wr=w.drewN q) (fun i _=>n-(intOf i).toNat)
  case atStart=>exact ⟨0,Nat.zero_le _,rfl,(show a.take 0=b.take 0 by simp),0,rfl⟩
  case round =>
   obtain ⟨k,hk,rfl,hok,q,rfl⟩:=hrel
   by_cases hlt:k<n
   ·have hki:(k:Int)<(n:Int):=by omega
    have hka:k<a.length:=by have:=HN.out;omega
    have hkb:k<b.length:=by have:=HM.out;omega
    obtain ⟨ad1,rfl,_,hc1,hc1'⟩:=hr1.prop HN.out hlt
    obtain ⟨ad2,rfl,_,hc2,hc2'⟩:=hr2.prop HM.out hlt
    obtain ⟨x,hx⟩:∃ x,x=a[k]'hka:=⟨_,rfl⟩
    obtain ⟨y,hy⟩:∃ y,y=b[k]'hkb:=⟨_,rfl⟩
    rw [← hx] at hc1 hc1'
    rw [← hy] at hc2 hc2'
    have t1:=List.take_succ_eq_append_getElem hka
    have t2:=List.take_succ_eq_append_getElem hkb
    rw [← hx] at t1
    rw [← hy] at t2
    have T1:=Lib.hid t1
    have T2:=Lib.hid t2
    have X1:=Lib.hid hx
    have X2:=Lib.hid hy
    obtain ⟨xn,xv⟩:=x
    obtain ⟨yn,yv⟩:=y
    simp only [strV] at hc1 hc1' hc2 hc2'
    clear hx hy t1 t2 hr1 hr2
    by_cases hxy:xn=yn∧xv=yv
    ·obtain ⟨rfl,rfl⟩:=hxy
     go_wp2_with fail
     go_region
     go_wp2_with fail
     go_roundw
     case rel =>
      refine ⟨k+1,by omega,by go_num,?_,q+1,rfl⟩
      show a.take (k+1)=b.take (k+1)
      rw [T1.out,T2.out,hok.out]
     case measure=>simp [intOf];omega
    ·have HD:Hid (decide (a=b)=false):=by
      show _=_
      refine decide_eq_false (fun e=>hxy ?_)
      have:(xn,xv)=(yn,yv):=by rw [X1.out,X2.out];simp only [e]
      exact ⟨congrArg Prod.fst this,congrArg Prod.snd this⟩
     by_cases hxn:xn=yn
     ·have hxv:¬ xv=yv:=fun e=>hxy ⟨hxn,e⟩
      subst hxn
      clear hxy
      go_wp2_with fail
      go_region
      go_wp2_with fail
      go_ret
      exact ⟨by rw [HD.out];rfl,q+1,rfl⟩
     ·clear hxy
      go_wp2_with fail
      go_region
      go_wp2_with fail
      go_ret
      exact ⟨by rw [HD.out];rfl,q+1,rfl⟩
   ·have HD:Hid (decide (a=b)=true):=by
     show _=_
     refine decide_eq_true ?_
     have:=hok.out
     rwa [List.take_of_length_le (by have:=HN.out;omega),List.take_of_length_le (by have:=HM.out;omega)] at this
    clear hr1 hr2
    go_wp2_with fail
    go_ret
    exact ⟨by rw [HD.out];rfl,q,rfl⟩
 ·have hd:((n:Int) != (m:Int))=true:=by simp;omega
  have HD:Hid (decide (a=b)=false):=by
   show _=_
   refine decide_eq_false (fun e=>hnm ?_)
   rw [HN.out,HM.out,e]
  clear hnm hr1 hr2
  go_enter Tryz.func14,Tryz.ntmps14
  go_wp2_with fail
  go_ret
  exact ⟨by rw [HD.out];rfl,0,rfl⟩
end Go.Proofs.YtcgclpcocdappaaGreatDoor
