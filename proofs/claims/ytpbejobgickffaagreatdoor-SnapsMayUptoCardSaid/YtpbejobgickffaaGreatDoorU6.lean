/-
  The reference's letter, Name, value, Props: by their contracts. A drawn region whose operations read and make memory, with one store at an operation S, behind which only operations stand that look at no memory. names.Name, names.Path. 'append' into a row that is known whole and has room. props.Over, by its contract. A drawn region whose operations read and make memory, and whose last one, behind all others, may do whatever it does. Grants: the plain law. slices.IndexFunc and slices.DeleteFunc at elements of 2 cells, by their contracts. A slice of strings in memory. cmp.Or at a row of two numbers; the order of grants: by their contracts. The page's Path, by its contract.
-/
import Derived.Test.YtpbejobgickffaaGreatDoorU0
import Derived.Test.YtpbejobgickffaaGreatDoorU4
import Derived.Test.YtpbejobgickffaaGreatDoorU5
import Derived.Test.YtpbejobgickffaaGreatDoorU1
import Derived.Test.YtpbejobgickffaaGreatDoorU2
import Derived.Test.YtpbejobgickffaaGreatDoorU3
import Derived.Shelf.SlIter.Nil
import Derived.Shelf.SortM.Plain
import Derived.Shelf.SortM.SortNone
import Derived.Maps.OwnSet
import Derived.Maps.StringElems
import Derived.Handy
import Derived.Test.YtpbejobgickffaaGreatDoorRows
namespace Go.Proofs.YtpbejobgickffaaGreatDoor
open Go.RowKit
set_option maxRecDepth 100000 in
theorem letter_any (c:UInt8) (w:World):Calls Tryz.prog 146 #[.int .u8 (c.toNat:Int)] w fun e w'=>e=.returned (.bool (okB c))∧w'=w:=by
 have hc:c.toNat<256:=c.toNat_lt
 have hk:=Lib.hid (okB_iff c)
 go_enter Tryz.func146,Tryz.ntmps146
 go_wp2
 all_goals go_ret
 all_goals refine ⟨congrArg Ending.returned (congrArg Value.bool ?_),rfl⟩
 all_goals rw [Bool.eq_iff_iff,hk.out]
 all_goals simp
 all_goals omega
theorem bget (s:ByteArray) (k:Nat) (h:k<s.size):s.data.toList[k]'h=s[k]'h:=rfl
set_option maxRecDepth 100000 in
set_option maxHeartbeats 1000000 in
theorem refName_s (s:ByteArray) (w:World) (hs:s.size≤140737488351232):Calls Tryz.prog 87 #[.string s] w fun e w'=>e=.returned (.bool (nameB s.data.toList))∧w'=w:=by
 have hsz:s.data.toList.length=s.size:=(Lib.size_eq s).symm
 go_enter Tryz.func87,Tryz.ntmps87
 go_wp2_with fail
 go_loopw [3] (fun i wr=>∃ k:Nat,k≤s.size∧i=.int .i64 (k:Int)∧Hid ((s.data.toList.take k).all okB=true)∧wr=w) (fun i _=>s.size-(intOf i).toNat)
 case atStart=>exact ⟨0,Nat.zero_le _,rfl,rfl,rfl⟩
 case round =>
  obtain ⟨k,hk,rfl,hok,hww⟩:=hrel
  have hww:=hww.symm
  subst hww
  by_cases hlt:k<s.size
  ·have hki:(k:Int)<(s.size:Int):=by omega
   have hkl:k<s.data.toList.length:=by omega
   have htk:=List.take_succ_eq_append_getElem hkl
   have hg:=bget s k hlt
   obtain ⟨y,hy⟩:∃ y,y=s[k]'hlt:=⟨_,rfl⟩
   rw [hg,← hy] at htk
   have HT:=Lib.hid htk
   have HM:=Lib.hid (show y∈s.data.toList by rw [hy,← hg];exact List.getElem_mem _)
   have hc:=letter_any y w
   obtain ⟨b,hb⟩:∃ b,b=okB y:=⟨_,rfl⟩
   rw [← hb] at hc
   have HBB:=Lib.hid hb
   have hyv:((s[k]'hlt).toNat:Int)=(y.toNat:Int):=by rw [hy]
   have HSZ:=Lib.hid hsz
   clear htk hg hy hb hsz
   go_wp2_with fail
   refine hc.mono ?_
   clear hc
   rintro e w1 ⟨rfl,rfl⟩
   cases b with
   | true =>
    go_wp2_with fail
    go_roundw
    case rel =>
     refine ⟨k+1,by omega,by go_num,?_,trivial⟩
     show List.all _ _=_
     rw [HT.out,List.all_append,hok.out]
     simp [HBB.out.symm]
    case measure=>simp [intOf];omega
   | false =>
    have HN:Hid (nameB s.data.toList=false):=by
     show _=_
     unfold nameB
     have:s.data.toList.all okB=false:=by
      rw [← Bool.not_eq_true,List.all_eq_true]
      intro h
      have:=h y HM.out
      rw [← HBB.out] at this
      cases this
     rw [this,Bool.and_false]
    go_wp2_with fail
    go_ret
    exact ⟨by rw [HN.out];rfl,rfl⟩
  ·have HA:Hid (s.data.toList.all okB=true):=by
    show _=_
    have:=hok.out
    rwa [List.take_of_length_le (by omega)] at this
   have HN:Hid (nameB s.data.toList=(!(s.data.toList.isEmpty) && decide (s.data.toList.length≤16))):=by
    show _=_
    unfold nameB
    rw [HA.out,Bool.and_true]
   have HE:Hid (nameB s.data.toList=true↔1≤s.size∧s.size≤16):=by
    show _↔_
    rw [HN.out,Bool.and_eq_true,decide_eq_true_eq,hsz,Bool.not_eq_true']
    constructor
    ·rintro ⟨h1,h2⟩
     refine ⟨?_,h2⟩
     rcases Nat.eq_zero_or_pos s.size with h | h
     ·rw [← hsz] at h
      rw [List.eq_nil_of_length_eq_zero h] at h1
      cases h1
     ·exact h
    ·rintro ⟨h1,h2⟩
     refine ⟨?_,h2⟩
     rw [← Bool.not_eq_true,List.isEmpty_iff]
     intro e
     rw [e] at hsz
     simp at hsz
     omega
   clear hsz HA HN hok
   by_cases h1:1≤s.size
   ·have h1i:(1:Int)≤(s.size:Int):=by omega
    by_cases h2:s.size≤16
    ·have h2i:(s.size:Int)≤16:=by omega
     have HV:Hid (nameB s.data.toList=true):=HE.out.2 ⟨h1,h2⟩
     go_wp2_with fail
     go_ret
     exact ⟨by rw [HV.out];rfl,rfl⟩
    ·have h2i:¬ (s.size:Int)≤16:=by omega
     have HV:Hid (nameB s.data.toList=false):=by show _=_;rw [← Bool.not_eq_true,HE.out];omega
     go_wp2_with fail
     go_ret
     exact ⟨by rw [HV.out];rfl,rfl⟩
   ·have h1i:¬ (1:Int)≤(s.size:Int):=by omega
    have HV:Hid (nameB s.data.toList=false):=by show _=_;rw [← Bool.not_eq_true,HE.out];omega
    go_wp2_with fail
    go_ret
    exact ⟨by rw [HV.out];rfl,rfl⟩
theorem refName_any (n:BS) (w:World) (hs:n.length≤140737488351232):Calls Tryz.prog 87 #[.string ⟨n.toArray⟩] w fun e w'=>e=.returned (.bool (nameB n))∧w'=w:=by
 have:=refName_s ⟨n.toArray⟩ w (by show n.length≤_;exact hs)
 simpa using this
set_option maxRecDepth 100000 in
set_option maxHeartbeats 1000000 in
theorem refValue_s (s:ByteArray) (w:World) (hs:s.size≤140737488351232):Calls Tryz.prog 112 #[.string s] w fun e w'=>e=.returned (.bool (valB s.data.toList))∧w'=w:=by
 have hsz:s.data.toList.length=s.size:=(Lib.size_eq s).symm
 go_enter Tryz.func112,Tryz.ntmps112
 go_wp2_with fail
 go_loopw [3] (fun i wr=>∃ k:Nat,k≤s.size∧i=.int .i64 (k:Int)∧Hid (∀ c∈s.data.toList.take k,32≤c.toNat∧c.toNat≤126)∧wr=w) (fun i _=>s.size-(intOf i).toNat)
 case atStart=>exact ⟨0,Nat.zero_le _,rfl,(show ∀ c∈_,_ by simp),rfl⟩
 case round =>
  obtain ⟨k,hk,rfl,hok,hww⟩:=hrel
  have hww:=hww.symm
  subst hww
  by_cases hlt:k<s.size
  ·have hki:(k:Int)<(s.size:Int):=by omega
   have hkl:k<s.data.toList.length:=by omega
   have htk:=List.take_succ_eq_append_getElem hkl
   have hg:=bget s k hlt
   obtain ⟨y,hy⟩:∃ y,y=s[k]'hlt:=⟨_,rfl⟩
   rw [hg,← hy] at htk
   have HT:=Lib.hid htk
   have HM:=Lib.hid (show y∈s.data.toList by rw [hy,← hg];exact List.getElem_mem _)
   have hyv:((s[k]'hlt).toNat:Int)=(y.toNat:Int):=by rw [hy]
   have hy256:=y.toNat_lt
   have HSZ:=Lib.hid hsz
   have hbad:Hid ((y.toNat<32∨126<y.toNat)→valB s.data.toList=false):=by
    show _→_
    intro h
    unfold valB
    have:s.data.toList.all (fun c=>decide (32≤c) && decide (c≤126))=false:=by
     rw [← Bool.not_eq_true,List.all_eq_true]
     intro h2
     have h3:=h2 y HM.out
     simp only [Bool.and_eq_true,decide_eq_true_eq,UInt8.le_iff_toNat_le] at h3
     have e1:(32:UInt8).toNat=32:=rfl
     have e2:(126:UInt8).toNat=126:=rfl
     omega
    rw [this,Bool.and_false]
   clear htk hg hy hsz
   by_cases h1:y.toNat<32
   ·have h1i:(y.toNat:Int)<32:=by omega
    have HV:=Lib.hid (hbad.out (.inl h1))
    go_wp2_with fail
    go_ret
    exact ⟨by rw [HV.out];rfl,rfl⟩
   ·have h1i:¬ (y.toNat:Int)<32:=by omega
    by_cases h2:126<y.toNat
    ·have h2i:(126:Int)<(y.toNat:Int):=by omega
     have HV:=Lib.hid (hbad.out (.inr h2))
     go_wp2_with fail
     go_ret
     exact ⟨by rw [HV.out];rfl,rfl⟩
    ·have h2i:¬ (126:Int)<(y.toNat:Int):=by omega
     go_wp2_with fail
     go_roundw
     case rel =>
      refine ⟨k+1,by omega,by go_num,?_,trivial⟩
      show ∀ c∈_,_
      intro c hc
      rw [HT.out,List.mem_append,List.mem_singleton] at hc
      rcases hc with hc | rfl
      ·exact hok.out c hc
      ·exact ⟨by omega,by omega⟩
     case measure=>simp [intOf];omega
  ·have HV:Hid (valB s.data.toList=decide ((s.size:Int)≤32)):=by
    show _=_
    unfold valB
    have h:=hok.out
    rw [List.take_of_length_le (by omega)] at h
    have:s.data.toList.all (fun c=>decide (32≤c) && decide (c≤126))=true:=by
     rw [List.all_eq_true]
     intro c hc
     have:=h c hc
     simp only [Bool.and_eq_true,decide_eq_true_eq,UInt8.le_iff_toNat_le]
     exact this
    rw [this,Bool.and_true,hsz]
    exact decide_eq_decide.2 (by omega)
   clear hsz hok
   go_wp2_with fail
   go_ret
   exact ⟨by rw [HV.out];rfl,rfl⟩
theorem refValue_any (n:BS) (w:World) (hs:n.length≤140737488351232):Calls Tryz.prog 112 #[.string ⟨n.toArray⟩] w fun e w'=>e=.returned (.bool (valB n))∧w'=w:=by
 have:=refValue_s ⟨n.toArray⟩ w (by show n.length≤_;exact hs)
 simpa using this
end Go.Proofs.YtpbejobgickffaaGreatDoor
namespace Go.Proofs.YtpbejobgickffaaGreatDoor
open Go.RowKit
section
variable {P:Program} {ops:Array Oper}
def ClosedM (ops:Array Oper) (m:Nat→Option Value):Prop:=∀ j o',ops[j]?=some o'→(m j).isSome=true→∀ e∈o'.after,Region.binds .any e=true→(m e.on).isSome=true
theorem ClosedM.upd {m:Nat→Option Value} {i:Nat} {o:Oper} (h:ClosedM ops m) (ho:ops[i]?=some o) (hd:∀ e∈o.after,Region.binds .any e=true→(m e.on).isSome=true) (v:Value):ClosedM ops (upd m i v):=by
 intro j o' ho' hj e he hbi
 by_cases hei:e.on=i
 ·rw [hei,upd_self];rfl
 ·rw [upd_ne m v hei]
  by_cases hji:j=i
  ·subst hji
   rw [ho] at ho'
   injection ho' with ho'
   subst ho'
   exact hd e he hbi
  ·rw [upd_ne m v hji] at hj
   exact h j o' ho' hj e he hbi
/-- the operations that may stand behind the store: late; all others stand ahead of it -/
theorem wp_region_store {id:Nat} {a0:Act} {w:World} {Q:Exit→Act→World→Prop} (S:Nat) (late:List Nat) (hm:P.follows .mixedOrders=true) (hok:regionOk ops a0.tmps.size=true) (Gs:List (Value→World→Prop)) (hst:∀ p∈Gs,Stays p)
  (hlt:∀ i,i<ops.size→i≠S→i ∉ late→∀ m,ClosedM ops m→(m S).isSome=true→(m i).isSome=true)
  (hstep:∀ i o,ops[i]?=some o→i≠S→i ∉ late→∀ (m:Nat→Option Value) (W:World),Below w.heap.size w W→m i=none→ClosedM ops m→(∀ e∈o.after,Region.binds .any e=true→∃ v,m e.on=some v∧Says Gs e.on v W) →
   ∀ (A:Act) (K:Act→World→Prop),A=frameM a0 ops m→(∀ v W',Below W.heap.size W W'→Says Gs i v W'→K (A.put o.dst v) W')→if Region.wanted o (yielded ops A.tmps)=true then o.wp P A W K Q else K (A.put o.dst undef) W)
  (hlate:∀ i o,ops[i]?=some o→i∈late→∀ (m:Nat→Option Value) (W W9:World),m i=none→(∀ e∈o.after,Region.binds .any e=true→e.on≠S→∃ v,m e.on=some v∧Says Gs e.on v W9) →
   ∀ (A:Act) (K:Act→World→Prop),A=frameM a0 ops m→(∀ v,(∀ W',Says Gs i v W')→K (A.put o.dst v) W)→if Region.wanted o (yielded ops A.tmps)=true then o.wp P A W K Q else K (A.put o.dst undef) W)
  (R:World→World→Prop)
  (hstore:∀ o,ops[S]?=some o→∀ (m:Nat→Option Value) (W:World),Below w.heap.size w W→m S=none→(∀ e∈o.after,Region.binds .any e=true→∃ v,m e.on=some v∧Says Gs e.on v W) →
   ∀ (A:Act) (K:Act→World→Prop),A=frameM a0 ops m→(∀ W',R W W'→K (A.put o.dst undef) W')→if Region.wanted o (yielded ops A.tmps)=true then o.wp P A W K Q else K (A.put o.dst undef) W)
  (hSlt:S<ops.size) (hSs:∀ v W,Says Gs S v W)
  (hend:∀ (m:Nat→Option Value) (W9 W:World),Below w.heap.size w W9→R W9 W→(∀ i,i<ops.size→i≠S→∃ v,m i=some v∧Says Gs i v W9)→m S=some undef→Q .normal (frameM a0 ops m) W) :
  (Code.region id ops true).wp P Q a0 w:=by
 have hsay:∀ i v W W',Says Gs i v W→Below W.heap.size W W'→Says Gs i v W':=by
  intro i v W W' h hb
  unfold Says at h ⊢
  cases hG:Gs[i]? with
  | none=>trivial
  | some p=>rw [hG] at h;exact hst p (List.mem_of_getElem? hG) v W W' h hb
 refine wp_region_inv hm hok (fun m W=>∃ W9,Below w.heap.size w W9∧(∀ i v,m i=some v→Says Gs i v W9)∧ClosedM ops m∧((m S=none∧W=W9)∨(m S=some undef∧R W9 W)))
  ⟨_,(Below.refl _ _).drew,fun _ _ h=>(by cases h),fun _ _ _ h=>(by cases h),.inl ⟨rfl,rfl⟩⟩ ?_ ?_
 ·intro i o ho m W hJ hmi hdeps A K hA hK
  obtain ⟨W9,hb,hs,hcl,hW⟩:=hJ
  have his:i<ops.size:=(Array.getElem?_eq_some_iff.1 ho).1
  have hdv:∀ e∈o.after,Region.binds .any e=true→∃ v,m e.on=some v∧Says Gs e.on v W9:=fun e he hbi=>by
   have:=hdeps e he hbi
   cases hme:m e.on with
   | none=>rw [hme] at this;cases this
   | some v=>exact ⟨v,rfl,hs _ _ hme⟩
  have hsu:∀ v W',Below W9.heap.size W9 W'→Says Gs i v W'→∀ j u,upd m i v j=some u→Says Gs j u W':=fun v W' hbw hS j u hu=>by
   by_cases hji:j=i
   ·subst hji;rw [upd_self] at hu;injection hu with hu;subst hu;exact hS
   ·rw [upd_ne m v hji] at hu;exact hsay j u W9 W' (hs j u hu) hbw
  by_cases hiS:i=S
  ·subst hiS
   rcases hW with ⟨_,rfl⟩ | ⟨h,_⟩
   ·refine hstore o ho m W hb hmi hdv A K hA fun W' hR=>hK undef W' ⟨W,hb,hsu undef W (Below.refl _ _) (hSs _ _),hcl.upd ho hdeps undef,.inr ⟨upd_self _ _ _,hR⟩⟩
   ·rw [hmi] at h;cases h
  ·by_cases hil:i∈late
   ·refine hlate i o ho hil m W W9 hmi (fun e he hbi _=>hdv e he hbi) A K hA fun v hv=>hK v W ⟨W9,hb,hsu v W9 (Below.refl _ _) (hv _),hcl.upd ho hdeps v,?_⟩
    rw [upd_ne m v (fun e=>hiS e.symm)]
    exact hW
   ·rcases hW with ⟨hn,rfl⟩ | ⟨h,_⟩
    ·refine hstep i o ho hiS hil m W hb hmi hcl hdv A K hA fun v W' hbw hS=>hK v W' ⟨W',below_step hb hbw,hsu v W' hbw hS,hcl.upd ho hdeps v,.inl ⟨?_,rfl⟩⟩
     rw [upd_ne m v (fun e=>hiS e.symm)]
     exact hn
    ·have:=hlt i his hiS hil m hcl (by rw [h];rfl)
     rw [hmi] at this
     cases this
 ·intro m W hJ hall
  obtain ⟨W9,hb,hs,hcl,hW⟩:=hJ
  have hS:=hall S hSlt
  rcases hW with ⟨hn,_⟩ | ⟨h,hR⟩
  ·rw [hn] at hS;cases hS
  ·refine hend m W9 W hb hR (fun i hi _=>?_) h
   have:=hall i hi
   cases hmi:m i with
   | none=>rw [hmi] at this;cases this
   | some v=>exact ⟨v,rfl,hs _ _ hmi⟩
end
end Go.Proofs.YtpbejobgickffaaGreatDoor
namespace Go.Proofs.YtpbejobgickffaaGreatDoor
open Go.RowKit
/-! ### Path -/
set_option maxRecDepth 100000 in
theorem path1_any (s:ByteArray) (w:World):Calls Tryz.prog 140 #[.string s] w fun e w'=>e=.returned (.bool (!nameB s.data.toList))∧Below w.heap.size w w':=by
 go_enter Tryz.func140,Tryz.ntmps140
 go_wp2_with fail
 refine (name_any s w).mono ?_
 rintro e w1 ⟨rfl,hb⟩
 go_wp2_with fail
 go_ret
 exact ⟨rfl,hb⟩
/-- the cell of internal/bytealg.MaxLen holds some number -/
def HasMax (w:World):Prop:=∃ m,w.cell? ⟨0,0,none⟩=some (.int .i64 m)
theorem HasMax.lt {w:World} (h:HasMax w):0<w.heap.size:=by
 obtain ⟨m,hm⟩:=h
 exact World.block_lt_of_cell? w _ hm
theorem HasMax.below {w w':World} (h:HasMax w) (hb:Below w.heap.size w w'):HasMax w':=by
 obtain ⟨m,hm⟩:=h
 exact ⟨m,(hb.cell (World.block_lt_of_cell? w _ hm)).trans hm⟩
theorem HasMax.of_shaped {w:World} (h:w.ShapedOpen Tryz.prog):HasMax w:=Go.Proofs.cell_of_shapedOpen_int (zero:=#[.int .i64 0]) (t:=3) h (of_decide_eq_true (by kernel_rfl)) (by kernel_rfl) rfl (by kernel_rfl) (by kernel_rfl) Tryz.underlying3
theorem path_parts (s:ByteArray) (hne:s.data.toList≠[]):(decide (Lib.countB s ⟨#[47]⟩+1≤4) && !((Lib.splitB ⟨#[47]⟩ 0 (Lib.countB s ⟨#[47]⟩) s).any fun x=>!nameB x.data.toList))=pathB s.data.toList:=by
 have he:s.data.toList.isEmpty=false:=by
  cases h:s.data.toList with
  | nil=>exact absurd h hne
  | cons a r=>rfl
 unfold pathB
 rw [he,← splitB_parts s,List.length_map,splitB_len,List.all_map,List.all_eq_not_any_not]
 rfl
set_option maxRecDepth 100000 in
set_option maxHeartbeats 1000000 in
theorem path_any (s:ByteArray) (w:World) (hs:s.size≤4000000000) (hm:HasMax w) :
  Calls Tryz.prog 80 #[.string s] w fun e w'=>e=.returned (.bool (pathB s.data.toList))∧Below w.heap.size w w':=by
 obtain ⟨m,hm⟩:=hm
 have hsp:=Lib.hid (Tryz.strings_Split s ⟨#[47]⟩ m w (by omega) hm (Nat.le_refl _))
 have hlen:=Lib.hid (splitB_len s)
 have hpp:=Lib.hid (path_parts s)
 have htl:=Lib.hid (toList_data s)
 have hcount:=Lib.hid (Lib.countB_le ⟨#[47]⟩ (Nat.le_refl _) _ s (Nat.le_refl _))
 go_enter Tryz.func80,Tryz.ntmps80
 go_wp2_with fail
 ·have h0:s.toList.isEmpty=true:=by assumption
  rw [htl.out,List.isEmpty_iff] at h0
  go_ret
  exact ⟨by rw [h0];rfl,Below.refl _ _⟩
 ·have h0:s.toList.isEmpty=false:=by assumption
  rw [htl.out] at h0
  have h1:=Lib.hid (hpp.out (fun e=>by rw [e] at h0;cases h0))
  clear h0
  obtain ⟨L,hL⟩:∃ L,L=Lib.splitB ⟨#[47]⟩ 0 (Lib.countB s ⟨#[47]⟩) s:=⟨_,rfl⟩
  obtain ⟨N,hN⟩:∃ N,N=Lib.countB s ⟨#[47]⟩+1:=⟨_,rfl⟩
  have hN2:N≤4000000001:=by have:=hcount.out;omega
  rw [← hN] at hsp hlen h1
  rw [← hL] at hsp hlen h1
  have hsp:=hsp.out
  clear hcount hpp hL hN
  obtain ⟨b,hbe⟩:∃ b,b=L.any fun x=>!nameB x.data.toList:=⟨_,rfl⟩
  rw [← hbe] at h1
  obtain ⟨W,hW⟩:∃ W,W=w.alloc (Obj.cells (List.map Value.string L).toArray 9):=⟨_,rfl⟩
  have hbW:Below w.heap.size w W:=by rw [hW];exact Below.alloc (Below.refl _ _) (Nat.le_refl _) _
  have hrW:Reads W (w.heap.size+1) 1 (some ⟨w.heap.size,0,none⟩) N (L.map Value.string):=by
   rw [hW]
   exact Reads.lit w (List.map Value.string L).toArray 9 (by simp [hlen.out])
  have hsW:W.heap.size=w.heap.size+1:=by rw [hW];show (w.heap.push _).size=_;rw [Array.size_push]
  have hc:=Lib.hid (fiS_contains Value.string (fun x=>!nameB x.data.toList) L N hlen.out.symm (some ⟨w.heap.size,0,none⟩) N W (w.heap.size+1) hrW (by omega) (by omega) (fun x _ W=>path1_any x W))
  rw [← hbe] at hc
  rw [← hW] at hsp
  clear hW hbe
  refine hsp.mono ?_
  clear hsp
  rintro e w1 ⟨rfl,rfl⟩
  go_wp2_with fail
  ·have h4:(N:Int)≤4:=by assumption
   refine hc.out.mono ?_
   rintro e w2 ⟨rfl,hb2⟩
   go_wp2_with fail
   go_ret
   refine ⟨congrArg Ending.returned (congrArg Value.bool ?_),hbW.trans (hb2.mono (by omega))⟩
   rw [← h1.out,decide_eq_true (show N≤4 by omega)]
   rfl
  ·have h4:4<(N:Int):=by assumption
   go_ret
   refine ⟨congrArg Ending.returned (congrArg Value.bool ?_),hbW⟩
   rw [← h1.out,decide_eq_false (show ¬ N≤4 by omega)]
   rfl
end Go.Proofs.YtpbejobgickffaaGreatDoor
namespace Go.Proofs.YtpbejobgickffaaGreatDoor
open Go.RowKit
section
variable {P:Program}
theorem run_append_rowK (w:World) (t ty elem:TypeId) (k:Nat) (g sLen sCap:Nat) (a:Addr) (xLen xCap:Nat) (cur:List Value) (T:TypeId) (cs:List Value)
  (hu:P.underlying t=some (.slice elem)) (hs:(P.info? elem).map (·.size)=some k)
  (hg:w.heap[g]?=some (.cells cur.toArray T (0,0))) (hn:cs.length=xLen*k)
  (hsrc:∀ j v,cs[j]?=some v→w.cell? (a.add j)=some v) (hfit:sLen*k+cs.length≤cur.length) (hroom:sLen+xLen≤sCap) (h1:∀ v∈cs,v.oneCell'=true) :
  (Builtin.append_ #[t,t] ty #[.slice (some ⟨g,0,none⟩) sLen sCap,.slice (some a) xLen xCap]).run P w =
   .ok (.slice (some ⟨g,0,none⟩) (sLen+xLen) sCap) (w.setRow g (splice cur (sLen*k) cs).toArray):=by
 have hl:=run_loadCells_list (P:=P) w a cs hsrc
 have hst:=run_storeCells_at P g (sLen*k) T cs 0 cur.toArray w hg (by simpa using hfit) h1
 cases hq:P.info? elem with
 | none=>simp [hq] at hs
 | some i =>
  have hi:i.size=k:=by simpa [hq] using hs
  simp [Builtin.append_,run_underlying hu,Builtin.lenOf,Builtin.firstCells,sizeOf,typeInfo,hq,hi,← hn,hl,hroom,addr_add0,hst,splice]
theorem wp_appendK {o:Oper} {a:Act} {w:World} {K:Act→World→Prop} {Q:Exit→Act→World→Prop} (d s:Operand) (t:TypeId)
  (ho:o.op=.call { callee:=.builtin .append,args:=#[d,s],argTypes:=#[t,t] }) (elem:TypeId) (k:Nat) (hu:P.underlying t=some (.slice elem)) (hsz:(P.info? elem).map (·.size)=some k)
  (g sLen sCap:Nat) (ad:Addr) (xLen xCap:Nat) (hd:a.eval d=.slice (some ⟨g,0,none⟩) sLen sCap) (hs:a.eval s=.slice (some ad) xLen xCap)
  (cur:List Value) (T:TypeId) (hg:w.heap[g]?=some (.cells cur.toArray T (0,0))) (cs:List Value) (hn:cs.length=xLen*k)
  (hsrc:∀ j v,cs[j]?=some v→w.cell? (ad.add j)=some v) (hfit:sLen*k+cs.length≤cur.length) (hroom:sLen+xLen≤sCap) (h1:∀ v∈cs,v.oneCell'=true)
  (h:∀ w',Hid (w'.heap[g]?=some (.cells (splice cur (sLen*k) cs).toArray T (0,0)))→w.grownBy w' (some g)→K (a.put o.dst (.slice (some ⟨g,0,none⟩) (sLen+xLen) sCap)) w'):o.wp P a w K Q:=by
 have hrun:=run_append_rowK (P:=P) w t o.type elem k g sLen sCap ad xLen xCap cur T cs hu hsz hg hn hsrc hfit hroom h1
 unfold Oper.wp
 simp [execOp,ho,resolve,invoke,builtin,hd,hs,hrun,Result.andThen]
 exact h _ (show _=_ by simpa [splice] using setRow_heap w g _ _ T _ hg) (grown_setRow _)
theorem step_appendK {ops:Array Oper} {o:Oper} {a:Act} {w:World} {K:Act→World→Prop} {Q:Exit→Act→World→Prop} {E:Prop} (hgd:o.guard=none) (d s:Operand) (t:TypeId)
  (ho:o.op=.call { callee:=.builtin .append,args:=#[d,s],argTypes:=#[t,t] }) (elem:TypeId) (k:Nat) (hu:P.underlying t=some (.slice elem)) (hsz:(P.info? elem).map (·.size)=some k)
  (g sLen sCap:Nat) (ad:Addr) (xLen xCap:Nat) (hd:a.eval d=.slice (some ⟨g,0,none⟩) sLen sCap) (hs:a.eval s=.slice (some ad) xLen xCap)
  (cur:List Value) (T:TypeId) (hg:w.heap[g]?=some (.cells cur.toArray T (0,0))) (cs:List Value) (hn:cs.length=xLen*k)
  (hsrc:∀ j v,cs[j]?=some v→w.cell? (ad.add j)=some v) (hfit:sLen*k+cs.length≤cur.length) (hroom:sLen+xLen≤sCap) (h1:∀ v∈cs,v.oneCell'=true)
  (h:∀ w',Hid (w'.heap[g]?=some (.cells (splice cur (sLen*k) cs).toArray T (0,0)))→w.grownBy w' (some g)→K (a.put o.dst (.slice (some ⟨g,0,none⟩) (sLen+xLen) sCap)) w') :
  if Region.wanted o (yielded ops a.tmps)=true then Oper.wp P o a w K Q else E:=by
 have hw:Region.wanted o (yielded ops a.tmps)=true:=by simp [Region.wanted,hgd]
 rw [if_pos hw]
 exact wp_appendK d s t ho elem k hu hsz g sLen sCap ad xLen xCap hd hs cur T hg cs hn hsrc hfit hroom h1 h
end
end Go.Proofs.YtpbejobgickffaaGreatDoor
namespace Go.Proofs.YtpbejobgickffaaGreatDoor
open Go.RowKit Go.Maps Go.Sort Go.Shelf
/-! ### a map that reads as a list of properties -/
structure MapIs (D:DataW Unit) (F:PL):Prop where
 has:∀ n:BS,Maps.has D (.string n)=(getP F n).isSome
 at_:∀ (n v:BS),getP F n=some v→∀ z,D.atKey (.string n) z=.lit (.string v)
theorem isKey_str (x:BS):WideAt.IsKeyLit (.string x):=by trivial
theorem MapIs.nil:MapIs (.map []) []:=⟨fun _=>rfl,fun _ _ h=>by cases h⟩
theorem MapIs.put {D:DataW Unit} {F:PL} (h:MapIs D F) (hD:IsMap D) (hF:SortP F) (p:BS×BS):MapIs (D.put (.string p.1) (.lit (.string p.2))) (putP p F):=by
 refine ⟨fun n=>?_,fun n v hv z=>?_⟩
 ·rw [getP_putP p F hF]
  by_cases hn:p.1=n
  ·subst hn
   rw [if_pos rfl,has_put_same hD (isKey_str _)]
   rfl
  ·rw [if_neg hn,has_put_other (by intro e;exact hn (by simpa using e.symm)),h.has]
 ·rw [getP_putP p F hF] at hv
  by_cases hn:p.1=n
  ·subst hn
   rw [if_pos rfl] at hv
   injection hv with hv
   subst hv
   exact atKey_put_same hD (isKey_str _) _ z
  ·rw [if_neg hn] at hv
   rw [atKey_put_other (by intro e;exact hn (by simpa using e.symm))]
   exact h.at_ n v hv z
/-! ### slices.Sorted(maps.Keys(m)) -/
/-! ### Over -/
def strOk (l:PL):Prop:=∀ x∈l,x.1.length≤140737488351232∧x.2.length≤140737488351232
structure PropsIn (w:World) (B:Nat) (v:Value) (l:PL):Prop where
 ex:∃ A n c,v=.slice A n c∧n=l.length∧n≤5000000000000∧Reads w B 2 A n (pcells l)
 ok:strOk l
theorem PropsIn.below {w W:World} {B:Nat} {v:Value} {l:PL} (h:PropsIn w B v l) (hb:Below B w W):PropsIn W B v l:=by
 obtain ⟨A,n,c,rfl,hn,hm,hr⟩:=h.ex
 exact ⟨⟨A,n,c,rfl,hn,hm,hr.below hb⟩,h.ok⟩
end Go.Proofs.YtpbejobgickffaaGreatDoor
namespace Go.Proofs.YtpbejobgickffaaGreatDoor
open Go.RowKit
section
variable {P:Program} {ops:Array Oper}
def depsOf (ops:Array Oper) (i:Nat):List Nat:=match ops[i]? with
 | some o=>(o.after.toList.filter fun e=>Region.binds .any e).map (·.on)
 | none=>[]
def reachL (ops:Array Oper):Nat→List Nat→List Nat
 | 0,l=>l
 | f+1,l=>reachL ops f (l++(l.flatMap (depsOf ops)).filter fun i=>!l.contains i).eraseDups
/-- all others stand ahead of the last one -/
def lastOk (ops:Array Oper) (L:Nat):Bool:=(List.range ops.size).all fun i=>i == L || (reachL ops ops.size (depsOf ops L)).contains i
theorem reach_some {m:Nat→Option Value} (hcl:∀ j o',ops[j]?=some o'→(m j).isSome=true→∀ e∈o'.after,Region.binds .any e=true→(m e.on).isSome=true) (f:Nat):∀ l:List Nat,(∀ i∈l,(m i).isSome=true)→∀ i∈reachL ops f l,(m i).isSome=true:=by
 induction f with
 | zero=>intro l h;exact h
 | succ f ih =>
  intro l h
  refine ih _ (fun i hi=>?_)
  rw [List.mem_eraseDups,List.mem_append] at hi
  rcases hi with hi | hi
  ·exact h i hi
  ·obtain ⟨hi,_⟩:=List.mem_filter.1 hi
   obtain ⟨j,hj,hij⟩:=List.mem_flatMap.1 hi
   unfold depsOf at hij
   cases ho:ops[j]? with
   | none=>rw [ho] at hij;cases hij
   | some o =>
    rw [ho] at hij
    obtain ⟨e,he,rfl⟩:=List.mem_map.1 hij
    obtain ⟨he,hb⟩:=List.mem_filter.1 he
    exact hcl j o ho (h j hj) e (Array.mem_toList_iff.1 he) hb
end
end Go.Proofs.YtpbejobgickffaaGreatDoor
namespace Go.Proofs.YtpbejobgickffaaGreatDoor
open Go.RowKit
abbrev GT:=BS×BS×Int
abbrev GL:=List GT
def cmpG (a b c d:BS):Int:=if cmpS a c=0 then cmpS b d else cmpS a c
theorem cmpG_neg (a b c d:BS):cmpG a b c d<0↔Op.bytesLess a c=true∨a=c∧Op.bytesLess b d=true:=by
 unfold cmpG
 by_cases h:cmpS a c=0
 ·rw [if_pos h,cmpS_neg]
  rw [cmpS_zero] at h
  subst h
  rw [bl_irrefl]
  simp
 ·rw [if_neg h,cmpS_neg]
  rw [cmpS_zero] at h
  simp [h]
def grantB (g:GT):Bool:=nameB g.1 && pathB g.2.1 && decide (1≤g.2.2) && decide (g.2.2≤255)
def grantsFrom:Option GT→GL→Bool
 | _,[]=>true
 | p,x :: l=>grantB x && (match p with | none=>true | some q=>decide (cmpG q.1 q.2.1 x.1 x.2.1<0)) && grantsFrom (some x) l
def grantsB (l:GL):Bool:=decide (l.length≤16) && grantsFrom none l
def grantsE (l:GL):Int:=if grantsB l=true then 0 else 9
theorem grantsFrom_cons (p:Option GT) (x:GT) (l:GL):grantsFrom p (x :: l)=(grantB x && (match p with | none=>true | some q=>decide (cmpG q.1 q.2.1 x.1 x.2.1<0)) && grantsFrom (some x) l):=by
 cases p <;> rfl
end Go.Proofs.YtpbejobgickffaaGreatDoor
namespace Go.Proofs.YtpbejobgickffaaGreatDoor
open Go.RowKit
/-! ### DeleteFunc -/
/-- between two rounds: what stays lies at the beginning, what has not been looked at as it was -/
structure DelI {α:Type} (p:α→Bool) (l L:List α) (i j:Nat):Prop where
 len:L.length=l.length
 le:i≤j
 jl:j≤l.length
 pre:L.take i=(l.take j).filter fun x=>!p x
 suf:L.drop j=l.drop j
theorem DelI.keep {α:Type} {p:α→Bool} {l L:List α} {i j:Nat} {x:α} (h:DelI p l L i j) (hlt:i<j) (hx:l[j]?=some x) (hp:p x=false):DelI p l (L.set i x) (i+1) (j+1):=by
 have hj:=(List.getElem?_eq_some_iff.1 hx).1
 refine ⟨by rw [List.length_set];exact h.len,by omega,by omega,?_,?_⟩
 ·rw [List.take_succ_eq_append_getElem hj,List.filter_append,← h.pre,(List.getElem?_eq_some_iff.1 hx).2]
  rw [List.take_succ_eq_append_getElem (by rw [List.length_set,h.len];omega),List.take_set_of_le (Nat.le_refl _),List.getElem_set_self]
  simp [hp]
 ·rw [List.drop_set_of_lt (by omega)]
  have:=congrArg (List.drop 1) h.suf
  simpa using this
end Go.Proofs.YtpbejobgickffaaGreatDoor
namespace Go.Proofs.YtpbejobgickffaaGreatDoor
open Go.RowKit
def scells (l:List BS):List Value:=l.map strV
theorem scells_append (a b:List BS):scells (a++b)=scells a++scells b:=by simp [scells]
theorem strs_at {w:World} {B n:Nat} {A:Option Addr} {l:List BS} (h:Reads w B 1 A n (scells l)) (hn:n=l.length) {k:Nat} (hk:k<n) :
  ∃ ad,A=some ad∧ad.block<B∧w.cell? (ad.add k)=some (strV (l[k]'(by omega))):=by
 obtain ⟨ad,u,e,hB,hxu,hcell⟩:=h.at_ hk
 have hux:u=strV (l[k]'(by omega)):=by
  unfold scells at hxu
  rw [List.getElem?_map,List.getElem?_eq_getElem (by omega)] at hxu
  exact (Option.some.inj hxu).symm
 subst hux
 exact ⟨ad,e,hB,hcell⟩
theorem Tryz.infoS:(Tryz.prog.info? 9).map (fun i=>(i.zero,i.size,i.bytes))=some (some (.string ByteArray.empty),1,16):=by kernel_rfl
end Go.Proofs.YtpbejobgickffaaGreatDoor
namespace Go.Proofs.YtpbejobgickffaaGreatDoor
open Go.RowKit
def orI2 (x y:Int):Int:=if x=0 then y else x
set_option maxRecDepth 100000 in
theorem orI2_any (x y:Int) (A:Option Addr) (c:Nat) (w:World) (B:Nat) (hr:Reads w B 1 A 2 [.int .i64 x,.int .i64 y]) :
  Calls Tryz.prog 193 #[.slice A 2 c] w fun e w'=>e=.returned (.int .i64 (orI2 x y))∧∃ q,w'=w.drewN q:=by
 obtain ⟨ad,rfl,_,hc⟩:=hr.2 (by omega)
 have h0:w.cell? ad=some (.int .i64 x):=by have:=hc 0 _ rfl;rwa [add_zero] at this
 have h1:w.cell? ⟨ad.block,ad.off+1,none⟩=some (.int .i64 y):=by have:=hc 1 _ rfl;rwa [addr_add_succ] at this
 clear hc hr
 by_cases hx:x=0
 ·subst hx
  by_cases hy:y=0
  ·subst hy
   go_enter Tryz.func193,Tryz.ntmps193
   go_wp2_with fail
   refine wp_loop_rounds 3 ?_
   rw [rounds_succ]
   go_wp2_with fail
   rw [rounds_succ]
   go_wp2_with fail
   rw [rounds_succ]
   go_wp2_with fail
   go_ret
   exact ⟨rfl,0,rfl⟩
  ·have hyb:(y == 0)=false:=by simp [hy]
   go_enter Tryz.func193,Tryz.ntmps193
   go_wp2_with fail
   refine wp_loop_rounds 3 ?_
   rw [rounds_succ]
   go_wp2_with fail
   rw [rounds_succ]
   go_wp2_with fail
   go_ret
   exact ⟨by unfold orI2;rw [if_pos rfl];rfl,0,rfl⟩
 ·have hxb:(x == 0)=false:=by simp [hx]
  go_enter Tryz.func193,Tryz.ntmps193
  go_wp2_with fail
  refine wp_loop_rounds 3 ?_
  rw [rounds_succ]
  go_wp2_with fail
  go_ret
  exact ⟨by unfold orI2;rw [if_neg hx];rfl,0,rfl⟩
theorem cmpG_or (a b c d:BS):orI2 (cmpS a c) (cmpS b d)=cmpG a b c d:=rfl
set_option maxRecDepth 100000 in
set_option maxHeartbeats 1000000 in
theorem orderG_any (a b c d:BS) (n m:Int) (w:World) :
  Calls Tryz.prog 172 #[.agg #[.string ⟨a.toArray⟩,.string ⟨b.toArray⟩,.int .i64 n],.agg #[.string ⟨c.toArray⟩,.string ⟨d.toArray⟩,.int .i64 m]] w fun e w'=>e=.returned (.int .i64 (cmpG a b c d))∧Below w.heap.size w w':=by
 obtain ⟨W0,hW0⟩:∃ W0,W0=(w.alloc (.cells #[.string ⟨a.toArray⟩,.string ⟨b.toArray⟩,.int .i64 n] 116)).alloc (.cells #[.string ⟨c.toArray⟩,.string ⟨d.toArray⟩,.int .i64 m] 116):=⟨_,rfl⟩
 have hb1:=(Below.refl w.heap.size w).alloc (Nat.le_refl _) (.cells #[.string ⟨a.toArray⟩,.string ⟨b.toArray⟩,.int .i64 n] 116)
 have hb2:=hb1.alloc hb1.size (.cells #[.string ⟨c.toArray⟩,.string ⟨d.toArray⟩,.int .i64 m] 116)
 have k0:=(Blk.new w 116 #[.string ⟨a.toArray⟩,.string ⟨b.toArray⟩,.int .i64 n]).alloc (.cells #[.string ⟨c.toArray⟩,.string ⟨d.toArray⟩,.int .i64 m] 116)
 have k1:=Blk.new (w.alloc (.cells #[.string ⟨a.toArray⟩,.string ⟨b.toArray⟩,.int .i64 n] 116)) 116 #[.string ⟨c.toArray⟩,.string ⟨d.toArray⟩,.int .i64 m]
 have e1:(w.alloc (.cells #[.string ⟨a.toArray⟩,.string ⟨b.toArray⟩,.int .i64 n] 116)).heap.size=w.heap.size+1:=by simp
 rw [e1] at k1
 rw [← hW0] at hb2 k0 k1
 have hsz:W0.heap.size=w.heap.size+2:=by rw [hW0];simp
 have hS:=Lib.hid (fun (W':World) (hB:Below W0.heap.size W0 W') =>
  (⟨(k0.below hB (by omega)).cell 0,(k0.below hB (by omega)).cell 1,(k1.below hB (by omega)).cell 0,(k1.below hB (by omega)).cell 1⟩ :
   W'.cell? ⟨w.heap.size,0,none⟩=some (.string ⟨a.toArray⟩)∧W'.cell? ⟨w.heap.size,1,none⟩=some (.string ⟨b.toArray⟩)∧W'.cell? ⟨w.heap.size+1,0,none⟩=some (.string ⟨c.toArray⟩)∧W'.cell? ⟨w.heap.size+1,1,none⟩=some (.string ⟨d.toArray⟩)))
 have HSZ:=Lib.hid hsz
 have HG:=Lib.hid (cmpG_or a b c d)
 have HB:=Lib.hid hb2
 clear k0 k1 e1 hsz hb1 hb2
 go_enter Tryz.func172,Tryz.ntmps172
 go_wp2_with fail
 rw [← hW0]
 clear hW0
 refine wp_region_good2 (by kernel_rfl) (by kernel_rfl) [(fun v _=>v=.pointer (some ⟨w.heap.size,0,none⟩)),
  (fun v _=>v=.string ⟨a.toArray⟩),
  (fun v _=>v=.pointer (some ⟨(w.heap.size+1),0,none⟩)),
  (fun v _=>v=.string ⟨c.toArray⟩),
  (fun v _=>v=.int .i64 (cmpS a c)),
  (fun v _=>v=.pointer (some ⟨w.heap.size,1,none⟩)),
  (fun v _=>v=.string ⟨b.toArray⟩),
  (fun v _=>v=.pointer (some ⟨(w.heap.size+1),1,none⟩)),
  (fun v _=>v=.string ⟨d.toArray⟩),
  (fun v _=>v=.int .i64 (cmpS b d)),
  (fun v W=>W.ownsRow w.heap.size 3 1 v 2 [.int .i64 (cmpS a c),.int .i64 (cmpS b d)]),
  (fun v _=>v=.int .i64 (cmpG a b c d)),
  (fun v _=>v=.int .i64 (cmpG a b c d))] ?_ ?_ ?_
 ·repeat' (first | exact stays_nil | refine stays_cons ?_ ?_ | exact Stays.pure | exact Stays.own _ _ _ _ _)
 ·intro i oo ho m2 W hb0 hmi hcl hdeps AA KK hA hK
  rcases i with _ | _ | _ | _ | _ | _ | _ | _ | _ | _ | _ | _ | _ | i
  ·injection ho with ho
   subst ho
   have ef2:AA.tmps[2]?.getD undef=.pointer (some ⟨w.heap.size,0,none⟩):=by rw [hA];exact tmps_free (by kernel_rfl)
   clear hA hdeps hcl hmi
   have hK0:KK (AA.put (some 5) _) _:=hK (.pointer (some ⟨w.heap.size,0,none⟩)) _ (Below.refl _ _) (Eq.refl _)
   clear hK
   go_simp
   exact hK0
  ·injection ho with ho
   subst ho
   obtain ⟨x0,hx0,hg0⟩:=hdeps ⟨0,.data⟩ (by simp) rfl
   have hg0:x0=.pointer (some ⟨w.heap.size,0,none⟩):=hg0
   subst hg0
   have e0:AA.tmps[5]?.getD undef=.pointer (some ⟨w.heap.size,0,none⟩):=by rw [hA];exact tmps_own (by kernel_rfl) hx0 (of_decide_eq_true (by kernel_rfl))
   clear hA hdeps hcl hmi hx0
   obtain ⟨c0,c1,c2,c3⟩:=hS.out W hb0
   have hK0:KK (AA.put (some 6) _) _:=hK (.string ⟨a.toArray⟩) _ (Below.refl _ _) (Eq.refl _)
   clear hK
   go_simp
   exact hK0
  ·injection ho with ho
   subst ho
   have ef3:AA.tmps[3]?.getD undef=.pointer (some ⟨(w.heap.size+1),0,none⟩):=by rw [hA];exact tmps_free (by kernel_rfl)
   clear hA hdeps hcl hmi
   have hK0:KK (AA.put (some 7) _) _:=hK (.pointer (some ⟨(w.heap.size+1),0,none⟩)) _ (Below.refl _ _) (Eq.refl _)
   clear hK
   go_simp
   exact hK0
  ·injection ho with ho
   subst ho
   obtain ⟨x2,hx2,hg2⟩:=hdeps ⟨2,.data⟩ (by simp) rfl
   have hg2:x2=.pointer (some ⟨(w.heap.size+1),0,none⟩):=hg2
   subst hg2
   have e2:AA.tmps[7]?.getD undef=.pointer (some ⟨(w.heap.size+1),0,none⟩):=by rw [hA];exact tmps_own (by kernel_rfl) hx2 (of_decide_eq_true (by kernel_rfl))
   clear hA hdeps hcl hmi hx2
   obtain ⟨c0,c1,c2,c3⟩:=hS.out W hb0
   have hK0:KK (AA.put (some 8) _) _:=hK (.string ⟨c.toArray⟩) _ (Below.refl _ _) (Eq.refl _)
   clear hK
   go_simp
   exact hK0
  ·injection ho with ho
   subst ho
   obtain ⟨x1,hx1,hg1⟩:=hdeps ⟨1,.data⟩ (by simp) rfl
   have hg1:x1=.string ⟨a.toArray⟩:=hg1
   subst hg1
   have e1:AA.tmps[6]?.getD undef=.string ⟨a.toArray⟩:=by rw [hA];exact tmps_own (by kernel_rfl) hx1 (of_decide_eq_true (by kernel_rfl))
   obtain ⟨x3,hx3,hg3⟩:=hdeps ⟨3,.data⟩ (by simp) rfl
   have hg3:x3=.string ⟨c.toArray⟩:=hg3
   subst hg3
   have e3:AA.tmps[8]?.getD undef=.string ⟨c.toArray⟩:=by rw [hA];exact tmps_own (by kernel_rfl) hx3 (of_decide_eq_true (by kernel_rfl))
   clear hA hdeps hcl hmi hx1 hx3
   have hKK:=Lib.hid hK
   clear hK
   go_simp
   refine (compareS_any a c _).mono ?_
   rintro e w5 ⟨rfl,q,rfl⟩
   exact hKK.out _ _ (below_drewN (Below.refl _ _) q) rfl
  ·injection ho with ho
   subst ho
   have ef2:AA.tmps[2]?.getD undef=.pointer (some ⟨w.heap.size,0,none⟩):=by rw [hA];exact tmps_free (by kernel_rfl)
   clear hA hdeps hcl hmi
   have hK0:KK (AA.put (some 10) _) _:=hK (.pointer (some ⟨w.heap.size,1,none⟩)) _ (Below.refl _ _) (Eq.refl _)
   clear hK
   go_simp
   exact hK0
  ·injection ho with ho
   subst ho
   obtain ⟨x5,hx5,hg5⟩:=hdeps ⟨5,.data⟩ (by simp) rfl
   have hg5:x5=.pointer (some ⟨w.heap.size,1,none⟩):=hg5
   subst hg5
   have e5:AA.tmps[10]?.getD undef=.pointer (some ⟨w.heap.size,1,none⟩):=by rw [hA];exact tmps_own (by kernel_rfl) hx5 (of_decide_eq_true (by kernel_rfl))
   clear hA hdeps hcl hmi hx5
   obtain ⟨c0,c1,c2,c3⟩:=hS.out W hb0
   have hK0:KK (AA.put (some 11) _) _:=hK (.string ⟨b.toArray⟩) _ (Below.refl _ _) (Eq.refl _)
   clear hK
   go_simp
   exact hK0
  ·injection ho with ho
   subst ho
   have ef3:AA.tmps[3]?.getD undef=.pointer (some ⟨(w.heap.size+1),0,none⟩):=by rw [hA];exact tmps_free (by kernel_rfl)
   clear hA hdeps hcl hmi
   have hK0:KK (AA.put (some 12) _) _:=hK (.pointer (some ⟨(w.heap.size+1),1,none⟩)) _ (Below.refl _ _) (Eq.refl _)
   clear hK
   go_simp
   exact hK0
  ·injection ho with ho
   subst ho
   obtain ⟨x7,hx7,hg7⟩:=hdeps ⟨7,.data⟩ (by simp) rfl
   have hg7:x7=.pointer (some ⟨(w.heap.size+1),1,none⟩):=hg7
   subst hg7
   have e7:AA.tmps[12]?.getD undef=.pointer (some ⟨(w.heap.size+1),1,none⟩):=by rw [hA];exact tmps_own (by kernel_rfl) hx7 (of_decide_eq_true (by kernel_rfl))
   clear hA hdeps hcl hmi hx7
   obtain ⟨c0,c1,c2,c3⟩:=hS.out W hb0
   have hK0:KK (AA.put (some 13) _) _:=hK (.string ⟨d.toArray⟩) _ (Below.refl _ _) (Eq.refl _)
   clear hK
   go_simp
   exact hK0
  ·injection ho with ho
   subst ho
   obtain ⟨x6,hx6,hg6⟩:=hdeps ⟨6,.data⟩ (by simp) rfl
   have hg6:x6=.string ⟨b.toArray⟩:=hg6
   subst hg6
   have e6:AA.tmps[11]?.getD undef=.string ⟨b.toArray⟩:=by rw [hA];exact tmps_own (by kernel_rfl) hx6 (of_decide_eq_true (by kernel_rfl))
   obtain ⟨x8,hx8,hg8⟩:=hdeps ⟨8,.data⟩ (by simp) rfl
   have hg8:x8=.string ⟨d.toArray⟩:=hg8
   subst hg8
   have e8:AA.tmps[13]?.getD undef=.string ⟨d.toArray⟩:=by rw [hA];exact tmps_own (by kernel_rfl) hx8 (of_decide_eq_true (by kernel_rfl))
   clear hA hdeps hcl hmi hx6 hx8
   have hKK:=Lib.hid hK
   clear hK
   go_simp
   refine (compareS_any b d _).mono ?_
   rintro e w5 ⟨rfl,q,rfl⟩
   exact hKK.out _ _ (below_drewN (Below.refl _ _) q) rfl
  ·injection ho with ho
   subst ho
   obtain ⟨x4,hx4,hg4⟩:=hdeps ⟨4,.data⟩ (by simp) rfl
   have hg4:x4=.int .i64 (cmpS a c):=hg4
   subst hg4
   have e4:AA.tmps[9]?.getD undef=.int .i64 (cmpS a c):=by rw [hA];exact tmps_own (by kernel_rfl) hx4 (of_decide_eq_true (by kernel_rfl))
   obtain ⟨x9,hx9,hg9⟩:=hdeps ⟨9,.data⟩ (by simp) rfl
   have hg9:x9=.int .i64 (cmpS b d):=hg9
   subst hg9
   have e9:AA.tmps[14]?.getD undef=.int .i64 (cmpS b d):=by rw [hA];exact tmps_own (by kernel_rfl) hx9 (of_decide_eq_true (by kernel_rfl))
   clear hA hdeps hcl hmi hx4 hx9
   have hK0:KK (AA.put (some 15) _) _:=hK _ _ ((Below.refl _ _).alloc (Nat.le_refl _) _) (own_mono (own_lit W #[.int .i64 (cmpS a c),.int .i64 (cmpS b d)] 3 2 rfl (by decide)) (by have:=hb0.size;have:=HSZ.out;omega))
   clear hK
   go_simp
   exact hK0
  ·injection ho with ho
   subst ho
   obtain ⟨x10,hx10,hg10⟩:=hdeps ⟨10,.data⟩ (by simp) rfl
   have hg10:W.ownsRow w.heap.size 3 1 x10 2 [.int .i64 (cmpS a c),.int .i64 (cmpS b d)]:=hg10
   have e10:AA.tmps[15]?.getD undef=x10:=by rw [hA];exact tmps_own (by kernel_rfl) hx10 (of_decide_eq_true (by kernel_rfl))
   clear hA hdeps hcl hmi hx10
   obtain ⟨A1,c1,rfl,_,_,hr1⟩:=own_form hg10
   have hKK:=Lib.hid hK
   clear hK hg10
   go_simp
   refine (orI2_any _ _ A1 c1 W W.heap.size hr1).mono ?_
   rintro e w5 ⟨rfl,q,rfl⟩
   exact hKK.out _ _ (below_drewN (Below.refl _ _) q) (show Value.int .i64 (orI2 (cmpS a c) (cmpS b d))=.int .i64 (cmpG a b c d) from congrArg (Value.int .i64) HG.out)
  ·injection ho with ho
   subst ho
   obtain ⟨x11,hx11,hg11⟩:=hdeps ⟨11,.data⟩ (by simp) rfl
   have hg11:x11=.int .i64 (cmpG a b c d):=hg11
   subst hg11
   have e11:AA.tmps[16]?.getD undef=.int .i64 (cmpG a b c d):=by rw [hA];exact tmps_own (by kernel_rfl) hx11 (of_decide_eq_true (by kernel_rfl))
   clear hA hdeps hcl hmi hx11
   have hK0:KK (AA.put (some 4) _) _:=hK (.int .i64 (cmpG a b c d)) _ (Below.refl _ _) (Eq.refl _)
   clear hK
   go_simp
   exact hK0
  ·simp at ho
 ·intro m W hbx hall
  obtain ⟨x0,m0,g0⟩:=hall 0 (by simp)
  replace g0:x0=.pointer (some ⟨w.heap.size,0,none⟩):=g0
  subst g0
  obtain ⟨x1,m1,g1⟩:=hall 1 (by simp)
  replace g1:x1=.string ⟨a.toArray⟩:=g1
  subst g1
  obtain ⟨x2,m2,g2⟩:=hall 2 (by simp)
  replace g2:x2=.pointer (some ⟨(w.heap.size+1),0,none⟩):=g2
  subst g2
  obtain ⟨x3,m3,g3⟩:=hall 3 (by simp)
  replace g3:x3=.string ⟨c.toArray⟩:=g3
  subst g3
  obtain ⟨x4,m4,g4⟩:=hall 4 (by simp)
  replace g4:x4=.int .i64 (cmpS a c):=g4
  subst g4
  obtain ⟨x5,m5,g5⟩:=hall 5 (by simp)
  replace g5:x5=.pointer (some ⟨w.heap.size,1,none⟩):=g5
  subst g5
  obtain ⟨x6,m6,g6⟩:=hall 6 (by simp)
  replace g6:x6=.string ⟨b.toArray⟩:=g6
  subst g6
  obtain ⟨x7,m7,g7⟩:=hall 7 (by simp)
  replace g7:x7=.pointer (some ⟨(w.heap.size+1),1,none⟩):=g7
  subst g7
  obtain ⟨x8,m8,g8⟩:=hall 8 (by simp)
  replace g8:x8=.string ⟨d.toArray⟩:=g8
  subst g8
  obtain ⟨x9,m9,g9⟩:=hall 9 (by simp)
  replace g9:x9=.int .i64 (cmpS b d):=g9
  subst g9
  obtain ⟨x10,m10,g10⟩:=hall 10 (by simp)
  replace g10:W.ownsRow w.heap.size 3 1 x10 2 [.int .i64 (cmpS a c),.int .i64 (cmpS b d)]:=g10
  obtain ⟨x11,m11,g11⟩:=hall 11 (by simp)
  replace g11:x11=.int .i64 (cmpG a b c d):=g11
  subst g11
  obtain ⟨x12,m12,g12⟩:=hall 12 (by simp)
  replace g12:x12=.int .i64 (cmpG a b c d):=g12
  subst g12
  rw [frameM_all (by kernel_rfl) [.pointer (some ⟨w.heap.size,0,none⟩),.string ⟨a.toArray⟩,.pointer (some ⟨(w.heap.size+1),0,none⟩),.string ⟨c.toArray⟩,.int .i64 (cmpS a c),.pointer (some ⟨w.heap.size,1,none⟩),.string ⟨b.toArray⟩,.pointer (some ⟨(w.heap.size+1),1,none⟩),.string ⟨d.toArray⟩,.int .i64 (cmpS b d),x10,.int .i64 (cmpG a b c d),.int .i64 (cmpG a b c d)] rfl (fun i hi=>by
    rcases i with _ | _ | _ | _ | _ | _ | _ | _ | _ | _ | _ | _ | _ | i
    ·exact m0
    ·exact m1
    ·exact m2
    ·exact m3
    ·exact m4
    ·exact m5
    ·exact m6
    ·exact m7
    ·exact m8
    ·exact m9
    ·exact m10
    ·exact m11
    ·exact m12
    ·simp at hi;omega)]
  clear hall m0 m1 m2 m3 m4 m5 m6 m7 m8 m9 m10 m11 m12
  simp only [putAll,Act.put,zA,zC,zB]
  go_wp2_with fail
  go_ret
  exact ⟨rfl,HB.out.trans (hbx.mono (by have:=HSZ.out;omega))⟩
end Go.Proofs.YtpbejobgickffaaGreatDoor
namespace Go.Proofs.YtpbejobgickffaaGreatDoor
open Go.RowKit
theorem extract_mk (s:ByteArray) (j k:Nat):s.extract j k=⟨((s.data.toList.drop j).take (k-j)).toArray⟩:=by
 apply eq_mk
 rw [ByteArray.data_extract,Array.toList_extract]
theorem partsL_len (l:BS):(partsL l).length≤l.length+1:=by
 induction l with
 | nil=>simp [partsL]
 | cons c l ih =>
  unfold partsL
  split
  ·simp;omega
  ·split
   ·rename_i p ps h
    rw [h] at ih
    simp at ih ⊢
    omega
   ·simp
set_option maxRecDepth 100000 in
set_option maxHeartbeats 1000000 in
theorem parts_any (s:ByteArray) (w:World) (hs:s.size≤4000000000) :
  Calls Tryz.prog 141 #[.string s,.int .u8 47] w fun e w'=>∃ v,e=.returned v∧w'.ownsRow w.heap.size 9 1 v (partsL s.data.toList).length (scells (partsL s.data.toList))∧Below w.heap.size w w':=by
 obtain ⟨i0,hi0,hz0,hz1,hz2⟩:=info_parts Tryz.infoS
 have HSZ:=Lib.hid (Lib.size_eq s)
 go_enter Tryz.func141,Tryz.ntmps141
 go_wp2_with fail
 go_loopw [5,6,7] (fun o f i wr=>∃ (k j m:Nat) (done:List BS) (A1:Option Addr) (c1:Nat),k≤s.size∧j≤k∧m≤j∧i=.int .i64 (k:Int)∧f=.int .i64 (j:Int)∧o=.slice A1 m c1∧Hid (m=done.length∧partsL s.data.toList=done++partsL (s.data.toList.drop j)∧47 ∉ (s.data.toList.drop j).take (k-j))∧wr.ownsRow w.heap.size 9 1 (.slice A1 m c1) m (scells done)∧Below w.heap.size w wr) (fun _ _ i _=>s.size-(intOf i).toNat)
 case atStart=>exact ⟨0,0,0,[],none,0,Nat.zero_le _,Nat.le_refl _,Nat.le_refl _,rfl,rfl,rfl,⟨rfl,by simp,by simp⟩,⟨rfl,.inl ⟨rfl,rfl⟩⟩,Below.refl _ _⟩
 case round =>
  obtain ⟨k,j,m,done,A1,c1,hk,hj,hm,rfl,rfl,rfl,hI,hown,hbw⟩:=hrel
  by_cases hlt:k<s.size
  ·have hki:(k:Int)<(s.size:Int):=by omega
   have hkl:k<s.data.toList.length:=by have:=HSZ.out;omega
   have hg:=bget s k hlt
   obtain ⟨y,hy⟩:∃ y,y=s[k]'hlt:=⟨_,rfl⟩
   have hyv:((s[k]'hlt).toNat:Int)=(y.toNat:Int):=by rw [hy]
   have hget:s.data.toList[k]?=some y:=by rw [List.getElem?_eq_getElem hkl,hg,← hy]
   have htk:(s.data.toList.drop j).take (k+1-j)=(s.data.toList.drop j).take (k-j)++[y]:=by
    rw [show k+1-j=k-j+1 by omega,List.take_add_one,List.getElem?_drop,show j+(k-j)=k by omega,hget]
    rfl
   have HTK:=Lib.hid htk
   have HGET:=Lib.hid hget
   clear hg hy hget htk
   by_cases h47:y=47
   ·have hyi:(y.toNat:Int)=47:=by rw [h47];rfl
    have hjk:(j:Int)≤(k:Int):=by omega
    have hks:(k:Int)≤(s.size:Int):=by omega
    have hex:=extract_mk s j k
    obtain ⟨q,hq⟩:∃ q,q=(s.data.toList.drop j).take (k-j):=⟨_,rfl⟩
    rw [← hq] at hex
    have HN:Hid (partsL s.data.toList=(done++[q])++partsL (s.data.toList.drop (k+1))):=by
     show _=_
     have hsp:s.data.toList.drop j=q++47 :: s.data.toList.drop (k+1):=by
      conv=>lhs;rw [← List.take_append_drop (k-j) (s.data.toList.drop j),← hq,List.drop_drop,show j+(k-j)=k by omega,List.drop_eq_getElem_cons hkl]
      have:=HGET.out
      rw [List.getElem?_eq_getElem hkl,h47] at this
      rw [Option.some.inj this]
     rw [hI.out.2.1,hsp,partsL_two _ _ (by rw [hq];exact hI.out.2.2),List.append_assoc]
     rfl
    have HM:Hid (m+1=(done++[q]).length):=by show _=_;rw [List.length_append,hI.out.1];rfl
    have hsz2:=hbw.size
    clear hq h47
    go_wp2_with (at_builtin;(refine wpList_push _ rfl (.tmp 19) (.tmp 24) 62 rfl w.heap.size 9 i0 (.string ByteArray.empty) 1 16 Tryz.underlying62 hi0 hz0 hz1 hz2 rfl (by decide) (.slice A1 m c1) m (scells done) rfl hown 1 #[.string ⟨q.toArray⟩] 9 (by simp [Act.eval]) rfl (by simp [Value.oneCell']) (by unfold maxLen;omega) (by omega) hsz2 ?_);intro v4 w4 hown4 hb4 _)
    obtain ⟨A4,c4,rfl,_,_,_⟩:=own_form hown4
    have hb5:=hbw.trans hb4
    have HO:Hid (w4.ownsRow w.heap.size 9 1 (.slice A4 (m+1) c4) (m+1) (scells (done++[q]))):=by show World.ownsRow _ _ _ _ _ _ _;rw [scells_append];exact hown4
    clear hown hown4 hbw hb4
    go_wp2_with fail
    go_roundw
    case rel=>exact ⟨k+1,k+1,m+1,done++[q],A4,c4,by omega,Nat.le_refl _,by omega,by go_num,by go_num,rfl,⟨HM.out,HN.out,by simp⟩,HO.out,hb5⟩
    case measure=>simp [intOf];omega
   ·have hyi:¬ (y.toNat:Int)=47:=by
     intro e
     exact h47 (UInt8.toNat_inj.1 (by have:(47:UInt8).toNat=47:=rfl;omega))
    have HN:Hid (47 ∉ (s.data.toList.drop j).take (k+1-j)):=by
     show _ ∉ _
     rw [HTK.out,List.mem_append,List.mem_singleton]
     rintro (h | h)
     ·exact hI.out.2.2 h
     ·exact h47 h.symm
    clear h47
    go_wp2_with fail
    go_roundw
    case rel=>exact ⟨k+1,j,m,done,A1,c1,by omega,by omega,hm,by go_num,rfl,rfl,⟨hI.out.1,hI.out.2.1,HN.out⟩,hown,hbw⟩
    case measure=>simp [intOf];omega
  ·obtain rfl:k=s.size:=by omega
   have hex:=extract_mk s j s.size
   obtain ⟨q,hq⟩:∃ q,q=(s.data.toList.drop j).take (s.size-j):=⟨_,rfl⟩
   rw [← hq] at hex
   have HN:Hid (partsL s.data.toList=done++[q]):=by
    show _=_
    have:(s.data.toList.drop j).take (s.size-j)=s.data.toList.drop j:=List.take_of_length_le (by rw [List.length_drop];have:=HSZ.out;omega)
    have h47:=hI.out.2.2
    rw [this] at h47 hq
    rw [hI.out.2.1,partsL_one _ h47,hq]
   have HM:Hid (m+1=(partsL s.data.toList).length):=by show _=_;rw [HN.out,List.length_append,hI.out.1];rfl
   have hsz2:=hbw.size
   have hjk:(j:Int)≤(s.size:Int):=by omega
   clear hq
   go_wp2_with (at_builtin;(refine wpList_push _ rfl (.tmp 28) (.tmp 32) 62 rfl w.heap.size 9 i0 (.string ByteArray.empty) 1 16 Tryz.underlying62 hi0 hz0 hz1 hz2 rfl (by decide) (.slice A1 m c1) m (scells done) rfl hown 1 #[.string ⟨q.toArray⟩] 9 (by simp [Act.eval]) rfl (by simp [Value.oneCell']) (by unfold maxLen;omega) (by omega) hsz2 ?_);intro v4 w4 hown4 hb4 _)
   have HO:Hid (w4.ownsRow w.heap.size 9 1 v4 (m+1) (scells (partsL s.data.toList))):=by show World.ownsRow _ _ _ _ _ _ _;rw [HN.out,scells_append];exact hown4
   have hb5:=hbw.trans hb4
   clear hown hown4 hbw hb4
   go_wp2_with fail
   go_ret
   exact ⟨v4,rfl,by rw [← HM.out];exact HO.out,hb5⟩
theorem parts_small (l:BS):∀ p∈partsL l,p.length≤l.length:=by
 induction l with
 | nil=>simp [partsL]
 | cons c l ih =>
  unfold partsL
  split
  ·intro p hp
   rcases List.mem_cons.1 hp with rfl | hp
   ·simp
   ·have:=ih p hp;simp;omega
  ·split
   ·rename_i q ps h
    rw [h] at ih
    intro p hp
    rcases List.mem_cons.1 hp with rfl | hp
    ·have:=ih q (List.mem_cons_self ..);simp;omega
    ·have:=ih p (List.mem_cons_of_mem _ hp);simp;omega
   ·intro p hp
    rw [List.mem_singleton] at hp
    subst hp
    simp
set_option maxRecDepth 100000 in
set_option maxHeartbeats 1000000 in
theorem refPath_any (s:ByteArray) (w:World) (hs:s.size≤4000000000) :
  Calls Tryz.prog 83 #[.string s] w fun e w'=>e=.returned (.bool (pathB s.data.toList))∧Below w.heap.size w w':=by
 have htl:=Lib.hid (toList_data s)
 have hpar:=parts_any s w hs
 have HSM:=Lib.hid (parts_small s.data.toList)
 have HPL:=Lib.hid (partsL_len s.data.toList)
 have HSZ:=Lib.hid (Lib.size_eq s)
 go_enter Tryz.func83,Tryz.ntmps83
 go_wp2_with fail
 ·have h0:s.toList.isEmpty=true:=by assumption
  rw [htl.out,List.isEmpty_iff] at h0
  go_ret
  exact ⟨by rw [h0];rfl,Below.refl _ _⟩
 ·have h0:s.toList.isEmpty=false:=by assumption
  have HP:Hid (pathB s.data.toList=(decide ((partsL s.data.toList).length≤4) && (partsL s.data.toList).all nameB)):=by
   show _=_
   rw [htl.out] at h0
   unfold pathB
   rw [h0,Bool.false_or]
  obtain ⟨L,hL⟩:∃ L,L=partsL s.data.toList:=⟨_,rfl⟩
  rw [← hL] at hpar HSM HPL HP
  obtain ⟨n,hn⟩:∃ n,n=L.length:=⟨_,rfl⟩
  rw [← hn] at hpar HPL HP
  have hnb:n≤4000000001:=by have:=HPL.out;have:=HSZ.out;omega
  have HN:=Lib.hid hn
  clear hL hn
  refine hpar.mono ?_
  clear hpar
  rintro e w1 ⟨v,rfl,hown,hb1⟩
  obtain ⟨A1,c1,rfl,_,_,hr⟩:=own_form hown
  clear hown
  go_wp2_with fail
  go_loopw [4] (fun i wr=>∃ k:Nat,k≤n∧i=.int .i64 (k:Int)∧Hid ((L.take k).all nameB=true)∧wr=w1) (fun i _=>n-(intOf i).toNat)
  case atStart=>exact ⟨0,Nat.zero_le _,rfl,rfl,rfl⟩
  case round =>
   obtain ⟨k,hk,rfl,hok,hww⟩:=hrel
   have hww:=hww.symm
   subst hww
   by_cases hlt:k<n
   ·have hki:(k:Int)<(n:Int):=by omega
    have hkl:k<L.length:=by have:=HN.out;omega
    obtain ⟨ad,rfl,hadB,d0⟩:=strs_at hr HN.out hlt
    have htk:=List.take_succ_eq_append_getElem hkl
    obtain ⟨x,hx⟩:∃ x,x=L[k]'hkl:=⟨_,rfl⟩
    have hm:x∈L:=by rw [hx];exact List.getElem_mem _
    rw [← hx] at d0 htk
    simp only [strV] at d0
    have hxs:=HSM.out x hm
    have hc:=refName_any x w1 (by have:=HSZ.out;omega)
    obtain ⟨b,hb⟩:∃ b,b=nameB x:=⟨_,rfl⟩
    rw [← hb] at hc
    have HBB:=Lib.hid hb
    have HT:=Lib.hid htk
    have HM:=Lib.hid hm
    clear hx htk hb hxs hm
    go_wp2_with fail
    refine hc.mono ?_
    clear hc
    rintro e w2 ⟨rfl,rfl⟩
    cases b with
    | true =>
     go_wp2_with fail
     go_roundw
     case rel =>
      refine ⟨k+1,by omega,by go_num,?_,trivial⟩
      show List.all _ _=_
      rw [HT.out,List.all_append,hok.out]
      simp [HBB.out.symm]
     case measure=>simp [intOf];omega
    | false =>
     have HV:Hid (pathB s.data.toList=false):=by
      show _=_
      have:L.all nameB=false:=by
       rw [← Bool.not_eq_true,List.all_eq_true]
       intro h
       have:=h x HM.out
       rw [← HBB.out] at this
       cases this
      rw [HP.out,this,Bool.and_false]
     go_wp2_with fail
     go_ret
     exact ⟨by rw [HV.out];rfl,hb1⟩
   ·have HA:Hid (pathB s.data.toList=decide ((n:Int)≤4)):=by
     show _=_
     have:=hok.out
     rw [List.take_of_length_le (by have:=HN.out;omega)] at this
     rw [HP.out,this,Bool.and_true]
     exact decide_eq_decide.2 (by omega)
    clear hok hr
    go_wp2_with fail
    go_ret
    exact ⟨by rw [HA.out];rfl,hb1⟩
end Go.Proofs.YtpbejobgickffaaGreatDoor
