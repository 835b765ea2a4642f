/-
  The reference's letter, Name, value, Props: by their contracts. A drawn region whose operations read and make memory, with one operation S that changes what was made ahead of it, and a last one, L, that does too. Tenants: as they lie in memory, and as they read. props.Over, by its contract. A slice of strings in memory.
-/
import Derived.Test.YtmladblmknbgnaaGreatDoorH0
import Derived.Test.YtmladblmknbgnaaGreatDoorH5
import Derived.Test.YtmladblmknbgnaaGreatDoorH4
import Derived.Test.YtmladblmknbgnaaGreatDoorH3
import Derived.Test.YtmladblmknbgnaaGreatDoorH1
import Derived.Shelf.SlIter.Nil
import Derived.Shelf.SortM.Plain
import Derived.Shelf.SortM.SortNone
import Derived.Maps.OwnSet
import Derived.Maps.StringElems
import Derived.Handy
import Derived.Test.YtmladblmknbgnaaGreatDoorRows
namespace Go.Proofs.YtmladblmknbgnaaGreatDoor
open Go.RowKit
set_option maxRecDepth 100000 in
theorem letter_any (c:UInt8) (w:World):Calls Tryz.prog 153 #[.int .u8 (c.toNat:Int)] w fun e w'=>e=.returned (.bool (okB c))∧w'=w:=by
 have hc:c.toNat<256:=c.toNat_lt
 have hk:=Lib.hid (okB_iff c)
 go_enter Tryz.func153,Tryz.ntmps153
 go_wp2
 all_goals go_ret
 all_goals refine ⟨congrArg Ending.returned (congrArg Value.bool ?_),rfl⟩
 all_goals rw [Bool.eq_iff_iff,hk.out]
 all_goals simp
 all_goals omega
theorem bget (s:ByteArray) (k:Nat) (h:k<s.size):s.data.toList[k]'h=s[k]'h:=rfl
set_option maxRecDepth 100000 in
set_option maxHeartbeats 1000000 in
theorem refName_s (s:ByteArray) (w:World) (hs:s.size≤140737488351232):Calls Tryz.prog 81 #[.string s] w fun e w'=>e=.returned (.bool (nameB s.data.toList))∧w'=w:=by
 have hsz:s.data.toList.length=s.size:=(Lib.size_eq s).symm
 go_enter Tryz.func81,Tryz.ntmps81
 go_wp2_with fail
 go_loopw [3] (fun i wr=>∃ k:Nat,k≤s.size∧i=.int .i64 (k:Int)∧Hid ((s.data.toList.take k).all okB=true)∧wr=w) (fun i _=>s.size-(intOf i).toNat)
 case atStart=>exact ⟨0,Nat.zero_le _,rfl,rfl,rfl⟩
 case round =>
  obtain ⟨k,hk,rfl,hok,hww⟩:=hrel
  have hww:=hww.symm
  subst hww
  by_cases hlt:k<s.size
  ·have hki:(k:Int)<(s.size:Int):=by omega
   have hkl:k<s.data.toList.length:=by omega
   have htk:=List.take_succ_eq_append_getElem hkl
   have hg:=bget s k hlt
   obtain ⟨y,hy⟩:∃ y,y=s[k]'hlt:=⟨_,rfl⟩
   rw [hg,← hy] at htk
   have HT:=Lib.hid htk
   have HM:=Lib.hid (show y∈s.data.toList by rw [hy,← hg];exact List.getElem_mem _)
   have hc:=letter_any y w
   obtain ⟨b,hb⟩:∃ b,b=okB y:=⟨_,rfl⟩
   rw [← hb] at hc
   have HBB:=Lib.hid hb
   have hyv:((s[k]'hlt).toNat:Int)=(y.toNat:Int):=by rw [hy]
   have HSZ:=Lib.hid hsz
   clear htk hg hy hb hsz
   go_wp2_with fail
   refine hc.mono ?_
   clear hc
   rintro e w1 ⟨rfl,rfl⟩
   cases b with
   | true =>
    go_wp2_with fail
    go_roundw
    case rel =>
     refine ⟨k+1,by omega,by go_num,?_,trivial⟩
     show List.all _ _=_
     rw [HT.out,List.all_append,hok.out]
     simp [HBB.out.symm]
    case measure=>simp [intOf];omega
   | false =>
    have HN:Hid (nameB s.data.toList=false):=by
     show _=_
     unfold nameB
     have:s.data.toList.all okB=false:=by
      rw [← Bool.not_eq_true,List.all_eq_true]
      intro h
      have:=h y HM.out
      rw [← HBB.out] at this
      cases this
     rw [this,Bool.and_false]
    go_wp2_with fail
    go_ret
    exact ⟨by rw [HN.out];rfl,rfl⟩
  ·have HA:Hid (s.data.toList.all okB=true):=by
    show _=_
    have:=hok.out
    rwa [List.take_of_length_le (by omega)] at this
   have HN:Hid (nameB s.data.toList=(!(s.data.toList.isEmpty) && decide (s.data.toList.length≤16))):=by
    show _=_
    unfold nameB
    rw [HA.out,Bool.and_true]
   have HE:Hid (nameB s.data.toList=true↔1≤s.size∧s.size≤16):=by
    show _↔_
    rw [HN.out,Bool.and_eq_true,decide_eq_true_eq,hsz,Bool.not_eq_true']
    constructor
    ·rintro ⟨h1,h2⟩
     refine ⟨?_,h2⟩
     rcases Nat.eq_zero_or_pos s.size with h | h
     ·rw [← hsz] at h
      rw [List.eq_nil_of_length_eq_zero h] at h1
      cases h1
     ·exact h
    ·rintro ⟨h1,h2⟩
     refine ⟨?_,h2⟩
     rw [← Bool.not_eq_true,List.isEmpty_iff]
     intro e
     rw [e] at hsz
     simp at hsz
     omega
   clear hsz HA HN hok
   by_cases h1:1≤s.size
   ·have h1i:(1:Int)≤(s.size:Int):=by omega
    by_cases h2:s.size≤16
    ·have h2i:(s.size:Int)≤16:=by omega
     have HV:Hid (nameB s.data.toList=true):=HE.out.2 ⟨h1,h2⟩
     go_wp2_with fail
     go_ret
     exact ⟨by rw [HV.out];rfl,rfl⟩
    ·have h2i:¬ (s.size:Int)≤16:=by omega
     have HV:Hid (nameB s.data.toList=false):=by show _=_;rw [← Bool.not_eq_true,HE.out];omega
     go_wp2_with fail
     go_ret
     exact ⟨by rw [HV.out];rfl,rfl⟩
   ·have h1i:¬ (1:Int)≤(s.size:Int):=by omega
    have HV:Hid (nameB s.data.toList=false):=by show _=_;rw [← Bool.not_eq_true,HE.out];omega
    go_wp2_with fail
    go_ret
    exact ⟨by rw [HV.out];rfl,rfl⟩
theorem refName_any (n:BS) (w:World) (hs:n.length≤140737488351232):Calls Tryz.prog 81 #[.string ⟨n.toArray⟩] w fun e w'=>e=.returned (.bool (nameB n))∧w'=w:=by
 have:=refName_s ⟨n.toArray⟩ w (by show n.length≤_;exact hs)
 simpa using this
set_option maxRecDepth 100000 in
set_option maxHeartbeats 1000000 in
theorem refValue_s (s:ByteArray) (w:World) (hs:s.size≤140737488351232):Calls Tryz.prog 141 #[.string s] w fun e w'=>e=.returned (.bool (valB s.data.toList))∧w'=w:=by
 have hsz:s.data.toList.length=s.size:=(Lib.size_eq s).symm
 go_enter Tryz.func141,Tryz.ntmps141
 go_wp2_with fail
 go_loopw [3] (fun i wr=>∃ k:Nat,k≤s.size∧i=.int .i64 (k:Int)∧Hid (∀ c∈s.data.toList.take k,32≤c.toNat∧c.toNat≤126)∧wr=w) (fun i _=>s.size-(intOf i).toNat)
 case atStart=>exact ⟨0,Nat.zero_le _,rfl,(show ∀ c∈_,_ by simp),rfl⟩
 case round =>
  obtain ⟨k,hk,rfl,hok,hww⟩:=hrel
  have hww:=hww.symm
  subst hww
  by_cases hlt:k<s.size
  ·have hki:(k:Int)<(s.size:Int):=by omega
   have hkl:k<s.data.toList.length:=by omega
   have htk:=List.take_succ_eq_append_getElem hkl
   have hg:=bget s k hlt
   obtain ⟨y,hy⟩:∃ y,y=s[k]'hlt:=⟨_,rfl⟩
   rw [hg,← hy] at htk
   have HT:=Lib.hid htk
   have HM:=Lib.hid (show y∈s.data.toList by rw [hy,← hg];exact List.getElem_mem _)
   have hyv:((s[k]'hlt).toNat:Int)=(y.toNat:Int):=by rw [hy]
   have hy256:=y.toNat_lt
   have HSZ:=Lib.hid hsz
   have hbad:Hid ((y.toNat<32∨126<y.toNat)→valB s.data.toList=false):=by
    show _→_
    intro h
    unfold valB
    have:s.data.toList.all (fun c=>decide (32≤c) && decide (c≤126))=false:=by
     rw [← Bool.not_eq_true,List.all_eq_true]
     intro h2
     have h3:=h2 y HM.out
     simp only [Bool.and_eq_true,decide_eq_true_eq,UInt8.le_iff_toNat_le] at h3
     have e1:(32:UInt8).toNat=32:=rfl
     have e2:(126:UInt8).toNat=126:=rfl
     omega
    rw [this,Bool.and_false]
   clear htk hg hy hsz
   by_cases h1:y.toNat<32
   ·have h1i:(y.toNat:Int)<32:=by omega
    have HV:=Lib.hid (hbad.out (.inl h1))
    go_wp2_with fail
    go_ret
    exact ⟨by rw [HV.out];rfl,rfl⟩
   ·have h1i:¬ (y.toNat:Int)<32:=by omega
    by_cases h2:126<y.toNat
    ·have h2i:(126:Int)<(y.toNat:Int):=by omega
     have HV:=Lib.hid (hbad.out (.inr h2))
     go_wp2_with fail
     go_ret
     exact ⟨by rw [HV.out];rfl,rfl⟩
    ·have h2i:¬ (126:Int)<(y.toNat:Int):=by omega
     go_wp2_with fail
     go_roundw
     case rel =>
      refine ⟨k+1,by omega,by go_num,?_,trivial⟩
      show ∀ c∈_,_
      intro c hc
      rw [HT.out,List.mem_append,List.mem_singleton] at hc
      rcases hc with hc | rfl
      ·exact hok.out c hc
      ·exact ⟨by omega,by omega⟩
     case measure=>simp [intOf];omega
  ·have HV:Hid (valB s.data.toList=decide ((s.size:Int)≤32)):=by
    show _=_
    unfold valB
    have h:=hok.out
    rw [List.take_of_length_le (by omega)] at h
    have:s.data.toList.all (fun c=>decide (32≤c) && decide (c≤126))=true:=by
     rw [List.all_eq_true]
     intro c hc
     have:=h c hc
     simp only [Bool.and_eq_true,decide_eq_true_eq,UInt8.le_iff_toNat_le]
     exact this
    rw [this,Bool.and_true,hsz]
    exact decide_eq_decide.2 (by omega)
   clear hsz hok
   go_wp2_with fail
   go_ret
   exact ⟨by rw [HV.out];rfl,rfl⟩
theorem refValue_any (n:BS) (w:World) (hs:n.length≤140737488351232):Calls Tryz.prog 141 #[.string ⟨n.toArray⟩] w fun e w'=>e=.returned (.bool (valB n))∧w'=w:=by
 have:=refValue_s ⟨n.toArray⟩ w (by show n.length≤_;exact hs)
 simpa using this
end Go.Proofs.YtmladblmknbgnaaGreatDoor
namespace Go.Proofs.YtmladblmknbgnaaGreatDoor
open Go.RowKit
section
variable {P:Program} {ops:Array Oper}
theorem wp_region_two {id:Nat} {a0:Act} {w:World} {Q:Exit→Act→World→Prop} (S L:Nat) (late:List Nat) (hm:P.follows .mixedOrders=true) (hok:regionOk ops a0.tmps.size=true) (hlo:lastOk ops L=true) (hLs:L<ops.size) (hSs:S<ops.size) (hSL:S≠L) (Gs:List (Value→World→Prop)) (hst:∀ p∈Gs,Stays p)
  (hlt:∀ i,i<ops.size→i≠S→i≠L→i ∉ late→∀ m,ClosedM ops m→(m S).isSome=true→(m i).isSome=true)
  (hstep:∀ i o,ops[i]?=some o→i≠S→i≠L→i ∉ late→∀ (m:Nat→Option Value) (W:World),Below w.heap.size w W→m i=none→ClosedM ops m→(∀ e∈o.after,Region.binds .any e=true→∃ v,m e.on=some v∧Says Gs e.on v W) →
   ∀ (A:Act) (K:Act→World→Prop),A=frameM a0 ops m→(∀ v W',Below W.heap.size W W'→Says Gs i v W'→K (A.put o.dst v) W')→if Region.wanted o (yielded ops A.tmps)=true then o.wp P A W K Q else K (A.put o.dst undef) W)
  (R:World→Value→World→Prop)
  (hlate:∀ i o,ops[i]?=some o→i≠S→i≠L→i∈late→∀ (m:Nat→Option Value) (W9 W:World),Below w.heap.size w W9→m i=none→ClosedM ops m→(∀ e∈o.after,Region.binds .any e=true→e.on≠S→∃ v,m e.on=some v∧Says Gs e.on v W9)→(W=W9∨∃ u,m S=some u∧R W9 u W) →
   ∀ (A:Act) (K:Act→World→Prop),A=frameM a0 ops m→(∀ v,(∀ W',Says Gs i v W')→K (A.put o.dst v) W)→if Region.wanted o (yielded ops A.tmps)=true then o.wp P A W K Q else K (A.put o.dst undef) W)
  (hS:∀ o,ops[S]?=some o→∀ (m:Nat→Option Value) (W:World),Below w.heap.size w W→m S=none→ClosedM ops m→(∀ e∈o.after,Region.binds .any e=true→∃ v,m e.on=some v∧Says Gs e.on v W) →
   ∀ (A:Act) (K:Act→World→Prop),A=frameM a0 ops m→(∀ u W',R W u W'→K (A.put o.dst u) W')→if Region.wanted o (yielded ops A.tmps)=true then o.wp P A W K Q else K (A.put o.dst undef) W)
  (hL:∀ o,ops[L]?=some o→∀ (m:Nat→Option Value) (W9 W:World) (u:Value),Below w.heap.size w W9→m L=none→(∀ i,i<ops.size→i≠S→i≠L→∃ v,m i=some v∧Says Gs i v W9)→m S=some u→R W9 u W →
   ∀ (A:Act) (K:Act→World→Prop),A=frameM a0 ops m→(∀ v W',Q .normal (frameM a0 ops (upd m L v)) W'→K (A.put o.dst v) W')→if Region.wanted o (yielded ops A.tmps)=true then o.wp P A W K Q else K (A.put o.dst undef) W) :
  (Code.region id ops true).wp P Q a0 w:=by
 have hsay:∀ i v W W',Says Gs i v W→Below W.heap.size W W'→Says Gs i v W':=by
  intro i v W W' h hb
  unfold Says at h ⊢
  cases hG:Gs[i]? with
  | none=>trivial
  | some p=>rw [hG] at h;exact hst p (List.mem_of_getElem? hG) v W W' h hb
 refine wp_region_inv hm hok (fun m W=>(m L=none∧∃ W9,Below w.heap.size w W9∧(∀ i v,m i=some v→i≠S→Says Gs i v W9)∧ClosedM ops m∧((m S=none∧W=W9)∨∃ u,m S=some u∧R W9 u W))∨((∀ i,i<ops.size→(m i).isSome=true)∧Q .normal (frameM a0 ops m) W))
  (.inl ⟨rfl,_,(Below.refl _ _).drew,fun _ _ h=>(by cases h),fun _ _ _ h=>(by cases h),.inl ⟨rfl,rfl⟩⟩) ?_ ?_
 ·intro i o ho m W hJ hmi hdeps A K hA hK
  have his:i<ops.size:=(Array.getElem?_eq_some_iff.1 ho).1
  rcases hJ with ⟨hLn,W9,hb,hs,hcl,hW⟩ | ⟨hall,_⟩
  ·have hdv:∀ e∈o.after,Region.binds .any e=true→e.on≠S→∃ v,m e.on=some v∧Says Gs e.on v W9:=fun e he hbi hne=>by
    have:=hdeps e he hbi
    cases hme:m e.on with
    | none=>rw [hme] at this;cases this
    | some v=>exact ⟨v,rfl,hs _ _ hme hne⟩
   have hsu:∀ v W',Below W9.heap.size W9 W'→(i≠S→Says Gs i v W')→∀ j u,upd m i v j=some u→j≠S→Says Gs j u W':=fun v W' hbw hSy j u hu hjS=>by
    by_cases hji:j=i
    ·subst hji;rw [upd_self] at hu;injection hu with hu;subst hu;exact hSy hjS
    ·rw [upd_ne m v hji] at hu;exact hsay j u W9 W' (hs j u hu hjS) hbw
   by_cases hiL:i=L
   ·subst hiL
    have hr:=reach_some hcl ops.size (depsOf ops i) (fun k hk=>by
     unfold depsOf at hk
     rw [ho] at hk
     obtain ⟨e,he,rfl⟩:=List.mem_map.1 hk
     obtain ⟨he,hbi⟩:=List.mem_filter.1 he
     exact hdeps e (Array.mem_toList_iff.1 he) hbi)
    have hoth:∀ j,j<ops.size→j≠i→(m j).isSome=true:=fun j hj hne=>by
     have h1:=List.all_eq_true.1 hlo j (List.mem_range.2 hj)
     simp only [Bool.or_eq_true,beq_iff_eq,List.contains_iff_mem] at h1
     rcases h1 with h1 | h1
     ·exact absurd h1 hne
     ·exact hr j h1
    rcases hW with ⟨hn,_⟩ | ⟨u,hu,hR⟩
    ·have:=hoth S hSs hSL
     rw [hn] at this
     cases this
    ·refine hL o ho m W9 W u hb hmi (fun j hj h1 h2=>?_) hu hR A K hA (fun v W' hQ=>hK v W' (.inr ⟨fun j hj=>?_,hQ⟩))
     ·have h3:=hoth j hj h2
      cases hmj:m j with
      | none=>rw [hmj] at h3;cases h3
      | some v=>exact ⟨v,rfl,hs j v hmj h1⟩
     ·by_cases hji:j=i
      ·subst hji;rw [upd_self];rfl
      ·rw [upd_ne m v hji];exact hoth j hj hji
   ·by_cases hiS:i=S
    ·subst hiS
     rcases hW with ⟨_,rfl⟩ | ⟨u,hu,_⟩
     ·refine hS o ho m W hb hmi hcl (fun e he hbi=>hdv e he hbi (fun hne=>by have:=hdeps e he hbi;rw [hne,hmi] at this;cases this)) A K hA fun u W' hR=>hK u W' (.inl ⟨by rw [upd_ne m u (Ne.symm hiL)];exact hLn,W,hb,hsu u W (Below.refl _ _) (fun h=>absurd rfl h),hcl.upd ho hdeps u,.inr ⟨u,upd_self _ _ _,hR⟩⟩)
     ·rw [hmi] at hu;cases hu
    ·by_cases hil:i∈late
     ·refine hlate i o ho hiS hiL hil m W9 W hb hmi hcl hdv (by rcases hW with ⟨_,h⟩ | h;exact .inl h;exact .inr h) A K hA fun v hv=>hK v W (.inl ⟨by rw [upd_ne m v (Ne.symm hiL)];exact hLn,W9,hb,hsu v W9 (Below.refl _ _) (fun _=>hv _),hcl.upd ho hdeps v,?_⟩)
      rw [upd_ne m v (fun e=>hiS e.symm)]
      exact hW
     ·rcases hW with ⟨hn,rfl⟩ | ⟨u,hu,_⟩
      ·refine hstep i o ho hiS hiL hil m W hb hmi hcl (fun e he hbi=>hdv e he hbi (fun hne=>by have:=hdeps e he hbi;rw [hne,hn] at this;cases this)) A K hA fun v W' hbw hSy=>hK v W' (.inl ⟨by rw [upd_ne m v (Ne.symm hiL)];exact hLn,W',below_step hb hbw,hsu v W' hbw (fun _=>hSy),hcl.upd ho hdeps v,.inl ⟨?_,rfl⟩⟩)
       rw [upd_ne m v (fun e=>hiS e.symm)]
       exact hn
      ·have:=hlt i his hiS hiL hil m hcl (by rw [hu];rfl)
       rw [hmi] at this
       cases this
  ·have:=hall i his
   rw [hmi] at this
   cases this
 ·intro m W hJ hall
  rcases hJ with ⟨hLn,_⟩ | ⟨_,hQ⟩
  ·have:=hall L hLs
   rw [hLn] at this
   cases this
  ·exact hQ
end
end Go.Proofs.YtmladblmknbgnaaGreatDoor
namespace Go.Proofs.YtmladblmknbgnaaGreatDoor
open Go.RowKit
abbrev BlkT:=Int×BS
def encB (x:BlkT):List Value:=[.int .i64 x.1,strV x.2]
def encP (x:BS×BS):List Value:=[strV x.1,strV x.2]
def encS (x:BS):List Value:=[strV x]
def encG (x:GT):List Value:=[strV x.1,strV x.2.1,.int .i64 x.2.2]
structure SnapR where
 nm:BS
 gd:Int
 body:FS BlkT
 tags:FS BS
 own:FS (BS×BS)
def encSnap (x:SnapR):List Value:=[strV x.nm,.int .i64 x.gd,x.body.val,x.tags.val,x.own.val]
structure SetR where
 path:BS
 org:BS
 body:FS BlkT
 snaps:FS SnapR
 own:FS (BS×BS)
def encSet (x:SetR):List Value:=[strV x.path,strV x.org,x.body.val,x.snaps.val,x.own.val]
structure StageR where
 into:BS
 kind:Int
 nm:BS
 frm:Int
 gd:Int
 own:FS (BS×BS)
 ix:Int
 ct:Int
 dt:BS
 sm:Sm
 body:FS BlkT
 at_:Int
 nx:Int
 sum:Sm
 done:Bool
def smV (s:Sm):List Value:=[.int .u64 s.a,.int .u64 s.b,.int .u64 s.c,.int .u64 s.d]
def encStage (x:StageR):List Value :=
 [strV x.into,.int .i64 x.kind,strV x.nm,.int .i64 x.frm,.int .i64 x.gd,x.own.val,.int .i64 x.ix,.int .i64 x.ct,strV x.dt]++smV x.sm++[x.body.val,.int .i64 x.at_,.int .i64 x.nx]++smV x.sum++[.bool x.done]
structure EntryR where
 user:BS
 kind:Int
 path:BS
 err:Int
def encEntry (x:EntryR):List Value:=[strV x.user,.int .i64 x.kind,strV x.path,.int .i64 x.err]
structure TenR where
 nm:BS
 quota:Int
 next:Int
 sets:FS SetR
 grants:FS GT
 stages:FS StageR
 log:FS EntryR
def TenR.cells (t:TenR):List Value:=[strV t.nm,.int .i64 t.quota,.int .i64 t.next,t.sets.val,t.grants.val,t.stages.val,t.log.val]
def TenR.val (t:TenR):Value:=.agg t.cells.toArray
structure SnapR.rd (w:World) (B:Nat) (x:SnapR):Prop where
 body:x.body.rd w B 2 encB
 tags:x.tags.rd w B 1 encS
 own:x.own.rd w B 2 encP
structure SetR.rd (w:World) (B:Nat) (x:SetR):Prop where
 body:x.body.rd w B 2 encB
 snaps:x.snaps.rd w B 5 encSnap
 each:∀ y∈x.snaps.l,y.rd w B
 own:x.own.rd w B 2 encP
structure StageR.rd (w:World) (B:Nat) (x:StageR):Prop where
 own:x.own.rd w B 2 encP
 body:x.body.rd w B 2 encB
structure TenR.rd (w:World) (B:Nat) (t:TenR):Prop where
 sets:t.sets.rd w B 5 encSet
 eachS:∀ y∈t.sets.l,y.rd w B
 grants:t.grants.rd w B 3 encG
 stages:t.stages.rd w B 21 encStage
 eachG:∀ y∈t.stages.l,y.rd w B
 log:t.log.rd w B 4 encEntry
/-! ### sizes -/
structure SnapR.sz (x:SnapR):Prop where
 nm:x.nm.length≤4000000000
 body:x.body.n≤1000000000000
 tags:x.tags.n≤1000000000000
 each:∀ t∈x.tags.l,t.length≤4000000000
 own:x.own.n≤1000000000000
 props:∀ p∈x.own.l,p.1.length≤4000000000∧p.2.length≤4000000000
structure SetR.sz (x:SetR):Prop where
 path:x.path.length≤4000000000
 org:x.org.length≤4000000000
 body:x.body.n≤1000000000000
 snaps:x.snaps.n≤1000000000000
 each:∀ y∈x.snaps.l,y.sz
 own:x.own.n≤1000000000000
 props:∀ p∈x.own.l,p.1.length≤4000000000∧p.2.length≤4000000000
structure StageR.sz (x:StageR):Prop where
 into:x.into.length≤4000000000
 nm:x.nm.length≤4000000000
 dt:x.dt.length≤4000000000
 own:x.own.n≤1000000000000
 props:∀ p∈x.own.l,p.1.length≤4000000000∧p.2.length≤4000000000
 body:x.body.n≤1000000000000
structure EntryR.sz (x:EntryR):Prop where
 user:x.user.length≤4000000000
 path:x.path.length≤4000000000
structure TenR.sz (t:TenR):Prop where
 nm:t.nm.length≤4000000000
 sets:t.sets.n≤1000000000000
 eachS:∀ y∈t.sets.l,y.sz
 grants:t.grants.n≤1000000000000
 eachG:∀ g∈t.grants.l,g.1.length≤4000000000∧g.2.1.length≤4000000000
 stages:t.stages.n≤1000000000000
 eachT:∀ y∈t.stages.l,y.sz
 log:t.log.n≤1000000000000
 eachL:∀ y∈t.log.l,y.sz
end Go.Proofs.YtmladblmknbgnaaGreatDoor
namespace Go.Proofs.YtmladblmknbgnaaGreatDoor
open Go.RowKit Go.Maps Go.Sort Go.Shelf
/-! ### a map that reads as a list of properties -/
structure MapIs (D:DataW Unit) (F:PL):Prop where
 has:∀ n:BS,Maps.has D (.string n)=(getP F n).isSome
 at_:∀ (n v:BS),getP F n=some v→∀ z,D.atKey (.string n) z=.lit (.string v)
theorem isKey_str (x:BS):WideAt.IsKeyLit (.string x):=by trivial
theorem MapIs.nil:MapIs (.map []) []:=⟨fun _=>rfl,fun _ _ h=>by cases h⟩
theorem MapIs.put {D:DataW Unit} {F:PL} (h:MapIs D F) (hD:IsMap D) (hF:SortP F) (p:BS×BS):MapIs (D.put (.string p.1) (.lit (.string p.2))) (putP p F):=by
 refine ⟨fun n=>?_,fun n v hv z=>?_⟩
 ·rw [getP_putP p F hF]
  by_cases hn:p.1=n
  ·subst hn
   rw [if_pos rfl,has_put_same hD (isKey_str _)]
   rfl
  ·rw [if_neg hn,has_put_other (by intro e;exact hn (by simpa using e.symm)),h.has]
 ·rw [getP_putP p F hF] at hv
  by_cases hn:p.1=n
  ·subst hn
   rw [if_pos rfl] at hv
   injection hv with hv
   subst hv
   exact atKey_put_same hD (isKey_str _) _ z
  ·rw [if_neg hn] at hv
   rw [atKey_put_other (by intro e;exact hn (by simpa using e.symm))]
   exact h.at_ n v hv z
/-! ### slices.Sorted(maps.Keys(m)) -/
/-! ### Over -/
def strOk (l:PL):Prop:=∀ x∈l,x.1.length≤140737488351232∧x.2.length≤140737488351232
structure PropsIn (w:World) (B:Nat) (v:Value) (l:PL):Prop where
 ex:∃ A n c,v=.slice A n c∧n=l.length∧n≤5000000000000∧Reads w B 2 A n (pcells l)
 ok:strOk l
theorem PropsIn.below {w W:World} {B:Nat} {v:Value} {l:PL} (h:PropsIn w B v l) (hb:Below B w W):PropsIn W B v l:=by
 obtain ⟨A,n,c,rfl,hn,hm,hr⟩:=h.ex
 exact ⟨⟨A,n,c,rfl,hn,hm,hr.below hb⟩,h.ok⟩
end Go.Proofs.YtmladblmknbgnaaGreatDoor
namespace Go.Proofs.YtmladblmknbgnaaGreatDoor
open Go.RowKit
def scells (l:List BS):List Value:=l.map strV
theorem scells_append (a b:List BS):scells (a++b)=scells a++scells b:=by simp [scells]
theorem strs_at {w:World} {B n:Nat} {A:Option Addr} {l:List BS} (h:Reads w B 1 A n (scells l)) (hn:n=l.length) {k:Nat} (hk:k<n) :
  ∃ ad,A=some ad∧ad.block<B∧w.cell? (ad.add k)=some (strV (l[k]'(by omega))):=by
 obtain ⟨ad,u,e,hB,hxu,hcell⟩:=h.at_ hk
 have hux:u=strV (l[k]'(by omega)):=by
  unfold scells at hxu
  rw [List.getElem?_map,List.getElem?_eq_getElem (by omega)] at hxu
  exact (Option.some.inj hxu).symm
 subst hux
 exact ⟨ad,e,hB,hcell⟩
theorem Tryz.infoS:(Tryz.prog.info? 9).map (fun i=>(i.zero,i.size,i.bytes))=some (some (.string ByteArray.empty),1,16):=by kernel_rfl
end Go.Proofs.YtmladblmknbgnaaGreatDoor
