/-
  Snapshots by content: what is asked, found, made, and gone. What snapshots, clones and rollbacks that are told are; sizes; the plain law of clones. What is found, as the walks of chapter 17 need it; what is told then.
-/
import Derived.Test.YtpbejobgickffaaGreatDoorU0
import Derived.Test.YtpbejobgickffaaGreatDoorU22
import Derived.Test.YtpbejobgickffaaGreatDoorU21
namespace Go.Proofs.YtpbejobgickffaaGreatDoor
open Go.RowKit
def SetC.findN (s:SetC) (n:BS):Int:=firstI (fun x:SnapC=>x.nm == n) s.snaps
theorem findN_con (s:SetR) (n:BS):findN s.snaps.l n=s.con.findN n:=(firstI_map SnapR.con (fun x:SnapC=>x.nm == n) s.snaps.l).symm
/-- places and an error, by content -/
def TenC.askS (c:TenC) (p n:BS) (bad:Bool):Int×Int×Int :=
 if c.E=9 then (0,0,9) else if pathB p=false∨nameB n=false∨bad=true then (0,0,31) else
  match c.sets.find? (fun s=>s.path == p) with
  | none=>(0,0,71)
  | some s=>(c.find p,s.findN n,0)
theorem askS_con (t:TenR) (p n:BS) (bad:Bool):askI t p n bad=t.con.askS p n bad:=by
 unfold askI TenC.askS
 rw [tenE_con,show t.con.sets=t.sets.l.map SetR.con from rfl,find_map]
 have e:(t.sets.l.find? fun x:SetR=>(SetR.con x).path == p)=t.sets.l.find? fun x=>x.path == p:=rfl
 rw [e]
 cases t.sets.l.find? (fun x=>x.path == p) with
 | none=>rfl
 | some s=>simp only [Option.map_some];rw [findS_con,findN_con]
def TenC.foundS (c:TenC) (p n:BS) (bad:Bool):Int×Int×Int :=
 if (c.askS p n bad).2.2=0∧(c.askS p n bad).2.1<0 then ((c.askS p n bad).1,(c.askS p n bad).2.1,71) else c.askS p n bad
theorem foundS_con (t:TenR) (p n:BS) (bad:Bool):foundI t p n bad=t.con.foundS p n bad:=by
 unfold foundI TenC.foundS
 rw [askS_con]
/-- a set that is found -/
structure AtS (c:TenC) (p n:BS) (bad:Bool) (k:Nat):Prop where
 E:c.E=0
 path:pathB p=true
 name:nameB n=true
 good:bad=false
 lt:k<c.sets.length
 at_:(c.sets[k]'lt).path=p
 find:c.find p=(k:Int)
theorem TenC.askS_cases (c:TenC) (p n:BS) (bad:Bool):(∃ E:Int,(E=9∨E=31∨E=71)∧c.askS p n bad=(0,0,E))∨∃ k,∃ h:AtS c p n bad k,c.askS p n bad=((k:Int),(c.sets[k]'h.lt).findN n,0):=by
 unfold TenC.askS
 rcases c.E_two with hE | hE
 ·rw [if_neg (by rw [hE];decide)]
  by_cases hb:pathB p=false∨nameB n=false∨bad=true
  ·rw [if_pos hb]
   exact .inl ⟨31,.inr (.inl rfl),rfl⟩
  ·rw [if_neg hb]
   have h1:pathB p=true:=by cases h:pathB p with
    | true=>rfl
    | false=>exact absurd (.inl h) hb
   have h2:nameB n=true:=by cases h:nameB n with
    | true=>rfl
    | false=>exact absurd (.inr (.inl h)) hb
   have h3:bad=false:=by cases h:bad with
    | false=>rfl
    | true=>exact absurd (.inr (.inr h)) hb
   rcases firstI_cases (fun s:SetC=>s.path == p) c.sets with ⟨e1,e2⟩ | ⟨k,hk,e1,e2⟩
   ·rw [e2]
    exact .inl ⟨71,.inr (.inr rfl),rfl⟩
   ·have e1:c.find p=(k:Int):=e1
    rw [e2]
    exact .inr ⟨k,⟨hE,h1,h2,h3,hk,by simpa using List.find?_some e2,e1⟩,by simp only [e1]⟩
 ·rw [if_pos hE]
  exact .inl ⟨9,.inl rfl,rfl⟩
/-- a snapshot that is found -/
theorem findN_cases (s:SetC) (n:BS):(s.findN n=-1∧∀ x∈s.snaps,x.nm≠n)∨∃ i,∃ hi:i<s.snaps.length,s.findN n=(i:Int)∧(s.snaps[i]'hi).nm=n:=by
 rcases firstI_cases (fun x:SnapC=>x.nm == n) s.snaps with ⟨e1,e2⟩ | ⟨k,hk,e1,e2⟩
 ·refine .inl ⟨e1,fun x hx=>?_⟩
  have:=List.find?_eq_none.1 e2 x hx
  simpa using this
 ·exact .inr ⟨k,hk,e1,by simpa using List.find?_some e2⟩
theorem TenC.foundS_cases (c:TenC) (p n:BS) (bad:Bool):(∃ a k E:Int,(E=9∨E=31∨E=71)∧c.foundS p n bad=(a,k,E))∨∃ k,∃ h:AtS c p n bad k,∃ i,∃ hi:i<(c.sets[k]'h.lt).snaps.length,c.foundS p n bad=((k:Int),(i:Int),0)∧(c.sets[k]'h.lt).findN n=(i:Int)∧((c.sets[k]'h.lt).snaps[i]'hi).nm=n:=by
 unfold TenC.foundS
 rcases c.askS_cases p n bad with ⟨E,hE,e⟩ | ⟨k,h,e⟩
 ·rw [e]
  rw [if_neg (by rintro ⟨h1,-⟩;rcases hE with rfl | rfl | rfl <;> exact absurd h1 (by decide))]
  exact .inl ⟨0,0,E,hE,rfl⟩
 ·rw [e]
  rcases findN_cases (c.sets[k]'h.lt) n with ⟨e1,-⟩ | ⟨i,hi,e1,e2⟩
  ·rw [e1,if_pos ⟨rfl,(by decide:(-1:Int)<0)⟩]
   exact .inl ⟨_,_,71,.inr (.inr rfl),rfl⟩
  ·rw [e1,if_neg (by rintro ⟨-,h1⟩;have h1:(i:Int)<0:=h1;omega)]
   exact .inr ⟨k,h,i,hi,rfl,e1,e2⟩
def guidC (nx:Int) (l:List SnapC):Int:=match l.getLast? with
 | none=>nx
 | some x=>max nx (x.gd+1)
theorem guid_con (nx:Int) (l:List SnapR):guidI nx l=guidC nx (l.map SnapR.con):=by
 unfold guidI guidC
 rw [List.getLast?_map]
 cases l.getLast? <;> rfl
/-! ### what is made -/
def SetC.addSnap (s:SetC) (x:SnapC):SetC:=⟨s.path,s.org,s.body,s.snaps++[x],s.own⟩
def SetC.dropSnap (s:SetC) (i:Nat):SetC:=⟨s.path,s.org,s.body,s.snaps.take i++s.snaps.drop (i+1),s.own⟩
def TenC.nextN (c:TenC) (n:Int):TenC:=⟨c.nm,c.quota,n,c.sets,c.grants,c.stages,c.log⟩
def snapOf (s:SetC) (n:BS) (g:Int):SnapC:=⟨n,g,s.body,[],s.own⟩
def TenC.snapped (c:TenC) (k:Nat) (s:SetC) (n:BS) (g:Int):TenC:=(c.putS k (s.addSnap (snapOf s n g))).nextN (g+1)
def TenC.snapshot (c:TenC) (p n:BS):Int×TenC :=
 if (c.askS p n false).2.2≠0 then ((c.askS p n false).2.2,c) else match c.sets[(c.askS p n false).1.toNat]? with
 | none=>(71,c)
 | some s=>if 0≤(c.askS p n false).2.1 then (6,c) else if s.snaps.length=16 then (3,c) else if 1099511627776≤guidC c.next s.snaps then (15,c) else (c.snapped (c.askS p n false).1.toNat s n (guidC c.next s.snaps)).settle
def TenC.guidAt (c:TenC) (p:BS):Int:=match c.sets[(c.find p).toNat]? with
 | none=>0
 | some s=>guidC c.next s.snaps
def TenC.unsnap (c:TenC) (p n:BS):Int×TenC :=
 if (c.foundS p n false).2.2≠0 then ((c.foundS p n false).2.2,c) else if 0<c.clones p n then (44,c) else match c.sets[(c.foundS p n false).1.toNat]? with
 | none=>(71,c)
 | some s=>match s.snaps[(c.foundS p n false).2.1.toNat]? with
  | none=>(71,c)
  | some x=>if 0<x.tags.length then (43,c) else (0,c.putS (c.foundS p n false).1.toNat (s.dropSnap (c.foundS p n false).2.1.toNat))
def cloneSet (p n tq:BS) (x:SnapC):SetC:=⟨tq,p++64 :: n,x.body,[],x.own⟩
def TenC.cloneS (c:TenC) (p n tq:BS):Int×TenC :=
 if (c.foundS p n (!pathB tq)).2.2≠0 then ((c.foundS p n (!pathB tq)).2.2,c) else if 0≤c.find tq then (6,c) else if c.find (upL tq)<0 then (71,c) else if c.sets.length=32 then (3,c) else match c.sets[(c.foundS p n (!pathB tq)).1.toNat]? with
 | none=>(71,c)
 | some s=>match s.snaps[(c.foundS p n (!pathB tq)).2.1.toNat]? with
  | none=>(71,c)
  | some x=>(c.withS (cloneSet p n tq x)).settle
def SnapC.named (x:SnapC) (tq:BS):SnapC:=⟨tq,x.gd,x.body,x.tags,x.own⟩
def SetC.named (s:SetC) (i:Nat) (x:SnapC) (tq:BS):SetC:=⟨s.path,s.org,s.body,s.snaps.set i (x.named tq),s.own⟩
def SetC.from_ (a b:BS) (s:SetC):SetC:=⟨s.path,if s.org=a then b else s.org,s.body,s.snaps,s.own⟩
def TenC.froms (c:TenC) (a b:BS):TenC:=⟨c.nm,c.quota,c.next,c.sets.map (SetC.from_ a b),c.grants,c.stages,c.log⟩
def TenC.rename (c:TenC) (p n tq:BS):Int×TenC :=
 if (c.foundS p n (!nameB tq)).2.2≠0 then ((c.foundS p n (!nameB tq)).2.2,c) else match c.sets[(c.foundS p n (!nameB tq)).1.toNat]? with
 | none=>(71,c)
 | some s=>if 0≤s.findN tq then (6,c) else match s.snaps[(c.foundS p n (!nameB tq)).2.1.toNat]? with
  | none=>(71,c)
  | some x=>(0,(c.putS (c.foundS p n (!nameB tq)).1.toNat (s.named (c.foundS p n (!nameB tq)).2.1.toNat x tq)).froms (p++64 :: n) (p++64 :: tq))
/-! ### what may be -/
structure SnapsOk (l:List SnapC):Prop where
 len:l.length≤16
 each:∀ x∈l,snapOk x.r=true∧nameB x.nm=true
 asc:l.Pairwise fun a b=>a.gd<b.gd
 nodup:(l.map SnapC.nm).Nodup
theorem snapsFrom_iff (p:Option Int) (l:List SnapR):snapsFrom p l=true↔(∀ x∈l,snapOk x=true)∧(l.Pairwise fun a b=>a.gd<b.gd)∧∀ q,p=some q→∀ x∈l,q<x.gd:=by
 induction l generalizing p with
 | nil=>cases p <;> simp [snapsFrom]
 | cons y l ih =>
  rw [snapsFrom_cons,Bool.and_eq_true,Bool.and_eq_true,ih]
  constructor
  ·rintro ⟨⟨h1,h2⟩,h3,h4,h5⟩
   refine ⟨fun x hx=>?_,List.pairwise_cons.2 ⟨fun z hz=>h5 _ rfl z hz,h4⟩,fun q hq x hx=>?_⟩
   ·rcases List.mem_cons.1 hx with rfl | hx
    ·exact h1
    ·exact h3 x hx
   ·subst hq
    have h2:q<y.gd:=by simpa using h2
    rcases List.mem_cons.1 hx with rfl | hx
    ·exact h2
    ·have:=h5 _ rfl x hx
     omega
  ·rintro ⟨h1,h2,h3⟩
   obtain ⟨h4,h5⟩:=List.pairwise_cons.1 h2
   refine ⟨⟨h1 y List.mem_cons_self,?_⟩,fun x hx=>h1 x (List.mem_cons_of_mem _ hx),h5,fun q hq x hx=>by cases hq;exact h4 x hx⟩
   cases p with
   | none=>rfl
   | some q=>simpa using h3 q rfl y List.mem_cons_self
theorem unlikeF_iff (acc l:List BS):unlikeF acc l=true↔(∀ x∈l,nameB x=true)∧l.Nodup∧∀ x∈l,x ∉ acc:=by
 induction l generalizing acc with
 | nil=>simp [unlikeF]
 | cons y l ih =>
  rw [unlikeF_cons,Bool.and_eq_true,Bool.and_eq_true,ih,Bool.not_eq_true',← Bool.not_eq_true,List.contains_iff_mem]
  constructor
  ·rintro ⟨⟨h1,h2⟩,h3,h4,h5⟩
   refine ⟨fun x hx=>?_,List.nodup_cons.2 ⟨fun hy=>h5 y hy (by simp),h4⟩,fun x hx=>?_⟩
   ·rcases List.mem_cons.1 hx with rfl | hx
    ·exact h1
    ·exact h3 x hx
   ·rcases List.mem_cons.1 hx with rfl | hx
    ·exact h2
    ·exact fun h=>h5 x hx (by simp [h])
  ·rintro ⟨h1,h2,h3⟩
   obtain ⟨h4,h5⟩:=List.nodup_cons.1 h2
   refine ⟨⟨h1 y List.mem_cons_self,h3 y List.mem_cons_self⟩,fun x hx=>h1 x (List.mem_cons_of_mem _ hx),h5,fun x hx h=>?_⟩
   rcases List.mem_append.1 h with h | h
   ·exact h3 x (List.mem_cons_of_mem _ hx) h
   ·rw [List.mem_singleton] at h
    subst h
    exact h4 hx
theorem snapsB_iff (l:List SnapC):snapsB (l.map SnapC.r)=true↔SnapsOk l:=by
 unfold snapsB unlikeB
 rw [Bool.and_eq_true,Bool.and_eq_true,snapsFrom_iff,unlikeF_iff]
 simp only [decide_eq_true_eq,List.length_map,List.map_map]
 have e:((fun x:SnapR=>x.nm) ∘ SnapC.r)=SnapC.nm:=rfl
 rw [e]
 constructor
 ·rintro ⟨⟨h1,h2,h3,-⟩,h4,h5,-⟩
  exact ⟨h1,fun x hx=>⟨h2 _ (List.mem_map_of_mem hx),h4 _ (List.mem_map_of_mem hx)⟩,(List.pairwise_map (f:=SnapC.r)).1 h3,h5⟩
 ·rintro ⟨h1,h2,h3,h4⟩
  refine ⟨⟨h1,fun x hx=>?_,(List.pairwise_map (f:=SnapC.r)).2 h3,fun q hq=>by cases hq⟩,fun x hx=>?_,h4,fun x hx=>by simp⟩
  ·obtain ⟨y,hy,rfl⟩:=List.mem_map.1 hx
   exact (h2 y hy).1
  ·obtain ⟨y,hy,rfl⟩:=List.mem_map.1 hx
   exact (h2 y hy).2
/-- sets of the same paths, each as it may be, whose origins are there -/
theorem SetsOk.re {l l':List SetC} (h:SetsOk l) (hp:l'.map SetC.path=l.map SetC.path) (he:∀ z∈l',propsB z.own=true∧okL z.body=true∧SnapsOk z.snaps∧(z.org=[]∨∃ a b,splitL z.org=some (a,b)∧a≠z.path∧∃ x∈l',x.path=a∧∃ y∈x.snaps,y.nm=b)):SetsOk l':=by
 have hlen:l'.length=l.length:=by simpa using congrArg List.length hp
 have hasc:l'.Pairwise fun a b=>Op.bytesLess a.path b.path=true:=by
  have:=List.pairwise_map (f:=SetC.path) (l:=l) (R:=fun a b=>Op.bytesLess a b=true)
  have h4:=this.2 h.asc
  rw [← hp] at h4
  exact List.pairwise_map.1 h4
 have hto:∀ {a:BS},(∃ x∈l,x.path=a)→∃ x∈l',x.path=a:=by
  rintro a ⟨x,hx,rfl⟩
  have:x.path∈l'.map SetC.path:=by rw [hp];exact List.mem_map_of_mem hx
  obtain ⟨y,hy,e⟩:=List.mem_map.1 this
  exact ⟨y,hy,e⟩
 refine ⟨by rw [hlen];exact h.len,hto h.root,fun z hz=>?_,hasc⟩
 obtain ⟨h1,h2,h3,h4⟩:=he z hz
 have:z.path∈l.map SetC.path:=by rw [← hp];exact List.mem_map_of_mem hz
 obtain ⟨s,hs,e⟩:=List.mem_map.1 this
 have ho:=h.each s hs
 refine ⟨by rw [← e];exact ho.path,fun u hu=>hto (ho.par u (by rw [e];exact hu)),h1,h2,(snapsB_iff _).2 h3,?_⟩
 rcases h4 with h4 | ⟨a,b,g1,g2,x,hx,rfl,y,hy,e3⟩
 ·exact .inl h4
 ·exact .inr ⟨_,b,g1,g2,x,find_of_mem hasc hx,y,hy,e3⟩
theorem SetOk.all {l:List SetC} {z:SetC} (h:SetOk l z):propsB z.own=true∧okL z.body=true∧SnapsOk z.snaps∧(z.org=[]∨∃ a b,splitL z.org=some (a,b)∧a≠z.path∧∃ x∈l,x.path=a∧∃ y∈x.snaps,y.nm=b):=by
 refine ⟨h.own,h.body,(snapsB_iff _).1 h.snaps,?_⟩
 rcases h.org with h | ⟨a,b,h1,h2,x,hf,y,hy,e⟩
 ·exact .inl h
 ·exact .inr ⟨a,b,h1,h2,x,List.mem_of_find?_eq_some hf,by simpa using List.find?_some hf,y,hy,e⟩
theorem SnapsOk.sub {l l':List SnapC} (h:SnapsOk l) (hs:l'.Sublist l):SnapsOk l' :=
 ⟨Nat.le_trans hs.length_le h.len,fun x hx=>h.each x (hs.subset hx),h.asc.sublist hs,h.nodup.sublist (hs.map _)⟩
theorem dropSn_sub (l:List SnapC) (i:Nat):(l.take i++l.drop (i+1)).Sublist l:=by
 by_cases hi:i<l.length
 ·conv=>rhs;rw [← List.take_append_drop i l,List.drop_eq_getElem_cons hi]
  exact List.Sublist.append_left (List.sublist_cons_self _ _) _
 ·rw [List.drop_eq_nil_of_le (by omega),List.append_nil]
  exact List.take_sublist _ _
theorem mem_dropSn {l:List SnapC} {i:Nat} (hi:i<l.length) {y:SnapC} (hy:y∈l) (hne:y.nm≠(l[i]'hi).nm):y∈l.take i++l.drop (i+1):=by
 have hl:l=l.take i++l[i]'hi :: l.drop (i+1):=by
  conv=>lhs;rw [← List.take_append_drop i l,List.drop_eq_getElem_cons hi]
 rw [hl] at hy
 rcases mem_at' hy with rfl | h
 ·exact absurd rfl hne
 ·exact h
theorem set_paths {l:List SetC} {k:Nat} (hk:k<l.length) {s:SetC} (h:s.path=(l[k]'hk).path):(l.set k s).map SetC.path=l.map SetC.path:=by
 rw [List.map_set,h,← List.getElem_map SetC.path (h:=by rw [List.length_map];exact hk),List.set_getElem_self]
/-- who stands for whom when a set is put at a place -/
theorem mem_set {l:List SetC} {k:Nat} (hk:k<l.length) {s:SetC} {x:SetC} (hx:x∈l):x∈l.set k s∨x=l[k]'hk∧s∈l.set k s:=by
 obtain ⟨j,hj,rfl⟩:=List.mem_iff_getElem.1 hx
 by_cases hjk:k=j
 ·subst hjk
  exact .inr ⟨rfl,List.mem_iff_getElem.2 ⟨k,by rw [List.length_set];exact hj,by rw [List.getElem_set_self]⟩⟩
 ·exact .inl (List.mem_iff_getElem.2 ⟨j,by rw [List.length_set];exact hj,by rw [List.getElem_set_ne hjk]⟩)
/-- a snapshot is gone -/
theorem unsnap_ok (c:TenC) (p n:BS) (c2:TenC) (h:(0,c2)=c.unsnap p n):c2.E=0:=by
 unfold TenC.unsnap at h
 rcases c.foundS_cases p n false with ⟨a,k,E,hE,e⟩ | ⟨k,ha,i,hi,e,e1,e2⟩
 ·rw [e] at h
  rw [if_pos (show E≠0 by rcases hE with rfl | rfl | rfl <;> decide)] at h
  injection h with h _
  rcases hE with rfl | rfl | rfl <;> cases h
 ·rw [e] at h
  simp only [Int.toNat_natCast] at h
  rw [if_neg (by decide)] at h
  by_cases hc:0<c.clones p n
  ·rw [if_pos hc] at h
   injection h with h _
   cases h
  rw [if_neg hc,List.getElem?_eq_getElem ha.lt] at h
  simp only [List.getElem?_eq_getElem hi] at h
  split at h
  ·injection h with h _
   cases h
  injection h with _ h
  subst h
  have hok:=(TenC.E_ok c).1 ha.E
  have hat:=hok.sets.each _ (List.getElem_mem ha.lt)
  obtain ⟨h1,h2,h3,h4,h5,h6,h7⟩:=hok
  refine (TenC.E_ok _).2 ⟨h1,h2,h3,?_,h5,h6,h7⟩
  show SetsOk (c.sets.set k _)
  obtain ⟨s,hs⟩:∃ s,s=c.sets[k]'ha.lt:=⟨_,rfl⟩
  have hnoc:∀ z∈c.sets,∀ b,splitL z.org=some (p,b)→b≠n:=by
   intro z hz b hb e
   subst e
   apply hc
   unfold TenC.clones
   refine List.length_pos_of_mem (a:=z) (List.mem_filter.2 ⟨hz,?_⟩)
   unfold clP
   rw [hb]
   simp
  have horg:∀ z∈c.sets,(z.org=[]∨∃ a b,splitL z.org=some (a,b)∧a≠z.path∧∃ x∈c.sets.set k ((c.sets[k]'ha.lt).dropSnap i),x.path=a∧∃ y∈x.snaps,y.nm=b):=by
   intro z hz
   rcases (h4.each z hz).all.2.2.2 with h | ⟨a,b,g1,g2,x,hx,g3,y,hy,g4⟩
   ·exact .inl h
   ·refine .inr ⟨a,b,g1,g2,?_⟩
    rcases mem_set ha.lt (s:=(c.sets[k]'ha.lt).dropSnap i) hx with hx2 | ⟨rfl,hx2⟩
    ·exact ⟨x,hx2,g3,y,hy,g4⟩
    ·refine ⟨_,hx2,g3,y,?_,g4⟩
     have hap:a=p:=by rw [← g3,ha.at_]
     subst hap
     exact mem_dropSn hi hy (by rw [e2,g4];exact hnoc z hz b g1)
  refine h4.re (set_paths ha.lt rfl) fun z hz=>?_
  rcases List.mem_or_eq_of_mem_set hz with hz | rfl
  ·have:=(h4.each z hz).all
   exact ⟨this.1,this.2.1,this.2.2.1,horg z hz⟩
  ·have:=hat.all
   exact ⟨this.1,this.2.1,this.2.2.1.sub (dropSn_sub _ _),horg (c.sets[k]'ha.lt) (List.getElem_mem ha.lt)⟩
theorem splitL_join {p n:BS} (hp:pathB p=true) (hn:nameB n=true):splitL (p++64 :: n)=some (p,n):=by
 obtain ⟨a,b,h1,h2,h3⟩:=split_join p n
 obtain ⟨rfl,rfl⟩:=h3 (by rw [hp,hn];rfl)
 unfold splitL
 rw [h1]
 simp only [hp,hn,Bool.and_self,if_true]
theorem atL_form (l a b:BS) (h:atL l=some (a,b)):l=a++64 :: b:=by
 induction l generalizing a b with
 | nil=>cases h
 | cons x r ih =>
  unfold atL at h
  by_cases hx:x=64
  ·rw [if_pos hx] at h
   injection h with h
   injection h with h1 h2
   subst h1 h2 hx
   rfl
  ·rw [if_neg hx] at h
   cases hs:atL r with
   | none=>rw [hs] at h;cases h
   | some v =>
    obtain ⟨p,n⟩:=v
    rw [hs] at h
    injection h with h
    injection h with h1 h2
    subst h1 h2
    rw [ih p n hs]
    rfl
theorem splitL_form {l a b:BS} (h:splitL l=some (a,b)):l=a++64 :: b∧pathB a=true∧nameB b=true:=by
 unfold splitL at h
 cases hs:atL l with
 | none=>rw [hs] at h;cases h
 | some v =>
  obtain ⟨x,y⟩:=v
  rw [hs] at h
  simp only at h
  split at h
  ·rename_i hb
   injection h with h
   injection h with h1 h2
   subst h1 h2
   rw [Bool.and_eq_true] at hb
   exact ⟨atL_form _ _ _ hs,hb.1,hb.2⟩
  ·cases h
/-! ### another name -/
theorem SnapsOk.named {l:List SnapC} (h:SnapsOk l) (i:Nat) (hi:i<l.length) (tq:BS) (ht:nameB tq=true) (hn:∀ x∈l,x.nm≠tq):SnapsOk (l.set i ((l[i]'hi).named tq)):=by
 have hg:(l.set i ((l[i]'hi).named tq)).map SnapC.gd=l.map SnapC.gd:=by
  rw [List.map_set,show ((l[i]'hi).named tq).gd=(l[i]'hi).gd from rfl,← List.getElem_map SnapC.gd (h:=by rw [List.length_map];exact hi),List.set_getElem_self]
 refine ⟨by rw [List.length_set];exact h.len,fun x hx=>?_,?_,?_⟩
 ·rcases List.mem_or_eq_of_mem_set hx with hx | rfl
  ·exact h.each x hx
  ·exact ⟨(h.each _ (List.getElem_mem hi)).1,ht⟩
 ·have:=List.pairwise_map (f:=SnapC.gd) (l:=l) (R:=fun a b=>a<b)
  have h4:=this.2 h.asc
  rw [← hg] at h4
  exact List.pairwise_map.1 h4
 ·rw [List.map_set]
  show ((l.map SnapC.nm).set i tq).Nodup
  rw [List.Nodup,List.pairwise_iff_getElem]
  have hnd:=List.pairwise_iff_getElem.1 h.nodup
  intro a b ha hb hab
  simp only [List.length_set] at ha hb
  rw [List.getElem_set,List.getElem_set]
  have hne:∀ (j:Nat) (hj:j<(l.map SnapC.nm).length),(l.map SnapC.nm)[j]'hj≠tq:=fun j hj=>by
   rw [List.getElem_map]
   exact hn _ (List.getElem_mem _)
  by_cases h1:i=a
  ·rw [if_pos h1,if_neg (by omega)]
   exact fun e=>hne b hb e.symm
  ·rw [if_neg h1]
   by_cases h2:i=b
   ·rw [if_pos h2]
    exact hne a ha
   ·rw [if_neg h2]
    exact hnd a b ha hb hab
theorem rename_form (c:TenC) (p n tq:BS) (c2:TenC) (h:(0,c2)=c.rename p n tq):∃ k,∃ ha:AtS c p n (!nameB tq) k,∃ i,∃ hi:i<(c.sets[k]'ha.lt).snaps.length,((c.sets[k]'ha.lt).snaps[i]'hi).nm=n∧(∀ x∈(c.sets[k]'ha.lt).snaps,x.nm≠tq) ∧
  c2=(c.putS k ((c.sets[k]'ha.lt).named i ((c.sets[k]'ha.lt).snaps[i]'hi) tq)).froms (p++64 :: n) (p++64 :: tq):=by
 unfold TenC.rename at h
 rcases c.foundS_cases p n (!nameB tq) with ⟨a,k,E,hE,e⟩ | ⟨k,ha,i,hi,e,e1,e2⟩
 ·rw [e] at h
  rw [if_pos (show E≠0 by rcases hE with rfl | rfl | rfl <;> decide)] at h
  injection h with h _
  rcases hE with rfl | rfl | rfl <;> cases h
 ·rw [e] at h
  simp only [Int.toNat_natCast] at h
  rw [if_neg (by decide),List.getElem?_eq_getElem ha.lt] at h
  simp only [List.getElem?_eq_getElem hi] at h
  by_cases hf:0≤(c.sets[k]'ha.lt).findN tq
  ·rw [if_pos hf] at h
   injection h with h _
   cases h
  rw [if_neg hf] at h
  injection h with _ h
  refine ⟨k,ha,i,hi,e2,?_,h⟩
  rcases findN_cases (c.sets[k]'ha.lt) tq with ⟨_,h2⟩ | ⟨j,_,h2,_⟩
  ·exact h2
  ·omega
theorem renamed_ok (c:TenC) (p n tq:BS) (k:Nat) (ha:AtS c p n (!nameB tq) k) (i:Nat) (hi:i<(c.sets[k]'ha.lt).snaps.length) (e2:((c.sets[k]'ha.lt).snaps[i]'hi).nm=n) (hno:∀ x∈(c.sets[k]'ha.lt).snaps,x.nm≠tq) :
  ((c.putS k ((c.sets[k]'ha.lt).named i ((c.sets[k]'ha.lt).snaps[i]'hi) tq)).froms (p++64 :: n) (p++64 :: tq)).E=0:=by
 have hto:nameB tq=true:=by simpa using ha.good
 have hok:=(TenC.E_ok c).1 ha.E
 have hat:=(hok.sets.each _ (List.getElem_mem ha.lt)).all
 obtain ⟨h1,h2,h3,h4,h5,h6,h7⟩:=hok
 refine (TenC.E_ok _).2 ⟨h1,h2,h3,?_,h5,h6,h7⟩
 obtain ⟨s',hs'⟩:∃ s',s'=(c.sets[k]'ha.lt).named i ((c.sets[k]'ha.lt).snaps[i]'hi) tq:=⟨_,rfl⟩
 rw [← hs']
 have hps:s'.path=(c.sets[k]'ha.lt).path:=by rw [hs'];rfl
 have hos:s'.org=(c.sets[k]'ha.lt).org:=by rw [hs'];rfl
 have hin:s'∈c.sets.set k s':=List.mem_iff_getElem.2 ⟨k,by rw [List.length_set];exact ha.lt,by rw [List.getElem_set_self]⟩
 show SetsOk ((c.sets.set k s').map (SetC.from_ (p++64 :: n) (p++64 :: tq)))
 have horg:∀ z∈c.sets,∀ z':SetC,z'.org=z.org→z'.path=z.path→((SetC.from_ (p++64 :: n) (p++64 :: tq) z').org=[]∨∃ a b,splitL (SetC.from_ (p++64 :: n) (p++64 :: tq) z').org=some (a,b)∧a≠z'.path∧∃ x∈(c.sets.set k s').map (SetC.from_ (p++64 :: n) (p++64 :: tq)),x.path=a∧∃ y∈x.snaps,y.nm=b):=by
  intro z hz z' eo ep
  rcases (h4.each z hz).all.2.2.2 with h | ⟨a,b,g1,g2,x,hx,g3,y,hy,g4⟩
  ·refine .inl ?_
   show (if z'.org=p++64 :: n then _ else z'.org)=[]
   rw [eo,h,if_neg (by simp)]
  ·refine .inr ?_
   by_cases hA:z.org=p++64 :: n
   ·refine ⟨p,tq,?_,?_,SetC.from_ (p++64 :: n) (p++64 :: tq) s',List.mem_map_of_mem hin,?_,((c.sets[k]'ha.lt).snaps[i]'hi).named tq,?_,rfl⟩
    ·show splitL (if z'.org=p++64 :: n then _ else z'.org)=_
     rw [eo,if_pos hA]
     exact splitL_join ha.path hto
    ·rw [ep]
     rw [hA,splitL_join ha.path ha.name] at g1
     injection g1 with g1
     injection g1 with g1 _
     rw [g1]
     exact g2
    ·show s'.path=p
     rw [hps,ha.at_]
    ·show _∈s'.snaps
     rw [hs']
     exact List.mem_iff_getElem.2 ⟨i,by show i<(List.set _ _ _).length;rw [List.length_set];exact hi,by show (List.set _ _ _)[i]'_=_;rw [List.getElem_set_self]⟩
   ·refine ⟨a,b,?_,by rw [ep];exact g2,?_⟩
    ·show splitL (if z'.org=p++64 :: n then _ else z'.org)=_
     rw [eo,if_neg hA]
     exact g1
    ·rcases mem_set ha.lt (s:=s') hx with hx2 | ⟨rfl,hx2⟩
     ·exact ⟨_,List.mem_map_of_mem hx2,g3,y,hy,g4⟩
     ·refine ⟨_,List.mem_map_of_mem hin,by show s'.path=a;rw [hps,g3],y,?_,g4⟩
      show y∈s'.snaps
      rw [hs']
      obtain ⟨j,hj,rfl⟩:=List.mem_iff_getElem.1 hy
      have hij:i≠j:=by
       rintro rfl
       apply hA
       rw [(splitL_form g1).1,← g4,← g3,e2,ha.at_]
      exact List.mem_iff_getElem.2 ⟨j,by show j<(List.set _ _ _).length;rw [List.length_set];exact hj,by show (List.set _ _ _)[j]'_=_;rw [List.getElem_set_ne hij]⟩
 refine h4.re ?_ fun z hz=>?_
 ·rw [List.map_map,show SetC.path ∘ SetC.from_ (p++64 :: n) (p++64 :: tq)=SetC.path from rfl]
  exact set_paths ha.lt hps
 ·obtain ⟨u,hu,rfl⟩:=List.mem_map.1 hz
  rcases List.mem_or_eq_of_mem_set hu with hu | rfl
  ·have:=(h4.each u hu).all
   exact ⟨this.1,this.2.1,this.2.2.1,horg u hu u rfl rfl⟩
  ·refine ⟨?_,?_,?_,horg _ (List.getElem_mem ha.lt) _ hos hps⟩
   ·show propsB u.own=true
    rw [hs'];exact hat.1
   ·show okL u.body=true
    rw [hs'];exact hat.2.1
   ·show SnapsOk u.snaps
    rw [hs'];exact hat.2.2.1.named i hi tq hto hno
end Go.Proofs.YtpbejobgickffaaGreatDoor
namespace Go.Proofs.YtpbejobgickffaaGreatDoor
open Go.RowKit
theorem TenC.sz.nextN {c:TenC} (h:c.sz) (n:Int):(c.nextN n).sz:=⟨h.nm,h.sets,h.eachS,h.grants,h.eachG,h.stages,h.eachT,h.log,h.eachL⟩
theorem AtS.ok {c:TenC} {p n:BS} {bad:Bool} {k:Nat} (h:AtS c p n bad k):SetOk c.sets (c.sets[k]'h.lt):=((TenC.E_ok c).1 h.E).sets.each _ (List.getElem_mem h.lt)
theorem AtS.snaps {c:TenC} {p n:BS} {bad:Bool} {k:Nat} (h:AtS c p n bad k):SnapsOk (c.sets[k]'h.lt).snaps:=(snapsB_iff _).1 h.ok.snaps
theorem snapshot_form (c:TenC) (p n:BS) (c2:TenC) (h:(0,c2)=c.snapshot p n):∃ k,∃ ha:AtS c p n false k,c2=c.snapped k (c.sets[k]'ha.lt) n (guidC c.next (c.sets[k]'ha.lt).snaps)∧c2.E=0∧(c2.charge:Int)≤c2.quota∧∀ x∈(c.sets[k]'ha.lt).snaps,x.nm≠n:=by
 unfold TenC.snapshot at h
 rcases c.askS_cases p n false with ⟨E,hE,e⟩ | ⟨k,ha,e⟩
 ·rw [e] at h
  rw [if_pos (show E≠0 by rcases hE with rfl | rfl | rfl <;> decide)] at h
  injection h with h _
  rcases hE with rfl | rfl | rfl <;> cases h
 ·rw [e] at h
  simp only [Int.toNat_natCast] at h
  rw [if_neg (by decide),List.getElem?_eq_getElem ha.lt] at h
  simp only at h
  by_cases h1:0≤(c.sets[k]'ha.lt).findN n
  ·rw [if_pos h1] at h
   injection h with h _
   cases h
  rw [if_neg h1] at h
  by_cases h2:(c.sets[k]'ha.lt).snaps.length=16
  ·rw [if_pos h2] at h
   injection h with h _
   cases h
  rw [if_neg h2] at h
  by_cases h3:1099511627776≤guidC c.next (c.sets[k]'ha.lt).snaps
  ·rw [if_pos h3] at h
   injection h with h _
   cases h
  rw [if_neg h3] at h
  obtain ⟨e1,e2,e3⟩:=settle_ok _ _ h
  refine ⟨k,ha,e1,by rw [e1];exact e2,by rw [e1];exact e3,?_⟩
  rcases findN_cases (c.sets[k]'ha.lt) n with ⟨_,h4⟩ | ⟨j,_,h4,_⟩
  ·exact h4
  ·omega
theorem snapped_sz {c:TenC} (h:c.sz) (k:Nat) (s:SetC) (hs:s.sz) (h16:s.snaps.length≤16) (n:BS) (hn:n.length≤4000000000) (g:Int):(c.snapped k s n g).sz:=by
 show ((c.putS k (s.addSnap (snapOf s n g))).nextN (g+1)).sz
 refine TenC.sz.nextN (h.putS (s:=s.addSnap (snapOf s n g)) ⟨hs.path,hs.org,hs.body,?_,fun y hy=>?_,hs.own,hs.props⟩) _
 ·show (s.snaps++[snapOf s n g]).length≤_
  rw [List.length_append,List.length_singleton]
  omega
 ·rcases List.mem_append.1 (show y∈s.snaps++[snapOf s n g] from hy) with hy | hy
  ·exact hs.each y hy
  ·rw [List.mem_singleton] at hy
   subst hy
   exact ⟨hn,hs.body,by simp [snapOf],by simp [snapOf],hs.own,hs.props⟩
theorem snapshot_sz {c:TenC} (h:c.sz) (p n:BS) (hn:n.length≤4000000000) (c2:TenC) (h2:(0,c2)=c.snapshot p n):c2.sz:=by
 obtain ⟨k,ha,e,-,-,-⟩:=snapshot_form c p n c2 h2
 rw [e]
 exact snapped_sz h k _ (h.eachS _ (List.getElem_mem ha.lt)) ha.snaps.len n hn _
theorem unsnap_form (c:TenC) (p n:BS) (c2:TenC) (h:(0,c2)=c.unsnap p n):∃ k,∃ ha:AtS c p n false k,∃ i,i<(c.sets[k]'ha.lt).snaps.length∧c2=c.putS k ((c.sets[k]'ha.lt).dropSnap i):=by
 unfold TenC.unsnap at h
 rcases c.foundS_cases p n false with ⟨a,k,E,hE,e⟩ | ⟨k,ha,i,hi,e,e1,e2⟩
 ·rw [e] at h
  rw [if_pos (show E≠0 by rcases hE with rfl | rfl | rfl <;> decide)] at h
  injection h with h _
  rcases hE with rfl | rfl | rfl <;> cases h
 ·rw [e] at h
  simp only [Int.toNat_natCast] at h
  rw [if_neg (by decide)] at h
  by_cases hc:0<c.clones p n
  ·rw [if_pos hc] at h
   injection h with h _
   cases h
  rw [if_neg hc,List.getElem?_eq_getElem ha.lt] at h
  simp only [List.getElem?_eq_getElem hi] at h
  split at h
  ·injection h with h _
   cases h
  injection h with _ h
  exact ⟨k,ha,i,hi,h⟩
theorem unsnap_sz {c:TenC} (h:c.sz) (p n:BS) (c2:TenC) (h2:(0,c2)=c.unsnap p n):c2.sz:=by
 obtain ⟨k,ha,i,hi,e⟩:=unsnap_form c p n c2 h2
 have hs:=h.eachS _ (List.getElem_mem ha.lt)
 have hsub:=dropSn_sub (c.sets[k]'ha.lt).snaps i
 rw [e]
 exact h.putS ⟨hs.path,hs.org,hs.body,Nat.le_trans hsub.length_le hs.snaps,fun y hy=>hs.each y (hsub.subset hy),hs.own,hs.props⟩
theorem cloneS_form (c:TenC) (p n tq:BS) (c2:TenC) (h:(0,c2)=c.cloneS p n tq):∃ k,∃ ha:AtS c p n (!pathB tq) k,∃ i,∃ hi:i<(c.sets[k]'ha.lt).snaps.length,(c.sets[k]'ha.lt).findN n=(i:Int)∧((c.sets[k]'ha.lt).snaps[i]'hi).nm=n∧c.find tq<0∧c2=c.withS (cloneSet p n tq ((c.sets[k]'ha.lt).snaps[i]'hi))∧c2.E=0:=by
 unfold TenC.cloneS at h
 rcases c.foundS_cases p n (!pathB tq) with ⟨a,k,E,hE,e⟩ | ⟨k,ha,i,hi,e,e1,e2⟩
 ·rw [e] at h
  rw [if_pos (show E≠0 by rcases hE with rfl | rfl | rfl <;> decide)] at h
  injection h with h _
  rcases hE with rfl | rfl | rfl <;> cases h
 ·rw [e] at h
  simp only [Int.toNat_natCast] at h
  rw [if_neg (by decide)] at h
  by_cases h1:0≤c.find tq
  ·rw [if_pos h1] at h
   injection h with h _
   cases h
  rw [if_neg h1] at h
  by_cases h2:c.find (upL tq)<0
  ·rw [if_pos h2] at h
   injection h with h _
   cases h
  rw [if_neg h2] at h
  by_cases h3:c.sets.length=32
  ·rw [if_pos h3] at h
   injection h with h _
   cases h
  rw [if_neg h3,List.getElem?_eq_getElem ha.lt] at h
  simp only [List.getElem?_eq_getElem hi] at h
  obtain ⟨g1,g2,g3⟩:=settle_ok _ _ h
  exact ⟨k,ha,i,hi,e1,e2,by omega,g1,by rw [g1];exact g2⟩
theorem cloneSet_sz {p n tq:BS} {x:SnapC} (hx:x.sz) (h1:p.length+n.length≤3000000000) (h2:tq.length≤4000000000):(cloneSet p n tq x).sz :=
 ⟨h2,by show (p++64 :: n).length≤_;rw [List.length_append,List.length_cons];omega,hx.body,by simp [cloneSet],fun y hy=>(by cases hy),hx.own,hx.props⟩
theorem cloneS_sz {c:TenC} (h:c.sz) (p n tq:BS) (h1:p.length+n.length≤3000000000) (h2:tq.length≤4000000000) (c2:TenC) (h3:(0,c2)=c.cloneS p n tq):c2.sz:=by
 obtain ⟨k,ha,i,hi,-,-,-,e,-⟩:=cloneS_form c p n tq c2 h3
 rw [e]
 exact h.withS (cloneSet_sz ((h.eachS _ (List.getElem_mem ha.lt)).each _ (List.getElem_mem hi)) h1 h2) (by have:=(TenC.E_sets c ha.E).1;omega)
theorem froms_sz {c:TenC} (h:c.sz) (a b:BS) (hb:b.length≤4000000000):(c.froms a b).sz:=by
 refine ⟨h.nm,by show (c.sets.map _).length≤_;rw [List.length_map];exact h.sets,fun y hy=>?_,h.grants,h.eachG,h.stages,h.eachT,h.log,h.eachL⟩
 obtain ⟨z,hz,rfl⟩:=List.mem_map.1 (show y∈c.sets.map _ from hy)
 have hs:=h.eachS z hz
 refine ⟨hs.path,?_,hs.body,hs.snaps,hs.each,hs.own,hs.props⟩
 show (if z.org=a then b else z.org).length≤_
 split
 ·exact hb
 ·exact hs.org
theorem rename_sz {c:TenC} (h:c.sz) (p n tq:BS) (h1:p.length+tq.length≤3000000000) (c2:TenC) (h3:(0,c2)=c.rename p n tq):c2.sz:=by
 obtain ⟨k,ha,i,hi,-,-,e⟩:=rename_form c p n tq c2 h3
 have hs:=h.eachS _ (List.getElem_mem ha.lt)
 have hx:=hs.each _ (List.getElem_mem hi)
 rw [e]
 have hnm:((c.sets[k]'ha.lt).named i ((c.sets[k]'ha.lt).snaps[i]'hi) tq).sz:=by
  refine ⟨hs.path,hs.org,hs.body,?_,fun y hy=>?_,hs.own,hs.props⟩
  ·show (List.set _ _ _).length≤_
   rw [List.length_set]
   exact hs.snaps
  ·rcases List.mem_or_eq_of_mem_set (show y∈List.set _ _ _ from hy) with hy | rfl
   ·exact hs.each y hy
   ·exact ⟨by show tq.length≤_;omega,hx.body,hx.tags,hx.each,hx.own,hx.props⟩
 exact froms_sz (h.putS hnm) _ _ (show (p++64 :: tq).length≤4000000000 by rw [List.length_append,List.length_cons];omega)
theorem rename_ok (c:TenC) (p n tq:BS) (c2:TenC) (h:(0,c2)=c.rename p n tq):c2.E=0:=by
 obtain ⟨k,ha,i,hi,e2,hno,e⟩:=rename_form c p n tq c2 h
 rw [e]
 exact renamed_ok c p n tq k ha i hi e2 hno
/-! ### clones -/
end Go.Proofs.YtpbejobgickffaaGreatDoor
namespace Go.Proofs.YtpbejobgickffaaGreatDoor
open Go.RowKit
theorem results_cell_tmp2 {P:Program} {fn:Func} {tmps:Array Value} {a b c:Tmp} {t:TypeId} {ad:Addr} {v u x:Value} {w:World} (hr:fn.results=#[.cell a t,.tmp b,.tmp c]) (ha:tmps[a]?.getD undef=.pointer (some ad)) (hl:(loadVar t ad).run P w=.ok v w) (hu:tmps[b]?.getD undef=u:=by rfl) (hx:tmps[c]?.getD undef=x:=by rfl):(results fn tmps).run P w=.ok (.tuple #[v,u,x]) w:=by
 simp [results,hr,ha,hl,hu,hx,asAddr]
theorem found_way (t:TenR) (sl:List SetR) (hs:t.sets.l=sl) (p n:BS) (bad:Bool) (R:Int×Int×Int) (hR:R=t.con.foundS p n bad) :
  (∃ a k E:Int,(E=9∨E=31∨E=71)∧R=(a,k,E))∨∃ (k i:Nat) (hk:k<sl.length) (hi:i<(sl[k]'hk).snaps.l.length),R=((k:Int),(i:Int),0)∧AtS t.con p n bad k∧t.con.sets[k]?=some (sl[k]'hk).con∧(sl[k]'hk).con.snaps[i]?=some ((sl[k]'hk).snaps.l[i]'hi).con∧((sl[k]'hk).snaps.l[i]'hi).nm=n:=by
 subst hs
 rcases t.con.foundS_cases p n bad with ⟨a,k,E,h1,h2⟩ | ⟨k,ha,i,hi,h1,h2,h3⟩
 ·exact .inl ⟨a,k,E,h1,hR.trans h2⟩
 ·have hk:k<t.sets.l.length:=by have:=ha.lt;rwa [show t.con.sets.length=t.sets.l.length from List.length_map ..] at this
  have e:(t.con.sets[k]'ha.lt)=(t.sets.l[k]'hk).con:=List.getElem_map ..
  have hi':i<(t.sets.l[k]'hk).snaps.l.length:=by
   rw [e] at hi
   have:(t.sets.l[k]'hk).con.snaps.length=(t.sets.l[k]'hk).snaps.l.length:=List.length_map ..
   omega
  have e2:(t.sets.l[k]'hk).con.snaps[i]?=some ((t.sets.l[k]'hk).snaps.l[i]'hi').con:=by
   show ((t.sets.l[k]'hk).snaps.l.map SnapR.con)[i]?=_
   rw [List.getElem?_map,List.getElem?_eq_getElem hi']
   rfl
  refine .inr ⟨k,i,hk,hi',hR.trans h1,ha,by rw [List.getElem?_eq_getElem ha.lt,e],e2,?_⟩
  have h4:(t.sets.l[k]'hk).con.snaps[i]?=some ((t.con.sets[k]'ha.lt).snaps[i]'hi):=by rw [← e];exact List.getElem?_eq_getElem hi
  rw [e2] at h4
  injection h4 with h4
  rw [← h4] at h3
  exact h3
theorem asked_way (t:TenR) (sl:List SetR) (hs:t.sets.l=sl) (p n:BS) (bad:Bool) (R:Int×Int×Int) (hR:R=t.con.askS p n bad) :
  (∃ E:Int,(E=9∨E=31∨E=71)∧R=(0,0,E))∨∃ (k:Nat) (hk:k<sl.length),R=((k:Int),(sl[k]'hk).con.findN n,0)∧AtS t.con p n bad k∧t.con.sets[k]?=some (sl[k]'hk).con:=by
 subst hs
 rcases t.con.askS_cases p n bad with ⟨E,h1,h2⟩ | ⟨k,ha,h1⟩
 ·exact .inl ⟨E,h1,hR.trans h2⟩
 ·have hk:k<t.sets.l.length:=by have:=ha.lt;rwa [show t.con.sets.length=t.sets.l.length from List.length_map ..] at this
  have e:(t.con.sets[k]'ha.lt)=(t.sets.l[k]'hk).con:=List.getElem_map ..
  rw [e] at h1
  exact .inr ⟨k,hk,hR.trans h1,ha,by rw [List.getElem?_eq_getElem ha.lt,e]⟩
section
variable {c:TenC} {p n tq:BS} {a k' E:Int} {k i:Nat} {s:SetC} {y:SnapC}
theorem unsnap_bad (h:c.foundS p n false=(a,k',E)) (hE:E≠0):c.unsnap p n=(E,c):=by
 unfold TenC.unsnap
 rw [h,if_pos hE]
theorem unsnap_at (h:c.foundS p n false=((k:Int),(i:Int),0)) (hs:c.sets[k]?=some s) (hy:s.snaps[i]?=some y):c.unsnap p n=if 0<c.clones p n then (44,c) else if 0<y.tags.length then (43,c) else (0,c.putS k (s.dropSnap i)):=by
 unfold TenC.unsnap
 rw [h]
 simp only [Int.toNat_natCast,hs,hy]
 rw [if_neg (by decide)]
theorem cloneS_bad (h:c.foundS p n (!pathB tq)=(a,k',E)) (hE:E≠0):c.cloneS p n tq=(E,c):=by
 unfold TenC.cloneS
 rw [h,if_pos hE]
theorem cloneS_at (h:c.foundS p n (!pathB tq)=((k:Int),(i:Int),0)) (hs:c.sets[k]?=some s) (hy:s.snaps[i]?=some y):c.cloneS p n tq=if 0≤c.find tq then (6,c) else if c.find (upL tq)<0 then (71,c) else if c.sets.length=32 then (3,c) else (c.withS (cloneSet p n tq y)).settle:=by
 unfold TenC.cloneS
 rw [h]
 simp only [Int.toNat_natCast,hs,hy]
 rw [if_neg (by decide)]
theorem rename_bad (h:c.foundS p n (!nameB tq)=(a,k',E)) (hE:E≠0):c.rename p n tq=(E,c):=by
 unfold TenC.rename
 rw [h,if_pos hE]
theorem rename_at (h:c.foundS p n (!nameB tq)=((k:Int),(i:Int),0)) (hs:c.sets[k]?=some s) (hy:s.snaps[i]?=some y):c.rename p n tq=if 0≤s.findN tq then (6,c) else (0,(c.putS k (s.named i y tq)).froms (p++64 :: n) (p++64 :: tq)):=by
 unfold TenC.rename
 rw [h]
 simp only [Int.toNat_natCast,hs,hy]
 rw [if_neg (by decide)]
theorem snapshot_bad (h:c.askS p n false=(a,k',E)) (hE:E≠0):c.snapshot p n=(E,c):=by
 unfold TenC.snapshot
 rw [h,if_pos hE]
theorem snapshot_at (h:c.askS p n false=((k:Int),k',0)) (hs:c.sets[k]?=some s):c.snapshot p n=if 0≤k' then (6,c) else if s.snaps.length=16 then (3,c) else if 1099511627776≤guidC c.next s.snaps then (15,c) else (c.snapped k s n (guidC c.next s.snaps)).settle:=by
 unfold TenC.snapshot
 rw [h]
 simp only [Int.toNat_natCast,hs]
 rw [if_neg (by decide)]
end
/-! ### rows of sets -/
theorem row_cells {W:World} {base:Nat} {s:FS SetR} (h:s.own W base 42 5 encSet) {k gS:Nat} (hk:k<s.l.length) (hA:s.A=some ⟨gS,0,none⟩) :
  base≤gS∧gS<W.heap.size∧(∀ o,W.frozen? ⟨gS,o,none⟩=false)∧W.cell? ⟨gS,k*5,none⟩=some (.string ⟨(s.l[k]'hk).path.toArray⟩)∧W.cell? ⟨gS,k*5+1,none⟩=some (.string ⟨(s.l[k]'hk).org.toArray⟩)∧W.cell? ⟨gS,k*5+2,none⟩=some (.slice (s.l[k]'hk).body.A (s.l[k]'hk).body.n (s.l[k]'hk).body.c)∧W.cell? ⟨gS,k*5+3,none⟩=some (.slice (s.l[k]'hk).snaps.A (s.l[k]'hk).snaps.n (s.l[k]'hk).snaps.c)∧W.cell? ⟨gS,k*5+4,none⟩=some (.slice (s.l[k]'hk).own.A (s.l[k]'hk).own.n (s.l[k]'hk).own.c):=by
 have hn:=h.1
 obtain ⟨g,cs,hA2,hbg,hb⟩:=h.blk (by omega)
 rw [hA] at hA2
 injection hA2 with hA2
 injection hA2 with hA2
 subst hA2
 obtain ⟨ad,hsa,-,q0,q1,q2,q3,q4⟩:=set_at h.rd.2.2 hn (i:=k) (by omega)
 rw [hA] at hsa
 injection hsa with hsa
 subst hsa
 rw [addr_add0] at q0 q1 q2 q3 q4
 exact ⟨hbg,hb.lt,hb.frozen,q0,q1,q2,q3,q4⟩
theorem dropSnap_con (x:SetR) (i:Nat) (A:Option Addr) (n c:Nat):(x.withSn ⟨A,n,c,x.snaps.l.take i++x.snaps.l.drop (i+1)⟩).con=x.con.dropSnap i:=by
 unfold SetR.withSn SetR.con SetC.dropSnap
 simp only [List.map_append,List.map_take,List.map_drop]
theorem own_ne {w:World} {base g:Nat} {s:FS SnapR} {T:TypeId} {cs:Array Value} (h:s.own w base 64 5 encSnap) (hb:Blk w g T cs) (hT:64≠T):some g≠s.val.ownBlock:=fun e=>own_blk_ne h.2 hb hT e.symm
end Go.Proofs.YtpbejobgickffaaGreatDoor
