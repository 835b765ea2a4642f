/-
  Snapshots by content: what is asked, found, made, and gone. What is found, as the walks of chapter 17 need it; what is told then.
-/
import Derived.WalkKit
import Derived.WalkSpells
import Derived.Below
import Derived.Laws.OwnMore
import Derived.Deep.AppendLies
import Derived.Deep.Draws
import Derived.Laws.Rows
import Derived.Maps.AppendAt
import Derived.RegionTactic
import Derived.OwnWalk
import Derived.Deep.QuietTactic
import Derived.BigQuiet
import Derived.Lib.Hide
import Derived.Laws.CopyOwn
import Derived.IntWalk
import Derived.Test.YtcgclpcocdappaaGreatDoorRows
import Derived.Handy
import Derived.Deep.Quiet
import Derived.ProofKit
import Derived.OpenShut
import Derived.ShutString
import Derived.ChangeOld
import Derived.Carry
import Derived.SizedLaws
import Derived.JoinedCond
import Derived.Deep.CondSized
import Derived.Deep.Slices
import Derived.Deep.Fields
import Derived.Lib.SmallJoins
import Derived.Orders
import Derived.Lib.SplitLaws
import Derived.Lib.LastIndexByte
import Derived.Lib.Strings
import Derived.Sort.Walk0
import Derived.Sort.KeysCollected
import Derived.Deep.MidRow
import Derived.Deep.RegionLaw
import Derived.Lib.AppendZeros
import Derived.Shelf.Strings.Search1
import Derived.Shelf.Strings.Search2
import Derived.Shelf.Strings.Search3
import Derived.Shelf.Strings.Cut
import Derived.Shelf.Strings.Count
import Derived.Shelf.LaysM
import Derived.Shelf.Strings.Shaped
import Derived.Shelf.Strings.LastIndex
import Derived.Shelf.Strings.Split
import Derived.Shelf.Strings.SplitShaped
import Derived.Shelf.Unicode.Decode
import Derived.Shelf.Strings.RuneCount
import Derived.Shelf.Strings.Explode
import Derived.Shelf.Unicode.DecodeSlow
import Derived.Test.YtcgclpcocdappaaGreatDoorProg
import Derived.Lib.Overlaps
import Derived.Lib.AppendZerosOnto
import Derived.Laws.BytesString
import Derived.Laws.IdiomStrings
import Derived.Lib.ConvBytes
import Derived.Deep.DeepCutAuto
import Derived.Great.BuildSlice
import Derived.Test.YtcgclpcocdappaaGreatDoorG0
import Derived.Test.YtcgclpcocdappaaGreatDoorGg1
import Derived.Test.YtcgclpcocdappaaGreatDoorGg2
import Derived.Test.YtcgclpcocdappaaGreatDoorGg3
import Derived.Test.YtcgclpcocdappaaGreatDoorGg5
import Derived.Test.YtcgclpcocdappaaGreatDoorGg6
import Derived.Test.YtcgclpcocdappaaGreatDoorGg7
import Derived.Test.YtcgclpcocdappaaGreatDoorGg9
import Derived.Test.YtcgclpcocdappaaGreatDoorGg12
import Derived.Test.YtcgclpcocdappaaGreatDoorGg13
import Derived.Test.YtcgclpcocdappaaGreatDoorGg20
import Derived.Test.YtcgclpcocdappaaGreatDoorGg21
import Derived.Test.YtcgclpcocdappaaGreatDoorGg22
import Derived.Test.YtcgclpcocdappaaGreatDoorGg29
import Derived.Test.YtcgclpcocdappaaGreatDoorGg30
import Derived.Test.YtcgclpcocdappaaGreatDoorGg31
import Derived.Test.YtcgclpcocdappaaGreatDoorGg32
import Derived.Test.YtcgclpcocdappaaGreatDoorGg34
namespace Go.Proofs.YtcgclpcocdappaaGreatDoor
open Go.RowKit
def SetC.findN (s:SetC) (n:BS):Int:=firstI (fun x:SnapC=>x.nm == n) s.snaps
theorem findN_con (s:SetR) (n:BS):findN s.snaps.l n=s.con.findN n:=(firstI_map SnapR.con (fun x:SnapC=>x.nm == n) s.snaps.l).symm
/-- places and an error, by content -/
def TenC.askS (c:TenC) (p n:BS) (bad:Bool):Int×Int×Int :=
 if c.E=9 then (0,0,9) else if pathB p=false∨nameB n=false∨bad=true then (0,0,31) else
  match c.sets.find? (fun s=>s.path == p) with
  | none=>(0,0,71)
  | some s=>(c.find p,s.findN n,0)
theorem askS_con (t:TenR) (p n:BS) (bad:Bool):askI t p n bad=t.con.askS p n bad:=by
 unfold askI TenC.askS
 rw [tenE_con,show t.con.sets=t.sets.l.map SetR.con from rfl,find_map]
 have e:(t.sets.l.find? fun x:SetR=>(SetR.con x).path == p)=t.sets.l.find? fun x=>x.path == p:=rfl
 rw [e]
 cases t.sets.l.find? (fun x=>x.path == p) with
 | none=>rfl
 | some s=>simp only [Option.map_some];rw [findS_con,findN_con]
def TenC.foundS (c:TenC) (p n:BS) (bad:Bool):Int×Int×Int :=
 if (c.askS p n bad).2.2=0∧(c.askS p n bad).2.1<0 then ((c.askS p n bad).1,(c.askS p n bad).2.1,71) else c.askS p n bad
theorem foundS_con (t:TenR) (p n:BS) (bad:Bool):foundI t p n bad=t.con.foundS p n bad:=by
 unfold foundI TenC.foundS
 rw [askS_con]
/-- a set that is found -/
structure AtS (c:TenC) (p n:BS) (bad:Bool) (k:Nat):Prop where
 E:c.E=0
 path:pathB p=true
 name:nameB n=true
 good:bad=false
 lt:k<c.sets.length
 at_:(c.sets[k]'lt).path=p
 find:c.find p=(k:Int)
theorem TenC.askS_cases (c:TenC) (p n:BS) (bad:Bool):(∃ E:Int,(E=9∨E=31∨E=71)∧c.askS p n bad=(0,0,E))∨∃ k,∃ h:AtS c p n bad k,c.askS p n bad=((k:Int),(c.sets[k]'h.lt).findN n,0):=by
 unfold TenC.askS
 rcases c.E_two with hE | hE
 ·rw [if_neg (by rw [hE];decide)]
  by_cases hb:pathB p=false∨nameB n=false∨bad=true
  ·rw [if_pos hb]
   exact .inl ⟨31,.inr (.inl rfl),rfl⟩
  ·rw [if_neg hb]
   have h1:pathB p=true:=by cases h:pathB p with
    | true=>rfl
    | false=>exact absurd (.inl h) hb
   have h2:nameB n=true:=by cases h:nameB n with
    | true=>rfl
    | false=>exact absurd (.inr (.inl h)) hb
   have h3:bad=false:=by cases h:bad with
    | false=>rfl
    | true=>exact absurd (.inr (.inr h)) hb
   rcases firstI_cases (fun s:SetC=>s.path == p) c.sets with ⟨e1,e2⟩ | ⟨k,hk,e1,e2⟩
   ·rw [e2]
    exact .inl ⟨71,.inr (.inr rfl),rfl⟩
   ·have e1:c.find p=(k:Int):=e1
    rw [e2]
    exact .inr ⟨k,⟨hE,h1,h2,h3,hk,by simpa using List.find?_some e2,e1⟩,by simp only [e1]⟩
 ·rw [if_pos hE]
  exact .inl ⟨9,.inl rfl,rfl⟩
/-- a snapshot that is found -/
theorem findN_cases (s:SetC) (n:BS):(s.findN n=-1∧∀ x∈s.snaps,x.nm≠n)∨∃ i,∃ hi:i<s.snaps.length,s.findN n=(i:Int)∧(s.snaps[i]'hi).nm=n:=by
 rcases firstI_cases (fun x:SnapC=>x.nm == n) s.snaps with ⟨e1,e2⟩ | ⟨k,hk,e1,e2⟩
 ·refine .inl ⟨e1,fun x hx=>?_⟩
  have:=List.find?_eq_none.1 e2 x hx
  simpa using this
 ·exact .inr ⟨k,hk,e1,by simpa using List.find?_some e2⟩
theorem TenC.foundS_cases (c:TenC) (p n:BS) (bad:Bool):(∃ a k E:Int,(E=9∨E=31∨E=71)∧c.foundS p n bad=(a,k,E))∨∃ k,∃ h:AtS c p n bad k,∃ i,∃ hi:i<(c.sets[k]'h.lt).snaps.length,c.foundS p n bad=((k:Int),(i:Int),0)∧(c.sets[k]'h.lt).findN n=(i:Int)∧((c.sets[k]'h.lt).snaps[i]'hi).nm=n:=by
 unfold TenC.foundS
 rcases c.askS_cases p n bad with ⟨E,hE,e⟩ | ⟨k,h,e⟩
 ·rw [e]
  rw [if_neg (by rintro ⟨h1,-⟩;rcases hE with rfl | rfl | rfl <;> exact absurd h1 (by decide))]
  exact .inl ⟨0,0,E,hE,rfl⟩
 ·rw [e]
  rcases findN_cases (c.sets[k]'h.lt) n with ⟨e1,-⟩ | ⟨i,hi,e1,e2⟩
  ·rw [e1,if_pos ⟨rfl,(by decide:(-1:Int)<0)⟩]
   exact .inl ⟨_,_,71,.inr (.inr rfl),rfl⟩
  ·rw [e1,if_neg (by rintro ⟨-,h1⟩;have h1:(i:Int)<0:=h1;omega)]
   exact .inr ⟨k,h,i,hi,rfl,e1,e2⟩
/-! ### what is made -/
def SetC.dropSnap (s:SetC) (i:Nat):SetC:=⟨s.path,s.org,s.body,s.snaps.take i++s.snaps.drop (i+1),s.own⟩
def TenC.unsnap (c:TenC) (p n:BS):Int×TenC :=
 if (c.foundS p n false).2.2≠0 then ((c.foundS p n false).2.2,c) else if 0<c.clones p n then (44,c) else match c.sets[(c.foundS p n false).1.toNat]? with
 | none=>(71,c)
 | some s=>match s.snaps[(c.foundS p n false).2.1.toNat]? with
  | none=>(71,c)
  | some x=>if 0<x.tags.length then (43,c) else (0,c.putS (c.foundS p n false).1.toNat (s.dropSnap (c.foundS p n false).2.1.toNat))
def SetC.from_ (a b:BS) (s:SetC):SetC:=⟨s.path,if s.org=a then b else s.org,s.body,s.snaps,s.own⟩
/-! ### what may be -/
structure SnapsOk (l:List SnapC):Prop where
 len:l.length≤16
 each:∀ x∈l,snapOk x.r=true∧nameB x.nm=true
 asc:l.Pairwise fun a b=>a.gd<b.gd
 nodup:(l.map SnapC.nm).Nodup
theorem snapsFrom_iff (p:Option Int) (l:List SnapR):snapsFrom p l=true↔(∀ x∈l,snapOk x=true)∧(l.Pairwise fun a b=>a.gd<b.gd)∧∀ q,p=some q→∀ x∈l,q<x.gd:=by
 induction l generalizing p with
 | nil=>cases p <;> simp [snapsFrom]
 | cons y l ih =>
  rw [snapsFrom_cons,Bool.and_eq_true,Bool.and_eq_true,ih]
  constructor
  ·rintro ⟨⟨h1,h2⟩,h3,h4,h5⟩
   refine ⟨fun x hx=>?_,List.pairwise_cons.2 ⟨fun z hz=>h5 _ rfl z hz,h4⟩,fun q hq x hx=>?_⟩
   ·rcases List.mem_cons.1 hx with rfl | hx
    ·exact h1
    ·exact h3 x hx
   ·subst hq
    have h2:q<y.gd:=by simpa using h2
    rcases List.mem_cons.1 hx with rfl | hx
    ·exact h2
    ·have:=h5 _ rfl x hx
     omega
  ·rintro ⟨h1,h2,h3⟩
   obtain ⟨h4,h5⟩:=List.pairwise_cons.1 h2
   refine ⟨⟨h1 y List.mem_cons_self,?_⟩,fun x hx=>h1 x (List.mem_cons_of_mem _ hx),h5,fun q hq x hx=>by cases hq;exact h4 x hx⟩
   cases p with
   | none=>rfl
   | some q=>simpa using h3 q rfl y List.mem_cons_self
theorem unlikeF_iff (acc l:List BS):unlikeF acc l=true↔(∀ x∈l,nameB x=true)∧l.Nodup∧∀ x∈l,x ∉ acc:=by
 induction l generalizing acc with
 | nil=>simp [unlikeF]
 | cons y l ih =>
  rw [unlikeF_cons,Bool.and_eq_true,Bool.and_eq_true,ih,Bool.not_eq_true',← Bool.not_eq_true,List.contains_iff_mem]
  constructor
  ·rintro ⟨⟨h1,h2⟩,h3,h4,h5⟩
   refine ⟨fun x hx=>?_,List.nodup_cons.2 ⟨fun hy=>h5 y hy (by simp),h4⟩,fun x hx=>?_⟩
   ·rcases List.mem_cons.1 hx with rfl | hx
    ·exact h1
    ·exact h3 x hx
   ·rcases List.mem_cons.1 hx with rfl | hx
    ·exact h2
    ·exact fun h=>h5 x hx (by simp [h])
  ·rintro ⟨h1,h2,h3⟩
   obtain ⟨h4,h5⟩:=List.nodup_cons.1 h2
   refine ⟨⟨h1 y List.mem_cons_self,h3 y List.mem_cons_self⟩,fun x hx=>h1 x (List.mem_cons_of_mem _ hx),h5,fun x hx h=>?_⟩
   rcases List.mem_append.1 h with h | h
   ·exact h3 x (List.mem_cons_of_mem _ hx) h
   ·rw [List.mem_singleton] at h
    subst h
    exact h4 hx
theorem snapsB_iff (l:List SnapC):snapsB (l.map SnapC.r)=true↔SnapsOk l:=by
 unfold snapsB unlikeB
 rw [Bool.and_eq_true,Bool.and_eq_true,snapsFrom_iff,unlikeF_iff]
 simp only [decide_eq_true_eq,List.length_map,List.map_map]
 have e:((fun x:SnapR=>x.nm) ∘ SnapC.r)=SnapC.nm:=rfl
 rw [e]
 constructor
 ·rintro ⟨⟨h1,h2,h3,-⟩,h4,h5,-⟩
  exact ⟨h1,fun x hx=>⟨h2 _ (List.mem_map_of_mem hx),h4 _ (List.mem_map_of_mem hx)⟩,(List.pairwise_map (f:=SnapC.r)).1 h3,h5⟩
 ·rintro ⟨h1,h2,h3,h4⟩
  refine ⟨⟨h1,fun x hx=>?_,(List.pairwise_map (f:=SnapC.r)).2 h3,fun q hq=>by cases hq⟩,fun x hx=>?_,h4,fun x hx=>by simp⟩
  ·obtain ⟨y,hy,rfl⟩:=List.mem_map.1 hx
   exact (h2 y hy).1
  ·obtain ⟨y,hy,rfl⟩:=List.mem_map.1 hx
   exact (h2 y hy).2
/-- sets of the same paths, each as it may be, whose origins are there -/
theorem SetsOk.re {l l':List SetC} (h:SetsOk l) (hp:l'.map SetC.path=l.map SetC.path) (he:∀ z∈l',propsB z.own=true∧okL z.body=true∧SnapsOk z.snaps∧(z.org=[]∨∃ a b,splitL z.org=some (a,b)∧a≠z.path∧∃ x∈l',x.path=a∧∃ y∈x.snaps,y.nm=b)):SetsOk l':=by
 have hlen:l'.length=l.length:=by simpa using congrArg List.length hp
 have hasc:l'.Pairwise fun a b=>Op.bytesLess a.path b.path=true:=by
  have:=List.pairwise_map (f:=SetC.path) (l:=l) (R:=fun a b=>Op.bytesLess a b=true)
  have h4:=this.2 h.asc
  rw [← hp] at h4
  exact List.pairwise_map.1 h4
 have hto:∀ {a:BS},(∃ x∈l,x.path=a)→∃ x∈l',x.path=a:=by
  rintro a ⟨x,hx,rfl⟩
  have:x.path∈l'.map SetC.path:=by rw [hp];exact List.mem_map_of_mem hx
  obtain ⟨y,hy,e⟩:=List.mem_map.1 this
  exact ⟨y,hy,e⟩
 refine ⟨by rw [hlen];exact h.len,hto h.root,fun z hz=>?_,hasc⟩
 obtain ⟨h1,h2,h3,h4⟩:=he z hz
 have:z.path∈l.map SetC.path:=by rw [← hp];exact List.mem_map_of_mem hz
 obtain ⟨s,hs,e⟩:=List.mem_map.1 this
 have ho:=h.each s hs
 refine ⟨by rw [← e];exact ho.path,fun u hu=>hto (ho.par u (by rw [e];exact hu)),h1,h2,(snapsB_iff _).2 h3,?_⟩
 rcases h4 with h4 | ⟨a,b,g1,g2,x,hx,rfl,y,hy,e3⟩
 ·exact .inl h4
 ·exact .inr ⟨_,b,g1,g2,x,find_of_mem hasc hx,y,hy,e3⟩
theorem SetOk.all {l:List SetC} {z:SetC} (h:SetOk l z):propsB z.own=true∧okL z.body=true∧SnapsOk z.snaps∧(z.org=[]∨∃ a b,splitL z.org=some (a,b)∧a≠z.path∧∃ x∈l,x.path=a∧∃ y∈x.snaps,y.nm=b):=by
 refine ⟨h.own,h.body,(snapsB_iff _).1 h.snaps,?_⟩
 rcases h.org with h | ⟨a,b,h1,h2,x,hf,y,hy,e⟩
 ·exact .inl h
 ·exact .inr ⟨a,b,h1,h2,x,List.mem_of_find?_eq_some hf,by simpa using List.find?_some hf,y,hy,e⟩
theorem SnapsOk.sub {l l':List SnapC} (h:SnapsOk l) (hs:l'.Sublist l):SnapsOk l' :=
 ⟨Nat.le_trans hs.length_le h.len,fun x hx=>h.each x (hs.subset hx),h.asc.sublist hs,h.nodup.sublist (hs.map _)⟩
theorem dropSn_sub (l:List SnapC) (i:Nat):(l.take i++l.drop (i+1)).Sublist l:=by
 by_cases hi:i<l.length
 ·conv=>rhs;rw [← List.take_append_drop i l,List.drop_eq_getElem_cons hi]
  exact List.Sublist.append_left (List.sublist_cons_self _ _) _
 ·rw [List.drop_eq_nil_of_le (by omega),List.append_nil]
  exact List.take_sublist _ _
theorem mem_dropSn {l:List SnapC} {i:Nat} (hi:i<l.length) {y:SnapC} (hy:y∈l) (hne:y.nm≠(l[i]'hi).nm):y∈l.take i++l.drop (i+1):=by
 have hl:l=l.take i++l[i]'hi :: l.drop (i+1):=by
  conv=>lhs;rw [← List.take_append_drop i l,List.drop_eq_getElem_cons hi]
 rw [hl] at hy
 rcases mem_at' hy with rfl | h
 ·exact absurd rfl hne
 ·exact h
theorem set_paths {l:List SetC} {k:Nat} (hk:k<l.length) {s:SetC} (h:s.path=(l[k]'hk).path):(l.set k s).map SetC.path=l.map SetC.path:=by
 rw [List.map_set,h,← List.getElem_map SetC.path (h:=by rw [List.length_map];exact hk),List.set_getElem_self]
/-- who stands for whom when a set is put at a place -/
theorem mem_set {l:List SetC} {k:Nat} (hk:k<l.length) {s:SetC} {x:SetC} (hx:x∈l):x∈l.set k s∨x=l[k]'hk∧s∈l.set k s:=by
 obtain ⟨j,hj,rfl⟩:=List.mem_iff_getElem.1 hx
 by_cases hjk:k=j
 ·subst hjk
  exact .inr ⟨rfl,List.mem_iff_getElem.2 ⟨k,by rw [List.length_set];exact hj,by rw [List.getElem_set_self]⟩⟩
 ·exact .inl (List.mem_iff_getElem.2 ⟨j,by rw [List.length_set];exact hj,by rw [List.getElem_set_ne hjk]⟩)
/-- a snapshot is gone -/
theorem unsnap_ok (c:TenC) (p n:BS) (c2:TenC) (h:(0,c2)=c.unsnap p n):c2.E=0:=by
 unfold TenC.unsnap at h
 rcases c.foundS_cases p n false with ⟨a,k,E,hE,e⟩ | ⟨k,ha,i,hi,e,e1,e2⟩
 ·rw [e] at h
  rw [if_pos (show E≠0 by rcases hE with rfl | rfl | rfl <;> decide)] at h
  injection h with h _
  rcases hE with rfl | rfl | rfl <;> cases h
 ·rw [e] at h
  simp only [Int.toNat_natCast] at h
  rw [if_neg (by decide)] at h
  by_cases hc:0<c.clones p n
  ·rw [if_pos hc] at h
   injection h with h _
   cases h
  rw [if_neg hc,List.getElem?_eq_getElem ha.lt] at h
  simp only [List.getElem?_eq_getElem hi] at h
  split at h
  ·injection h with h _
   cases h
  injection h with _ h
  subst h
  have hok:=(TenC.E_ok c).1 ha.E
  have hat:=hok.sets.each _ (List.getElem_mem ha.lt)
  obtain ⟨h1,h2,h3,h4,h5,h6,h7⟩:=hok
  refine (TenC.E_ok _).2 ⟨h1,h2,h3,?_,h5,h6,h7⟩
  show SetsOk (c.sets.set k _)
  obtain ⟨s,hs⟩:∃ s,s=c.sets[k]'ha.lt:=⟨_,rfl⟩
  have hnoc:∀ z∈c.sets,∀ b,splitL z.org=some (p,b)→b≠n:=by
   intro z hz b hb e
   subst e
   apply hc
   unfold TenC.clones
   refine List.length_pos_of_mem (a:=z) (List.mem_filter.2 ⟨hz,?_⟩)
   unfold clP
   rw [hb]
   simp
  have horg:∀ z∈c.sets,(z.org=[]∨∃ a b,splitL z.org=some (a,b)∧a≠z.path∧∃ x∈c.sets.set k ((c.sets[k]'ha.lt).dropSnap i),x.path=a∧∃ y∈x.snaps,y.nm=b):=by
   intro z hz
   rcases (h4.each z hz).all.2.2.2 with h | ⟨a,b,g1,g2,x,hx,g3,y,hy,g4⟩
   ·exact .inl h
   ·refine .inr ⟨a,b,g1,g2,?_⟩
    rcases mem_set ha.lt (s:=(c.sets[k]'ha.lt).dropSnap i) hx with hx2 | ⟨rfl,hx2⟩
    ·exact ⟨x,hx2,g3,y,hy,g4⟩
    ·refine ⟨_,hx2,g3,y,?_,g4⟩
     have hap:a=p:=by rw [← g3,ha.at_]
     subst hap
     exact mem_dropSn hi hy (by rw [e2,g4];exact hnoc z hz b g1)
  refine h4.re (set_paths ha.lt rfl) fun z hz=>?_
  rcases List.mem_or_eq_of_mem_set hz with hz | rfl
  ·have:=(h4.each z hz).all
   exact ⟨this.1,this.2.1,this.2.2.1,horg z hz⟩
  ·have:=hat.all
   exact ⟨this.1,this.2.1,this.2.2.1.sub (dropSn_sub _ _),horg (c.sets[k]'ha.lt) (List.getElem_mem ha.lt)⟩
/-! ### another name -/
end Go.Proofs.YtcgclpcocdappaaGreatDoor
namespace Go.Proofs.YtcgclpcocdappaaGreatDoor
open Go.RowKit
theorem results_cell_tmp2 {P:Program} {fn:Func} {tmps:Array Value} {a b c:Tmp} {t:TypeId} {ad:Addr} {v u x:Value} {w:World} (hr:fn.results=#[.cell a t,.tmp b,.tmp c]) (ha:tmps[a]?.getD undef=.pointer (some ad)) (hl:(loadVar t ad).run P w=.ok v w) (hu:tmps[b]?.getD undef=u:=by rfl) (hx:tmps[c]?.getD undef=x:=by rfl):(results fn tmps).run P w=.ok (.tuple #[v,u,x]) w:=by
 simp [results,hr,ha,hl,hu,hx,asAddr]
theorem found_way (t:TenR) (sl:List SetR) (hs:t.sets.l=sl) (p n:BS) (bad:Bool) (R:Int×Int×Int) (hR:R=t.con.foundS p n bad) :
  (∃ a k E:Int,(E=9∨E=31∨E=71)∧R=(a,k,E))∨∃ (k i:Nat) (hk:k<sl.length) (hi:i<(sl[k]'hk).snaps.l.length),R=((k:Int),(i:Int),0)∧AtS t.con p n bad k∧t.con.sets[k]?=some (sl[k]'hk).con∧(sl[k]'hk).con.snaps[i]?=some ((sl[k]'hk).snaps.l[i]'hi).con∧((sl[k]'hk).snaps.l[i]'hi).nm=n:=by
 subst hs
 rcases t.con.foundS_cases p n bad with ⟨a,k,E,h1,h2⟩ | ⟨k,ha,i,hi,h1,h2,h3⟩
 ·exact .inl ⟨a,k,E,h1,hR.trans h2⟩
 ·have hk:k<t.sets.l.length:=by have:=ha.lt;rwa [show t.con.sets.length=t.sets.l.length from List.length_map ..] at this
  have e:(t.con.sets[k]'ha.lt)=(t.sets.l[k]'hk).con:=List.getElem_map ..
  have hi':i<(t.sets.l[k]'hk).snaps.l.length:=by
   rw [e] at hi
   have:(t.sets.l[k]'hk).con.snaps.length=(t.sets.l[k]'hk).snaps.l.length:=List.length_map ..
   omega
  have e2:(t.sets.l[k]'hk).con.snaps[i]?=some ((t.sets.l[k]'hk).snaps.l[i]'hi').con:=by
   show ((t.sets.l[k]'hk).snaps.l.map SnapR.con)[i]?=_
   rw [List.getElem?_map,List.getElem?_eq_getElem hi']
   rfl
  refine .inr ⟨k,i,hk,hi',hR.trans h1,ha,by rw [List.getElem?_eq_getElem ha.lt,e],e2,?_⟩
  have h4:(t.sets.l[k]'hk).con.snaps[i]?=some ((t.con.sets[k]'ha.lt).snaps[i]'hi):=by rw [← e];exact List.getElem?_eq_getElem hi
  rw [e2] at h4
  injection h4 with h4
  rw [← h4] at h3
  exact h3
section
variable {c:TenC} {p n tq:BS} {a k' E:Int} {k i:Nat} {s:SetC} {y:SnapC}
theorem unsnap_bad (h:c.foundS p n false=(a,k',E)) (hE:E≠0):c.unsnap p n=(E,c):=by
 unfold TenC.unsnap
 rw [h,if_pos hE]
theorem unsnap_at (h:c.foundS p n false=((k:Int),(i:Int),0)) (hs:c.sets[k]?=some s) (hy:s.snaps[i]?=some y):c.unsnap p n=if 0<c.clones p n then (44,c) else if 0<y.tags.length then (43,c) else (0,c.putS k (s.dropSnap i)):=by
 unfold TenC.unsnap
 rw [h]
 simp only [Int.toNat_natCast,hs,hy]
 rw [if_neg (by decide)]
end
/-! ### rows of sets -/
theorem row_cells {W:World} {base:Nat} {s:FS SetR} (h:s.own W base 42 5 encSet) {k gS:Nat} (hk:k<s.l.length) (hA:s.A=some ⟨gS,0,none⟩) :
  base≤gS∧gS<W.heap.size∧(∀ o,W.frozen? ⟨gS,o,none⟩=false)∧W.cell? ⟨gS,k*5,none⟩=some (.string ⟨(s.l[k]'hk).path.toArray⟩)∧W.cell? ⟨gS,k*5+1,none⟩=some (.string ⟨(s.l[k]'hk).org.toArray⟩)∧W.cell? ⟨gS,k*5+2,none⟩=some (.slice (s.l[k]'hk).body.A (s.l[k]'hk).body.n (s.l[k]'hk).body.c)∧W.cell? ⟨gS,k*5+3,none⟩=some (.slice (s.l[k]'hk).snaps.A (s.l[k]'hk).snaps.n (s.l[k]'hk).snaps.c)∧W.cell? ⟨gS,k*5+4,none⟩=some (.slice (s.l[k]'hk).own.A (s.l[k]'hk).own.n (s.l[k]'hk).own.c):=by
 have hn:=h.1
 obtain ⟨g,cs,hA2,hbg,hb⟩:=h.blk (by omega)
 rw [hA] at hA2
 injection hA2 with hA2
 injection hA2 with hA2
 subst hA2
 obtain ⟨ad,hsa,-,q0,q1,q2,q3,q4⟩:=set_at h.rd.2.2 hn (i:=k) (by omega)
 rw [hA] at hsa
 injection hsa with hsa
 subst hsa
 rw [addr_add0] at q0 q1 q2 q3 q4
 exact ⟨hbg,hb.lt,hb.frozen,q0,q1,q2,q3,q4⟩
theorem dropSnap_con (x:SetR) (i:Nat) (A:Option Addr) (n c:Nat):(x.withSn ⟨A,n,c,x.snaps.l.take i++x.snaps.l.drop (i+1)⟩).con=x.con.dropSnap i:=by
 unfold SetR.withSn SetR.con SetC.dropSnap
 simp only [List.map_append,List.map_take,List.map_drop]
theorem own_ne {w:World} {base g:Nat} {s:FS SnapR} {T:TypeId} {cs:Array Value} (h:s.own w base 57 5 encSnap) (hb:Blk w g T cs) (hT:57≠T):some g≠s.val.ownBlock:=fun e=>own_blk_ne h.2 hb hT e.symm
end Go.Proofs.YtcgclpcocdappaaGreatDoor
