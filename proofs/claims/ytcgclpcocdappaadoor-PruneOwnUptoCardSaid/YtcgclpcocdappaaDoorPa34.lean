/-
  snaps.asked, snaps.found: a set's place, and its snapshot's. snaps.found, snaps.guid: by their contracts. Snapshots by content: what is asked, found, made, and gone. A tenant of one's own of which the snapshots of one set are changed, when no two sets have one row of snapshots.
-/
import Derived.WalkKit
import Derived.WalkSpells
import Derived.Below
import Derived.Laws.OwnMore
import Derived.Deep.AppendLies
import Derived.Deep.Draws
import Derived.Laws.Rows
import Derived.Maps.AppendAt
import Derived.RegionTactic
import Derived.OwnWalk
import Derived.Deep.QuietTactic
import Derived.BigQuiet
import Derived.Lib.Hide
import Derived.Laws.CopyOwn
import Derived.IntWalk
import Derived.Test.YtcgclpcocdappaaDoorRows
import Derived.Handy
import Derived.Deep.Quiet
import Derived.ProofKit
import Derived.OpenShut
import Derived.ShutString
import Derived.ChangeOld
import Derived.Carry
import Derived.SizedLaws
import Derived.JoinedCond
import Derived.Deep.CondSized
import Derived.Deep.Slices
import Derived.Deep.Fields
import Derived.Lib.SmallJoins
import Derived.Orders
import Derived.Lib.SplitLaws
import Derived.Lib.LastIndexByte
import Derived.Lib.Strings
import Derived.Sort.Walk0
import Derived.Sort.KeysCollected
import Derived.Deep.MidRow
import Derived.Shelf.Strings.Search1
import Derived.Shelf.Strings.Search2
import Derived.Shelf.Strings.Search3
import Derived.Shelf.Strings.Cut
import Derived.Shelf.Strings.Count
import Derived.Shelf.LaysM
import Derived.Shelf.Strings.Shaped
import Derived.Shelf.Strings.LastIndex
import Derived.Shelf.Strings.Split
import Derived.Shelf.Strings.SplitShaped
import Derived.Shelf.Unicode.Decode
import Derived.Shelf.Strings.RuneCount
import Derived.Shelf.Strings.Explode
import Derived.Shelf.Unicode.DecodeSlow
import Derived.Shelf.Slices.Turned
import Derived.Test.YtcgclpcocdappaaDoorProg
import Derived.Laws.BytesString
import Derived.Laws.IdiomStrings
import Derived.Lib.ConvBytes
import Derived.Deep.DeepCutAuto
import Derived.Great.BuildSlice
import Derived.Deep.RegionLaw
import Derived.Lib.AppendZeros
import Derived.Lib.Overlaps
import Derived.Lib.AppendZerosOnto
import Derived.Test.YtcgclpcocdappaaDoorP0
import Derived.Test.YtcgclpcocdappaaDoorPa1
import Derived.Test.YtcgclpcocdappaaDoorPa2
import Derived.Test.YtcgclpcocdappaaDoorPa3
import Derived.Test.YtcgclpcocdappaaDoorPa5
import Derived.Test.YtcgclpcocdappaaDoorPa7
import Derived.Test.YtcgclpcocdappaaDoorPa8
import Derived.Test.YtcgclpcocdappaaDoorPa10
import Derived.Test.YtcgclpcocdappaaDoorPa13
import Derived.Test.YtcgclpcocdappaaDoorPa14
import Derived.Test.YtcgclpcocdappaaDoorPa19
import Derived.Test.YtcgclpcocdappaaDoorPa24
import Derived.Test.YtcgclpcocdappaaDoorPa25
import Derived.Test.YtcgclpcocdappaaDoorPa27
import Derived.Test.YtcgclpcocdappaaDoorPa28
import Derived.Test.YtcgclpcocdappaaDoorPa29
import Derived.Test.YtcgclpcocdappaaDoorPa31
import Derived.Test.YtcgclpcocdappaaDoorPa32
import Derived.Test.YtcgclpcocdappaaDoorPa33
namespace Go.Proofs.YtcgclpcocdappaaDoor
open Go.RowKit
theorem any_containsB (l:List Bool) (x:Bool):l.any (fun y=>y == x)=l.contains x:=by
 rw [Bool.eq_iff_iff,List.any_eq_true,List.contains_iff_mem]
 exact ⟨fun ⟨y,hy,e⟩=>by rw [← (by simpa using e:y=x)];exact hy,fun h=>⟨x,h,by simp⟩⟩
/-- what is asked of a set and a snapshot: places and an error -/
def askI (t:TenR) (p n:BS) (bad:Bool):Int×Int×Int :=
 if tenE t=9 then (0,0,9) else if pathB p=false∨nameB n=false∨bad=true then (0,0,31) else
  match t.sets.l.find? (fun s=>s.path == p) with
  | none=>(0,0,71)
  | some s=>(findS t.sets.l p,findN s.snaps.l n,0)
def askV (x:Int×Int×Int):Value:=.tuple #[.int .i64 x.1,.int .i64 x.2.1,.int .i64 x.2.2]
end Go.Proofs.YtcgclpcocdappaaDoor
namespace Go.Proofs.YtcgclpcocdappaaDoor
open Go.RowKit
/-- likewise, of a snapshot that must be there -/
def foundI (t:TenR) (p n:BS) (bad:Bool):Int×Int×Int :=
 if (askI t p n bad).2.2=0∧(askI t p n bad).2.1<0 then ((askI t p n bad).1,(askI t p n bad).2.1,71) else askI t p n bad
/-- the next number of a set's -/
def guidI (nx:Int) (l:List SnapR):Int:=match l.getLast? with
 | none=>nx
 | some x=>max nx (x.gd+1)
end Go.Proofs.YtcgclpcocdappaaDoor
namespace Go.Proofs.YtcgclpcocdappaaDoor
open Go.RowKit
def SetC.findN (s:SetC) (n:BS):Int:=firstI (fun x:SnapC=>x.nm == n) s.snaps
theorem findN_con (s:SetR) (n:BS):findN s.snaps.l n=s.con.findN n:=(firstI_map SnapR.con (fun x:SnapC=>x.nm == n) s.snaps.l).symm
/-- places and an error, by content -/
def TenC.askS (c:TenC) (p n:BS) (bad:Bool):Int×Int×Int :=
 if c.E=9 then (0,0,9) else if pathB p=false∨nameB n=false∨bad=true then (0,0,31) else
  match c.sets.find? (fun s=>s.path == p) with
  | none=>(0,0,71)
  | some s=>(c.find p,s.findN n,0)
theorem askS_con (t:TenR) (p n:BS) (bad:Bool):askI t p n bad=t.con.askS p n bad:=by
 unfold askI TenC.askS
 rw [tenE_con,show t.con.sets=t.sets.l.map SetR.con from rfl,find_map]
 have e:(t.sets.l.find? fun x:SetR=>(SetR.con x).path == p)=t.sets.l.find? fun x=>x.path == p:=rfl
 rw [e]
 cases t.sets.l.find? (fun x=>x.path == p) with
 | none=>rfl
 | some s=>simp only [Option.map_some];rw [findS_con,findN_con]
def TenC.foundS (c:TenC) (p n:BS) (bad:Bool):Int×Int×Int :=
 if (c.askS p n bad).2.2=0∧(c.askS p n bad).2.1<0 then ((c.askS p n bad).1,(c.askS p n bad).2.1,71) else c.askS p n bad
theorem foundS_con (t:TenR) (p n:BS) (bad:Bool):foundI t p n bad=t.con.foundS p n bad:=by
 unfold foundI TenC.foundS
 rw [askS_con]
/-- a set that is found -/
structure AtS (c:TenC) (p n:BS) (bad:Bool) (k:Nat):Prop where
 E:c.E=0
 path:pathB p=true
 name:nameB n=true
 good:bad=false
 lt:k<c.sets.length
 at_:(c.sets[k]'lt).path=p
 find:c.find p=(k:Int)
theorem TenC.askS_cases (c:TenC) (p n:BS) (bad:Bool):(∃ E:Int,(E=9∨E=31∨E=71)∧c.askS p n bad=(0,0,E))∨∃ k,∃ h:AtS c p n bad k,c.askS p n bad=((k:Int),(c.sets[k]'h.lt).findN n,0):=by
 unfold TenC.askS
 rcases c.E_two with hE | hE
 ·rw [if_neg (by rw [hE];decide)]
  by_cases hb:pathB p=false∨nameB n=false∨bad=true
  ·rw [if_pos hb]
   exact .inl ⟨31,.inr (.inl rfl),rfl⟩
  ·rw [if_neg hb]
   have h1:pathB p=true:=by cases h:pathB p with
    | true=>rfl
    | false=>exact absurd (.inl h) hb
   have h2:nameB n=true:=by cases h:nameB n with
    | true=>rfl
    | false=>exact absurd (.inr (.inl h)) hb
   have h3:bad=false:=by cases h:bad with
    | false=>rfl
    | true=>exact absurd (.inr (.inr h)) hb
   rcases firstI_cases (fun s:SetC=>s.path == p) c.sets with ⟨e1,e2⟩ | ⟨k,hk,e1,e2⟩
   ·rw [e2]
    exact .inl ⟨71,.inr (.inr rfl),rfl⟩
   ·have e1:c.find p=(k:Int):=e1
    rw [e2]
    exact .inr ⟨k,⟨hE,h1,h2,h3,hk,by simpa using List.find?_some e2,e1⟩,by simp only [e1]⟩
 ·rw [if_pos hE]
  exact .inl ⟨9,.inl rfl,rfl⟩
/-- a snapshot that is found -/
theorem findN_cases (s:SetC) (n:BS):(s.findN n=-1∧∀ x∈s.snaps,x.nm≠n)∨∃ i,∃ hi:i<s.snaps.length,s.findN n=(i:Int)∧(s.snaps[i]'hi).nm=n:=by
 rcases firstI_cases (fun x:SnapC=>x.nm == n) s.snaps with ⟨e1,e2⟩ | ⟨k,hk,e1,e2⟩
 ·refine .inl ⟨e1,fun x hx=>?_⟩
  have:=List.find?_eq_none.1 e2 x hx
  simpa using this
 ·exact .inr ⟨k,hk,e1,by simpa using List.find?_some e2⟩
theorem TenC.foundS_cases (c:TenC) (p n:BS) (bad:Bool):(∃ a k E:Int,(E=9∨E=31∨E=71)∧c.foundS p n bad=(a,k,E))∨∃ k,∃ h:AtS c p n bad k,∃ i,∃ hi:i<(c.sets[k]'h.lt).snaps.length,c.foundS p n bad=((k:Int),(i:Int),0)∧(c.sets[k]'h.lt).findN n=(i:Int)∧((c.sets[k]'h.lt).snaps[i]'hi).nm=n:=by
 unfold TenC.foundS
 rcases c.askS_cases p n bad with ⟨E,hE,e⟩ | ⟨k,h,e⟩
 ·rw [e]
  rw [if_neg (by rintro ⟨h1,-⟩;rcases hE with rfl | rfl | rfl <;> exact absurd h1 (by decide))]
  exact .inl ⟨0,0,E,hE,rfl⟩
 ·rw [e]
  rcases findN_cases (c.sets[k]'h.lt) n with ⟨e1,-⟩ | ⟨i,hi,e1,e2⟩
  ·rw [e1,if_pos ⟨rfl,(by decide:(-1:Int)<0)⟩]
   exact .inl ⟨_,_,71,.inr (.inr rfl),rfl⟩
  ·rw [e1,if_neg (by rintro ⟨-,h1⟩;have h1:(i:Int)<0:=h1;omega)]
   exact .inr ⟨k,h,i,hi,rfl,e1,e2⟩
def guidC (nx:Int) (l:List SnapC):Int:=match l.getLast? with
 | none=>nx
 | some x=>max nx (x.gd+1)
theorem guid_con (nx:Int) (l:List SnapR):guidI nx l=guidC nx (l.map SnapR.con):=by
 unfold guidI guidC
 rw [List.getLast?_map]
 cases l.getLast? <;> rfl
/-! ### what is made -/
def SetC.addSnap (s:SetC) (x:SnapC):SetC:=⟨s.path,s.org,s.body,s.snaps++[x],s.own⟩
def SetC.dropSnap (s:SetC) (i:Nat):SetC:=⟨s.path,s.org,s.body,s.snaps.take i++s.snaps.drop (i+1),s.own⟩
def SetC.back (s:SetC) (x:SnapC):SetC:=⟨s.path,s.org,x.body,s.snaps,x.own⟩
def TenC.nextN (c:TenC) (n:Int):TenC:=⟨c.nm,c.quota,n,c.sets,c.grants,c.stages,c.log⟩
def snapOf (s:SetC) (n:BS) (g:Int):SnapC:=⟨n,g,s.body,[],s.own⟩
def TenC.snapped (c:TenC) (k:Nat) (s:SetC) (n:BS) (g:Int):TenC:=(c.putS k (s.addSnap (snapOf s n g))).nextN (g+1)
def TenC.snapshot (c:TenC) (p n:BS):Int×TenC :=
 if (c.askS p n false).2.2≠0 then ((c.askS p n false).2.2,c) else match c.sets[(c.askS p n false).1.toNat]? with
 | none=>(71,c)
 | some s=>if 0≤(c.askS p n false).2.1 then (6,c) else if s.snaps.length=16 then (3,c) else if 1099511627776≤guidC c.next s.snaps then (15,c) else (c.snapped (c.askS p n false).1.toNat s n (guidC c.next s.snaps)).settle
def TenC.guidAt (c:TenC) (p:BS):Int:=match c.sets[(c.find p).toNat]? with
 | none=>0
 | some s=>guidC c.next s.snaps
def TenC.unsnap (c:TenC) (p n:BS):Int×TenC :=
 if (c.foundS p n false).2.2≠0 then ((c.foundS p n false).2.2,c) else if 0<c.clones p n then (44,c) else match c.sets[(c.foundS p n false).1.toNat]? with
 | none=>(71,c)
 | some s=>match s.snaps[(c.foundS p n false).2.1.toNat]? with
  | none=>(71,c)
  | some x=>if 0<x.tags.length then (43,c) else (0,c.putS (c.foundS p n false).1.toNat (s.dropSnap (c.foundS p n false).2.1.toNat))
def TenC.rollback (c:TenC) (p n:BS):Int×TenC :=
 if (c.foundS p n false).2.2≠0 then ((c.foundS p n false).2.2,c) else match c.sets[(c.foundS p n false).1.toNat]? with
 | none=>(71,c)
 | some s=>if (c.foundS p n false).2.1≠(s.snaps.length:Int)-1 then (44,c) else match s.snaps[(c.foundS p n false).2.1.toNat]? with
  | none=>(71,c)
  | some x=>(c.putS (c.foundS p n false).1.toNat (s.back x)).settle
def cloneSet (p n tq:BS) (x:SnapC):SetC:=⟨tq,p++64 :: n,x.body,[],x.own⟩
def TenC.cloneS (c:TenC) (p n tq:BS):Int×TenC :=
 if (c.foundS p n (!pathB tq)).2.2≠0 then ((c.foundS p n (!pathB tq)).2.2,c) else if 0≤c.find tq then (6,c) else if c.find (upL tq)<0 then (71,c) else if c.sets.length=32 then (3,c) else match c.sets[(c.foundS p n (!pathB tq)).1.toNat]? with
 | none=>(71,c)
 | some s=>match s.snaps[(c.foundS p n (!pathB tq)).2.1.toNat]? with
  | none=>(71,c)
  | some x=>(c.withS (cloneSet p n tq x)).settle
def SnapC.named (x:SnapC) (tq:BS):SnapC:=⟨tq,x.gd,x.body,x.tags,x.own⟩
def SetC.named (s:SetC) (i:Nat) (x:SnapC) (tq:BS):SetC:=⟨s.path,s.org,s.body,s.snaps.set i (x.named tq),s.own⟩
def SetC.from_ (a b:BS) (s:SetC):SetC:=⟨s.path,if s.org=a then b else s.org,s.body,s.snaps,s.own⟩
def TenC.froms (c:TenC) (a b:BS):TenC:=⟨c.nm,c.quota,c.next,c.sets.map (SetC.from_ a b),c.grants,c.stages,c.log⟩
def TenC.rename (c:TenC) (p n tq:BS):Int×TenC :=
 if (c.foundS p n (!nameB tq)).2.2≠0 then ((c.foundS p n (!nameB tq)).2.2,c) else match c.sets[(c.foundS p n (!nameB tq)).1.toNat]? with
 | none=>(71,c)
 | some s=>if 0≤s.findN tq then (6,c) else match s.snaps[(c.foundS p n (!nameB tq)).2.1.toNat]? with
  | none=>(71,c)
  | some x=>(0,(c.putS (c.foundS p n (!nameB tq)).1.toNat (s.named (c.foundS p n (!nameB tq)).2.1.toNat x tq)).froms (p++64 :: n) (p++64 :: tq))
/-! ### what may be -/
structure SnapsOk (l:List SnapC):Prop where
 len:l.length≤16
 each:∀ x∈l,snapOk x.r=true∧nameB x.nm=true
 asc:l.Pairwise fun a b=>a.gd<b.gd
 nodup:(l.map SnapC.nm).Nodup
theorem snapsFrom_iff (p:Option Int) (l:List SnapR):snapsFrom p l=true↔(∀ x∈l,snapOk x=true)∧(l.Pairwise fun a b=>a.gd<b.gd)∧∀ q,p=some q→∀ x∈l,q<x.gd:=by
 induction l generalizing p with
 | nil=>cases p <;> simp [snapsFrom]
 | cons y l ih =>
  rw [snapsFrom_cons,Bool.and_eq_true,Bool.and_eq_true,ih]
  constructor
  ·rintro ⟨⟨h1,h2⟩,h3,h4,h5⟩
   refine ⟨fun x hx=>?_,List.pairwise_cons.2 ⟨fun z hz=>h5 _ rfl z hz,h4⟩,fun q hq x hx=>?_⟩
   ·rcases List.mem_cons.1 hx with rfl | hx
    ·exact h1
    ·exact h3 x hx
   ·subst hq
    have h2:q<y.gd:=by simpa using h2
    rcases List.mem_cons.1 hx with rfl | hx
    ·exact h2
    ·have:=h5 _ rfl x hx
     omega
  ·rintro ⟨h1,h2,h3⟩
   obtain ⟨h4,h5⟩:=List.pairwise_cons.1 h2
   refine ⟨⟨h1 y List.mem_cons_self,?_⟩,fun x hx=>h1 x (List.mem_cons_of_mem _ hx),h5,fun q hq x hx=>by cases hq;exact h4 x hx⟩
   cases p with
   | none=>rfl
   | some q=>simpa using h3 q rfl y List.mem_cons_self
theorem unlikeF_iff (acc l:List BS):unlikeF acc l=true↔(∀ x∈l,nameB x=true)∧l.Nodup∧∀ x∈l,x ∉ acc:=by
 induction l generalizing acc with
 | nil=>simp [unlikeF]
 | cons y l ih =>
  rw [unlikeF_cons,Bool.and_eq_true,Bool.and_eq_true,ih,Bool.not_eq_true',← Bool.not_eq_true,List.contains_iff_mem]
  constructor
  ·rintro ⟨⟨h1,h2⟩,h3,h4,h5⟩
   refine ⟨fun x hx=>?_,List.nodup_cons.2 ⟨fun hy=>h5 y hy (by simp),h4⟩,fun x hx=>?_⟩
   ·rcases List.mem_cons.1 hx with rfl | hx
    ·exact h1
    ·exact h3 x hx
   ·rcases List.mem_cons.1 hx with rfl | hx
    ·exact h2
    ·exact fun h=>h5 x hx (by simp [h])
  ·rintro ⟨h1,h2,h3⟩
   obtain ⟨h4,h5⟩:=List.nodup_cons.1 h2
   refine ⟨⟨h1 y List.mem_cons_self,h3 y List.mem_cons_self⟩,fun x hx=>h1 x (List.mem_cons_of_mem _ hx),h5,fun x hx h=>?_⟩
   rcases List.mem_append.1 h with h | h
   ·exact h3 x (List.mem_cons_of_mem _ hx) h
   ·rw [List.mem_singleton] at h
    subst h
    exact h4 hx
theorem snapsB_iff (l:List SnapC):snapsB (l.map SnapC.r)=true↔SnapsOk l:=by
 unfold snapsB unlikeB
 rw [Bool.and_eq_true,Bool.and_eq_true,snapsFrom_iff,unlikeF_iff]
 simp only [decide_eq_true_eq,List.length_map,List.map_map]
 have e:((fun x:SnapR=>x.nm) ∘ SnapC.r)=SnapC.nm:=rfl
 rw [e]
 constructor
 ·rintro ⟨⟨h1,h2,h3,-⟩,h4,h5,-⟩
  exact ⟨h1,fun x hx=>⟨h2 _ (List.mem_map_of_mem hx),h4 _ (List.mem_map_of_mem hx)⟩,(List.pairwise_map (f:=SnapC.r)).1 h3,h5⟩
 ·rintro ⟨h1,h2,h3,h4⟩
  refine ⟨⟨h1,fun x hx=>?_,(List.pairwise_map (f:=SnapC.r)).2 h3,fun q hq=>by cases hq⟩,fun x hx=>?_,h4,fun x hx=>by simp⟩
  ·obtain ⟨y,hy,rfl⟩:=List.mem_map.1 hx
   exact (h2 y hy).1
  ·obtain ⟨y,hy,rfl⟩:=List.mem_map.1 hx
   exact (h2 y hy).2
/-- sets of the same paths, each as it may be, whose origins are there -/
theorem SetsOk.re {l l':List SetC} (h:SetsOk l) (hp:l'.map SetC.path=l.map SetC.path) (he:∀ z∈l',propsB z.own=true∧okL z.body=true∧SnapsOk z.snaps∧(z.org=[]∨∃ a b,splitL z.org=some (a,b)∧a≠z.path∧∃ x∈l',x.path=a∧∃ y∈x.snaps,y.nm=b)):SetsOk l':=by
 have hlen:l'.length=l.length:=by simpa using congrArg List.length hp
 have hasc:l'.Pairwise fun a b=>Op.bytesLess a.path b.path=true:=by
  have:=List.pairwise_map (f:=SetC.path) (l:=l) (R:=fun a b=>Op.bytesLess a b=true)
  have h4:=this.2 h.asc
  rw [← hp] at h4
  exact List.pairwise_map.1 h4
 have hto:∀ {a:BS},(∃ x∈l,x.path=a)→∃ x∈l',x.path=a:=by
  rintro a ⟨x,hx,rfl⟩
  have:x.path∈l'.map SetC.path:=by rw [hp];exact List.mem_map_of_mem hx
  obtain ⟨y,hy,e⟩:=List.mem_map.1 this
  exact ⟨y,hy,e⟩
 refine ⟨by rw [hlen];exact h.len,hto h.root,fun z hz=>?_,hasc⟩
 obtain ⟨h1,h2,h3,h4⟩:=he z hz
 have:z.path∈l.map SetC.path:=by rw [← hp];exact List.mem_map_of_mem hz
 obtain ⟨s,hs,e⟩:=List.mem_map.1 this
 have ho:=h.each s hs
 refine ⟨by rw [← e];exact ho.path,fun u hu=>hto (ho.par u (by rw [e];exact hu)),h1,h2,(snapsB_iff _).2 h3,?_⟩
 rcases h4 with h4 | ⟨a,b,g1,g2,x,hx,rfl,y,hy,e3⟩
 ·exact .inl h4
 ·exact .inr ⟨_,b,g1,g2,x,find_of_mem hasc hx,y,hy,e3⟩
theorem SetOk.all {l:List SetC} {z:SetC} (h:SetOk l z):propsB z.own=true∧okL z.body=true∧SnapsOk z.snaps∧(z.org=[]∨∃ a b,splitL z.org=some (a,b)∧a≠z.path∧∃ x∈l,x.path=a∧∃ y∈x.snaps,y.nm=b):=by
 refine ⟨h.own,h.body,(snapsB_iff _).1 h.snaps,?_⟩
 rcases h.org with h | ⟨a,b,h1,h2,x,hf,y,hy,e⟩
 ·exact .inl h
 ·exact .inr ⟨a,b,h1,h2,x,List.mem_of_find?_eq_some hf,by simpa using List.find?_some hf,y,hy,e⟩
theorem pairwise_paths {l:List SetC} (h:SetsOk l) {i j:Nat} (hi:i<l.length) (hj:j<l.length) (e:(l[i]'hi).path=(l[j]'hj).path):i=j:=by
 rcases Nat.lt_trichotomy i j with h1 | h1 | h1
 ·have:=List.pairwise_iff_getElem.1 h.asc i j hi hj h1
  rw [e,bl_irrefl] at this
  cases this
 ·exact h1
 ·have:=List.pairwise_iff_getElem.1 h.asc j i hj hi h1
  rw [e,bl_irrefl] at this
  cases this
theorem SnapsOk.sub {l l':List SnapC} (h:SnapsOk l) (hs:l'.Sublist l):SnapsOk l' :=
 ⟨Nat.le_trans hs.length_le h.len,fun x hx=>h.each x (hs.subset hx),h.asc.sublist hs,h.nodup.sublist (hs.map _)⟩
theorem dropSn_sub (l:List SnapC) (i:Nat):(l.take i++l.drop (i+1)).Sublist l:=by
 by_cases hi:i<l.length
 ·conv=>rhs;rw [← List.take_append_drop i l,List.drop_eq_getElem_cons hi]
  exact List.Sublist.append_left (List.sublist_cons_self _ _) _
 ·rw [List.drop_eq_nil_of_le (by omega),List.append_nil]
  exact List.take_sublist _ _
theorem mem_dropSn {l:List SnapC} {i:Nat} (hi:i<l.length) {y:SnapC} (hy:y∈l) (hne:y.nm≠(l[i]'hi).nm):y∈l.take i++l.drop (i+1):=by
 have hl:l=l.take i++l[i]'hi :: l.drop (i+1):=by
  conv=>lhs;rw [← List.take_append_drop i l,List.drop_eq_getElem_cons hi]
 rw [hl] at hy
 rcases mem_at' hy with rfl | h
 ·exact absurd rfl hne
 ·exact h
theorem set_paths {l:List SetC} {k:Nat} (hk:k<l.length) {s:SetC} (h:s.path=(l[k]'hk).path):(l.set k s).map SetC.path=l.map SetC.path:=by
 rw [List.map_set,h,← List.getElem_map SetC.path (h:=by rw [List.length_map];exact hk),List.set_getElem_self]
/-- who stands for whom when a set is put at a place -/
theorem mem_set {l:List SetC} {k:Nat} (hk:k<l.length) {s:SetC} {x:SetC} (hx:x∈l):x∈l.set k s∨x=l[k]'hk∧s∈l.set k s:=by
 obtain ⟨j,hj,rfl⟩:=List.mem_iff_getElem.1 hx
 by_cases hjk:k=j
 ·subst hjk
  exact .inr ⟨rfl,List.mem_iff_getElem.2 ⟨k,by rw [List.length_set];exact hj,by rw [List.getElem_set_self]⟩⟩
 ·exact .inl (List.mem_iff_getElem.2 ⟨j,by rw [List.length_set];exact hj,by rw [List.getElem_set_ne hjk]⟩)
/-- a snapshot is gone -/
theorem unsnap_ok (c:TenC) (p n:BS) (c2:TenC) (h:(0,c2)=c.unsnap p n):c2.E=0:=by
 unfold TenC.unsnap at h
 rcases c.foundS_cases p n false with ⟨a,k,E,hE,e⟩ | ⟨k,ha,i,hi,e,e1,e2⟩
 ·rw [e] at h
  rw [if_pos (show E≠0 by rcases hE with rfl | rfl | rfl <;> decide)] at h
  injection h with h _
  rcases hE with rfl | rfl | rfl <;> cases h
 ·rw [e] at h
  simp only [Int.toNat_natCast] at h
  rw [if_neg (by decide)] at h
  by_cases hc:0<c.clones p n
  ·rw [if_pos hc] at h
   injection h with h _
   cases h
  rw [if_neg hc,List.getElem?_eq_getElem ha.lt] at h
  simp only [List.getElem?_eq_getElem hi] at h
  split at h
  ·injection h with h _
   cases h
  injection h with _ h
  subst h
  have hok:=(TenC.E_ok c).1 ha.E
  have hat:=hok.sets.each _ (List.getElem_mem ha.lt)
  obtain ⟨h1,h2,h3,h4,h5,h6,h7⟩:=hok
  refine (TenC.E_ok _).2 ⟨h1,h2,h3,?_,h5,h6,h7⟩
  show SetsOk (c.sets.set k _)
  obtain ⟨s,hs⟩:∃ s,s=c.sets[k]'ha.lt:=⟨_,rfl⟩
  have hnoc:∀ z∈c.sets,∀ b,splitL z.org=some (p,b)→b≠n:=by
   intro z hz b hb e
   subst e
   apply hc
   unfold TenC.clones
   refine List.length_pos_of_mem (a:=z) (List.mem_filter.2 ⟨hz,?_⟩)
   unfold clP
   rw [hb]
   simp
  have horg:∀ z∈c.sets,(z.org=[]∨∃ a b,splitL z.org=some (a,b)∧a≠z.path∧∃ x∈c.sets.set k ((c.sets[k]'ha.lt).dropSnap i),x.path=a∧∃ y∈x.snaps,y.nm=b):=by
   intro z hz
   rcases (h4.each z hz).all.2.2.2 with h | ⟨a,b,g1,g2,x,hx,g3,y,hy,g4⟩
   ·exact .inl h
   ·refine .inr ⟨a,b,g1,g2,?_⟩
    rcases mem_set ha.lt (s:=(c.sets[k]'ha.lt).dropSnap i) hx with hx2 | ⟨rfl,hx2⟩
    ·exact ⟨x,hx2,g3,y,hy,g4⟩
    ·refine ⟨_,hx2,g3,y,?_,g4⟩
     have hap:a=p:=by rw [← g3,ha.at_]
     subst hap
     exact mem_dropSn hi hy (by rw [e2,g4];exact hnoc z hz b g1)
  refine h4.re (set_paths ha.lt rfl) fun z hz=>?_
  rcases List.mem_or_eq_of_mem_set hz with hz | rfl
  ·have:=(h4.each z hz).all
   exact ⟨this.1,this.2.1,this.2.2.1,horg z hz⟩
  ·have:=hat.all
   exact ⟨this.1,this.2.1,this.2.2.1.sub (dropSn_sub _ _),horg (c.sets[k]'ha.lt) (List.getElem_mem ha.lt)⟩
theorem splitL_join {p n:BS} (hp:pathB p=true) (hn:nameB n=true):splitL (p++64 :: n)=some (p,n):=by
 obtain ⟨a,b,h1,h2,h3⟩:=split_join p n
 obtain ⟨rfl,rfl⟩:=h3 (by rw [hp,hn];rfl)
 unfold splitL
 rw [h1]
 simp only [hp,hn,Bool.and_self,if_true]
theorem atL_form (l a b:BS) (h:atL l=some (a,b)):l=a++64 :: b:=by
 induction l generalizing a b with
 | nil=>cases h
 | cons x r ih =>
  unfold atL at h
  by_cases hx:x=64
  ·rw [if_pos hx] at h
   injection h with h
   injection h with h1 h2
   subst h1 h2 hx
   rfl
  ·rw [if_neg hx] at h
   cases hs:atL r with
   | none=>rw [hs] at h;cases h
   | some v =>
    obtain ⟨p,n⟩:=v
    rw [hs] at h
    injection h with h
    injection h with h1 h2
    subst h1 h2
    rw [ih p n hs]
    rfl
theorem splitL_form {l a b:BS} (h:splitL l=some (a,b)):l=a++64 :: b∧pathB a=true∧nameB b=true:=by
 unfold splitL at h
 cases hs:atL l with
 | none=>rw [hs] at h;cases h
 | some v =>
  obtain ⟨x,y⟩:=v
  rw [hs] at h
  simp only at h
  split at h
  ·rename_i hb
   injection h with h
   injection h with h1 h2
   subst h1 h2
   rw [Bool.and_eq_true] at hb
   exact ⟨atL_form _ _ _ hs,hb.1,hb.2⟩
  ·cases h
/-! ### another name -/
theorem SnapsOk.named {l:List SnapC} (h:SnapsOk l) (i:Nat) (hi:i<l.length) (tq:BS) (ht:nameB tq=true) (hn:∀ x∈l,x.nm≠tq):SnapsOk (l.set i ((l[i]'hi).named tq)):=by
 have hg:(l.set i ((l[i]'hi).named tq)).map SnapC.gd=l.map SnapC.gd:=by
  rw [List.map_set,show ((l[i]'hi).named tq).gd=(l[i]'hi).gd from rfl,← List.getElem_map SnapC.gd (h:=by rw [List.length_map];exact hi),List.set_getElem_self]
 refine ⟨by rw [List.length_set];exact h.len,fun x hx=>?_,?_,?_⟩
 ·rcases List.mem_or_eq_of_mem_set hx with hx | rfl
  ·exact h.each x hx
  ·exact ⟨(h.each _ (List.getElem_mem hi)).1,ht⟩
 ·have:=List.pairwise_map (f:=SnapC.gd) (l:=l) (R:=fun a b=>a<b)
  have h4:=this.2 h.asc
  rw [← hg] at h4
  exact List.pairwise_map.1 h4
 ·rw [List.map_set]
  show ((l.map SnapC.nm).set i tq).Nodup
  rw [List.Nodup,List.pairwise_iff_getElem]
  have hnd:=List.pairwise_iff_getElem.1 h.nodup
  intro a b ha hb hab
  simp only [List.length_set] at ha hb
  rw [List.getElem_set,List.getElem_set]
  have hne:∀ (j:Nat) (hj:j<(l.map SnapC.nm).length),(l.map SnapC.nm)[j]'hj≠tq:=fun j hj=>by
   rw [List.getElem_map]
   exact hn _ (List.getElem_mem _)
  by_cases h1:i=a
  ·rw [if_pos h1,if_neg (by omega)]
   exact fun e=>hne b hb e.symm
  ·rw [if_neg h1]
   by_cases h2:i=b
   ·rw [if_pos h2]
    exact hne a ha
   ·rw [if_neg h2]
    exact hnd a b ha hb hab
theorem rename_form (c:TenC) (p n tq:BS) (c2:TenC) (h:(0,c2)=c.rename p n tq):∃ k,∃ ha:AtS c p n (!nameB tq) k,∃ i,∃ hi:i<(c.sets[k]'ha.lt).snaps.length,((c.sets[k]'ha.lt).snaps[i]'hi).nm=n∧(∀ x∈(c.sets[k]'ha.lt).snaps,x.nm≠tq) ∧
  c2=(c.putS k ((c.sets[k]'ha.lt).named i ((c.sets[k]'ha.lt).snaps[i]'hi) tq)).froms (p++64 :: n) (p++64 :: tq):=by
 unfold TenC.rename at h
 rcases c.foundS_cases p n (!nameB tq) with ⟨a,k,E,hE,e⟩ | ⟨k,ha,i,hi,e,e1,e2⟩
 ·rw [e] at h
  rw [if_pos (show E≠0 by rcases hE with rfl | rfl | rfl <;> decide)] at h
  injection h with h _
  rcases hE with rfl | rfl | rfl <;> cases h
 ·rw [e] at h
  simp only [Int.toNat_natCast] at h
  rw [if_neg (by decide),List.getElem?_eq_getElem ha.lt] at h
  simp only [List.getElem?_eq_getElem hi] at h
  by_cases hf:0≤(c.sets[k]'ha.lt).findN tq
  ·rw [if_pos hf] at h
   injection h with h _
   cases h
  rw [if_neg hf] at h
  injection h with _ h
  refine ⟨k,ha,i,hi,e2,?_,h⟩
  rcases findN_cases (c.sets[k]'ha.lt) tq with ⟨_,h2⟩ | ⟨j,_,h2,_⟩
  ·exact h2
  ·omega
theorem renamed_ok (c:TenC) (p n tq:BS) (k:Nat) (ha:AtS c p n (!nameB tq) k) (i:Nat) (hi:i<(c.sets[k]'ha.lt).snaps.length) (e2:((c.sets[k]'ha.lt).snaps[i]'hi).nm=n) (hno:∀ x∈(c.sets[k]'ha.lt).snaps,x.nm≠tq) :
  ((c.putS k ((c.sets[k]'ha.lt).named i ((c.sets[k]'ha.lt).snaps[i]'hi) tq)).froms (p++64 :: n) (p++64 :: tq)).E=0:=by
 have hto:nameB tq=true:=by simpa using ha.good
 have hok:=(TenC.E_ok c).1 ha.E
 have hat:=(hok.sets.each _ (List.getElem_mem ha.lt)).all
 obtain ⟨h1,h2,h3,h4,h5,h6,h7⟩:=hok
 refine (TenC.E_ok _).2 ⟨h1,h2,h3,?_,h5,h6,h7⟩
 obtain ⟨s',hs'⟩:∃ s',s'=(c.sets[k]'ha.lt).named i ((c.sets[k]'ha.lt).snaps[i]'hi) tq:=⟨_,rfl⟩
 rw [← hs']
 have hps:s'.path=(c.sets[k]'ha.lt).path:=by rw [hs'];rfl
 have hos:s'.org=(c.sets[k]'ha.lt).org:=by rw [hs'];rfl
 have hin:s'∈c.sets.set k s':=List.mem_iff_getElem.2 ⟨k,by rw [List.length_set];exact ha.lt,by rw [List.getElem_set_self]⟩
 show SetsOk ((c.sets.set k s').map (SetC.from_ (p++64 :: n) (p++64 :: tq)))
 have horg:∀ z∈c.sets,∀ z':SetC,z'.org=z.org→z'.path=z.path→((SetC.from_ (p++64 :: n) (p++64 :: tq) z').org=[]∨∃ a b,splitL (SetC.from_ (p++64 :: n) (p++64 :: tq) z').org=some (a,b)∧a≠z'.path∧∃ x∈(c.sets.set k s').map (SetC.from_ (p++64 :: n) (p++64 :: tq)),x.path=a∧∃ y∈x.snaps,y.nm=b):=by
  intro z hz z' eo ep
  rcases (h4.each z hz).all.2.2.2 with h | ⟨a,b,g1,g2,x,hx,g3,y,hy,g4⟩
  ·refine .inl ?_
   show (if z'.org=p++64 :: n then _ else z'.org)=[]
   rw [eo,h,if_neg (by simp)]
  ·refine .inr ?_
   by_cases hA:z.org=p++64 :: n
   ·refine ⟨p,tq,?_,?_,SetC.from_ (p++64 :: n) (p++64 :: tq) s',List.mem_map_of_mem hin,?_,((c.sets[k]'ha.lt).snaps[i]'hi).named tq,?_,rfl⟩
    ·show splitL (if z'.org=p++64 :: n then _ else z'.org)=_
     rw [eo,if_pos hA]
     exact splitL_join ha.path hto
    ·rw [ep]
     rw [hA,splitL_join ha.path ha.name] at g1
     injection g1 with g1
     injection g1 with g1 _
     rw [g1]
     exact g2
    ·show s'.path=p
     rw [hps,ha.at_]
    ·show _∈s'.snaps
     rw [hs']
     exact List.mem_iff_getElem.2 ⟨i,by show i<(List.set _ _ _).length;rw [List.length_set];exact hi,by show (List.set _ _ _)[i]'_=_;rw [List.getElem_set_self]⟩
   ·refine ⟨a,b,?_,by rw [ep];exact g2,?_⟩
    ·show splitL (if z'.org=p++64 :: n then _ else z'.org)=_
     rw [eo,if_neg hA]
     exact g1
    ·rcases mem_set ha.lt (s:=s') hx with hx2 | ⟨rfl,hx2⟩
     ·exact ⟨_,List.mem_map_of_mem hx2,g3,y,hy,g4⟩
     ·refine ⟨_,List.mem_map_of_mem hin,by show s'.path=a;rw [hps,g3],y,?_,g4⟩
      show y∈s'.snaps
      rw [hs']
      obtain ⟨j,hj,rfl⟩:=List.mem_iff_getElem.1 hy
      have hij:i≠j:=by
       rintro rfl
       apply hA
       rw [(splitL_form g1).1,← g4,← g3,e2,ha.at_]
      exact List.mem_iff_getElem.2 ⟨j,by show j<(List.set _ _ _).length;rw [List.length_set];exact hj,by show (List.set _ _ _)[j]'_=_;rw [List.getElem_set_ne hij]⟩
 refine h4.re ?_ fun z hz=>?_
 ·rw [List.map_map,show SetC.path ∘ SetC.from_ (p++64 :: n) (p++64 :: tq)=SetC.path from rfl]
  exact set_paths ha.lt hps
 ·obtain ⟨u,hu,rfl⟩:=List.mem_map.1 hz
  rcases List.mem_or_eq_of_mem_set hu with hu | rfl
  ·have:=(h4.each u hu).all
   exact ⟨this.1,this.2.1,this.2.2.1,horg u hu u rfl rfl⟩
  ·refine ⟨?_,?_,?_,horg _ (List.getElem_mem ha.lt) _ hos hps⟩
   ·show propsB u.own=true
    rw [hs'];exact hat.1
   ·show okL u.body=true
    rw [hs'];exact hat.2.1
   ·show SnapsOk u.snaps
    rw [hs'];exact hat.2.2.1.named i hi tq hto hno
end Go.Proofs.YtcgclpcocdappaaDoor
namespace Go.Proofs.YtcgclpcocdappaaDoor
open Go.RowKit
def SetR.withSn (x:SetR) (s:FS SnapR):SetR:=⟨x.path,x.org,x.body,s,x.own⟩
def SetC.withSn (x:SetC) (l:List SnapC):SetC:=⟨x.path,x.org,x.body,l,x.own⟩
theorem withSn_con (x:SetR) (s:FS SnapR):(x.withSn s).con=x.con.withSn (s.l.map SnapR.con):=rfl
section
variable {w w1:World} {base:Nat}
theorem own_aside {T:TypeId} {k n:Nat} {v:Value} {xs:List Value} {s:FS SnapR} (hs:s.own w base 42 5 encSnap) (hg:w.grownBy w1 s.val.ownBlock) (hT:T≠42) (hr:w.ownsRow base T k v n xs):w1.ownsRow base T k v n xs:=by
 cases he:s.val.ownBlock with
 | none=>rw [he] at hg;exact hr.kept hg (by cases v.ownBlock <;> simp)
 | some g =>
  rw [he] at hg
  refine hr.kept hg (.inr ?_)
  rcases hs.2 with h0
  rcases h0.2 with ⟨e,_⟩ | ⟨g',cap,cur,e,_,hh,_⟩
  ·rw [e] at he;simp [Value.ownBlock] at he
  ·rw [e] at he
   have he:g'=g:=by simpa [Value.ownBlock] using he
   subst he
   exact own_blk_ne hr (show Blk w g' 42 cur from hh) hT
/-- what stays when only the row of one set's snapshots is changed -/
structure Aside (w1:World) (base:Nat) (t:TenR) (k:Nat) (hk:k<t.sets.l.length):Prop where
 sets:t.sets.own w1 base 45 5 encSet
 others:∀ j (hj:j<t.sets.l.length),j≠k→SetO w1 base (t.sets.l[j]'hj)
 body:(t.sets.l[k]'hk).body.own w1 base 66 2 encB
 own:(t.sets.l[k]'hk).own.own w1 base 68 2 encP
 olds:∀ y∈(t.sets.l[k]'hk).snaps.l,SnapO w1 base y
 grants:t.grants.own w1 base 70 3 encG
 stages:t.stages.own w1 base 53 21 encStage
 eachG:∀ y∈t.stages.l,StageO w1 base y
 log:t.log.own w1 base 72 4 encEntry
theorem TenO.aside {t:TenR} (h:TenO w base t) (hp:t.sets.l.Pairwise ApartS) (k:Nat) (hk:k<t.sets.l.length) (hg:w.grownBy w1 (t.sets.l[k]'hk).snaps.val.ownBlock):Aside w1 base t k hk:=by
 have hS:=(h.eachS _ (List.getElem_mem hk)).snaps
 have a:∀ {T:TypeId} {k n:Nat} {v:Value} {xs:List Value},T≠42→w.ownsRow base T k v n xs→w1.ownsRow base T k v n xs:=fun hT hr=>own_aside hS hg hT hr
 have aS:∀ y,SnapO w base y→SnapO w1 base y:=fun y hy=>⟨⟨hy.body.1,a (by decide) hy.body.2⟩,⟨hy.tags.1,a (by decide) hy.tags.2⟩,⟨hy.own.1,a (by decide) hy.own.2⟩⟩
 have hx:=h.eachS _ (List.getElem_mem hk)
 refine ⟨⟨h.sets.1,a (by decide) h.sets.2⟩,fun j hj hne=>?_,⟨hx.body.1,a (by decide) hx.body.2⟩,⟨hx.own.1,a (by decide) hx.own.2⟩,fun y hy=>aS y (hx.each y hy),⟨h.grants.1,a (by decide) h.grants.2⟩,⟨h.stages.1,a (by decide) h.stages.2⟩,fun y hy=>⟨⟨(h.eachG y hy).own.1,a (by decide) (h.eachG y hy).own.2⟩,⟨(h.eachG y hy).body.1,a (by decide) (h.eachG y hy).body.2⟩⟩,⟨h.log.1,a (by decide) h.log.2⟩⟩
 have hy:=h.eachS _ (List.getElem_mem hj)
 refine ⟨⟨hy.body.1,a (by decide) hy.body.2⟩,⟨hy.snaps.1,?_⟩,fun z hz=>aS z (hy.each z hz),⟨hy.own.1,a (by decide) hy.own.2⟩⟩
 cases he:(t.sets.l[k]'hk).snaps.val.ownBlock with
 | none=>rw [he] at hg;exact hy.snaps.2.kept hg (by cases (t.sets.l[j]'hj).snaps.val.ownBlock <;> simp)
 | some g =>
  rw [he] at hg
  refine hy.snaps.2.kept hg (.inr fun e=>?_)
  rcases Nat.lt_or_gt_of_ne hne with h1 | h1
  ·exact List.pairwise_iff_getElem.1 hp j k hj hk h1 g e he
  ·exact List.pairwise_iff_getElem.1 hp k j hk hj h1 g he e
theorem mem_set_at {α:Type} {l:List α} {k:Nat} {x y:α} (h:y∈l.set k x):y=x∨∃ j,∃ hj:j<l.length,j≠k∧y=l[j]'hj:=by
 obtain ⟨j,hj,rfl⟩:=List.mem_iff_getElem.1 h
 rw [List.length_set] at hj
 by_cases hjk:k=j
 ·subst hjk
  exact .inl (List.getElem_set_self ..)
 ·exact .inr ⟨j,hj,fun e=>hjk e.symm,List.getElem_set_ne hjk ..⟩
/-- the row is another one, and its address is stored -/
theorem Aside.store {t:TenR} {k:Nat} {hk:k<t.sets.l.length} (h:Aside w1 base t k hk) (s':FS SnapR) (hs:s'.own w1 base 42 5 encSnap) (hm:∀ y∈s'.l,SnapO w1 base y) {gS:Nat} (hA:t.sets.A=some ⟨gS,0,none⟩) :
  TenO (w1.setCell ⟨gS,k*5+3,none⟩ s'.val) base (t.putS k ((t.sets.l[k]'hk).withSn s'))∧w1.grownBy (w1.setCell ⟨gS,k*5+3,none⟩ s'.val) (some gS):=by
 obtain ⟨g,cs,hA2,_,hbk⟩:=h.sets.blk (by have:=h.sets.1;omega)
 rw [hA] at hA2
 injection hA2 with hA2
 injection hA2 with hA2
 subst hA2
 obtain ⟨h1,h2⟩:=h.sets.field (fun _=>rfl) hA k 3 (by decide) ((t.sets.l[k]'hk).withSn s') s'.val (fun z hz=>by rw [List.getElem?_eq_getElem hk] at hz;cases hz;rfl)
 have hx:SetO w1 base ((t.sets.l[k]'hk).withSn s'):=⟨h.body,hs,hm,h.own⟩
 refine ⟨⟨h1,fun y hy=>?_,h.grants.keptT h2 hbk (by decide),h.stages.keptT h2 hbk (by decide),fun y hy=>(h.eachG y hy).keptS h2 hbk,h.log.keptT h2 hbk (by decide)⟩,h2⟩
 rcases mem_set_at (show y∈t.sets.l.set k _ from hy) with rfl | ⟨j,hj,hne,rfl⟩
 ·exact hx.keptS h2 hbk
 ·exact (h.others j hj hne).keptS h2 hbk
/-- the row is changed where it lies -/
theorem Aside.place {t:TenR} {k:Nat} {hk:k<t.sets.l.length} (h:Aside w1 base t k hk) (s':FS SnapR) (hs:s'.own w1 base 42 5 encSnap) (hm:∀ y∈s'.l,SnapO w1 base y) (hv:s'.val=(t.sets.l[k]'hk).snaps.val) :
  TenO w1 base (t.putS k ((t.sets.l[k]'hk).withSn s')):=by
 have he:cellsK encSet (t.sets.l.set k ((t.sets.l[k]'hk).withSn s'))=cellsK encSet t.sets.l:=by
  unfold cellsK
  rw [List.flatMap_def,List.flatMap_def,List.map_set]
  congr 1
  have:encSet ((t.sets.l[k]'hk).withSn s')=(t.sets.l.map encSet)[k]'(by rw [List.length_map];exact hk):=by
   rw [List.getElem_map]
   show [strV (t.sets.l[k]'hk).path,strV (t.sets.l[k]'hk).org,(t.sets.l[k]'hk).body.val,s'.val,(t.sets.l[k]'hk).own.val]=_
   rw [hv]
   rfl
  rw [this,List.set_getElem_self]
 refine ⟨⟨?_,?_⟩,fun y hy=>?_,h.grants,h.stages,h.eachG,h.log⟩
 ·show t.sets.n=(t.sets.l.set k _).length
  rw [List.length_set]
  exact h.sets.1
 ·show w1.ownsRow _ _ _ _ _ (cellsK encSet (t.sets.l.set k _))
  rw [he]
  exact h.sets.2
 ·rcases mem_set_at (show y∈t.sets.l.set k _ from hy) with rfl | ⟨j,hj,hne,rfl⟩
  ·exact ⟨h.body,hs,hm,h.own⟩
  ·exact h.others j hj hne
end
end Go.Proofs.YtcgclpcocdappaaDoor
