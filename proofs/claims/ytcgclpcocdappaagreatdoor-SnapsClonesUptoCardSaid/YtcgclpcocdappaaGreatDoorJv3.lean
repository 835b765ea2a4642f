/-
  Snapshots by content: what is asked, found, made, and gone.
-/
import Derived.WalkKit
import Derived.WalkSpells
import Derived.Below
import Derived.Laws.OwnMore
import Derived.Deep.AppendLies
import Derived.Deep.Draws
import Derived.Laws.Rows
import Derived.Maps.AppendAt
import Derived.RegionTactic
import Derived.OwnWalk
import Derived.Deep.QuietTactic
import Derived.BigQuiet
import Derived.Lib.Hide
import Derived.Laws.CopyOwn
import Derived.IntWalk
import Derived.Test.YtcgclpcocdappaaGreatDoorRows
import Derived.Handy
import Derived.Deep.Quiet
import Derived.ProofKit
import Derived.OpenShut
import Derived.ShutString
import Derived.ChangeOld
import Derived.Carry
import Derived.SizedLaws
import Derived.JoinedCond
import Derived.Deep.CondSized
import Derived.Deep.Slices
import Derived.Deep.Fields
import Derived.Lib.SmallJoins
import Derived.Orders
import Derived.Lib.SplitLaws
import Derived.Lib.LastIndexByte
import Derived.Lib.Strings
import Derived.Sort.Walk0
import Derived.Sort.KeysCollected
import Derived.Deep.MidRow
import Derived.Deep.RegionLaw
import Derived.Lib.AppendZeros
import Derived.Shelf.Strings.Search1
import Derived.Shelf.Strings.Search2
import Derived.Shelf.Strings.Search3
import Derived.Shelf.Strings.Cut
import Derived.Shelf.Strings.Count
import Derived.Shelf.LaysM
import Derived.Shelf.Strings.Shaped
import Derived.Shelf.Strings.LastIndex
import Derived.Shelf.Strings.Split
import Derived.Shelf.Strings.SplitShaped
import Derived.Shelf.Unicode.Decode
import Derived.Shelf.Strings.RuneCount
import Derived.Shelf.Strings.Explode
import Derived.Shelf.Unicode.DecodeSlow
import Derived.Test.YtcgclpcocdappaaGreatDoorProg
import Derived.Lib.Overlaps
import Derived.Lib.AppendZerosOnto
import Derived.Laws.BytesString
import Derived.Laws.IdiomStrings
import Derived.Lib.ConvBytes
import Derived.Deep.DeepCutAuto
import Derived.Great.BuildSlice
import Derived.Test.YtcgclpcocdappaaGreatDoorJ0
import Derived.Test.YtcgclpcocdappaaGreatDoorJbkv1
import Derived.Test.YtcgclpcocdappaaGreatDoorJbkv2
import Derived.Test.YtcgclpcocdappaaGreatDoorJbkv3
import Derived.Test.YtcgclpcocdappaaGreatDoorJbkv4
import Derived.Test.YtcgclpcocdappaaGreatDoorJbkv5
import Derived.Test.YtcgclpcocdappaaGreatDoorJbkv8
import Derived.Test.YtcgclpcocdappaaGreatDoorJbkv10
import Derived.Test.YtcgclpcocdappaaGreatDoorJbkv15
import Derived.Test.YtcgclpcocdappaaGreatDoorJbkv16
import Derived.Test.YtcgclpcocdappaaGreatDoorJbkv17
import Derived.Test.YtcgclpcocdappaaGreatDoorJbkv20
import Derived.Test.YtcgclpcocdappaaGreatDoorJbkv21
import Derived.Test.YtcgclpcocdappaaGreatDoorJkv2
import Derived.Test.YtcgclpcocdappaaGreatDoorJv2
namespace Go.Proofs.YtcgclpcocdappaaGreatDoor
open Go.RowKit
/-! ### what is made -/
def cloneSet (p n tq:BS) (x:SnapC):SetC:=⟨tq,p++64 :: n,x.body,[],x.own⟩
def TenC.cloneS (c:TenC) (p n tq:BS):Int×TenC :=
 if (c.foundS p n (!pathB tq)).2.2≠0 then ((c.foundS p n (!pathB tq)).2.2,c) else if 0≤c.find tq then (6,c) else if c.find (upL tq)<0 then (71,c) else if c.sets.length=32 then (3,c) else match c.sets[(c.foundS p n (!pathB tq)).1.toNat]? with
 | none=>(71,c)
 | some s=>match s.snaps[(c.foundS p n (!pathB tq)).2.1.toNat]? with
  | none=>(71,c)
  | some x=>(c.withS (cloneSet p n tq x)).settle
def SnapC.named (x:SnapC) (tq:BS):SnapC:=⟨tq,x.gd,x.body,x.tags,x.own⟩
def SetC.named (s:SetC) (i:Nat) (x:SnapC) (tq:BS):SetC:=⟨s.path,s.org,s.body,s.snaps.set i (x.named tq),s.own⟩
def TenC.froms (c:TenC) (a b:BS):TenC:=⟨c.nm,c.quota,c.next,c.sets.map (SetC.from_ a b),c.grants,c.stages,c.log⟩
def TenC.rename (c:TenC) (p n tq:BS):Int×TenC :=
 if (c.foundS p n (!nameB tq)).2.2≠0 then ((c.foundS p n (!nameB tq)).2.2,c) else match c.sets[(c.foundS p n (!nameB tq)).1.toNat]? with
 | none=>(71,c)
 | some s=>if 0≤s.findN tq then (6,c) else match s.snaps[(c.foundS p n (!nameB tq)).2.1.toNat]? with
  | none=>(71,c)
  | some x=>(0,(c.putS (c.foundS p n (!nameB tq)).1.toNat (s.named (c.foundS p n (!nameB tq)).2.1.toNat x tq)).froms (p++64 :: n) (p++64 :: tq))
/-! ### what may be -/
theorem splitL_join {p n:BS} (hp:pathB p=true) (hn:nameB n=true):splitL (p++64 :: n)=some (p,n):=by
 obtain ⟨a,b,h1,h2,h3⟩:=split_join p n
 obtain ⟨rfl,rfl⟩:=h3 (by rw [hp,hn];rfl)
 unfold splitL
 rw [h1]
 simp only [hp,hn,Bool.and_self,if_true]
theorem atL_form (l a b:BS) (h:atL l=some (a,b)):l=a++64 :: b:=by
 induction l generalizing a b with
 | nil=>cases h
 | cons x r ih =>
  unfold atL at h
  by_cases hx:x=64
  ·rw [if_pos hx] at h
   injection h with h
   injection h with h1 h2
   subst h1 h2 hx
   rfl
  ·rw [if_neg hx] at h
   cases hs:atL r with
   | none=>rw [hs] at h;cases h
   | some v =>
    obtain ⟨p,n⟩:=v
    rw [hs] at h
    injection h with h
    injection h with h1 h2
    subst h1 h2
    rw [ih p n hs]
    rfl
theorem splitL_form {l a b:BS} (h:splitL l=some (a,b)):l=a++64 :: b∧pathB a=true∧nameB b=true:=by
 unfold splitL at h
 cases hs:atL l with
 | none=>rw [hs] at h;cases h
 | some v =>
  obtain ⟨x,y⟩:=v
  rw [hs] at h
  simp only at h
  split at h
  ·rename_i hb
   injection h with h
   injection h with h1 h2
   subst h1 h2
   rw [Bool.and_eq_true] at hb
   exact ⟨atL_form _ _ _ hs,hb.1,hb.2⟩
  ·cases h
/-! ### another name -/
theorem SnapsOk.named {l:List SnapC} (h:SnapsOk l) (i:Nat) (hi:i<l.length) (tq:BS) (ht:nameB tq=true) (hn:∀ x∈l,x.nm≠tq):SnapsOk (l.set i ((l[i]'hi).named tq)):=by
 have hg:(l.set i ((l[i]'hi).named tq)).map SnapC.gd=l.map SnapC.gd:=by
  rw [List.map_set,show ((l[i]'hi).named tq).gd=(l[i]'hi).gd from rfl,← List.getElem_map SnapC.gd (h:=by rw [List.length_map];exact hi),List.set_getElem_self]
 refine ⟨by rw [List.length_set];exact h.len,fun x hx=>?_,?_,?_⟩
 ·rcases List.mem_or_eq_of_mem_set hx with hx | rfl
  ·exact h.each x hx
  ·exact ⟨(h.each _ (List.getElem_mem hi)).1,ht⟩
 ·have:=List.pairwise_map (f:=SnapC.gd) (l:=l) (R:=fun a b=>a<b)
  have h4:=this.2 h.asc
  rw [← hg] at h4
  exact List.pairwise_map.1 h4
 ·rw [List.map_set]
  show ((l.map SnapC.nm).set i tq).Nodup
  rw [List.Nodup,List.pairwise_iff_getElem]
  have hnd:=List.pairwise_iff_getElem.1 h.nodup
  intro a b ha hb hab
  simp only [List.length_set] at ha hb
  rw [List.getElem_set,List.getElem_set]
  have hne:∀ (j:Nat) (hj:j<(l.map SnapC.nm).length),(l.map SnapC.nm)[j]'hj≠tq:=fun j hj=>by
   rw [List.getElem_map]
   exact hn _ (List.getElem_mem _)
  by_cases h1:i=a
  ·rw [if_pos h1,if_neg (by omega)]
   exact fun e=>hne b hb e.symm
  ·rw [if_neg h1]
   by_cases h2:i=b
   ·rw [if_pos h2]
    exact hne a ha
   ·rw [if_neg h2]
    exact hnd a b ha hb hab
theorem rename_form (c:TenC) (p n tq:BS) (c2:TenC) (h:(0,c2)=c.rename p n tq):∃ k,∃ ha:AtS c p n (!nameB tq) k,∃ i,∃ hi:i<(c.sets[k]'ha.lt).snaps.length,((c.sets[k]'ha.lt).snaps[i]'hi).nm=n∧(∀ x∈(c.sets[k]'ha.lt).snaps,x.nm≠tq) ∧
  c2=(c.putS k ((c.sets[k]'ha.lt).named i ((c.sets[k]'ha.lt).snaps[i]'hi) tq)).froms (p++64 :: n) (p++64 :: tq):=by
 unfold TenC.rename at h
 rcases c.foundS_cases p n (!nameB tq) with ⟨a,k,E,hE,e⟩ | ⟨k,ha,i,hi,e,e1,e2⟩
 ·rw [e] at h
  rw [if_pos (show E≠0 by rcases hE with rfl | rfl | rfl <;> decide)] at h
  injection h with h _
  rcases hE with rfl | rfl | rfl <;> cases h
 ·rw [e] at h
  simp only [Int.toNat_natCast] at h
  rw [if_neg (by decide),List.getElem?_eq_getElem ha.lt] at h
  simp only [List.getElem?_eq_getElem hi] at h
  by_cases hf:0≤(c.sets[k]'ha.lt).findN tq
  ·rw [if_pos hf] at h
   injection h with h _
   cases h
  rw [if_neg hf] at h
  injection h with _ h
  refine ⟨k,ha,i,hi,e2,?_,h⟩
  rcases findN_cases (c.sets[k]'ha.lt) tq with ⟨_,h2⟩ | ⟨j,_,h2,_⟩
  ·exact h2
  ·omega
theorem renamed_ok (c:TenC) (p n tq:BS) (k:Nat) (ha:AtS c p n (!nameB tq) k) (i:Nat) (hi:i<(c.sets[k]'ha.lt).snaps.length) (e2:((c.sets[k]'ha.lt).snaps[i]'hi).nm=n) (hno:∀ x∈(c.sets[k]'ha.lt).snaps,x.nm≠tq) :
  ((c.putS k ((c.sets[k]'ha.lt).named i ((c.sets[k]'ha.lt).snaps[i]'hi) tq)).froms (p++64 :: n) (p++64 :: tq)).E=0:=by
 have hto:nameB tq=true:=by simpa using ha.good
 have hok:=(TenC.E_ok c).1 ha.E
 have hat:=(hok.sets.each _ (List.getElem_mem ha.lt)).all
 obtain ⟨h1,h2,h3,h4,h5,h6,h7⟩:=hok
 refine (TenC.E_ok _).2 ⟨h1,h2,h3,?_,h5,h6,h7⟩
 obtain ⟨s',hs'⟩:∃ s',s'=(c.sets[k]'ha.lt).named i ((c.sets[k]'ha.lt).snaps[i]'hi) tq:=⟨_,rfl⟩
 rw [← hs']
 have hps:s'.path=(c.sets[k]'ha.lt).path:=by rw [hs'];rfl
 have hos:s'.org=(c.sets[k]'ha.lt).org:=by rw [hs'];rfl
 have hin:s'∈c.sets.set k s':=List.mem_iff_getElem.2 ⟨k,by rw [List.length_set];exact ha.lt,by rw [List.getElem_set_self]⟩
 show SetsOk ((c.sets.set k s').map (SetC.from_ (p++64 :: n) (p++64 :: tq)))
 have horg:∀ z∈c.sets,∀ z':SetC,z'.org=z.org→z'.path=z.path→((SetC.from_ (p++64 :: n) (p++64 :: tq) z').org=[]∨∃ a b,splitL (SetC.from_ (p++64 :: n) (p++64 :: tq) z').org=some (a,b)∧a≠z'.path∧∃ x∈(c.sets.set k s').map (SetC.from_ (p++64 :: n) (p++64 :: tq)),x.path=a∧∃ y∈x.snaps,y.nm=b):=by
  intro z hz z' eo ep
  rcases (h4.each z hz).all.2.2.2 with h | ⟨a,b,g1,g2,x,hx,g3,y,hy,g4⟩
  ·refine .inl ?_
   show (if z'.org=p++64 :: n then _ else z'.org)=[]
   rw [eo,h,if_neg (by simp)]
  ·refine .inr ?_
   by_cases hA:z.org=p++64 :: n
   ·refine ⟨p,tq,?_,?_,SetC.from_ (p++64 :: n) (p++64 :: tq) s',List.mem_map_of_mem hin,?_,((c.sets[k]'ha.lt).snaps[i]'hi).named tq,?_,rfl⟩
    ·show splitL (if z'.org=p++64 :: n then _ else z'.org)=_
     rw [eo,if_pos hA]
     exact splitL_join ha.path hto
    ·rw [ep]
     rw [hA,splitL_join ha.path ha.name] at g1
     injection g1 with g1
     injection g1 with g1 _
     rw [g1]
     exact g2
    ·show s'.path=p
     rw [hps,ha.at_]
    ·show _∈s'.snaps
     rw [hs']
     exact List.mem_iff_getElem.2 ⟨i,by show i<(List.set _ _ _).length;rw [List.length_set];exact hi,by show (List.set _ _ _)[i]'_=_;rw [List.getElem_set_self]⟩
   ·refine ⟨a,b,?_,by rw [ep];exact g2,?_⟩
    ·show splitL (if z'.org=p++64 :: n then _ else z'.org)=_
     rw [eo,if_neg hA]
     exact g1
    ·rcases mem_set ha.lt (s:=s') hx with hx2 | ⟨rfl,hx2⟩
     ·exact ⟨_,List.mem_map_of_mem hx2,g3,y,hy,g4⟩
     ·refine ⟨_,List.mem_map_of_mem hin,by show s'.path=a;rw [hps,g3],y,?_,g4⟩
      show y∈s'.snaps
      rw [hs']
      obtain ⟨j,hj,rfl⟩:=List.mem_iff_getElem.1 hy
      have hij:i≠j:=by
       rintro rfl
       apply hA
       rw [(splitL_form g1).1,← g4,← g3,e2,ha.at_]
      exact List.mem_iff_getElem.2 ⟨j,by show j<(List.set _ _ _).length;rw [List.length_set];exact hj,by show (List.set _ _ _)[j]'_=_;rw [List.getElem_set_ne hij]⟩
 refine h4.re ?_ fun z hz=>?_
 ·rw [List.map_map,show SetC.path ∘ SetC.from_ (p++64 :: n) (p++64 :: tq)=SetC.path from rfl]
  exact set_paths ha.lt hps
 ·obtain ⟨u,hu,rfl⟩:=List.mem_map.1 hz
  rcases List.mem_or_eq_of_mem_set hu with hu | rfl
  ·have:=(h4.each u hu).all
   exact ⟨this.1,this.2.1,this.2.2.1,horg u hu u rfl rfl⟩
  ·refine ⟨?_,?_,?_,horg _ (List.getElem_mem ha.lt) _ hos hps⟩
   ·show propsB u.own=true
    rw [hs'];exact hat.1
   ·show okL u.body=true
    rw [hs'];exact hat.2.1
   ·show SnapsOk u.snaps
    rw [hs'];exact hat.2.2.1.named i hi tq hto hno
end Go.Proofs.YtcgclpcocdappaaGreatDoor
