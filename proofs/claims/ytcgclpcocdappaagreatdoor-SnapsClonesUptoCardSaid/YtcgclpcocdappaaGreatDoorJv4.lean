/-
  A set that was made and is destroyed: the content is as it was (plain law). What snapshots, clones and rollbacks that are told are; sizes; the plain law of clones. The sets of a tenant that may be lie in order: where a path's place is.
-/
import Derived.WalkKit
import Derived.WalkSpells
import Derived.Below
import Derived.Laws.OwnMore
import Derived.Deep.AppendLies
import Derived.Deep.Draws
import Derived.Laws.Rows
import Derived.Maps.AppendAt
import Derived.RegionTactic
import Derived.OwnWalk
import Derived.Deep.QuietTactic
import Derived.BigQuiet
import Derived.Lib.Hide
import Derived.Laws.CopyOwn
import Derived.IntWalk
import Derived.Test.YtcgclpcocdappaaGreatDoorRows
import Derived.Handy
import Derived.Deep.Quiet
import Derived.ProofKit
import Derived.OpenShut
import Derived.ShutString
import Derived.ChangeOld
import Derived.Carry
import Derived.SizedLaws
import Derived.JoinedCond
import Derived.Deep.CondSized
import Derived.Deep.Slices
import Derived.Deep.Fields
import Derived.Lib.SmallJoins
import Derived.Orders
import Derived.Lib.SplitLaws
import Derived.Lib.LastIndexByte
import Derived.Lib.Strings
import Derived.Sort.Walk0
import Derived.Sort.KeysCollected
import Derived.Deep.MidRow
import Derived.Deep.RegionLaw
import Derived.Lib.AppendZeros
import Derived.Shelf.Strings.Search1
import Derived.Shelf.Strings.Search2
import Derived.Shelf.Strings.Search3
import Derived.Shelf.Strings.Cut
import Derived.Shelf.Strings.Count
import Derived.Shelf.LaysM
import Derived.Shelf.Strings.Shaped
import Derived.Shelf.Strings.LastIndex
import Derived.Shelf.Strings.Split
import Derived.Shelf.Strings.SplitShaped
import Derived.Shelf.Unicode.Decode
import Derived.Shelf.Strings.RuneCount
import Derived.Shelf.Strings.Explode
import Derived.Shelf.Unicode.DecodeSlow
import Derived.Test.YtcgclpcocdappaaGreatDoorProg
import Derived.Lib.Overlaps
import Derived.Lib.AppendZerosOnto
import Derived.Laws.BytesString
import Derived.Laws.IdiomStrings
import Derived.Lib.ConvBytes
import Derived.Deep.DeepCutAuto
import Derived.Great.BuildSlice
import Derived.Test.YtcgclpcocdappaaGreatDoorJ0
import Derived.Test.YtcgclpcocdappaaGreatDoorJbkv1
import Derived.Test.YtcgclpcocdappaaGreatDoorJbkv2
import Derived.Test.YtcgclpcocdappaaGreatDoorJbkv3
import Derived.Test.YtcgclpcocdappaaGreatDoorJbkv4
import Derived.Test.YtcgclpcocdappaaGreatDoorJbkv5
import Derived.Test.YtcgclpcocdappaaGreatDoorJbkv8
import Derived.Test.YtcgclpcocdappaaGreatDoorJbkv10
import Derived.Test.YtcgclpcocdappaaGreatDoorJbkv15
import Derived.Test.YtcgclpcocdappaaGreatDoorJbkv16
import Derived.Test.YtcgclpcocdappaaGreatDoorJbkv17
import Derived.Test.YtcgclpcocdappaaGreatDoorJbkv20
import Derived.Test.YtcgclpcocdappaaGreatDoorJbkv21
import Derived.Test.YtcgclpcocdappaaGreatDoorJbv1
import Derived.Test.YtcgclpcocdappaaGreatDoorJkv1
import Derived.Test.YtcgclpcocdappaaGreatDoorJkv2
import Derived.Test.YtcgclpcocdappaaGreatDoorJv2
import Derived.Test.YtcgclpcocdappaaGreatDoorJv3
namespace Go.Proofs.YtcgclpcocdappaaGreatDoor
open Go.RowKit
theorem TenC.E_sets (c:TenC) (h:c.E=0):c.sets.length≤32∧(c.sets.any fun x=>x.path == [])=true∧(∀ s∈c.sets,setB (c.sets.map SetC.r) s.r=true)∧c.sets.Pairwise fun a b=>Op.bytesLess a.path b.path=true:=by
 unfold TenC.E tenE at h
 have hb:tenB c.r=true:=by
  by_cases hb:tenB c.r=true
  ·exact hb
  ·rw [if_neg hb] at h;exact absurd h (by decide)
 unfold tenB at hb
 simp only [Bool.and_eq_true] at hb
 have hS:setsB (c.sets.map SetC.r)=true:=hb.1.1.1.2
 unfold setsB at hS
 simp only [Bool.and_eq_true,decide_eq_true_eq,List.length_map,List.any_map] at hS
 obtain ⟨⟨h1,h2⟩,h3⟩:=hS
 obtain ⟨h4,h5,-⟩:=(setsFrom_iff _ _ _).1 h3
 exact ⟨h1,h2,fun s hs=>h4 _ (List.mem_map_of_mem hs),List.pairwise_map.1 h5⟩
theorem TenC.find_lt (c:TenC) (p:BS) (h:c.find p<0):∀ s∈c.sets,s.path≠p:=by
 have h1:=firstI_any (fun s:SetC=>s.path == p) c.sets
 rw [show decide ((0:Int)≤firstI (fun s:SetC=>s.path == p) c.sets)=false from decide_eq_false (by unfold TenC.find at h;omega)] at h1
 intro s hs e
 have:=List.any_eq_false.1 h1.symm s hs
 simp [e] at this
theorem firstI_at {α:Type} (q:α→Bool) (l:List α) (k:Nat) (x:α) (h:∀ y∈l.take k,q y=false) (hx:l[k]?=some x) (hp:q x=true):firstI q l=(k:Int):=by
 unfold firstI
 rw [firstP_eq q l k x h hx hp,if_pos (List.getElem?_eq_some_iff.1 hx).1]
/-- where a set was put -/
theorem TenC.withS_at (c:TenC) (s:SetC):∃ i,i≤c.sets.length∧(c.withS s).sets=c.sets.take i++s :: c.sets.drop i:=by
 refine ⟨posF (fun x:SetC=>cmpS x.path s.path) c.sets,posF_le _ _,?_⟩
 show c.sets.take _++[s]++c.sets.drop _=_
 rw [List.append_assoc]
 rfl
end Go.Proofs.YtcgclpcocdappaaGreatDoor
namespace Go.Proofs.YtcgclpcocdappaaGreatDoor
open Go.RowKit
theorem cloneS_form (c:TenC) (p n tq:BS) (c2:TenC) (h:(0,c2)=c.cloneS p n tq):∃ k,∃ ha:AtS c p n (!pathB tq) k,∃ i,∃ hi:i<(c.sets[k]'ha.lt).snaps.length,(c.sets[k]'ha.lt).findN n=(i:Int)∧((c.sets[k]'ha.lt).snaps[i]'hi).nm=n∧c.find tq<0∧c2=c.withS (cloneSet p n tq ((c.sets[k]'ha.lt).snaps[i]'hi))∧c2.E=0:=by
 unfold TenC.cloneS at h
 rcases c.foundS_cases p n (!pathB tq) with ⟨a,k,E,hE,e⟩ | ⟨k,ha,i,hi,e,e1,e2⟩
 ·rw [e] at h
  rw [if_pos (show E≠0 by rcases hE with rfl | rfl | rfl <;> decide)] at h
  injection h with h _
  rcases hE with rfl | rfl | rfl <;> cases h
 ·rw [e] at h
  simp only [Int.toNat_natCast] at h
  rw [if_neg (by decide)] at h
  by_cases h1:0≤c.find tq
  ·rw [if_pos h1] at h
   injection h with h _
   cases h
  rw [if_neg h1] at h
  by_cases h2:c.find (upL tq)<0
  ·rw [if_pos h2] at h
   injection h with h _
   cases h
  rw [if_neg h2] at h
  by_cases h3:c.sets.length=32
  ·rw [if_pos h3] at h
   injection h with h _
   cases h
  rw [if_neg h3,List.getElem?_eq_getElem ha.lt] at h
  simp only [List.getElem?_eq_getElem hi] at h
  obtain ⟨g1,g2,g3⟩:=settle_ok _ _ h
  exact ⟨k,ha,i,hi,e1,e2,by omega,g1,by rw [g1];exact g2⟩
theorem cloneSet_sz {p n tq:BS} {x:SnapC} (hx:x.sz) (h1:p.length+n.length≤3000000000) (h2:tq.length≤4000000000):(cloneSet p n tq x).sz :=
 ⟨h2,by show (p++64 :: n).length≤_;rw [List.length_append,List.length_cons];omega,hx.body,by simp [cloneSet],fun y hy=>(by cases hy),hx.own,hx.props⟩
theorem cloneS_sz {c:TenC} (h:c.sz) (p n tq:BS) (h1:p.length+n.length≤3000000000) (h2:tq.length≤4000000000) (c2:TenC) (h3:(0,c2)=c.cloneS p n tq):c2.sz:=by
 obtain ⟨k,ha,i,hi,-,-,-,e,-⟩:=cloneS_form c p n tq c2 h3
 rw [e]
 exact h.withS (cloneSet_sz ((h.eachS _ (List.getElem_mem ha.lt)).each _ (List.getElem_mem hi)) h1 h2) (by have:=(TenC.E_sets c ha.E).1;omega)
theorem froms_sz {c:TenC} (h:c.sz) (a b:BS) (hb:b.length≤4000000000):(c.froms a b).sz:=by
 refine ⟨h.nm,by show (c.sets.map _).length≤_;rw [List.length_map];exact h.sets,fun y hy=>?_,h.grants,h.eachG,h.stages,h.eachT,h.log,h.eachL⟩
 obtain ⟨z,hz,rfl⟩:=List.mem_map.1 (show y∈c.sets.map _ from hy)
 have hs:=h.eachS z hz
 refine ⟨hs.path,?_,hs.body,hs.snaps,hs.each,hs.own,hs.props⟩
 show (if z.org=a then b else z.org).length≤_
 split
 ·exact hb
 ·exact hs.org
theorem rename_sz {c:TenC} (h:c.sz) (p n tq:BS) (h1:p.length+tq.length≤3000000000) (c2:TenC) (h3:(0,c2)=c.rename p n tq):c2.sz:=by
 obtain ⟨k,ha,i,hi,-,-,e⟩:=rename_form c p n tq c2 h3
 have hs:=h.eachS _ (List.getElem_mem ha.lt)
 have hx:=hs.each _ (List.getElem_mem hi)
 rw [e]
 have hnm:((c.sets[k]'ha.lt).named i ((c.sets[k]'ha.lt).snaps[i]'hi) tq).sz:=by
  refine ⟨hs.path,hs.org,hs.body,?_,fun y hy=>?_,hs.own,hs.props⟩
  ·show (List.set _ _ _).length≤_
   rw [List.length_set]
   exact hs.snaps
  ·rcases List.mem_or_eq_of_mem_set (show y∈List.set _ _ _ from hy) with hy | rfl
   ·exact hs.each y hy
   ·exact ⟨by show tq.length≤_;omega,hx.body,hx.tags,hx.each,hx.own,hx.props⟩
 exact froms_sz (h.putS hnm) _ _ (show (p++64 :: tq).length≤4000000000 by rw [List.length_append,List.length_cons];omega)
theorem rename_ok (c:TenC) (p n tq:BS) (c2:TenC) (h:(0,c2)=c.rename p n tq):c2.E=0:=by
 obtain ⟨k,ha,i,hi,e2,hno,e⟩:=rename_form c p n tq c2 h
 rw [e]
 exact renamed_ok c p n tq k ha i hi e2 hno
/-! ### clones -/
theorem withS_find (c:TenC) (s:SetC) (hf:c.find s.path<0):∃ j:Nat,(c.withS s).find s.path=(j:Int)∧(c.withS s).sets[j]?=some s:=by
 obtain ⟨i,hi,hw⟩:=c.withS_at s
 have hn:=c.find_lt s.path hf
 have hg:(c.withS s).sets[i]?=some s:=by
  rw [hw,List.getElem?_append_right (by rw [List.length_take];omega),List.length_take,Nat.min_eq_left hi,Nat.sub_self]
  rfl
 refine ⟨i,?_,hg⟩
 unfold TenC.find
 refine firstI_at _ _ i s (fun y hy=>?_) hg (by simp)
 rw [hw,List.take_append_of_le_length (by rw [List.length_take];omega),List.take_take,Nat.min_self] at hy
 simpa using hn y (List.mem_of_mem_take hy)
theorem withS_old (c:TenC) (s x:SetC) (hx:x∈c.sets):x∈(c.withS s).sets:=by
 obtain ⟨i,hi,hw⟩:=c.withS_at s
 rw [hw]
 rw [← List.take_append_drop i c.sets] at hx
 rcases List.mem_append.1 hx with h | h
 ·exact List.mem_append_left _ h
 ·exact List.mem_append_right _ (List.mem_cons_of_mem _ h)
/-- what holds of a clone that was made -/
theorem clone_law (c:TenC) (p n tq:BS) (a:TenC) (h:(0,a)=c.cloneS p n tq) :
  (a.unsnap p n).1=44∧∃ (k:Nat) (hk:k<c.sets.length) (i:Nat) (hi:i<(c.sets[k]'hk).snaps.length) (j:Nat),c.find p=(k:Int)∧(c.sets[k]'hk).findN n=(i:Int)∧a.find tq=(j:Int)∧a.sets[j]?=some (cloneSet p n tq ((c.sets[k]'hk).snaps[i]'hi)) ∧
   ∀ other b,(0,b)=a.rename p n other→b.E=0∧∃ s,b.sets[j]?=some s∧s.org=p++64 :: other:=by
 obtain ⟨k,ha,i,hi,e1,e2,hto,e3,hE⟩:=cloneS_form c p n tq a h
 obtain ⟨x,hx⟩:∃ x,x=(c.sets[k]'ha.lt).snaps[i]'hi:=⟨_,rfl⟩
 rw [← hx] at e3
 obtain ⟨j,hj1,hj2⟩:=withS_find c (cloneSet p n tq x) hto
 rw [← e3] at hj1 hj2
 have hsold:(c.sets[k]'ha.lt)∈a.sets:=by rw [e3];exact withS_old c _ _ (List.getElem_mem ha.lt)
 have hclm:cloneSet p n tq x∈a.sets:=List.mem_of_getElem? hj2
 have hne:p≠tq:=by
  rintro rfl
  have:=ha.find
  omega
 refine ⟨?_,k,ha.lt,i,hi,j,ha.find,e1,hj1,by rw [← hx];exact hj2,fun other b hb=>?_⟩
 ·unfold TenC.unsnap
  rw [a.foundS_of p n hE ha.path ha.name _ hsold ha.at_ _ (List.getElem_mem hi) e2,if_neg (show ¬ (0:Int)≠0 by decide),if_pos]
  unfold TenC.clones
  refine List.length_pos_of_mem (a:=cloneSet p n tq x) (List.mem_filter.2 ⟨hclm,?_⟩)
  unfold clP
  rw [show (cloneSet p n tq x).org=p++64 :: n from rfl,splitL_join ha.path ha.name]
  simp
 ·obtain ⟨k',ha',i',hi',g2,hno,e⟩:=rename_form a p n other b hb
  refine ⟨rename_ok a p n other b hb,?_⟩
  have hjl:j<a.sets.length:=(List.getElem?_eq_some_iff.1 hj2).1
  have hjk:k'≠j:=by
   rintro rfl
   have h1:=ha'.at_
   rw [List.getElem?_eq_getElem hjl] at hj2
   injection hj2 with hj2
   rw [hj2] at h1
   exact hne h1.symm
  refine ⟨SetC.from_ (p++64 :: n) (p++64 :: other) (cloneSet p n tq x),?_,?_⟩
  ·rw [e]
   show ((a.sets.set k' _).map _)[j]?=_
   rw [List.getElem?_map,List.getElem?_set_ne hjk,hj2]
   rfl
  ·show (if (p++64 :: n)=(p++64 :: n) then _ else _)=_
   rw [if_pos rfl]
end Go.Proofs.YtcgclpcocdappaaGreatDoor
namespace Go.Proofs.YtcgclpcocdappaaGreatDoor
open Go.RowKit
theorem setsB_pairs (l:List SetR) (h:setsB l=true):l.length≤32∧l.Pairwise fun a b=>Op.bytesLess a.path b.path=true:=by
 unfold setsB at h
 simp only [Bool.and_eq_true,decide_eq_true_eq] at h
 exact ⟨h.1.1,((setsFrom_iff l none l).1 h.2).2.1⟩
theorem pairs_asc (l:List SetR) (h:l.Pairwise fun a b=>Op.bytesLess a.path b.path=true) (p:BS):SignAsc (fun s:SetR=>cmpS s.path p) l:=by
 intro i j a b hij ha hb hlt
 obtain ⟨hi,hai⟩:=List.getElem?_eq_some_iff.1 ha
 obtain ⟨hj,hbj⟩:=List.getElem?_eq_some_iff.1 hb
 have h1:=List.pairwise_iff_getElem.1 h i j hi hj hij
 rw [hai,hbj] at h1
 have hlt:cmpS b.path p<0:=hlt
 show cmpS a.path p<0
 rw [cmpS_neg] at hlt ⊢
 exact bl_trans h1 hlt
theorem tenE_ord (t:TenR) (h:tenE t=0):t.sets.l.length≤32∧t.sets.l.Pairwise fun a b=>Op.bytesLess a.path b.path=true:=by
 unfold tenE at h
 have hb:tenB t=true:=by
  by_cases hb:tenB t=true
  ·exact hb
  ·rw [if_neg hb] at h;exact absurd h (by decide)
 unfold tenB at hb
 simp only [Bool.and_eq_true] at hb
 exact setsB_pairs _ hb.1.1.1.2
end Go.Proofs.YtcgclpcocdappaaGreatDoor
