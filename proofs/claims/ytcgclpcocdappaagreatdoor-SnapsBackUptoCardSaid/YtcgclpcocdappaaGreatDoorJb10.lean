/-
  A rollback brings a snapshot's content back: the plain law.
-/
import Derived.WalkKit
import Derived.WalkSpells
import Derived.Below
import Derived.Laws.OwnMore
import Derived.Deep.AppendLies
import Derived.Deep.Draws
import Derived.Laws.Rows
import Derived.Maps.AppendAt
import Derived.RegionTactic
import Derived.OwnWalk
import Derived.Deep.QuietTactic
import Derived.BigQuiet
import Derived.Lib.Hide
import Derived.Laws.CopyOwn
import Derived.IntWalk
import Derived.Test.YtcgclpcocdappaaGreatDoorRows
import Derived.Handy
import Derived.Lib.AppendZeros
import Derived.ProofKit
import Derived.Deep.Quiet
import Derived.OpenShut
import Derived.ShutString
import Derived.ChangeOld
import Derived.Carry
import Derived.SizedLaws
import Derived.JoinedCond
import Derived.Deep.CondSized
import Derived.Deep.Slices
import Derived.Deep.Fields
import Derived.Lib.SmallJoins
import Derived.Orders
import Derived.Lib.SplitLaws
import Derived.Lib.LastIndexByte
import Derived.Lib.Strings
import Derived.Deep.RegionLaw
import Derived.Sort.Walk0
import Derived.Sort.KeysCollected
import Derived.Shelf.SlIter.Nil
import Derived.Shelf.SortM.Plain
import Derived.Shelf.SortM.SortNone
import Derived.Maps.OwnSet
import Derived.Maps.StringElems
import Derived.Deep.MidRow
import Derived.Shelf.Strings.Search1
import Derived.Shelf.Strings.Search2
import Derived.Shelf.Strings.Search3
import Derived.Shelf.Strings.Cut
import Derived.Shelf.Strings.Count
import Derived.Shelf.LaysM
import Derived.Shelf.Strings.Shaped
import Derived.Shelf.Strings.LastIndex
import Derived.Shelf.Strings.Split
import Derived.Shelf.Strings.SplitShaped
import Derived.Shelf.Unicode.Decode
import Derived.Shelf.Strings.RuneCount
import Derived.Shelf.Strings.Explode
import Derived.Shelf.Unicode.DecodeSlow
import Derived.Test.YtcgclpcocdappaaGreatDoorProg
import Derived.Lib.Overlaps
import Derived.Lib.AppendZerosOnto
import Derived.Laws.BytesString
import Derived.Laws.IdiomStrings
import Derived.Lib.ConvBytes
import Derived.Deep.DeepCutAuto
import Derived.Great.BuildSlice
import Derived.Test.YtcgclpcocdappaaGreatDoorJ0
import Derived.Test.YtcgclpcocdappaaGreatDoorJbkv1
import Derived.Test.YtcgclpcocdappaaGreatDoorJbkv2
import Derived.Test.YtcgclpcocdappaaGreatDoorJbkv3
import Derived.Test.YtcgclpcocdappaaGreatDoorJbkv4
import Derived.Test.YtcgclpcocdappaaGreatDoorJbkv5
import Derived.Test.YtcgclpcocdappaaGreatDoorJbkv8
import Derived.Test.YtcgclpcocdappaaGreatDoorJbkv10
import Derived.Test.YtcgclpcocdappaaGreatDoorJbkv15
import Derived.Test.YtcgclpcocdappaaGreatDoorJbkv16
import Derived.Test.YtcgclpcocdappaaGreatDoorJbkv17
import Derived.Test.YtcgclpcocdappaaGreatDoorJbkv20
import Derived.Test.YtcgclpcocdappaaGreatDoorJbkv21
import Derived.Test.YtcgclpcocdappaaGreatDoorJbk1
import Derived.Test.YtcgclpcocdappaaGreatDoorJbk2
import Derived.Test.YtcgclpcocdappaaGreatDoorJb5
import Derived.Test.YtcgclpcocdappaaGreatDoorJb7
import Derived.Test.YtcgclpcocdappaaGreatDoorJb8
namespace Go.Proofs.YtcgclpcocdappaaGreatDoor
open Go.RowKit
theorem changeQ_in {r:Int×TenC} {c2:TenC} (h:(0,c2)=changeQ r):(0,c2)=r:=by
 obtain ⟨E,c⟩:=r
 unfold changeQ at h
 by_cases hE:E≠0
 ·rw [if_pos hE] at h
  injection h with h _
  exact absurd h.symm hE
 rw [if_neg hE] at h
 have hE:E=0:=by omega
 subst hE
 unfold TenC.settled at h
 by_cases hq:c.quota<(c.charge:Int)
 ·simp only [if_pos hq] at h
  injection h with h _
  cases h
 ·simp only [if_neg hq] at h
  exact h
theorem changeQ_sz {c c2:TenC} {p:BS} {ix:Int} {d:BS} (h:c.sz) (h2:(0,c2)=changeQ (c.changed p (writeF ix d))):c2.sz :=
 changed_sz h (changeQ_in h2) (writeF_sz ix d)
theorem rollback_law (C A:TenC) (p n:BS) (ix:Int) (d:BS) (h:(0,A)=C.snapshot p n) :
  ∃ (k:Nat) (s sA:SetC) (m:Nat) (y:SnapC),C.find p=(k:Int)∧C.sets[k]?=some s∧A.sets[k]?=some sA∧sA.body=s.body∧sA.own=s.own∧sA.snaps[m]?=some y∧m+1=sA.snaps.length∧y.body=sA.body∧A.E=0 ∧
   ∀ B,(B=A∨(0,B)=changeQ (A.changed p (writeF ix d)))→B.rollback p n=(0,A):=by
 obtain ⟨k,ha,eA,hAE,hAc,hno⟩:=snapshot_form C p n A h
 obtain ⟨s,hs⟩:∃ s,s=C.sets[k]'ha.lt:=⟨_,rfl⟩
 have hCk:C.sets[k]?=some s:=by rw [hs];exact List.getElem?_eq_getElem ha.lt
 have hsp:s.path=p:=by rw [hs];exact ha.at_
 rw [← hs] at eA hno
 obtain ⟨g,hg⟩:∃ g,g=guidC C.next s.snaps:=⟨_,rfl⟩
 rw [← hg] at eA
 obtain ⟨y,hy⟩:∃ y,y=snapOf s n g:=⟨_,rfl⟩
 obtain ⟨sA,hsA⟩:∃ x,x=s.addSnap y:=⟨_,rfl⟩
 have hAk:A.sets[k]?=some sA:=by
  rw [eA,hsA,hy]
  show (C.sets.set k _)[k]?=_
  exact List.getElem?_set_self ha.lt
 have hAf:A.find p=(k:Int):=by
  have h1:A.find p=(C.putS k sA).find p:=by rw [eA,hsA,hy];rfl
  rw [h1,find_putP C p k s sA hCk (by rw [hsA];rfl)]
  exact ha.find
 have hm:sA.snaps[s.snaps.length]?=some y:=by
  rw [hsA]
  show (s.snaps++[y])[s.snaps.length]?=_
  rw [List.getElem?_append_right (Nat.le_refl _),Nat.sub_self]
  rfl
 have hlen:s.snaps.length+1=sA.snaps.length:=by
  rw [hsA]
  show _=(s.snaps++[y]).length
  rw [List.length_append]
  rfl
 have hfn:∀ sB:SetC,sB.snaps=sA.snaps→sB.findN n=(s.snaps.length:Int):=fun sB hB=>by
  unfold SetC.findN firstI
  have h1:firstP (fun x:SnapC=>x.nm == n) sB.snaps=s.snaps.length:=by
   refine firstP_eq _ _ _ y (fun z hz=>?_) (by rw [hB];exact hm) (by rw [hy];simp [snapOf])
   rw [hB,hsA] at hz
   have hz:z∈(s.snaps++[y]).take s.snaps.length:=hz
   rw [List.take_left' rfl] at hz
   have:=hno z hz
   simpa using this
  rw [h1,if_pos (by rw [hB];omega)]
 have key:∀ (B:TenC) (sB:SetC),B.E=0→B=A.putS k sB→sB.path=sA.path→sB.org=sA.org→sB.snaps=sA.snaps→B.rollback p n=(0,A):=by
  intro B sB hBE hB h1 h2 h3
  have hkA:k<A.sets.length:=(List.getElem?_eq_some_iff.1 hAk).1
  have hBk:B.sets[k]?=some sB:=by
   rw [hB]
   show (A.sets.set k sB)[k]?=_
   exact List.getElem?_set_self hkA
  have hsAp:sA.path=p:=by rw [hsA];exact hsp
  have hyB:sB.snaps[s.snaps.length]?=some y:=by rw [h3];exact hm
  have hf:=B.foundS_of p n hBE ha.path ha.name sB (List.mem_of_getElem? hBk) (by rw [h1,hsAp]) y (List.mem_of_getElem? hyB) (by rw [hy];rfl)
  rw [hfn sB h3,show B.find p=(k:Int) by rw [hB,find_putP A p k sA sB hAk h1];exact hAf] at hf
  rw [rollback_at hf hBk hyB,if_neg (by rw [h3];omega)]
  have e:B.putS k (sB.back y)=A:=by
   rw [hB,putS_putS]
   have e2:sB.back y=sA:=by
    unfold SetC.back
    rw [h1,h2,h3,hsA,hy]
    rfl
   rw [e2]
   exact putS_same A k sA hAk
  rw [e]
  unfold TenC.settle
  rw [if_neg (by rw [hAE];decide),if_neg (by omega)]
 refine ⟨k,s,sA,s.snaps.length,y,ha.find,hCk,hAk,by rw [hsA];rfl,by rw [hsA];rfl,hm,hlen,by rw [hsA,hy];rfl,hAE,fun B hB=>?_⟩
 rcases hB with rfl | hB
 ·exact key B sA hAE (putS_same B k sA hAk).symm rfl rfl rfl
 ·obtain ⟨⟨E,c2⟩,hr⟩:∃ r:Int×TenC,r=A.changed p (writeF ix d):=⟨_,rfl⟩
  rw [← hr] at hB
  unfold changeQ at hB
  by_cases hE:E≠0
  ·rw [if_pos hE] at hB
   injection hB with hB _
   exact absurd hB.symm hE
  rw [if_neg hE] at hB
  have hE:E=0:=by omega
  subst hE
  unfold TenC.settled at hB
  by_cases hq:c2.quota<(c2.charge:Int)
  ·simp only [if_pos hq] at hB
   injection hB with hB _
   cases hB
  ·simp only [if_neg hq] at hB
   injection hB with _ hB
   subst hB
   have hBE:=writeF_ok hr
   unfold TenC.changed at hr
   by_cases h1:A.ask p≠0
   ·rw [if_pos h1] at hr
    injection hr with hr _
    exact absurd hr.symm h1
   rw [if_neg h1,if_neg (by rw [hAf];omega),hAf,Int.toNat_natCast,hAk] at hr
   simp only at hr
   by_cases h2:(writeF ix d sA).1≠0
   ·rw [if_pos h2] at hr
    injection hr with hr _
    exact absurd hr.symm h2
   rw [if_neg h2] at hr
   injection hr with _ hr
   exact key _ _ hBE hr rfl rfl rfl
end Go.Proofs.YtcgclpcocdappaaGreatDoor
