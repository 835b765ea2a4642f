/-
  slices.BinarySearchFunc at elements of 5 cells, by its contract. Contents with a set more, with another set at a place, with a set less. shape.With's order of sets; where a set is put. What a function tells that answers by a tenant and an error; sizes by content. The plain law of names: what names and paths are, and what the statements of chapter 03 say of them. shape.With: a tenant with a set more.
-/
import Derived.Test.YtcgclpcocdappaaGreatDoorRows
import Derived.Handy
import Derived.WalkKit
import Derived.WalkSpells
import Derived.Below
import Derived.Laws.OwnMore
import Derived.Deep.AppendLies
import Derived.Deep.Draws
import Derived.Laws.Rows
import Derived.Maps.AppendAt
import Derived.RegionTactic
import Derived.OwnWalk
import Derived.Deep.QuietTactic
import Derived.BigQuiet
import Derived.Lib.Hide
import Derived.Laws.CopyOwn
import Derived.IntWalk
import Derived.Deep.Quiet
import Derived.Orders
import Derived.Lib.SplitLaws
import Derived.Lib.LastIndexByte
import Derived.Lib.Strings
import Derived.ShutString
import Derived.Sort.Walk0
import Derived.Sort.KeysCollected
import Derived.Deep.MidRow
import Derived.Shelf.Strings.Search1
import Derived.Shelf.Strings.Search2
import Derived.Shelf.Strings.Search3
import Derived.Shelf.Strings.Cut
import Derived.Shelf.Strings.Count
import Derived.Shelf.LaysM
import Derived.Shelf.Strings.Shaped
import Derived.Shelf.Strings.LastIndex
import Derived.Shelf.Strings.Split
import Derived.Shelf.Strings.SplitShaped
import Derived.Shelf.Unicode.Decode
import Derived.Shelf.Strings.RuneCount
import Derived.Shelf.Strings.Explode
import Derived.Shelf.Unicode.DecodeSlow
import Derived.Test.YtcgclpcocdappaaGreatDoorProg
import Derived.Laws.BytesString
import Derived.Laws.IdiomStrings
import Derived.Lib.ConvBytes
import Derived.Great.BuildSlice
import Derived.ProofKit
import Derived.OpenShut
import Derived.ChangeOld
import Derived.Carry
import Derived.SizedLaws
import Derived.JoinedCond
import Derived.Deep.CondSized
import Derived.Deep.Slices
import Derived.Deep.Fields
import Derived.Lib.SmallJoins
import Derived.Deep.DeepCutAuto
import Derived.Lib.AppendZeros
import Derived.Lib.Overlaps
import Derived.Lib.AppendZerosOnto
import Derived.Deep.RegionLaw
import Derived.Test.YtcgclpcocdappaaGreatDoorJ0
import Derived.Test.YtcgclpcocdappaaGreatDoorJbkv1
import Derived.Test.YtcgclpcocdappaaGreatDoorJbkv2
import Derived.Test.YtcgclpcocdappaaGreatDoorJbkv3
import Derived.Test.YtcgclpcocdappaaGreatDoorJbkv4
import Derived.Test.YtcgclpcocdappaaGreatDoorJbkv5
import Derived.Test.YtcgclpcocdappaaGreatDoorJbkv7
import Derived.Test.YtcgclpcocdappaaGreatDoorJbkv10
import Derived.Test.YtcgclpcocdappaaGreatDoorJbkv12
import Derived.Test.YtcgclpcocdappaaGreatDoorJbkv14
import Derived.Test.YtcgclpcocdappaaGreatDoorJbkv15
import Derived.Test.YtcgclpcocdappaaGreatDoorJbkv16
import Derived.Test.YtcgclpcocdappaaGreatDoorJbkv17
import Derived.Test.YtcgclpcocdappaaGreatDoorJbkv18
import Derived.Test.YtcgclpcocdappaaGreatDoorJbkv20
import Derived.Test.YtcgclpcocdappaaGreatDoorJbkv21
import Derived.Test.YtcgclpcocdappaaGreatDoorJkv1
import Derived.Test.YtcgclpcocdappaaGreatDoorJv1
namespace Go.Proofs.YtcgclpcocdappaaGreatDoor
open Go.RowKit
set_option maxRecDepth 100000 in
set_option maxHeartbeats 1000000 in
theorem searchSet_any {α:Type} (f0 f1 f2 f3 f4:α→Value) (cf:α→Int) (l:List α) (hl:SignAsc cf l) (n:Nat) (hnl:n=l.length) (A:Option Addr) (c:Nat) (tgt:Value) (w:World) (B:Nat)
  (hr:Reads w B 5 A n (cellsK (fun x=>[f0 x,f1 x,f2 x,f3 x,f4 x]) l)) (hB:B≤w.heap.size) (hn:n≤5000000000000)
  (hcmp:∀ x W,Below w.heap.size w W→Calls Tryz.prog 146 #[.agg #[f0 x,f1 x,f2 x,f3 x,f4 x],tgt] W fun e W'=>e=.returned (.int .i64 (cf x))∧Below W.heap.size W W') :
  Calls Tryz.prog 145 #[.slice A n c,tgt,.func (.func 146) #[] #[]] w fun e w'=>e=.returned (.tuple #[.int .i64 (posF cf l),.bool (atF cf l)])∧Below w.heap.size w w':=by
 have HN:=Lib.hid hnl
 have HL:=Lib.hid hl
 have HC:=Lib.hid hcmp
 clear hnl hl hcmp
 go_enter Tryz.func145,Tryz.ntmps145
 go_wp2_with fail
 go_loopw [9,10] (fun i j wr=>∃ a b:Nat,a≤b∧b≤n∧i=.int .i64 (a:Int)∧j=.int .i64 (b:Int)∧Hid ((∀ (k:Nat) (x:α),k<a→l[k]?=some x→cf x<0)∧∀ (k:Nat) (x:α),b≤k→l[k]?=some x→0≤cf x)∧Below w.heap.size w wr) (fun i j _=>(intOf j).toNat-(intOf i).toNat)
 case atStart=>exact ⟨0,n,Nat.zero_le _,Nat.le_refl _,rfl,rfl,⟨fun k x hk _=>by omega,fun k x hk hx=>by have:=(List.getElem?_eq_some_iff.1 hx).1;have:=HN.out;omega⟩,Below.refl _ _⟩
 case round =>
  obtain ⟨a,b,hab,hbn,rfl,rfl,hI,hbw⟩:=hrel
  by_cases hlt:a<b
  ·obtain ⟨h,hh⟩:∃ h,h=(a+b) / 2:=⟨_,rfl⟩
   have hha:a≤h:=by omega
   have hhb:h<b:=by omega
   have hlI:(a:Int)<(b:Int):=by omega
   have hrw:=hr.below (hbw.mono hB)
   obtain ⟨ad,rfl,hadB,c0,c1,c2,c3,c4⟩:=hrw.el5 HN.out (show h<n by omega)
   obtain ⟨x,hx⟩:∃ x,x=l[h]'(by have:=HN.out;omega):=⟨_,rfl⟩
   rw [← hx] at c0 c1 c2 c3 c4
   have HX:=Lib.hid (show l[h]?=some x by rw [hx];exact List.getElem?_eq_getElem _)
   have HH:=Lib.hid hh
   have hcx:=HC.out x wr hbw
   obtain ⟨z,hz⟩:∃ z,z=cf x:=⟨_,rfl⟩
   rw [← hz] at hcx
   have HZ:=Lib.hid hz
   clear hx hr hz
   rw [hh] at c0 c1 c2 c3 c4
   clear hh
   go_wp2_with fail
   refine hcx.mono ?_
   clear hcx
   rintro e w1 ⟨rfl,hb1⟩
   have hbw1:=hbw.trans (hb1.mono hbw.size)
   by_cases hz0:z<0
   ·go_wp2_with fail
    go_roundw
    case rel =>
     refine ⟨h+1,b,by omega,hbn,by rw [HH.out];go_num,rfl,⟨fun k y hk hy=>?_,hI.out.2⟩,hbw1⟩
     by_cases hkh:k=h
     ·subst hkh
      have:=HX.out
      rw [hy] at this
      cases this
      have:=HZ.out
      omega
     ·exact HL.out k h y x (by omega) hy HX.out (by have:=HZ.out;omega)
    case measure=>simp [intOf];omega
   ·go_wp2_with fail
    go_roundw
    case rel =>
     refine ⟨a,h,by omega,by omega,rfl,by rw [HH.out];go_num,⟨hI.out.1,fun k y hk hy=>?_⟩,hbw1⟩
     by_cases hkh:k=h
     ·subst hkh
      have:=HX.out
      rw [hy] at this
      cases this
      have:=HZ.out
      omega
     ·have h1:=HL.out h k x y (by omega) HX.out hy
      have:=HZ.out
      omega
    case measure=>simp [intOf];omega
  ·obtain rfl:a=b:=by omega
   have hpos:posF cf l=a:=posF_eq cf l a (by have:=HN.out;omega) hI.out.1 (fun x hx=>hI.out.2 a x (Nat.le_refl _) hx)
   have hrw:=hr.below (hbw.mono hB)
   by_cases han:a<n
   ·obtain ⟨ad,rfl,hadB,c0,c1,c2,c3,c4⟩:=hrw.el5 HN.out han
    obtain ⟨x,hx⟩:∃ x,x=l[a]'(by have:=HN.out;omega):=⟨_,rfl⟩
    rw [← hx] at c0 c1 c2 c3 c4
    have hat:atF cf l=(cf x == 0):=by
     unfold atF
     rw [hpos,List.getElem?_eq_getElem (by have:=HN.out;omega),← hx]
     rfl
    have hcx:=HC.out x wr hbw
    obtain ⟨z,hz⟩:∃ z,z=cf x:=⟨_,rfl⟩
    rw [← hz] at hcx hat
    have HZ:=Lib.hid hz
    have HPOS:=Lib.hid hpos
    have HAT:=Lib.hid hat
    clear hx hr hrw hpos hat hz
    go_wp2_with fail
    refine hcx.mono ?_
    clear hcx
    rintro e w1 ⟨rfl,hb1⟩
    have hbw1:=hbw.trans (hb1.mono hbw.size)
    go_wp2_with fail
    go_ret2
    exact ⟨by rw [HPOS.out,HAT.out];rfl,hbw1⟩
   ·have hat:atF cf l=false:=by
     unfold atF
     rw [hpos,List.getElem?_eq_none (by have:=HN.out;omega)]
     rfl
    have HPOS:=Lib.hid hpos
    have HAT:=Lib.hid hat
    clear hr hrw hpos hat
    go_wp2_with fail
    go_ret2
    exact ⟨by rw [HPOS.out,HAT.out];rfl,hbw⟩
end Go.Proofs.YtcgclpcocdappaaGreatDoor
namespace Go.Proofs.YtcgclpcocdappaaGreatDoor
open Go.RowKit
theorem posF_map {α β:Type} (f:α→β) (cf:β→Int) (l:List α):posF cf (l.map f)=posF (fun x=>cf (f x)) l:=by
 unfold posF
 rw [List.takeWhile_map,List.length_map]
 rfl
/-- the content with a set more, in its place -/
def TenC.withS (c:TenC) (s:SetC):TenC:=⟨c.nm,c.quota,c.next,c.sets.take (posF (fun x:SetC=>cmpS x.path s.path) c.sets)++[s]++c.sets.drop (posF (fun x:SetC=>cmpS x.path s.path) c.sets),c.grants,c.stages,c.log⟩
theorem asc_eqv (l l':List SetR) (p:BS) (h:l.map (·.path)=l'.map (·.path)) (ha:SignAsc (fun x:SetR=>cmpS x.path p) l):SignAsc (fun x:SetR=>cmpS x.path p) l':=by
 have hp:∀ (i:Nat) (x:SetR),l'[i]?=some x→∃ y,l[i]?=some y∧y.path=x.path:=by
  intro i x hx
  have h1:=congrArg (fun m:List BS=>m[i]?) h
  simp only [List.getElem?_map,hx,Option.map_some] at h1
  cases hl:l[i]? with
  | none=>rw [hl] at h1;cases h1
  | some y=>rw [hl] at h1;exact ⟨y,rfl,by simpa using h1⟩
 intro i j a b hij hai hbj hlt
 obtain ⟨a',ha',e1⟩:=hp i a hai
 obtain ⟨b',hb',e2⟩:=hp j b hbj
 have:=ha i j a' b' hij ha' hb' (by simp only [e2];exact hlt)
 simp only [e1] at this
 exact this
theorem con_withS (y:TenR) (s:SetR) (A:Option Addr) (n c:Nat):TenR.con ⟨y.nm,y.quota,y.next,⟨A,n,c,y.sets.l.take (posF (fun x:SetR=>cmpS x.path s.path) y.sets.l)++[s]++y.sets.l.drop (posF (fun x:SetR=>cmpS x.path s.path) y.sets.l)⟩,y.grants,y.stages,y.log⟩=y.con.withS s.con:=by
 show TenC.mk _ _ _ _ _ _ _=TenC.mk _ _ _ _ _ _ _
 have e:posF (fun x:SetC=>cmpS x.path s.con.path) y.con.sets=posF (fun x:SetR=>cmpS x.path s.path) y.sets.l:=posF_map SetR.con (fun x:SetC=>cmpS x.path s.path) y.sets.l
 rw [e]
 simp only [List.map_append,List.map_take,List.map_drop,List.map_cons,List.map_nil]
 rfl
end Go.Proofs.YtcgclpcocdappaaGreatDoor
namespace Go.Proofs.YtcgclpcocdappaaGreatDoor
open Go.RowKit
set_option maxRecDepth 100000 in
set_option maxHeartbeats 1000000 in
theorem with1_any (a o x:BS) (bA zA oA:Option Addr) (bn bc zn zc on oc:Nat) (w:World) :
  Calls Tryz.prog 146 #[.agg #[.string ⟨a.toArray⟩,.string ⟨o.toArray⟩,.slice bA bn bc,.slice zA zn zc,.slice oA on oc],.string ⟨x.toArray⟩] w fun e w'=>e=.returned (.int .i64 (cmpS a x))∧Below w.heap.size w w':=by
 have hb1:=(Below.refl w.heap.size w).alloc (Nat.le_refl _) (.cells #[.string ⟨a.toArray⟩,.string ⟨o.toArray⟩,.slice bA bn bc,.slice zA zn zc,.slice oA on oc] 42)
 go_enter Tryz.func146,Tryz.ntmps146
 go_wp2_with fail
 refine (compareS_any a x _).mono ?_
 rintro e w1 ⟨rfl,q,rfl⟩
 go_wp2_with fail
 go_ret
 exact ⟨rfl,below_drewN hb1 q⟩
set_option maxRecDepth 100000 in
/-- the place of a path among sets in order -/
theorem searchSets_any (l:List SetR) (p:BS) (hl:SignAsc (fun s:SetR=>cmpS s.path p) l) (n:Nat) (hnl:n=l.length) (A:Option Addr) (c:Nat) (w:World) (B:Nat) (hr:Reads w B 5 A n (cellsK encSet l)) (hB:B≤w.heap.size) (hn:n≤5000000000000) :
  Calls Tryz.prog 145 #[.slice A n c,.string ⟨p.toArray⟩,.func (.func 146) #[] #[]] w fun e w'=>e=.returned (.tuple #[.int .i64 (posF (fun s:SetR=>cmpS s.path p) l),.bool (atF (fun s:SetR=>cmpS s.path p) l)])∧Below w.heap.size w w' :=
 searchSet_any (fun s:SetR=>.string ⟨s.path.toArray⟩) (fun s=>.string ⟨s.org.toArray⟩) (fun s=>.slice s.body.A s.body.n s.body.c) (fun s=>.slice s.snaps.A s.snaps.n s.snaps.c) (fun s=>.slice s.own.A s.own.n s.own.c) (fun s:SetR=>cmpS s.path p) l hl n hnl A c (.string ⟨p.toArray⟩) w B hr hB hn
  fun x W _=>with1_any x.path x.org p x.body.A x.snaps.A x.own.A x.body.n x.body.c x.snaps.n x.snaps.c x.own.n x.own.c W
end Go.Proofs.YtcgclpcocdappaaGreatDoor
namespace Go.Proofs.YtcgclpcocdappaaGreatDoor
open Go.RowKit
/-! ### sizes, by content -/
section
variable {w:World} {B:Nat}
end
theorem TenC.sz.withS {c:TenC} {s:SetC} (h:c.sz) (hs:s.sz) (hl:c.sets.length≤100000000000):(c.withS s).sz:=by
 refine ⟨h.nm,?_,fun y hy=>?_,h.grants,h.eachG,h.stages,h.eachT,h.log,h.eachL⟩
 ·unfold TenC.withS
  simp only [List.length_append,List.length_take,List.length_drop,List.length_cons,List.length_nil]
  omega
 ·have hy:y∈c.sets.take _++[s]++c.sets.drop _:=hy
  simp only [List.mem_append,List.mem_cons,List.not_mem_nil,or_false] at hy
  rcases hy with (hy | rfl) | hy
  ·exact h.eachS y (List.mem_of_mem_take hy)
  ·exact hs
  ·exact h.eachS y (List.mem_of_mem_drop hy)
/-! ### what is told -/
/-! ### what stands under a set, its clones, what is held -/
end Go.Proofs.YtcgclpcocdappaaGreatDoor
namespace Go.Proofs.YtcgclpcocdappaaGreatDoor
theorem partsL_ne (s:List UInt8):partsL s≠[]:=by
 cases s with
 | nil=>simp [partsL]
 | cons c r =>
  unfold partsL
  split
  ·simp
  ·split <;> simp
/-! ### What comes back -/
theorem parts_all (s:List UInt8) (p:List UInt8→Bool) (q:UInt8→Prop) (hp:∀ x,p x=true→∀ c∈x,q c) (h:(partsL s).all p=true) (h47:q 47):∀ c∈s,q c:=by
 induction s with
 | nil=>intro c hc;cases hc
 | cons a r ih =>
  intro c hc
  unfold partsL at h
  by_cases ha:a=47
  ·rw [if_pos ha,List.all_cons,Bool.and_eq_true] at h
   rcases List.mem_cons.1 hc with rfl | hc
   ·rw [ha];exact h47
   ·exact ih h.2 c hc
  ·rw [if_neg ha] at h
   cases hr:partsL r with
   | nil=>exact absurd hr (partsL_ne r)
   | cons x xs =>
    rw [hr] at h
    simp only [List.all_cons,Bool.and_eq_true] at h
    have ha':=hp _ h.1 a (List.mem_cons_self ..)
    rcases List.mem_cons.1 hc with rfl | hc
    ·exact ha'
    ·-- the rest: every other char of x,and of xs
     have key:∀ (l:List UInt8) (y:List UInt8) (ys:List (List UInt8)),partsL l=y :: ys→(∀ c∈y,q c)→ys.all p=true→∀ c∈l,q c:=by
      intro l
      induction l with
      | nil=>intro y ys _ _ _ c hc;cases hc
      | cons b l ihl =>
       intro y ys hl hy hys c hc
       unfold partsL at hl
       by_cases hb:b=47
       ·rw [if_pos hb] at hl
        injection hl with e1 e2
        subst e1 e2
        rcases List.mem_cons.1 hc with rfl | hc
        ·rw [hb];exact h47
        ·cases hl2:partsL l with
         | nil=>exact absurd hl2 (partsL_ne l)
         | cons z zs =>
          rw [hl2] at hys
          simp only [List.all_cons,Bool.and_eq_true] at hys
          exact ihl z zs hl2 (hp _ hys.1) hys.2 c hc
       ·rw [if_neg hb] at hl
        cases hl2:partsL l with
        | nil=>exact absurd hl2 (partsL_ne l)
        | cons z zs =>
         rw [hl2] at hl
         injection hl with e1 e2
         subst e1 e2
         rcases List.mem_cons.1 hc with rfl | hc
         ·exact hy _ (List.mem_cons_self ..)
         ·exact ihl z zs hl2 (fun c hc=>hy c (List.mem_cons_of_mem _ hc)) hys c hc
     exact key r x xs hr (fun c hc=>hp _ h.1 c (List.mem_cons_of_mem _ hc)) h.2 c hc
theorem nameB_ok (x:List UInt8) (h:nameB x=true):∀ c∈x,okB c=true:=by
 unfold nameB at h
 simp only [Bool.and_eq_true,List.all_eq_true] at h
 exact h.2
theorem path_chars (s:List UInt8) (h:pathB s=true):∀ c∈s,okB c=true∨c=47:=by
 cases hs:s with
 | nil=>intro c hc;cases hc
 | cons a r =>
  rw [← hs]
  have hsb:s.isEmpty=false:=by rw [hs];rfl
  unfold pathB at h
  simp only [hsb,Bool.false_or,Bool.and_eq_true] at h
  exact parts_all s nameB (fun c=>okB c=true∨c=47) (fun x hx c hc=>.inl (nameB_ok x hx c hc)) h.2 (.inr rfl)
theorem atL_more (s n:List UInt8) (h:64∈s):∃ p q,atL (s++64 :: n)=some (p,q)∧64∈q:=by
 induction s with
 | nil=>cases h
 | cons a r ih =>
  rw [List.cons_append]
  unfold atL
  by_cases ha:a=64
  ·rw [if_pos ha]
   exact ⟨[],r++64 :: n,rfl,by simp⟩
  ·rw [if_neg ha]
   obtain ⟨p,q,e,hq⟩:=ih (by rcases List.mem_cons.1 h with rfl | h;exact absurd rfl ha;exact h)
   rw [e]
   exact ⟨a :: p,q,rfl,hq⟩
theorem split_join (s n:List UInt8):(∃ p q,atL (s++64 :: n)=some (p,q)∧((pathB p && nameB q)=(pathB s && nameB n))∧((pathB s && nameB n)=true→p=s∧q=n)):=by
 by_cases h:64∈s
 ·obtain ⟨p,q,e,hq⟩:=atL_more s n h
  have h1:pathB s=false:=by
   cases hp:pathB s with
   | false=>rfl
   | true=>rcases path_chars s hp 64 h with h2 | h2 <;> cases h2
  have h2:nameB q=false:=by
   cases hn:nameB q with
   | false=>rfl
   | true=>have:=nameB_ok q hn 64 hq;cases this
  exact ⟨p,q,e,by simp [h1,h2],by simp [h1]⟩
 ·exact ⟨s,n,atL_join s n (fun c hc e=>h (by rw [← e];exact hc)),rfl,fun _=>⟨rfl,rfl⟩⟩
end Go.Proofs.YtcgclpcocdappaaGreatDoor
namespace Go.Proofs.YtcgclpcocdappaaGreatDoor
open Go.RowKit
set_option maxRecDepth 100000 in
set_option maxHeartbeats 4000000 in
theorem with_any (t:TenR) (s:SetR) (w:World) (B base:Nat) (hB:B≤w.heap.size) (hr:t.rd w B) (hz:t.sz) (hs:SetO w base s) (hbs:base≤w.heap.size) (hlt:t.sets.n≤1000000000) (hasc:SignAsc (fun x:SetR=>cmpS x.path s.path) t.sets.l) :
  Calls Tryz.prog 82 #[t.val,.agg (encSet s).toArray] w fun e w'=>∃ y:TenR,e=.returned y.val∧TenO w' base y∧y.con=t.con.withS s.con∧Below w.heap.size w w':=by
 obtain ⟨nm,qu,nx,⟨s1,sn,s3,sl⟩,⟨u1,un,u3,ul⟩,⟨t1,tn,t3,tl⟩,⟨l1,ln,l3,ll⟩⟩:=t
 obtain ⟨pa,og,⟨bA,bn,bc,bl⟩,⟨zA,zn,zc,zl⟩,⟨oA,on,oc,ol⟩⟩:=s
 show Calls Tryz.prog 82 #[.agg #[.string ⟨nm.toArray⟩,.int .i64 qu,.int .i64 nx,.slice s1 sn s3,.slice u1 un u3,.slice t1 tn t3,.slice l1 ln l3],.agg #[.string ⟨pa.toArray⟩,.string ⟨og.toArray⟩,.slice bA bn bc,.slice zA zn zc,.slice oA on oc]] w _
 have hb3:=((((Below.refl w.heap.size w).alloc (Nat.le_refl _) (.cells #[.string ⟨nm.toArray⟩,.int .i64 qu,.int .i64 nx,.slice s1 sn s3,.slice u1 un u3,.slice t1 tn t3,.slice l1 ln l3] 27)).alloc (by simp) (.cells #[.string ⟨pa.toArray⟩,.string ⟨og.toArray⟩,.slice bA bn bc,.slice zA zn zc,.slice oA on oc] 42)).alloc (by simp;omega) (.cells #[.string ⟨#[]⟩,.int .i64 0,.int .i64 0,.slice none 0 0,.slice none 0 0,.slice none 0 0,.slice none 0 0] 27))
 have kT:=((Blk.new w 27 #[.string ⟨nm.toArray⟩,.int .i64 qu,.int .i64 nx,.slice s1 sn s3,.slice u1 un u3,.slice t1 tn t3,.slice l1 ln l3]).alloc (.cells #[.string ⟨pa.toArray⟩,.string ⟨og.toArray⟩,.slice bA bn bc,.slice zA zn zc,.slice oA on oc] 42)).alloc (.cells #[.string ⟨#[]⟩,.int .i64 0,.int .i64 0,.slice none 0 0,.slice none 0 0,.slice none 0 0,.slice none 0 0] 27)
 have kS:=(Blk.new (w.alloc (.cells #[.string ⟨nm.toArray⟩,.int .i64 qu,.int .i64 nx,.slice s1 sn s3,.slice u1 un u3,.slice t1 tn t3,.slice l1 ln l3] 27)) 42 #[.string ⟨pa.toArray⟩,.string ⟨og.toArray⟩,.slice bA bn bc,.slice zA zn zc,.slice oA on oc]).alloc (.cells #[.string ⟨#[]⟩,.int .i64 0,.int .i64 0,.slice none 0 0,.slice none 0 0,.slice none 0 0,.slice none 0 0] 27)
 have kZ:=Blk.new ((w.alloc (.cells #[.string ⟨nm.toArray⟩,.int .i64 qu,.int .i64 nx,.slice s1 sn s3,.slice u1 un u3,.slice t1 tn t3,.slice l1 ln l3] 27)).alloc (.cells #[.string ⟨pa.toArray⟩,.string ⟨og.toArray⟩,.slice bA bn bc,.slice zA zn zc,.slice oA on oc] 42)) 27 #[.string ⟨#[]⟩,.int .i64 0,.int .i64 0,.slice none 0 0,.slice none 0 0,.slice none 0 0,.slice none 0 0]
 rw [show (w.alloc (.cells #[.string ⟨nm.toArray⟩,.int .i64 qu,.int .i64 nx,.slice s1 sn s3,.slice u1 un u3,.slice t1 tn t3,.slice l1 ln l3] 27)).heap.size=w.heap.size+1 by simp] at kS
 rw [show ((w.alloc (.cells #[.string ⟨nm.toArray⟩,.int .i64 qu,.int .i64 nx,.slice s1 sn s3,.slice u1 un u3,.slice t1 tn t3,.slice l1 ln l3] 27)).alloc (.cells #[.string ⟨pa.toArray⟩,.string ⟨og.toArray⟩,.slice bA bn bc,.slice zA zn zc,.slice oA on oc] 42)).heap.size=w.heap.size+2 by simp] at kZ
 have hsz3:(((w.alloc (.cells #[.string ⟨nm.toArray⟩,.int .i64 qu,.int .i64 nx,.slice s1 sn s3,.slice u1 un u3,.slice t1 tn t3,.slice l1 ln l3] 27)).alloc (.cells #[.string ⟨pa.toArray⟩,.string ⟨og.toArray⟩,.slice bA bn bc,.slice zA zn zc,.slice oA on oc] 42)).alloc (.cells #[.string ⟨#[]⟩,.int .i64 0,.int .i64 0,.slice none 0 0,.slice none 0 0,.slice none 0 0,.slice none 0 0] 27)).heap.size=w.heap.size+3:=by simp
 obtain ⟨W3,hW3⟩:∃ W,W=(((w.alloc (.cells #[.string ⟨nm.toArray⟩,.int .i64 qu,.int .i64 nx,.slice s1 sn s3,.slice u1 un u3,.slice t1 tn t3,.slice l1 ln l3] 27)).alloc (.cells #[.string ⟨pa.toArray⟩,.string ⟨og.toArray⟩,.slice bA bn bc,.slice zA zn zc,.slice oA on oc] 42)).alloc (.cells #[.string ⟨#[]⟩,.int .i64 0,.int .i64 0,.slice none 0 0,.slice none 0 0,.slice none 0 0,.slice none 0 0] 27)):=⟨_,rfl⟩
 rw [← hW3] at hb3 kT kS kZ hsz3
 have hCP:Hid (Calls Tryz.prog 44 #[.agg #[.string ⟨nm.toArray⟩,.int .i64 qu,.int .i64 nx,.slice s1 sn s3,.slice u1 un u3,.slice t1 tn t3,.slice l1 ln l3]] W3 fun e w'=>∃ y:TenR,e=.returned y.val∧TenO w' W3.heap.size y∧TenR.eqv ⟨nm,qu,nx,⟨s1,sn,s3,sl⟩,⟨u1,un,u3,ul⟩,⟨t1,tn,t3,tl⟩,⟨l1,ln,l3,ll⟩⟩ y∧Below W3.heap.size W3 w') :=
  tcopy_any ⟨nm,qu,nx,⟨s1,sn,s3,sl⟩,⟨u1,un,u3,ul⟩,⟨t1,tn,t3,tl⟩,⟨l1,ln,l3,ll⟩⟩ W3 B (by omega) (TenR.rd.below hr (hb3.mono hB)) hz
 have HSN:=Lib.hid (show sl.length≤1000000000 by have h:=hr.sets.1;simp only at h hlt;omega)
 have HASC:=Lib.hid hasc
 have HSO3:=Lib.hid (hs.below (hb3.mono (Nat.le_refl _)))
 have HB3:=Lib.hid hb3
 have KS3:=Lib.hid kS
 have KZ3:=Lib.hid kZ
 have HSZ3:=Lib.hid hsz3
 have HBS:=Lib.hid hbs
 obtain ⟨c0,c1,c2,c3,c4,c5,c6⟩:=(⟨kT.cell 0,kT.cell 1,kT.cell 2,kT.cell 3,kT.cell 4,kT.cell 5,kT.cell 6⟩:_∧_∧_∧_∧_∧_∧_)
 simp only [zF,zD,zE] at c0 c1 c2 c3 c4 c5 c6
 clear hb3 kS kZ hr hz hs hlt hasc hsz3 kT hbs
 go_enter Tryz.func82,Tryz.ntmps82
 go_wp2_with fail
 rw [← hW3]
 clear hW3
 refine hCP.out.mono ?_
 clear hCP c0 c1 c2 c3 c4 c5 c6
 rintro e w4 ⟨y,rfl,ho4,he4,hb4⟩
 have HCON:=Lib.hid ((TenR.eqv_iff _ _).1 he4)
 have HE4:=Lib.hid he4
 have hY2:y.sets.n≤1000000000:=by
  have h1:=he4.lenS
  have h2:=ho4.sets.1
  simp only at h1
  have:=HSN.out
  omega
 have hYA:SignAsc (fun x:SetR=>cmpS x.path pa) y.sets.l:=by
  refine asc_eqv _ _ pa ?_ HASC.out
  have h:=congrArg (fun c:TenC=>c.sets.map SetC.path) HCON.out
  simpa [TenR.con,List.map_map,SetR.con,Function.comp_def] using h
 have HYA:=Lib.hid hYA
 obtain ⟨mm,mq,mx,⟨m1,m2,m3,ml⟩,⟨n1,n2,n3,nl⟩,⟨p1,p2,p3,pl⟩,⟨q1,q2,q3,ql⟩⟩:=y
 simp only [TenR.val,TenR.cells,FS.val,strV]
 have hszb:=HSZ3.out
 have hsz4:=hb4.size
 have kz4:=KZ3.out.below hb4 KZ3.out.lt
 have ks4:=KS3.out.below hb4 KS3.out.lt
 have hbw4:=HB3.out.trans (hb4.mono (by omega))
 have hso4:=HSO3.out.below hb4
 have ho5:=ho4.below ((Below.refl w4.heap.size w4).alloc (Nat.le_refl _) (.cells #[.string ⟨mm.toArray⟩,.int .i64 mq,.int .i64 mx,.slice m1 m2 m3,.slice n1 n2 n3,.slice p1 p2 p3,.slice q1 q2 q3] 27))
 have k5:=Blk.new w4 27 #[.string ⟨mm.toArray⟩,.int .i64 mq,.int .i64 mx,.slice m1 m2 m3,.slice n1 n2 n3,.slice p1 p2 p3,.slice q1 q2 q3]
 have kz5:=kz4.alloc (.cells #[.string ⟨mm.toArray⟩,.int .i64 mq,.int .i64 mx,.slice m1 m2 m3,.slice n1 n2 n3,.slice p1 p2 p3,.slice q1 q2 q3] 27)
 have ks5:=ks4.alloc (.cells #[.string ⟨mm.toArray⟩,.int .i64 mq,.int .i64 mx,.slice m1 m2 m3,.slice n1 n2 n3,.slice p1 p2 p3,.slice q1 q2 q3] 27)
 have hbw5:=hbw4.alloc (by omega) (.cells #[.string ⟨mm.toArray⟩,.int .i64 mq,.int .i64 mx,.slice m1 m2 m3,.slice n1 n2 n3,.slice p1 p2 p3,.slice q1 q2 q3] 27)
 have hso5:=hso4.below ((Below.refl w4.heap.size w4).alloc (Nat.le_refl _) (.cells #[.string ⟨mm.toArray⟩,.int .i64 mq,.int .i64 mx,.slice m1 m2 m3,.slice n1 n2 n3,.slice p1 p2 p3,.slice q1 q2 q3] 27))
 have hsz5:(w4.alloc (.cells #[.string ⟨mm.toArray⟩,.int .i64 mq,.int .i64 mx,.slice m1 m2 m3,.slice n1 n2 n3,.slice p1 p2 p3,.slice q1 q2 q3] 27)).heap.size=w4.heap.size+1:=by simp
 have hset:∀ g,(FS.val (⟨m1,m2,m3,ml⟩:FS SetR)).ownBlock=some g→w.heap.size+3≤g∧g<w4.heap.size:=fun g e=>by
  have:=ho4.sets.2.lt _ e
  omega
 have HSET:=Lib.hid hset
 have HSZ4:=Lib.hid (show w.heap.size+3≤w4.heap.size by omega)
 obtain ⟨g5,hg5⟩:∃ g,g=w4.heap.size:=⟨_,rfl⟩
 go_wp2_with (refine wpList_store_new w4 rfl 27 (.tmp 5) (.tmp 9) rfl 27 [.string ⟨#[]⟩,.int .i64 0,.int .i64 0,.slice none 0 0,.slice none 0 0,.slice none 0 0,.slice none 0 0] [.string ⟨mm.toArray⟩,.int .i64 mq,.int .i64 mx,.slice m1 m2 m3,.slice n1 n2 n3,.slice p1 p2 p3,.slice q1 q2 q3] rfl rfl rfl (by kernel_rfl) (by simp [Value.oneCell']) ?_;obtain ⟨W5,hW5⟩:∃ W,W=w4.alloc (.cells #[.string ⟨mm.toArray⟩,.int .i64 mq,.int .i64 mx,.slice m1 m2 m3,.slice n1 n2 n3,.slice p1 p2 p3,.slice q1 q2 q3] 27):=⟨_,rfl⟩;rw [show ([.string ⟨mm.toArray⟩,.int .i64 mq,.int .i64 mx,.slice m1 m2 m3,.slice n1 n2 n3,.slice p1 p2 p3,.slice q1 q2 q3]:List Value).toArray=#[.string ⟨mm.toArray⟩,.int .i64 mq,.int .i64 mx,.slice m1 m2 m3,.slice n1 n2 n3,.slice p1 p2 p3,.slice q1 q2 q3] from rfl,← hW5];rw [← hW5] at ho5 k5 kz5 ks5 hbw5 hso5 hsz5;have HO5:=Lib.hid ho5;have K5:=Lib.hid k5;have KZ5:=Lib.hid kz5;have KS5:=Lib.hid ks5;have HB5:=Lib.hid hbw5;have HSO5:=Lib.hid hso5;have HSZ5:=Lib.hid hsz5;have HG5:=Lib.hid hg5;have d3:=k5.cell 3;have e0:=ks5.cell 0;simp only [zF,zD,zE] at d3 e0;rw [← hg5] at d3 ⊢;have hcS:=Lib.hid (searchSets_any ml pa HYA.out m2 ho5.sets.1 m1 m3 W5 W5.heap.size ho5.rd.sets.2.2 (Nat.le_refl _) (by have h:=hY2;simp only at h;omega));clear hW5 hb4 ho4 ho5 k5 kz5 ks5 hbw5 hso5 hsz5 kz4 ks4 hbw4 hso4 hset HSO3 KZ3 KS3 HB3 hg5)
 refine hcS.out.mono ?_
 clear hcS
 rintro e w6 ⟨rfl,hb6⟩
 obtain ⟨i,hi⟩:∃ i,i=posF (fun s:SetR=>cmpS s.path pa) ml:=⟨_,rfl⟩
 rw [← hi]
 have hil:i≤m2:=by have h:=HO5.out.sets.1;simp only at h;rw [hi];have:=posF_le (fun s:SetR=>cmpS s.path pa) ml;omega
 have HI:=Lib.hid hi
 have HIL:=Lib.hid hil
 have hsz5:=HSZ5.out
 have hsz6:=hb6.size
 have HSZ6:=Lib.hid (show w.heap.size+3≤w6.heap.size∧g5<w6.heap.size by have:=HG5.out;omega)
 have ho6:=HO5.out.below hb6
 have k6:=K5.out.below hb6 K5.out.lt
 have kz6:=KZ5.out.below hb6 KZ5.out.lt
 have ks6:=KS5.out.below hb6 KS5.out.lt
 have hbw6:=HB5.out.trans (hb6.mono (by omega))
 have hso6:=HSO5.out.below hb6
 have ho7:=ho6.below ((Below.refl w6.heap.size w6).alloc (Nat.le_refl _) (.cells #[.string ⟨pa.toArray⟩,.string ⟨og.toArray⟩,.slice bA bn bc,.slice zA zn zc,.slice oA on oc] 42))
 have kn7:=Blk.new w6 42 #[.string ⟨pa.toArray⟩,.string ⟨og.toArray⟩,.slice bA bn bc,.slice zA zn zc,.slice oA on oc]
 have k7:=k6.alloc (.cells #[.string ⟨pa.toArray⟩,.string ⟨og.toArray⟩,.slice bA bn bc,.slice zA zn zc,.slice oA on oc] 42)
 have kz7:=kz6.alloc (.cells #[.string ⟨pa.toArray⟩,.string ⟨og.toArray⟩,.slice bA bn bc,.slice zA zn zc,.slice oA on oc] 42)
 have hbw7:=hbw6.alloc (by omega) (.cells #[.string ⟨pa.toArray⟩,.string ⟨og.toArray⟩,.slice bA bn bc,.slice zA zn zc,.slice oA on oc] 42)
 have hso7:=hso6.below ((Below.refl w6.heap.size w6).alloc (Nat.le_refl _) (.cells #[.string ⟨pa.toArray⟩,.string ⟨og.toArray⟩,.slice bA bn bc,.slice zA zn zc,.slice oA on oc] 42))
 have hsz7:(w6.alloc (.cells #[.string ⟨pa.toArray⟩,.string ⟨og.toArray⟩,.slice bA bn bc,.slice zA zn zc,.slice oA on oc] 42)).heap.size=w6.heap.size+1:=by simp
 have d3:=k6.cell 3
 obtain ⟨e0,e1,e2,e3,e4⟩:=(⟨ks6.cell 0,ks6.cell 1,ks6.cell 2,ks6.cell 3,ks6.cell 4⟩:_∧_∧_∧_∧_)
 simp only [zF,zD,zE] at e0 e1 e2 e3 e4
 simp only [zF,zD,zE] at d3
 rw [← HG5.out] at d3
 have hbs:=HBS.out
 have hsz3:=HSZ3.out
 have hcI:Hid (Calls Tryz.prog 148 #[.slice m1 m2 m3,.int .i64 (i:Int),.slice (some ⟨w6.heap.size,0,none⟩) 1 1] (w6.alloc (.cells #[.string ⟨pa.toArray⟩,.string ⟨og.toArray⟩,.slice bA bn bc,.slice zA zn zc,.slice oA on oc] 42)) fun e w' =>
    ∃ v,e=.returned v∧w'.ownsRow base 42 5 v (m2+1) ((cellsK encSet ml).take (i*5)++(encSet ⟨pa,og,⟨bA,bn,bc,bl⟩,⟨zA,zn,zc,zl⟩,⟨oA,on,oc,ol⟩⟩)++(cellsK encSet ml).drop (i*5))∧(w6.alloc (.cells #[.string ⟨pa.toArray⟩,.string ⟨og.toArray⟩,.slice bA bn bc,.slice zA zn zc,.slice oA on oc] 42)).grownBy w' (Value.slice m1 m2 m3).ownBlock) :=
  insSet_any (news:=#[.string ⟨pa.toArray⟩,.string ⟨og.toArray⟩,.slice bA bn bc,.slice zA zn zc,.slice oA on oc]) rfl (by simp [Value.oneCell']) (cellsK encSet ml) (cells_one encSet_one ml) w6.heap.size 42 base m2 i m1 m3 _ hil (own_mono ho7.sets.2 (by omega)) (by omega) (by have h:=hY2;omega) kn7 (fun e=>by have:=(ho6.sets.2.lt _ e).2;omega)
 clear hb6 hbs hsz3 hi hil hsz5 hsz6 HO5 K5 KZ5 KS5 HB5 HSO5 HSZ5 HYA ho6 k6 kz6 ks6 hbw6 hso6
 obtain ⟨W7,hW7⟩:∃ W,W=w6.alloc (.cells #[.string ⟨pa.toArray⟩,.string ⟨og.toArray⟩,.slice bA bn bc,.slice zA zn zc,.slice oA on oc] 42):=⟨_,rfl⟩
 rw [← hW7] at ho7 k7 kz7 hbw7 hso7 hsz7 hcI kn7
 have HO7:=Lib.hid ho7
 have K7:=Lib.hid k7
 have KZ7:=Lib.hid kz7
 have HB7:=Lib.hid hbw7
 have HSO7:=Lib.hid hso7
 have HSZ7:=Lib.hid hsz7
 clear ho7 k7 kz7 hbw7 hso7 hsz7 kn7
 go_wp2_with fail
 rw [← hW7]
 clear hW7
 refine hcI.out.mono ?_
 clear hcI
 rintro e w8 ⟨v,rfl,hv8,hg8⟩
 obtain ⟨v1,v3,rfl,_⟩:=own_form hv8
 obtain ⟨W9,hW9⟩:∃ W,W=w8.setCell ⟨g5,3,none⟩ (.slice v1 (m2+1) v3):=⟨_,rfl⟩
 have hne5:some g5≠(Value.slice m1 m2 m3).ownBlock:=fun e=>by have:=(HSET.out g5 e.symm).2;have:=HG5.out;omega
 have hneZ:some (w.heap.size+2)≠(Value.slice m1 m2 m3).ownBlock:=fun e=>by have:=(HSET.out _ e.symm).1;omega
 have k8:Blk w8 g5 27 #[.string ⟨mm.toArray⟩,.int .i64 mq,.int .i64 mx,.slice m1 m2 m3,.slice n1 n2 n3,.slice p1 p2 p3,.slice q1 q2 q3]:=by have:=K7.out;rw [← HG5.out] at this;exact this.grown hg8 hne5
 have kz8:=KZ7.out.grown hg8 hneZ
 have hb8:Below w.heap.size w w8:=HB7.out.grown hg8 (by have:=HSZ7.out;have:=HSZ6.out;omega) (fun k hk=>by have:=(HSET.out k hk).1;omega)
 have hsz8:=hg8.size
 have hY:Hid (∃ y:TenR,y.val=.agg #[.string ⟨mm.toArray⟩,.int .i64 mq,.int .i64 mx,.slice v1 (m2+1) v3,.slice n1 n2 n3,.slice p1 p2 p3,.slice q1 q2 q3]∧TenO w8 base y∧y.con=TenC.withS (TenR.con ⟨nm,qu,nx,⟨s1,sn,s3,sl⟩,⟨u1,un,u3,ul⟩,⟨t1,tn,t3,tl⟩,⟨l1,ln,l3,ll⟩⟩) (SetR.con ⟨pa,og,⟨bA,bn,bc,bl⟩,⟨zA,zn,zc,zl⟩,⟨oA,on,oc,ol⟩⟩)):=by
  have hms:m2=ml.length:=HO7.out.sets.1
  have hrow:cellsK encSet (ml.take i++[⟨pa,og,⟨bA,bn,bc,bl⟩,⟨zA,zn,zc,zl⟩,⟨oA,on,oc,ol⟩⟩]++ml.drop i)=(cellsK encSet ml).take (i*5)++(encSet ⟨pa,og,⟨bA,bn,bc,bl⟩,⟨zA,zn,zc,zl⟩,⟨oA,on,oc,ol⟩⟩)++(cellsK encSet ml).drop (i*5):=by
   rw [cellsK_append,cellsK_append,cellsK_take (enc:=encSet) (k:=5) (fun _=>rfl),cellsK_drop (enc:=encSet) (k:=5) (fun _=>rfl),cellsK_one]
  have hlen:(ml.take i++[(⟨pa,og,⟨bA,bn,bc,bl⟩,⟨zA,zn,zc,zl⟩,⟨oA,on,oc,ol⟩⟩:SetR)]++ml.drop i).length=m2+1:=by
   have:=HIL.out
   simp only [List.length_append,List.length_take,List.length_drop,List.length_cons,List.length_nil]
   omega
  have hk:∀ z:SetR,SetO W7 base z→SetO w8 base z:=fun z hz=>by
   cases he:(Value.slice m1 m2 m3).ownBlock with
   | none=>rw [he] at hg8;exact hz.below ⟨hg8.os,hg8.tape,hg8.output,hg8.size,fun k hk=>hg8.block k hk (by simp)⟩
   | some g =>
    rw [he] at hg8
    obtain ⟨h1,h2⟩:=HSET.out g he
    rcases HO7.out.sets.2.2 with ⟨e,_⟩ | ⟨g',cap,cur,e,_,hh,_⟩
    ·rw [show (Value.slice m1 m2 m3)=.slice none 0 0 from e] at he;simp [Value.ownBlock] at he
    ·rw [show (Value.slice m1 m2 m3)=.slice (some ⟨g',0,none⟩) m2 cap from e] at he
     have he:g'=g:=by simpa [Value.ownBlock] using he
     subst he
     exact hz.keptS hg8 (show Blk W7 g' 42 cur from hh)
  refine ⟨⟨mm,mq,mx,⟨v1,m2+1,v3,ml.take i++[⟨pa,og,⟨bA,bn,bc,bl⟩,⟨zA,zn,zc,zl⟩,⟨oA,on,oc,ol⟩⟩]++ml.drop i⟩,⟨n1,n2,n3,nl⟩,⟨p1,p2,p3,pl⟩,⟨q1,q2,q3,ql⟩⟩,rfl,?_,?_⟩
  ·refine TenO.setsO (HO7.out.mono (base':=base) (by have:=HBS.out;have:=HSZ3.out;omega)) ⟨v1,m2+1,v3,ml.take i++[⟨pa,og,⟨bA,bn,bc,bl⟩,⟨zA,zn,zc,zl⟩,⟨oA,on,oc,ol⟩⟩]++ml.drop i⟩ hg8 ⟨hlen.symm,?_⟩ ?_
   ·show World.ownsRow _ _ _ _ _ _ (cellsK encSet (ml.take i++[⟨pa,og,⟨bA,bn,bc,bl⟩,⟨zA,zn,zc,zl⟩,⟨oA,on,oc,ol⟩⟩]++ml.drop i))
    rw [hrow]
    exact hv8
   ·intro z hz
    simp only [List.mem_append,List.mem_cons,List.not_mem_nil,or_false] at hz
    rcases hz with (hz | rfl) | hz
    ·exact hk z ((HO7.out.eachS z (List.mem_of_mem_take hz)).mono (by have:=HBS.out;have:=HSZ3.out;omega))
    ·exact hk _ HSO7.out
    ·exact hk z ((HO7.out.eachS z (List.mem_of_mem_drop hz)).mono (by have:=HBS.out;have:=HSZ3.out;omega))
  ·rw [HCON.out,HI.out]
   exact con_withS ⟨mm,mq,mx,⟨m1,m2,m3,ml⟩,⟨n1,n2,n3,nl⟩,⟨p1,p2,p3,pl⟩,⟨q1,q2,q3,ql⟩⟩ ⟨pa,og,⟨bA,bn,bc,bl⟩,⟨zA,zn,zc,zl⟩,⟨oA,on,oc,ol⟩⟩ v1 (m2+1) v3
 obtain ⟨y,hyv,hyo,hyc⟩:=hY.out
 have hb9:=hb8.setCell (p:=⟨g5,3,none⟩) (by have:=HSZ6.out;have:=HG5.out;have:=HSZ4.out;simp only;omega) (.slice v1 (m2+1) v3)
 have k9:=k8.set_ 3 (.slice v1 (m2+1) v3)
 have kz9:=kz8.far (p:=⟨g5,3,none⟩) (by have:=HG5.out;have:=HSZ4.out;simp only;omega) (.slice v1 (m2+1) v3)
 have hyo9:=hyo.keptT (grown_box w8 g5 3 (.slice v1 (m2+1) v3)) k8 offT_ten
 simp only [List.setIfInBounds_toArray,zC,zB] at k9
 obtain ⟨W9,hW9⟩:∃ W,W=w8.setCell ⟨g5,3,none⟩ (.slice v1 (m2+1) v3):=⟨_,rfl⟩
 rw [← hW9] at hb9 k9 kz9 hyo9
 have HB9:=Lib.hid hb9
 have KZ9:=Lib.hid kz9
 have HYO9:=Lib.hid hyo9
 have HYV:=Lib.hid hyv
 have HYC:=Lib.hid hyc
 obtain ⟨d0,d1,d2,d3,d4,d5,d6⟩:=(⟨k9.cell 0,k9.cell 1,k9.cell 2,k9.cell 3,k9.cell 4,k9.cell 5,k9.cell 6⟩:_∧_∧_∧_∧_∧_∧_)
 simp only [zF,zD,zE] at d0 d1 d2 d3 d4 d5 d6
 have hth8:=k8.cell 3
 have hfz8:=k8.frozen 3
 simp only [zF,zD,zE] at hth8
 clear hb8 k8 kz8 hv8 hg8 hY hyo hyc hyv hb9 kz9 hyo9 hne5 hneZ hsz8 K7 KZ7 HB7 HSO7 HO7 HSET k9
 go_upto_region 4 with (fail)
 rw [← hW9]
 clear hW9 hth8 hfz8
 obtain ⟨WR,hW4,hth,HL,HBW,hgw⟩:=res7 (g:=(w.heap.size+2)) [.string ⟨mm.toArray⟩,.int .i64 mq,.int .i64 mx,.slice v1 (m2+1) v3,.slice n1 n2 n3,.slice p1 p2 p3,.slice q1 q2 q3] KZ9.out HB9.out (by omega)
 have HOO:=Lib.hid (TenO.keptT HYO9.out hgw KZ9.out offT_ten)
 clear hgw
 go_wp2_with (refine wpList_store_mid rfl 27 (.tmp 4) (.tmp 25) rfl ((w.heap.size+2)) 0 #[.string ⟨mm.toArray⟩,.int .i64 mq,.int .i64 mx,.slice v1 (m2+1) v3,.slice n1 n2 n3,.slice p1 p2 p3,.slice q1 q2 q3] rfl rfl hth.out (by kernel_rfl) (by simp [Value.oneCell']) ?_;rw [← hW4];clear hW4)
 exact bodyPost_ret (v:=.agg #[.string ⟨mm.toArray⟩,.int .i64 mq,.int .i64 mx,.slice v1 (m2+1) v3,.slice n1 n2 n3,.slice p1 p2 p3,.slice q1 q2 q3]) (results_cell rfl rfl HL.out) rfl ⟨y,by rw [HYV.out],HOO.out,HYC.out,HBW.out⟩
end Go.Proofs.YtcgclpcocdappaaGreatDoor
