/-
  slices.BinarySearchFunc at elements of 5 cells, by its contract. shape.With's order of sets; where a set is put. What is done to a block of another element type keeps a tenant of one's own. shape.With: a tenant with a set more. tree.Kids, by its contract. Drawn regions with guards: when an operation is wanted.
-/
import Derived.Test.YtiojfffgiejibaaGreatDoorQsM1
import Derived.Test.YtiojfffgiejibaaGreatDoorRows
import Derived.Handy
import Derived.WalkKit
import Derived.WalkSpells
import Derived.Below
import Derived.Laws.OwnMore
import Derived.Deep.AppendLies
import Derived.Deep.Draws
import Derived.Laws.Rows
import Derived.Maps.AppendAt
import Derived.RegionTactic
import Derived.OwnWalk
import Derived.Deep.QuietTactic
import Derived.BigQuiet
import Derived.Lib.Hide
import Derived.Laws.CopyOwn
import Derived.IntWalk
import Derived.Deep.Quiet
import Derived.Orders
import Derived.Sort.Walk0
import Derived.Sort.KeysCollected
import Derived.Laws.BytesString
import Derived.Laws.IdiomStrings
import Derived.Lib.ConvBytes
import Derived.Lib.Strings
import Derived.Lib.SplitLaws
import Derived.Lib.LastIndexByte
import Derived.ShutString
import Derived.Shelf.Strings.Search1
import Derived.Shelf.Strings.Search2
import Derived.Shelf.Strings.Search3
import Derived.Shelf.Strings.Cut
import Derived.Shelf.Strings.Count
import Derived.Shelf.LaysM
import Derived.Shelf.Strings.Shaped
import Derived.Shelf.Strings.LastIndex
import Derived.Shelf.Strings.Split
import Derived.Shelf.Strings.SplitShaped
import Derived.Shelf.Unicode.Decode
import Derived.Shelf.Strings.RuneCount
import Derived.Shelf.Strings.Explode
import Derived.Shelf.Unicode.DecodeSlow
import Derived.Shelf.Slices.Turned
import Derived.Test.YtiojfffgiejibaaGreatDoorProg
import Derived.Deep.MidRow
import Derived.ProofKit
import Derived.OpenShut
import Derived.ChangeOld
import Derived.Carry
import Derived.SizedLaws
import Derived.JoinedCond
import Derived.Deep.CondSized
import Derived.Deep.Slices
import Derived.Deep.Fields
import Derived.Lib.SmallJoins
import Derived.Lib.AppendZeros
import Derived.Lib.Overlaps
import Derived.Lib.AppendZerosOnto
import Derived.Deep.RegionLaw
import Derived.Deep.DeepCutAuto
import Derived.Great.BuildSlice
import Derived.Test.YtiojfffgiejibaaGreatDoorQ0
import Derived.Test.YtiojfffgiejibaaGreatDoorQs1
import Derived.Test.YtiojfffgiejibaaGreatDoorQs2
import Derived.Test.YtiojfffgiejibaaGreatDoorQs5
import Derived.Test.YtiojfffgiejibaaGreatDoorQs7
import Derived.Test.YtiojfffgiejibaaGreatDoorQs8
import Derived.Test.YtiojfffgiejibaaGreatDoorQs10
import Derived.Test.YtiojfffgiejibaaGreatDoorQs11
import Derived.Test.YtiojfffgiejibaaGreatDoorQs12
import Derived.Test.YtiojfffgiejibaaGreatDoorQs15
import Derived.Test.YtiojfffgiejibaaGreatDoorQs16
import Derived.Test.YtiojfffgiejibaaGreatDoorQs17
import Derived.Test.YtiojfffgiejibaaGreatDoorQs18
import Derived.Test.YtiojfffgiejibaaGreatDoorQs19
import Derived.Test.YtiojfffgiejibaaGreatDoorQs20
import Derived.Test.YtiojfffgiejibaaGreatDoorQs21
import Derived.Test.YtiojfffgiejibaaGreatDoorQs26
import Derived.Test.YtiojfffgiejibaaGreatDoorQs27
import Derived.Test.YtiojfffgiejibaaGreatDoorQs29
namespace Go.Proofs.YtiojfffgiejibaaGreatDoor
open Go.RowKit
set_option maxRecDepth 100000 in
set_option maxHeartbeats 1000000 in
theorem searchSet_any {α:Type} (f0 f1 f2 f3 f4:α→Value) (cf:α→Int) (l:List α) (hl:SignAsc cf l) (n:Nat) (hnl:n=l.length) (A:Option Addr) (c:Nat) (tgt:Value) (w:World) (B:Nat)
  (hr:Reads w B 5 A n (cellsK (fun x=>[f0 x,f1 x,f2 x,f3 x,f4 x]) l)) (hB:B≤w.heap.size) (hn:n≤5000000000000)
  (hcmp:∀ x W,Below w.heap.size w W→Calls Tryz.prog 89 #[.agg #[f0 x,f1 x,f2 x,f3 x,f4 x],tgt] W fun e W'=>e=.returned (.int .i64 (cf x))∧Below W.heap.size W W') :
  Calls Tryz.prog 88 #[.slice A n c,tgt,.func (.func 89) #[] #[]] w fun e w'=>e=.returned (.tuple #[.int .i64 (posF cf l),.bool (atF cf l)])∧Below w.heap.size w w':=by
 have HN:=Lib.hid hnl
 have HL:=Lib.hid hl
 have HC:=Lib.hid hcmp
 clear hnl hl hcmp
 go_enter Tryz.func88,Tryz.ntmps88
 go_wp2_with fail
 go_loopw [9,10] (fun i j wr=>∃ a b:Nat,a≤b∧b≤n∧i=.int .i64 (a:Int)∧j=.int .i64 (b:Int)∧Hid ((∀ (k:Nat) (x:α),k<a→l[k]?=some x→cf x<0)∧∀ (k:Nat) (x:α),b≤k→l[k]?=some x→0≤cf x)∧Below w.heap.size w wr) (fun i j _=>(intOf j).toNat-(intOf i).toNat)
 case atStart=>exact ⟨0,n,Nat.zero_le _,Nat.le_refl _,rfl,rfl,⟨fun k x hk _=>by omega,fun k x hk hx=>by have:=(List.getElem?_eq_some_iff.1 hx).1;have:=HN.out;omega⟩,Below.refl _ _⟩
 case round =>
  obtain ⟨a,b,hab,hbn,rfl,rfl,hI,hbw⟩:=hrel
  by_cases hlt:a<b
  ·obtain ⟨h,hh⟩:∃ h,h=(a+b) / 2:=⟨_,rfl⟩
   have hha:a≤h:=tZ1
   have hhb:h<b:=tZ1
   have hlI:(a:Int)<(b:Int):=tZ1
   have hrw:=hr.below (hbw.mono hB)
   obtain ⟨ad,rfl,hadB,c0,c1,c2,c3,c4⟩:=hrw.el5 HN.out (show h<n by omega)
   obtain ⟨x,hx⟩:∃ x,x=l[h]'tZ9:=⟨_,rfl⟩
   rw [← hx] at c0 c1 c2 c3 c4
   have HX:=Lib.hid (show l[h]?=some x by rw [hx];exact List.getElem?_eq_getElem _)
   have HH:=Lib.hid hh
   have hcx:=HC.out x wr hbw
   obtain ⟨z,hz⟩:∃ z,z=cf x:=⟨_,rfl⟩
   rw [← hz] at hcx
   have HZ:=Lib.hid hz
   clear hx hr hz
   rw [hh] at c0 c1 c2 c3 c4
   clear hh
   go_wp2_with fail
   refine hcx.mono ?_
   clear hcx
   rintro e w1 ⟨rfl,hb1⟩
   have hbw1:=hbw.trans (hb1.mono hbw.size)
   by_cases hz0:z<0
   ·go_wp2_with fail
    go_roundw
    case rel =>
     refine ⟨h+1,b,by omega,hbn,by rw [HH.out];go_num,rfl,⟨fun k y hk hy=>?_,hI.out.2⟩,hbw1⟩
     by_cases hkh:k=h
     ·subst hkh
      have:=HX.out
      rw [hy] at this
      cases this
      have:=HZ.out
      omega
     ·exact HL.out k h y x tZ1 hy HX.out (by have:=HZ.out;omega)
    case measure=>simp [intOf];omega
   ·go_wp2_with fail
    go_roundw
    case rel =>
     refine ⟨a,h,by omega,by omega,rfl,by rw [HH.out];go_num,⟨hI.out.1,fun k y hk hy=>?_⟩,hbw1⟩
     by_cases hkh:k=h
     ·subst hkh
      have:=HX.out
      rw [hy] at this
      cases this
      have:=HZ.out
      omega
     ·have h1:=HL.out h k x y tZ1 HX.out hy
      have:=HZ.out
      omega
    case measure=>simp [intOf];omega
  ·obtain rfl:a=b:=tZ1
   have hpos:posF cf l=a:=posF_eq cf l a tZ9 hI.out.1 (fun x hx=>hI.out.2 a x (Nat.le_refl _) hx)
   have hrw:=hr.below (hbw.mono hB)
   by_cases han:a<n
   ·obtain ⟨ad,rfl,hadB,c0,c1,c2,c3,c4⟩:=hrw.el5 HN.out han
    obtain ⟨x,hx⟩:∃ x,x=l[a]'tZ9:=⟨_,rfl⟩
    rw [← hx] at c0 c1 c2 c3 c4
    have hat:atF cf l=(cf x == 0):=by
     unfold atF
     rw [hpos,List.getElem?_eq_getElem tZ9,← hx]
     rfl
    have hcx:=HC.out x wr hbw
    obtain ⟨z,hz⟩:∃ z,z=cf x:=⟨_,rfl⟩
    rw [← hz] at hcx hat
    have HZ:=Lib.hid hz
    have HPOS:=Lib.hid hpos
    have HAT:=Lib.hid hat
    clear hx hr hrw hpos hat hz
    go_wp2_with fail
    refine hcx.mono ?_
    clear hcx
    rintro e w1 ⟨rfl,hb1⟩
    have hbw1:=hbw.trans (hb1.mono hbw.size)
    go_wp2_with fail
    go_ret2
    exact ⟨by rw [HPOS.out,HAT.out];rfl,hbw1⟩
   ·have hat:atF cf l=false:=by
     unfold atF
     rw [hpos,List.getElem?_eq_none tZ9]
     rfl
    have HPOS:=Lib.hid hpos
    have HAT:=Lib.hid hat
    clear hr hrw hpos hat
    go_wp2_with fail
    go_ret2
    exact ⟨by rw [HPOS.out,HAT.out];rfl,hbw⟩
end Go.Proofs.YtiojfffgiejibaaGreatDoor
namespace Go.Proofs.YtiojfffgiejibaaGreatDoor
open Go.RowKit
set_option maxRecDepth 100000 in
set_option maxHeartbeats 1000000 in
theorem with1_any (a o x:BS) (bA zA oA:Option Addr) (bn bc zn zc on oc:Nat) (w:World) :
  Calls Tryz.prog 89 #[.agg #[.string ⟨a.toArray⟩,.string ⟨o.toArray⟩,.slice bA bn bc,.slice zA zn zc,.slice oA on oc],.string ⟨x.toArray⟩] w fun e w'=>e=.returned (.int .i64 (cmpS a x))∧Below w.heap.size w w':=by
 have hb1:=(Below.refl w.heap.size w).alloc (Nat.le_refl _) (.cells #[.string ⟨a.toArray⟩,.string ⟨o.toArray⟩,.slice bA bn bc,.slice zA zn zc,.slice oA on oc] 56)
 go_enter Tryz.func89,Tryz.ntmps89
 go_wp2_with fail
 refine (compareS_any a x _).mono ?_
 rintro e w1 ⟨rfl,q,rfl⟩
 go_wp2_with fail
 go_ret
 exact ⟨rfl,below_drewN hb1 q⟩
set_option maxRecDepth 100000 in
/-- the place of a path among sets in order -/
theorem searchSets_any (l:List SetR) (p:BS) (hl:SignAsc (fun s:SetR=>cmpS s.path p) l) (n:Nat) (hnl:n=l.length) (A:Option Addr) (c:Nat) (w:World) (B:Nat) (hr:Reads w B 5 A n (cellsK encSet l)) (hB:B≤w.heap.size) (hn:n≤5000000000000) :
  Calls Tryz.prog 88 #[.slice A n c,.string ⟨p.toArray⟩,.func (.func 89) #[] #[]] w fun e w'=>e=.returned (.tuple #[.int .i64 (posF (fun s:SetR=>cmpS s.path p) l),.bool (atF (fun s:SetR=>cmpS s.path p) l)])∧Below w.heap.size w w' :=
 searchSet_any (fun s:SetR=>.string ⟨s.path.toArray⟩) (fun s=>.string ⟨s.org.toArray⟩) (fun s=>.slice s.body.A s.body.n s.body.c) (fun s=>.slice s.snaps.A s.snaps.n s.snaps.c) (fun s=>.slice s.own.A s.own.n s.own.c) (fun s:SetR=>cmpS s.path p) l hl n hnl A c (.string ⟨p.toArray⟩) w B hr hB hn
  fun x W _=>with1_any x.path x.org p x.body.A x.snaps.A x.own.A x.body.n x.body.c x.snaps.n x.snaps.c x.own.n x.own.c W
end Go.Proofs.YtiojfffgiejibaaGreatDoor
namespace Go.Proofs.YtiojfffgiejibaaGreatDoor
open Go.RowKit
/-- none of a tenant's rows is of this type -/
def offT (T:TypeId):Prop:=97≠T∧9≠T∧100≠T∧58≠T∧56≠T∧104≠T∧77≠T∧106≠T
theorem offT_ten:offT 27:=by unfold offT;decide
section
variable {w w':World} {base g:Nat} {cs:Array Value} {T:TypeId}
theorem SnapO.keptT {x:SnapR} (h:SnapO w base x) (hg:w.grownBy w' (some g)) (hb:Blk w g T cs) (hT:offT T):SnapO w' base x :=
 ⟨h.body.keptT hg hb hT.1,h.tags.keptT hg hb hT.2.1,h.own.keptT hg hb hT.2.2.1⟩
theorem SetO.keptT {x:SetR} (h:SetO w base x) (hg:w.grownBy w' (some g)) (hb:Blk w g T cs) (hT:offT T):SetO w' base x :=
 ⟨h.body.keptT hg hb hT.1,h.snaps.keptT hg hb hT.2.2.2.1,fun y hy=>(h.each y hy).keptT hg hb hT,h.own.keptT hg hb hT.2.2.1⟩
theorem StageO.keptT {x:StageR} (h:StageO w base x) (hg:w.grownBy w' (some g)) (hb:Blk w g T cs) (hT:offT T):StageO w' base x :=
 ⟨h.own.keptT hg hb hT.2.2.1,h.body.keptT hg hb hT.1⟩
theorem TenO.keptT {t:TenR} (h:TenO w base t) (hg:w.grownBy w' (some g)) (hb:Blk w g T cs) (hT:offT T):TenO w' base t :=
 ⟨h.sets.keptT hg hb hT.2.2.2.2.1,fun y hy=>(h.eachS y hy).keptT hg hb hT,h.grants.keptT hg hb hT.2.2.2.2.2.1,h.stages.keptT hg hb hT.2.2.2.2.2.2.1,fun y hy=>(h.eachG y hy).keptT hg hb hT,h.log.keptT hg hb hT.2.2.2.2.2.2.2⟩
end
end Go.Proofs.YtiojfffgiejibaaGreatDoor
namespace Go.Proofs.YtiojfffgiejibaaGreatDoor
open Go.RowKit
theorem encSet_one (x:SetR):∀ u∈encSet x,u.oneCell'=true:=by intro u hu;simp [encSet,strV,FS.val] at hu;rcases hu with rfl | rfl | rfl | rfl | rfl <;> rfl
set_option maxRecDepth 100000 in
set_option maxHeartbeats 4000000 in
theorem with_any (t:TenR) (s:SetR) (w:World) (B base:Nat) (hB:B≤w.heap.size) (hr:t.rd w B) (hz:t.sz) (hs:SetO w base s) (hbs:base≤w.heap.size) (hlt:t.sets.n≤1000000000) (hasc:SignAsc (fun x:SetR=>cmpS x.path s.path) t.sets.l) :
  Calls Tryz.prog 43 #[t.val,.agg (encSet s).toArray] w fun e w'=>∃ y:TenR,e=.returned y.val∧TenO w' base y∧y.con=t.con.withS s.con∧Below w.heap.size w w':=by
 obtain ⟨nm,qu,nx,⟨s1,sn,s3,sl⟩,⟨u1,un,u3,ul⟩,⟨t1,tn,t3,tl⟩,⟨l1,ln,l3,ll⟩⟩:=t
 obtain ⟨pa,og,⟨bA,bn,bc,bl⟩,⟨zA,zn,zc,zl⟩,⟨oA,on,oc,ol⟩⟩:=s
 show Calls Tryz.prog 43 #[.agg #[.string ⟨nm.toArray⟩,.int .i64 qu,.int .i64 nx,.slice s1 sn s3,.slice u1 un u3,.slice t1 tn t3,.slice l1 ln l3],.agg #[.string ⟨pa.toArray⟩,.string ⟨og.toArray⟩,.slice bA bn bc,.slice zA zn zc,.slice oA on oc]] w _
 have hb3:=((((Below.refl w.heap.size w).alloc (Nat.le_refl _) (.cells #[.string ⟨nm.toArray⟩,.int .i64 qu,.int .i64 nx,.slice s1 sn s3,.slice u1 un u3,.slice t1 tn t3,.slice l1 ln l3] 27)).alloc tZ3 (.cells #[.string ⟨pa.toArray⟩,.string ⟨og.toArray⟩,.slice bA bn bc,.slice zA zn zc,.slice oA on oc] 56)).alloc tZ7 (.cells #[.string ⟨#[]⟩,.int .i64 0,.int .i64 0,.slice none 0 0,.slice none 0 0,.slice none 0 0,.slice none 0 0] 27))
 have kT:=((Blk.new w 27 #[.string ⟨nm.toArray⟩,.int .i64 qu,.int .i64 nx,.slice s1 sn s3,.slice u1 un u3,.slice t1 tn t3,.slice l1 ln l3]).alloc (.cells #[.string ⟨pa.toArray⟩,.string ⟨og.toArray⟩,.slice bA bn bc,.slice zA zn zc,.slice oA on oc] 56)).alloc (.cells #[.string ⟨#[]⟩,.int .i64 0,.int .i64 0,.slice none 0 0,.slice none 0 0,.slice none 0 0,.slice none 0 0] 27)
 have kS:=(Blk.new (w.alloc (.cells #[.string ⟨nm.toArray⟩,.int .i64 qu,.int .i64 nx,.slice s1 sn s3,.slice u1 un u3,.slice t1 tn t3,.slice l1 ln l3] 27)) 56 #[.string ⟨pa.toArray⟩,.string ⟨og.toArray⟩,.slice bA bn bc,.slice zA zn zc,.slice oA on oc]).alloc (.cells #[.string ⟨#[]⟩,.int .i64 0,.int .i64 0,.slice none 0 0,.slice none 0 0,.slice none 0 0,.slice none 0 0] 27)
 have kZ:=Blk.new ((w.alloc (.cells #[.string ⟨nm.toArray⟩,.int .i64 qu,.int .i64 nx,.slice s1 sn s3,.slice u1 un u3,.slice t1 tn t3,.slice l1 ln l3] 27)).alloc (.cells #[.string ⟨pa.toArray⟩,.string ⟨og.toArray⟩,.slice bA bn bc,.slice zA zn zc,.slice oA on oc] 56)) 27 #[.string ⟨#[]⟩,.int .i64 0,.int .i64 0,.slice none 0 0,.slice none 0 0,.slice none 0 0,.slice none 0 0]
 rw [show (w.alloc (.cells #[.string ⟨nm.toArray⟩,.int .i64 qu,.int .i64 nx,.slice s1 sn s3,.slice u1 un u3,.slice t1 tn t3,.slice l1 ln l3] 27)).heap.size=w.heap.size+1 by simp] at kS
 rw [show ((w.alloc (.cells #[.string ⟨nm.toArray⟩,.int .i64 qu,.int .i64 nx,.slice s1 sn s3,.slice u1 un u3,.slice t1 tn t3,.slice l1 ln l3] 27)).alloc (.cells #[.string ⟨pa.toArray⟩,.string ⟨og.toArray⟩,.slice bA bn bc,.slice zA zn zc,.slice oA on oc] 56)).heap.size=w.heap.size+2 by simp] at kZ
 have hsz3:(((w.alloc (.cells #[.string ⟨nm.toArray⟩,.int .i64 qu,.int .i64 nx,.slice s1 sn s3,.slice u1 un u3,.slice t1 tn t3,.slice l1 ln l3] 27)).alloc (.cells #[.string ⟨pa.toArray⟩,.string ⟨og.toArray⟩,.slice bA bn bc,.slice zA zn zc,.slice oA on oc] 56)).alloc (.cells #[.string ⟨#[]⟩,.int .i64 0,.int .i64 0,.slice none 0 0,.slice none 0 0,.slice none 0 0,.slice none 0 0] 27)).heap.size=w.heap.size+3:=tZ3
 obtain ⟨W3,hW3⟩:∃ W,W=(((w.alloc (.cells #[.string ⟨nm.toArray⟩,.int .i64 qu,.int .i64 nx,.slice s1 sn s3,.slice u1 un u3,.slice t1 tn t3,.slice l1 ln l3] 27)).alloc (.cells #[.string ⟨pa.toArray⟩,.string ⟨og.toArray⟩,.slice bA bn bc,.slice zA zn zc,.slice oA on oc] 56)).alloc (.cells #[.string ⟨#[]⟩,.int .i64 0,.int .i64 0,.slice none 0 0,.slice none 0 0,.slice none 0 0,.slice none 0 0] 27)):=⟨_,rfl⟩
 rw [← hW3] at hb3 kT kS kZ hsz3
 have hCP:Hid (Calls Tryz.prog 54 #[.agg #[.string ⟨nm.toArray⟩,.int .i64 qu,.int .i64 nx,.slice s1 sn s3,.slice u1 un u3,.slice t1 tn t3,.slice l1 ln l3]] W3 fun e w'=>∃ y:TenR,e=.returned y.val∧TenO w' W3.heap.size y∧TenR.eqv ⟨nm,qu,nx,⟨s1,sn,s3,sl⟩,⟨u1,un,u3,ul⟩,⟨t1,tn,t3,tl⟩,⟨l1,ln,l3,ll⟩⟩ y∧Below W3.heap.size W3 w') :=
  tcopy_any ⟨nm,qu,nx,⟨s1,sn,s3,sl⟩,⟨u1,un,u3,ul⟩,⟨t1,tn,t3,tl⟩,⟨l1,ln,l3,ll⟩⟩ W3 B tZ1 (TenR.rd.below hr (hb3.mono hB)) hz
 have HSN:=Lib.hid (show sl.length≤1000000000 by have h:=hr.sets.1;simp only at h hlt;omega)
 have HASC:=Lib.hid hasc
 have HSO3:=Lib.hid (hs.below (hb3.mono (Nat.le_refl _)))
 have HB3:=Lib.hid hb3
 have KS3:=Lib.hid kS
 have KZ3:=Lib.hid kZ
 have HSZ3:=Lib.hid hsz3
 have HBS:=Lib.hid hbs
 obtain ⟨c0,c1,c2,c3,c4,c5,c6⟩:=(⟨kT.cell 0,kT.cell 1,kT.cell 2,kT.cell 3,kT.cell 4,kT.cell 5,kT.cell 6⟩:_∧_∧_∧_∧_∧_∧_)
 simp only [zF,zD,zE] at c0 c1 c2 c3 c4 c5 c6
 clear hb3 kS kZ hr hz hs hlt hasc hsz3 kT hbs
 go_enter Tryz.func43,Tryz.ntmps43
 go_wp2_with fail
 rw [← hW3]
 clear hW3
 refine hCP.out.mono ?_
 clear hCP c0 c1 c2 c3 c4 c5 c6
 rintro e w4 ⟨y,rfl,ho4,he4,hb4⟩
 have HCON:=Lib.hid ((TenR.eqv_iff _ _).1 he4)
 have HE4:=Lib.hid he4
 have hY2:y.sets.n≤1000000000:=by
  have h1:=he4.lenS
  have h2:=ho4.sets.1
  simp only at h1
  have:=HSN.out
  omega
 have hYA:SignAsc (fun x:SetR=>cmpS x.path pa) y.sets.l:=by
  refine asc_eqv _ _ pa ?_ HASC.out
  have h:=congrArg (fun c:TenC=>c.sets.map SetC.path) HCON.out
  simpa [TenR.con,List.map_map,SetR.con,Function.comp_def] using h
 have HYA:=Lib.hid hYA
 obtain ⟨mm,mq,mx,⟨m1,m2,m3,ml⟩,⟨n1,n2,n3,nl⟩,⟨p1,p2,p3,pl⟩,⟨q1,q2,q3,ql⟩⟩:=y
 simp only [TenR.val,TenR.cells,FS.val,strV]
 have hszb:=HSZ3.out
 have hsz4:=hb4.size
 have kz4:=KZ3.out.below hb4 KZ3.out.lt
 have ks4:=KS3.out.below hb4 KS3.out.lt
 have hbw4:=HB3.out.trans (hb4.mono tZ1)
 have hso4:=HSO3.out.below hb4
 have ho5:=ho4.below ((Below.refl w4.heap.size w4).alloc (Nat.le_refl _) (.cells #[.string ⟨mm.toArray⟩,.int .i64 mq,.int .i64 mx,.slice m1 m2 m3,.slice n1 n2 n3,.slice p1 p2 p3,.slice q1 q2 q3] 27))
 have k5:=Blk.new w4 27 #[.string ⟨mm.toArray⟩,.int .i64 mq,.int .i64 mx,.slice m1 m2 m3,.slice n1 n2 n3,.slice p1 p2 p3,.slice q1 q2 q3]
 have kz5:=kz4.alloc (.cells #[.string ⟨mm.toArray⟩,.int .i64 mq,.int .i64 mx,.slice m1 m2 m3,.slice n1 n2 n3,.slice p1 p2 p3,.slice q1 q2 q3] 27)
 have ks5:=ks4.alloc (.cells #[.string ⟨mm.toArray⟩,.int .i64 mq,.int .i64 mx,.slice m1 m2 m3,.slice n1 n2 n3,.slice p1 p2 p3,.slice q1 q2 q3] 27)
 have hbw5:=hbw4.alloc tZ1 (.cells #[.string ⟨mm.toArray⟩,.int .i64 mq,.int .i64 mx,.slice m1 m2 m3,.slice n1 n2 n3,.slice p1 p2 p3,.slice q1 q2 q3] 27)
 have hso5:=hso4.below ((Below.refl w4.heap.size w4).alloc (Nat.le_refl _) (.cells #[.string ⟨mm.toArray⟩,.int .i64 mq,.int .i64 mx,.slice m1 m2 m3,.slice n1 n2 n3,.slice p1 p2 p3,.slice q1 q2 q3] 27))
 have hsz5:(w4.alloc (.cells #[.string ⟨mm.toArray⟩,.int .i64 mq,.int .i64 mx,.slice m1 m2 m3,.slice n1 n2 n3,.slice p1 p2 p3,.slice q1 q2 q3] 27)).heap.size=w4.heap.size+1:=tZ3
 have hset:∀ g,(FS.val (⟨m1,m2,m3,ml⟩:FS SetR)).ownBlock=some g→w.heap.size+3≤g∧g<w4.heap.size:=fun g e=>by
  have:=ho4.sets.2.lt _ e
  omega
 have HSET:=Lib.hid hset
 have HSZ4:=Lib.hid (show w.heap.size+3≤w4.heap.size by omega)
 obtain ⟨g5,hg5⟩:∃ g,g=w4.heap.size:=⟨_,rfl⟩
 go_wp2_with (refine wpList_store_new w4 rfl 27 (.tmp 5) (.tmp 9) rfl 27 [.string ⟨#[]⟩,.int .i64 0,.int .i64 0,.slice none 0 0,.slice none 0 0,.slice none 0 0,.slice none 0 0] [.string ⟨mm.toArray⟩,.int .i64 mq,.int .i64 mx,.slice m1 m2 m3,.slice n1 n2 n3,.slice p1 p2 p3,.slice q1 q2 q3] rfl rfl rfl tZ2 tZ5 ?_;obtain ⟨W5,hW5⟩:∃ W,W=w4.alloc (.cells #[.string ⟨mm.toArray⟩,.int .i64 mq,.int .i64 mx,.slice m1 m2 m3,.slice n1 n2 n3,.slice p1 p2 p3,.slice q1 q2 q3] 27):=⟨_,rfl⟩;rw [show ([.string ⟨mm.toArray⟩,.int .i64 mq,.int .i64 mx,.slice m1 m2 m3,.slice n1 n2 n3,.slice p1 p2 p3,.slice q1 q2 q3]:List Value).toArray=#[.string ⟨mm.toArray⟩,.int .i64 mq,.int .i64 mx,.slice m1 m2 m3,.slice n1 n2 n3,.slice p1 p2 p3,.slice q1 q2 q3] from rfl,← hW5];rw [← hW5] at ho5 k5 kz5 ks5 hbw5 hso5 hsz5;have HO5:=Lib.hid ho5;have K5:=Lib.hid k5;have KZ5:=Lib.hid kz5;have KS5:=Lib.hid ks5;have HB5:=Lib.hid hbw5;have HSO5:=Lib.hid hso5;have HSZ5:=Lib.hid hsz5;have HG5:=Lib.hid hg5;have d3:=k5.cell 3;have e0:=ks5.cell 0;simp only [zF,zD,zE] at d3 e0;rw [← hg5] at d3 ⊢;have hcS:=Lib.hid (searchSets_any ml pa HYA.out m2 ho5.sets.1 m1 m3 W5 W5.heap.size ho5.rd.sets.2.2 (Nat.le_refl _) (by have h:=hY2;simp only at h;omega));clear hW5 hb4 ho4 ho5 k5 kz5 ks5 hbw5 hso5 hsz5 kz4 ks4 hbw4 hso4 hset HSO3 KZ3 KS3 HB3 hg5)
 refine hcS.out.mono ?_
 clear hcS
 rintro e w6 ⟨rfl,hb6⟩
 obtain ⟨i,hi⟩:∃ i,i=posF (fun s:SetR=>cmpS s.path pa) ml:=⟨_,rfl⟩
 rw [← hi]
 have hil:i≤m2:=by have h:=HO5.out.sets.1;simp only at h;rw [hi];have:=posF_le (fun s:SetR=>cmpS s.path pa) ml;omega
 have HI:=Lib.hid hi
 have HIL:=Lib.hid hil
 have hsz5:=HSZ5.out
 have hsz6:=hb6.size
 have HSZ6:=Lib.hid (show w.heap.size+3≤w6.heap.size∧g5<w6.heap.size by have:=HG5.out;omega)
 have ho6:=HO5.out.below hb6
 have k6:=K5.out.below hb6 K5.out.lt
 have kz6:=KZ5.out.below hb6 KZ5.out.lt
 have ks6:=KS5.out.below hb6 KS5.out.lt
 have hbw6:=HB5.out.trans (hb6.mono tZ1)
 have hso6:=HSO5.out.below hb6
 have ho7:=ho6.below ((Below.refl w6.heap.size w6).alloc (Nat.le_refl _) (.cells #[.string ⟨pa.toArray⟩,.string ⟨og.toArray⟩,.slice bA bn bc,.slice zA zn zc,.slice oA on oc] 56))
 have kn7:=Blk.new w6 56 #[.string ⟨pa.toArray⟩,.string ⟨og.toArray⟩,.slice bA bn bc,.slice zA zn zc,.slice oA on oc]
 have k7:=k6.alloc (.cells #[.string ⟨pa.toArray⟩,.string ⟨og.toArray⟩,.slice bA bn bc,.slice zA zn zc,.slice oA on oc] 56)
 have kz7:=kz6.alloc (.cells #[.string ⟨pa.toArray⟩,.string ⟨og.toArray⟩,.slice bA bn bc,.slice zA zn zc,.slice oA on oc] 56)
 have hbw7:=hbw6.alloc tZ1 (.cells #[.string ⟨pa.toArray⟩,.string ⟨og.toArray⟩,.slice bA bn bc,.slice zA zn zc,.slice oA on oc] 56)
 have hso7:=hso6.below ((Below.refl w6.heap.size w6).alloc (Nat.le_refl _) (.cells #[.string ⟨pa.toArray⟩,.string ⟨og.toArray⟩,.slice bA bn bc,.slice zA zn zc,.slice oA on oc] 56))
 have hsz7:(w6.alloc (.cells #[.string ⟨pa.toArray⟩,.string ⟨og.toArray⟩,.slice bA bn bc,.slice zA zn zc,.slice oA on oc] 56)).heap.size=w6.heap.size+1:=tZ3
 have d3:=k6.cell 3
 obtain ⟨e0,e1,e2,e3,e4⟩:=(⟨ks6.cell 0,ks6.cell 1,ks6.cell 2,ks6.cell 3,ks6.cell 4⟩:_∧_∧_∧_∧_)
 simp only [zF,zD,zE] at e0 e1 e2 e3 e4
 simp only [zF,zD,zE] at d3
 rw [← HG5.out] at d3
 have hbs:=HBS.out
 have hsz3:=HSZ3.out
 have hcI:Hid (Calls Tryz.prog 91 #[.slice m1 m2 m3,.int .i64 (i:Int),.slice (some ⟨w6.heap.size,0,none⟩) 1 1] (w6.alloc (.cells #[.string ⟨pa.toArray⟩,.string ⟨og.toArray⟩,.slice bA bn bc,.slice zA zn zc,.slice oA on oc] 56)) fun e w' =>
    ∃ v,e=.returned v∧w'.ownsRow base 56 5 v (m2+1) ((cellsK encSet ml).take (i*5)++(encSet ⟨pa,og,⟨bA,bn,bc,bl⟩,⟨zA,zn,zc,zl⟩,⟨oA,on,oc,ol⟩⟩)++(cellsK encSet ml).drop (i*5))∧(w6.alloc (.cells #[.string ⟨pa.toArray⟩,.string ⟨og.toArray⟩,.slice bA bn bc,.slice zA zn zc,.slice oA on oc] 56)).grownBy w' (Value.slice m1 m2 m3).ownBlock) :=
  insSet_any (news:=#[.string ⟨pa.toArray⟩,.string ⟨og.toArray⟩,.slice bA bn bc,.slice zA zn zc,.slice oA on oc]) rfl tZ5 (cellsK encSet ml) (cells_one encSet_one ml) w6.heap.size 56 base m2 i m1 m3 _ hil (own_mono ho7.sets.2 tZ1) tZ1 (by have h:=hY2;omega) kn7 (fun e=>by have:=(ho6.sets.2.lt _ e).2;omega)
 clear hb6 hbs hsz3 hi hil hsz5 hsz6 HO5 K5 KZ5 KS5 HB5 HSO5 HSZ5 HYA ho6 k6 kz6 ks6 hbw6 hso6
 obtain ⟨W7,hW7⟩:∃ W,W=w6.alloc (.cells #[.string ⟨pa.toArray⟩,.string ⟨og.toArray⟩,.slice bA bn bc,.slice zA zn zc,.slice oA on oc] 56):=⟨_,rfl⟩
 rw [← hW7] at ho7 k7 kz7 hbw7 hso7 hsz7 hcI kn7
 have HO7:=Lib.hid ho7
 have K7:=Lib.hid k7
 have KZ7:=Lib.hid kz7
 have HB7:=Lib.hid hbw7
 have HSO7:=Lib.hid hso7
 have HSZ7:=Lib.hid hsz7
 clear ho7 k7 kz7 hbw7 hso7 hsz7 kn7
 go_wp2_with fail
 rw [← hW7]
 clear hW7
 refine hcI.out.mono ?_
 clear hcI
 rintro e w8 ⟨v,rfl,hv8,hg8⟩
 obtain ⟨v1,v3,rfl,_⟩:=own_form hv8
 obtain ⟨W9,hW9⟩:∃ W,W=w8.setCell ⟨g5,3,none⟩ (.slice v1 (m2+1) v3):=⟨_,rfl⟩
 have hne5:some g5≠(Value.slice m1 m2 m3).ownBlock:=fun e=>by have:=(HSET.out g5 e.symm).2;have:=HG5.out;omega
 have hneZ:some (w.heap.size+2)≠(Value.slice m1 m2 m3).ownBlock:=fun e=>by have:=(HSET.out _ e.symm).1;omega
 have k8:Blk w8 g5 27 #[.string ⟨mm.toArray⟩,.int .i64 mq,.int .i64 mx,.slice m1 m2 m3,.slice n1 n2 n3,.slice p1 p2 p3,.slice q1 q2 q3]:=by have:=K7.out;rw [← HG5.out] at this;exact this.grown hg8 hne5
 have kz8:=KZ7.out.grown hg8 hneZ
 have hb8:Below w.heap.size w w8:=HB7.out.grown hg8 (by have:=HSZ7.out;have:=HSZ6.out;omega) (fun k hk=>by have:=(HSET.out k hk).1;omega)
 have hsz8:=hg8.size
 have hY:Hid (∃ y:TenR,y.val=.agg #[.string ⟨mm.toArray⟩,.int .i64 mq,.int .i64 mx,.slice v1 (m2+1) v3,.slice n1 n2 n3,.slice p1 p2 p3,.slice q1 q2 q3]∧TenO w8 base y∧y.con=TenC.withS (TenR.con ⟨nm,qu,nx,⟨s1,sn,s3,sl⟩,⟨u1,un,u3,ul⟩,⟨t1,tn,t3,tl⟩,⟨l1,ln,l3,ll⟩⟩) (SetR.con ⟨pa,og,⟨bA,bn,bc,bl⟩,⟨zA,zn,zc,zl⟩,⟨oA,on,oc,ol⟩⟩)):=by
  have hms:m2=ml.length:=HO7.out.sets.1
  have hrow:cellsK encSet (ml.take i++[⟨pa,og,⟨bA,bn,bc,bl⟩,⟨zA,zn,zc,zl⟩,⟨oA,on,oc,ol⟩⟩]++ml.drop i)=(cellsK encSet ml).take (i*5)++(encSet ⟨pa,og,⟨bA,bn,bc,bl⟩,⟨zA,zn,zc,zl⟩,⟨oA,on,oc,ol⟩⟩)++(cellsK encSet ml).drop (i*5):=by
   rw [cellsK_append,cellsK_append,cellsK_take (enc:=encSet) (k:=5) (fun _=>rfl),cellsK_drop (enc:=encSet) (k:=5) (fun _=>rfl),cellsK_one]
  have hlen:(ml.take i++[(⟨pa,og,⟨bA,bn,bc,bl⟩,⟨zA,zn,zc,zl⟩,⟨oA,on,oc,ol⟩⟩:SetR)]++ml.drop i).length=m2+1:=by
   have:=HIL.out
   exact mZ154
  have hk:∀ z:SetR,SetO W7 base z→SetO w8 base z:=fun z hz=>by
   cases he:(Value.slice m1 m2 m3).ownBlock with
   | none=>rw [he] at hg8;exact hz.below ⟨hg8.os,hg8.tape,hg8.output,hg8.size,fun k hk=>hg8.block k hk tZ3⟩
   | some g =>
    rw [he] at hg8
    obtain ⟨h1,h2⟩:=HSET.out g he
    rcases HO7.out.sets.2.2 with ⟨e,_⟩ | ⟨g',cap,cur,e,_,hh,_⟩
    ·rw [show (Value.slice m1 m2 m3)=.slice none 0 0 from e] at he;simp [Value.ownBlock] at he
    ·rw [show (Value.slice m1 m2 m3)=.slice (some ⟨g',0,none⟩) m2 cap from e] at he
     have he:g'=g:=tZ60
     subst he
     exact hz.keptS hg8 (show Blk W7 g' 56 cur from hh)
  refine ⟨⟨mm,mq,mx,⟨v1,m2+1,v3,ml.take i++[⟨pa,og,⟨bA,bn,bc,bl⟩,⟨zA,zn,zc,zl⟩,⟨oA,on,oc,ol⟩⟩]++ml.drop i⟩,⟨n1,n2,n3,nl⟩,⟨p1,p2,p3,pl⟩,⟨q1,q2,q3,ql⟩⟩,rfl,?_,?_⟩
  ·refine TenO.setsO (HO7.out.mono (base':=base) tZ77) ⟨v1,m2+1,v3,ml.take i++[⟨pa,og,⟨bA,bn,bc,bl⟩,⟨zA,zn,zc,zl⟩,⟨oA,on,oc,ol⟩⟩]++ml.drop i⟩ hg8 ⟨hlen.symm,?_⟩ ?_
   ·show World.ownsRow _ _ _ _ _ _ (cellsK encSet (ml.take i++[⟨pa,og,⟨bA,bn,bc,bl⟩,⟨zA,zn,zc,zl⟩,⟨oA,on,oc,ol⟩⟩]++ml.drop i))
    rw [hrow]
    exact hv8
   ·intro z hz
    simp only [List.mem_append,List.mem_cons,List.not_mem_nil,or_false] at hz
    rcases hz with (hz | rfl) | hz
    ·exact hk z ((HO7.out.eachS z (List.mem_of_mem_take hz)).mono tZ77)
    ·exact hk _ HSO7.out
    ·exact hk z ((HO7.out.eachS z (List.mem_of_mem_drop hz)).mono tZ77)
  ·rw [HCON.out,HI.out]
   exact con_withS ⟨mm,mq,mx,⟨m1,m2,m3,ml⟩,⟨n1,n2,n3,nl⟩,⟨p1,p2,p3,pl⟩,⟨q1,q2,q3,ql⟩⟩ ⟨pa,og,⟨bA,bn,bc,bl⟩,⟨zA,zn,zc,zl⟩,⟨oA,on,oc,ol⟩⟩ v1 (m2+1) v3
 obtain ⟨y,hyv,hyo,hyc⟩:=hY.out
 have hb9:=hb8.setCell (p:=⟨g5,3,none⟩) (by have:=HSZ6.out;have:=HG5.out;have:=HSZ4.out;simp only;omega) (.slice v1 (m2+1) v3)
 have k9:=k8.set_ 3 (.slice v1 (m2+1) v3)
 have kz9:=kz8.far (p:=⟨g5,3,none⟩) (by have:=HG5.out;have:=HSZ4.out;simp only;omega) (.slice v1 (m2+1) v3)
 have hyo9:=hyo.keptT (grown_box w8 g5 3 (.slice v1 (m2+1) v3)) k8 offT_ten
 simp only [List.setIfInBounds_toArray,zC,zB] at k9
 obtain ⟨W9,hW9⟩:∃ W,W=w8.setCell ⟨g5,3,none⟩ (.slice v1 (m2+1) v3):=⟨_,rfl⟩
 rw [← hW9] at hb9 k9 kz9 hyo9
 have HB9:=Lib.hid hb9
 have KZ9:=Lib.hid kz9
 have HYO9:=Lib.hid hyo9
 have HYV:=Lib.hid hyv
 have HYC:=Lib.hid hyc
 obtain ⟨d0,d1,d2,d3,d4,d5,d6⟩:=(⟨k9.cell 0,k9.cell 1,k9.cell 2,k9.cell 3,k9.cell 4,k9.cell 5,k9.cell 6⟩:_∧_∧_∧_∧_∧_∧_)
 simp only [zF,zD,zE] at d0 d1 d2 d3 d4 d5 d6
 have hth8:=k8.cell 3
 have hfz8:=k8.frozen 3
 simp only [zF,zD,zE] at hth8
 clear hb8 k8 kz8 hv8 hg8 hY hyo hyc hyv hb9 kz9 hyo9 hne5 hneZ hsz8 K7 KZ7 HB7 HSO7 HO7 HSET k9
 go_upto_region 4 with (fail)
 rw [← hW9]
 clear hW9 hth8 hfz8
 obtain ⟨WR,hW4,hth,HL,HBW,hgw⟩:=res7 (g:=(w.heap.size+2)) [.string ⟨mm.toArray⟩,.int .i64 mq,.int .i64 mx,.slice v1 (m2+1) v3,.slice n1 n2 n3,.slice p1 p2 p3,.slice q1 q2 q3] KZ9.out HB9.out tZ1
 have HOO:=Lib.hid (TenO.keptT HYO9.out hgw KZ9.out offT_ten)
 clear hgw
 go_wp2_with (refine wpList_store_mid rfl 27 (.tmp 4) (.tmp 25) rfl ((w.heap.size+2)) 0 #[.string ⟨mm.toArray⟩,.int .i64 mq,.int .i64 mx,.slice v1 (m2+1) v3,.slice n1 n2 n3,.slice p1 p2 p3,.slice q1 q2 q3] rfl rfl hth.out tZ2 tZ5 ?_;rw [← hW4];clear hW4)
 exact bodyPost_ret (v:=.agg #[.string ⟨mm.toArray⟩,.int .i64 mq,.int .i64 mx,.slice v1 (m2+1) v3,.slice n1 n2 n3,.slice p1 p2 p3,.slice q1 q2 q3]) (results_cell rfl rfl HL.out) rfl ⟨y,by rw [HYV.out],HOO.out,HYC.out,HBW.out⟩
end Go.Proofs.YtiojfffgiejibaaGreatDoor
namespace Go.Proofs.YtiojfffgiejibaaGreatDoor
open Go.RowKit
theorem kidsL_snoc (l:List SetR) (x:SetR) (p:BS):kidsL (l++[x]) p=kidsL l p++(if parB x.path=some p then [x.path] else []):=by
 unfold kidsL
 rw [List.filter_append,List.map_append]
 congr 1
 by_cases h:parB x.path=some p
 ·rw [if_pos h,List.filter_cons_of_pos tZ50];rfl
 ·rw [if_neg h,List.filter_cons_of_neg tZ50];rfl
set_option maxRecDepth 100000 in
set_option maxHeartbeats 4000000 in
theorem kids_any (v0 v1 v2 v4 v5 v6:Value) (l:List SetR) (n:Nat) (hnl:n=l.length) (A:Option Addr) (c:Nat) (p:BS) (w:World) (B:Nat) (hr:Reads w B 5 A n (cellsK encSet l)) (hB:B≤w.heap.size) (hn:n≤1000000000000) (hv:∀ y∈l,y.path.length≤4000000000) (hmx:HasMax w) :
  Calls Tryz.prog 51 #[.agg #[v0,v1,v2,.slice A n c,v4,v5,v6],.string ⟨p.toArray⟩] w fun e w'=>∃ A1 c1,e=.returned (.slice A1 (kidsL l p).length c1)∧w'.ownsRow w.heap.size 9 1 (.slice A1 (kidsL l p).length c1) (kidsL l p).length (scells (kidsL l p))∧Below w.heap.size w w':=by
 obtain ⟨i0,hi0,hz0,hz1,hz2⟩:=info_parts Tryz.infoS
 have HN:=Lib.hid hnl
 have hb1:=(Below.refl w.heap.size w).alloc (Nat.le_refl _) (.cells #[v0,v1,v2,.slice A n c,v4,v5,v6] 27)
 have kT:=Blk.new w 27 #[v0,v1,v2,.slice A n c,v4,v5,v6]
 obtain ⟨W1,hW1⟩:∃ W,W=w.alloc (.cells #[v0,v1,v2,.slice A n c,v4,v5,v6] 27):=⟨_,rfl⟩
 have hsz1:W1.heap.size=w.heap.size+1:=tZ32
 rw [← hW1] at hb1 kT
 have hT:Hid (∀ W',Below W1.heap.size W1 W'→W'.cell? ⟨w.heap.size,3,none⟩=some (.slice A n c)):=fun W' hB'=>(kT.below hB' tZ1).cell 3
 have hR:=Lib.hid (fun (W':World) (hB':Below W1.heap.size W1 W')=>(⟨hr.below ((hb1.trans (hB'.mono tZ1)).mono hB),hmx.below (hb1.trans (hB'.mono tZ1))⟩:Reads W' B 5 A n (cellsK encSet l)∧HasMax W'))
 have HB1:=Lib.hid hb1
 have HSZ1:=Lib.hid hsz1
 have HVS:=Lib.hid hv
 obtain ⟨KL,hKL⟩:∃ K,K=kidsL l p:=⟨_,rfl⟩
 rw [← hKL]
 have HKL:=Lib.hid hKL
 clear hnl hr kT hsz1 hv hKL
 go_enter Tryz.func51,Tryz.ntmps51
 go_wp2_with fail
 rw [← hW1]
 clear hW1
 go_loopw [5,13] (fun a j wr=>∃ (k m:Nat) (A1:Option Addr) (c1:Nat),k≤n∧m≤k∧a=.slice A1 m c1∧j=.int .i64 (k:Int)∧Hid (m=(kidsL (l.take k) p).length)∧wr.ownsRow W1.heap.size 9 1 (.slice A1 m c1) m (scells (kidsL (l.take k) p))∧Below W1.heap.size W1 wr) (fun _ j _=>n-(intOf j).toNat)
 case atStart=>exact ⟨0,0,none,0,Nat.zero_le _,Nat.zero_le _,rfl,rfl,rfl,⟨rfl,.inl ⟨rfl,rfl⟩⟩,Below.refl _ _⟩
 case round =>
  clear hb1
  obtain ⟨k,m,A1,c1,hk,hmk,rfl,rfl,hml,hown,hbw⟩:=hrel
  by_cases hlt:k<n
  ·obtain ⟨hrw,hmw⟩:=hR.out _ hbw
   obtain ⟨ad,rfl,-,c0,c1',c2,c3,c4⟩:=set_at hrw HN.out hlt
   have hki:(k:Int)<(n:Int):=tZ1
   have hkl:k<l.length:=tZ9
   obtain ⟨x,hx⟩:∃ x,x=l[k]'hkl:=⟨_,rfl⟩
   have hxl:=HVS.out x tZ12
   rw [← hx] at c0 c1' c2 c3 c4
   have htk:=List.take_succ_eq_append_getElem hkl
   rw [← hx] at htk
   have HNT:Hid (kidsL (l.take (k+1)) p=kidsL (l.take k) p++(if parB x.path=some p then [x.path] else [])):=by
    show _=_
    rw [htk,kidsL_snoc]
   obtain ⟨W0,hW0⟩:∃ W0,W0=wr.alloc (.cells #[.string ⟨x.path.toArray⟩,.string ⟨x.org.toArray⟩,.slice x.body.A x.body.n x.body.c,.slice x.snaps.A x.snaps.n x.snaps.c,.slice x.own.A x.own.n x.own.c] 56):=⟨_,rfl⟩
   have hblk:Blk W0 wr.heap.size 56 #[.string ⟨x.path.toArray⟩,.string ⟨x.org.toArray⟩,.slice x.body.A x.body.n x.body.c,.slice x.snaps.A x.snaps.n x.snaps.c,.slice x.own.A x.own.n x.own.c]:=tZ46
   have hszW:W0.heap.size=wr.heap.size+1:=tZ15
   have hwr:=hbw.size
   have hsz1:=HSZ1.out
   have hb1W:Below W1.heap.size W1 W0:=tZ31
   have HB2:=Lib.hid hb1W
   have HSZ:=Lib.hid hszW
   have hpn:=parent_any ⟨x.path.toArray⟩ W0 (by show x.path.length≤_;exact hxl) (hR.out _ hb1W).2
   rw [show (ByteArray.mk x.path.toArray).data.toList=x.path from rfl] at hpn
   have hown0:Hid (∀ W,Below W0.heap.size W0 W→W.ownsRow W1.heap.size 9 1 (.slice A1 m c1) m (scells (kidsL (l.take k) p))∧W.cell? ⟨wr.heap.size,0,none⟩=some (.string ⟨x.path.toArray⟩)):=by
    exact mZ158
   obtain ⟨xp,xo,⟨b1,b2,b3,bl⟩,⟨s1,s2,s3,sl⟩,⟨o1,o2,o3,ol⟩⟩:=x
   simp only at c0 c1' c2 c3 c4 HNT hW0 hpn hown0
   clear hx htk hxl hblk hrw hown hR hT hmw
   go_wp2_with fail
   rw [← hW0]
   clear hW0 hszW c0 c1' c2 c3 c4
   refine hpn.mono ?_
   clear hpn
   rintro e w4 ⟨hb4,⟨hpar,rfl⟩ | ⟨hne,hpb,rfl⟩⟩
   ·have HNT2:Hid (kidsL (l.take (k+1)) p=kidsL (l.take k) p):=by
     show _=_
     rw [HNT.out]
     unfold parB
     rw [if_pos hpar]
     simp
    have ho4:=(hown0.out _ hb4).1
    have hbf:=HB2.out.trans (hb4.mono tZ6)
    clear hpar hown0 hb4
    exact mZ156
   ·have hpe:parB xp=some (upL xp):=by
     exact mZ96
    rw [hpe] at HNT
    obtain ⟨ho4,q0⟩:=hown0.out _ hb4
    have hbf:=HB2.out.trans (hb4.mono tZ6)
    have hbF:=HB1.out.trans (hbf.mono tZ1)
    have hbase:=hbf.size
    obtain ⟨up,hup⟩:∃ u,u=upL xp:=⟨_,rfl⟩
    rw [← hup] at HNT ⊢
    clear hne hpb hpe hup hown0 hb4
    by_cases hupp:up=p
    ·subst hupp
     have HNT2:Hid (kidsL (l.take (k+1)) up=kidsL (l.take k) up++[xp]):=by
      show _=_
      rw [HNT.out,if_pos rfl]
     clear HNT
     go_wp2_with (at_builtin;(refine wpList_push w4 rfl (.tmp 29) (.tmp 32) 51 rfl W1.heap.size 9 i0 (.string ByteArray.empty) 1 16 Tryz.underlying51 hi0 hz0 hz1 hz2 rfl tZ1 (.slice A1 m c1) m _ rfl ho4 1 #[.string ⟨xp.toArray⟩] 9 rfl rfl tZ5 tZ11 tZ1 hbase ?_);intro v' w' ho' hb' hg')
     obtain ⟨A2,c2,rfl,_,_,_⟩:=own_form ho'
     have hb'2:=hbf.trans hb'
     go_wp2_with fail
     go_roundw
     case rel=>exact ⟨k+1,m+1,A2,c2,by omega,by omega,rfl,by go_num,by show _=_;rw [HNT2.out,List.length_append,← hml.out];rfl,by rw [HNT2.out,scells_append];exact ho',hb'2⟩
     case measure=>simp [intOf];omega
    ·have hne:(up == p)=false:=by simpa using hupp
     have HNT2:Hid (kidsL (l.take (k+1)) p=kidsL (l.take k) p):=by
      show _=_
      rw [HNT.out,if_neg (by intro e;exact hupp (Option.some.inj e))]
      simp
     clear hupp
     exact mZ156
  ·have hkn:k=n:=tZ1
   have hall:l.take k=l:=List.take_of_length_le tZ14
   rw [hall,← HKL.out] at hown
   have HM:Hid (m=KL.length):=tZ120
   have HO:=Lib.hid (own_mono hown (show w.heap.size≤W1.heap.size by have:=HSZ1.out;omega))
   have HBF:=Lib.hid (HB1.out.trans (hbw.mono tZ13))
   clear hkn hall hml hown hbw
   go_wp2_with fail
   go_ret
   refine ⟨A1,c1,by rw [← HM.out];rfl,by rw [← HM.out];exact HO.out,HBF.out⟩
end Go.Proofs.YtiojfffgiejibaaGreatDoor
namespace Go.Proofs.YtiojfffgiejibaaGreatDoor
open Go.RowKit
theorem wanted_of {ops:Array Oper} {o:Oper} {A:Act} {g k:Nat} {b:Bool} (hg:o.guard=some (g,b)) (hd:(ops[g]?).bind (·.dst)=some k) (h:A.tmps[k]?.getD undef=.bool b):Region.wanted o (yielded ops A.tmps)=true:=by
 have h1:A.tmps[k]?=some (.bool b):=by
  cases hk:A.tmps[k]? with
  | none=>rw [hk] at h;cases h
  | some x=>rw [hk] at h;exact congrArg some h
 simp [Region.wanted,hg,yielded,hd,h1]
theorem unwanted_of {ops:Array Oper} {o:Oper} {A:Act} {g k:Nat} {b:Bool} (hg:o.guard=some (g,b)) (hd:(ops[g]?).bind (·.dst)=some k) (h:A.tmps[k]?.getD undef=.bool (!b)∨A.tmps[k]?.getD undef=undef):¬ Region.wanted o (yielded ops A.tmps)=true:=by
 have hy:∀ v,A.tmps[k]?.getD undef=v→yielded ops A.tmps g=match v with | .bool b=>some b | _=>none:=by
  rintro v rfl
  unfold yielded
  rw [hd]
  simp only [Option.bind_some]
  cases A.tmps[k]? with
  | none=>rfl
  | some v=>cases v <;> rfl
 rcases h with h | h
 ·simp [Region.wanted,hg,hy _ h]
 ·have:=hy _ h
  simp [Region.wanted,hg,this,undef]
/-- what lies in the slot of an operation that has come up -/
theorem tO {ops:Array Oper} {a0 A:Act} {m:Nat→Option Value} {k i:Nat} {v:Value} (hA:A=frameM a0 ops m) (hv:m i=some v) (hw:ownerOf ops k=some i:=by kernel_rfl) (hk:k<a0.tmps.size:=by exact of_decide_eq_true tZ2):A.tmps[k]?.getD undef=v:=by
 rw [hA]
 exact tmps_own hw hv hk
/-- what lies in a slot of no operation's -/
theorem tF {ops:Array Oper} {a0 A:Act} {m:Nat→Option Value} {k:Nat} {v:Value} (hA:A=frameM a0 ops m) (hw:ownerOf ops k=none:=by kernel_rfl) (hv:a0.tmps[k]?.getD undef=v:=by rfl):A.tmps[k]?.getD undef=v:=by
 rw [hA,← hv]
 exact tmps_free hw
/-- an operation whose value is said -/
theorem dV {m:Nat→Option Value} {j:Nat} {p:Value→Prop} {val:Value} (h:∃ v,m j=some v∧p v) (hp:∀ v,p v→v=val:=by exact fun _ h=>h):m j=some val:=by
 obtain ⟨v,h1,h2⟩:=h
 rw [h1,hp v h2]
/-- what lies in the slot of an operation that this one waits for -/
theorem eD {o:Oper} {Gs:List (Value→World→Prop)} {W:World} {ops:Array Oper} {a0 A:Act} {m:Nat→Option Value} {val:Value}
  (hd:∀ e∈o.after,Region.binds .any e=true→∃ v,m e.on=some v∧Says Gs e.on v W) (hA:A=frameM a0 ops m) (j k:Nat)
  (hm:(o.after.any fun e=>Region.binds .any e && e.on == j)=true:=by kernel_rfl)
  (hp:∀ v,Says Gs j v W→v=val:=by exact fun _ h=>h) (hw:ownerOf ops k=some j:=by kernel_rfl) (hk:k<a0.tmps.size:=by exact of_decide_eq_true tZ2):A.tmps[k]?.getD undef=val:=by
 obtain ⟨i,hi,hm⟩:=Array.any_eq_true.1 hm
 obtain ⟨e,he⟩:∃ e,e=o.after[i]:=⟨_,rfl⟩
 rw [← he] at hm
 have he:e∈o.after:=by rw [he];exact Array.getElem_mem hi
 have hb:Region.binds .any e=true:=by cases h:Region.binds .any e <;> simp [h] at hm ⊢
 obtain rfl:e.on=j:=by simpa [hb] using hm
 obtain ⟨v,h1,h2⟩:=hd e he hb
 rw [hA]
 exact tmps_own hw (h1.trans (congrArg some (hp v h2))) hk
/-- the end of a step of one value -/
theorem zP {p:Prop} (h:p:=by
 try clear hdeps
 try clear hcl
 try clear hmi
 have hK0:=hK _ _ (Below.refl _ _) (Eq.refl _)
 clear hA hK
 go_simp
 exact hK0):p:=h
end Go.Proofs.YtiojfffgiejibaaGreatDoor
