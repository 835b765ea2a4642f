/-
  tree.sets, by its contract.
-/
import Derived.Test.YtiojfffgiejibaaGreatDoorQsM1
import Derived.WalkKit
import Derived.WalkSpells
import Derived.Below
import Derived.Laws.OwnMore
import Derived.Deep.AppendLies
import Derived.Deep.Draws
import Derived.Laws.Rows
import Derived.Maps.AppendAt
import Derived.RegionTactic
import Derived.OwnWalk
import Derived.Deep.QuietTactic
import Derived.BigQuiet
import Derived.Lib.Hide
import Derived.Laws.CopyOwn
import Derived.IntWalk
import Derived.Test.YtiojfffgiejibaaGreatDoorRows
import Derived.Handy
import Derived.Deep.Quiet
import Derived.Orders
import Derived.Lib.SplitLaws
import Derived.Lib.LastIndexByte
import Derived.Lib.Strings
import Derived.ShutString
import Derived.Sort.Walk0
import Derived.Sort.KeysCollected
import Derived.Shelf.Strings.Search1
import Derived.Shelf.Strings.Search2
import Derived.Shelf.Strings.Search3
import Derived.Shelf.Strings.Cut
import Derived.Shelf.Strings.Count
import Derived.Shelf.LaysM
import Derived.Shelf.Strings.Shaped
import Derived.Shelf.Strings.LastIndex
import Derived.Shelf.Strings.Split
import Derived.Shelf.Strings.SplitShaped
import Derived.Shelf.Unicode.Decode
import Derived.Shelf.Strings.RuneCount
import Derived.Shelf.Strings.Explode
import Derived.Shelf.Unicode.DecodeSlow
import Derived.Shelf.Slices.Turned
import Derived.Test.YtiojfffgiejibaaGreatDoorProg
import Derived.Laws.BytesString
import Derived.Laws.IdiomStrings
import Derived.Lib.ConvBytes
import Derived.Test.YtiojfffgiejibaaGreatDoorQ0
import Derived.Test.YtiojfffgiejibaaGreatDoorQs1
import Derived.Test.YtiojfffgiejibaaGreatDoorQs2
import Derived.Test.YtiojfffgiejibaaGreatDoorQs3
import Derived.Test.YtiojfffgiejibaaGreatDoorQs4
import Derived.Test.YtiojfffgiejibaaGreatDoorQs5
import Derived.Test.YtiojfffgiejibaaGreatDoorQs6
import Derived.Test.YtiojfffgiejibaaGreatDoorQs7
import Derived.Test.YtiojfffgiejibaaGreatDoorQs9
import Derived.Test.YtiojfffgiejibaaGreatDoorQs10
import Derived.Test.YtiojfffgiejibaaGreatDoorQs12
namespace Go.Proofs.YtiojfffgiejibaaGreatDoor
open Go.RowKit
def prevT (l:List SetR) (k:Nat):Option BS:=match k with
 | 0=>none
 | j+1=>(l[j]?).map (·.path)
theorem setsFrom_cons (all:List SetR) (p:Option BS) (s:SetR) (l:List SetR):setsFrom all p (s :: l)=(setB all s && (match p with | none=>true | some q=>Op.bytesLess q s.path) && setsFrom all (some s.path) l):=by cases p <;> rfl
theorem setB_eq (all:List SetR) (s:SetR):setB all s=(pathB s.path && (match parB s.path with | none=>true | some u=>all.any fun x=>x.path == u) && propsB s.own.l && okL s.body.l && snapsB s.snaps.l && originP all s.path s.org):=rfl
set_option maxRecDepth 100000 in
set_option maxHeartbeats 8000000 in
theorem sets_any (v0 v1 v2 v4 v5 v6:Value) (l:List SetR) (n:Nat) (hnl:n=l.length) (A:Option Addr) (c:Nat) (w:World) (B:Nat) (hr:Reads w B 5 A n (cellsK encSet l)) (he:∀ y∈l,y.rd w B) (hB:B≤w.heap.size) (hn:n≤1000000000000) (hv:∀ y∈l,y.sz) (hmx:HasMax w) :
  Calls Tryz.prog 106 #[.agg #[v0,v1,v2,.slice A n c,v4,v5,v6]] w fun e w'=>e=.returned (.bool (setsB l))∧Below w.heap.size w w':=by
 have hb1:=(Below.refl w.heap.size w).alloc (Nat.le_refl _) (.cells #[v0,v1,v2,.slice A n c,v4,v5,v6] 27)
 have kT:=Blk.new w 27 #[v0,v1,v2,.slice A n c,v4,v5,v6]
 obtain ⟨W1,hW1⟩:∃ W,W=w.alloc (.cells #[v0,v1,v2,.slice A n c,v4,v5,v6] 27):=⟨_,rfl⟩
 have hsz1:W1.heap.size=w.heap.size+1:=tZ32
 rw [← hW1] at hb1 kT
 have HN:=Lib.hid hnl
 have HVB:Hid (setsB l=(decide (n≤32) && (l.any fun x=>x.path == []) && setsFrom l none l)):=by show _=_;unfold setsB;rw [hnl]
 obtain ⟨V,hV⟩:∃ V,V=setsB l:=⟨_,rfl⟩
 rw [← hV] at HVB ⊢
 have hR:=Lib.hid (fun (W':World) (hB':Below W1.heap.size W1 W')=>(⟨hr.below ((hb1.trans (hB'.mono tZ1)).mono hB),hB'.size,hmx.below (hb1.trans (hB'.mono tZ1)),fun y hy=>⟨(he y hy).body.below ((hb1.trans (hB'.mono tZ1)).mono hB),(he y hy).snaps.below ((hb1.trans (hB'.mono tZ1)).mono hB),fun z hz=>⟨((he y hy).each z hz).body.below ((hb1.trans (hB'.mono tZ1)).mono hB),((he y hy).each z hz).tags.below ((hb1.trans (hB'.mono tZ1)).mono hB),((he y hy).each z hz).own.below ((hb1.trans (hB'.mono tZ1)).mono hB)⟩,(he y hy).own.below ((hb1.trans (hB'.mono tZ1)).mono hB)⟩⟩:Reads W' B 5 A n (cellsK encSet l)∧W1.heap.size≤W'.heap.size∧HasMax W'∧∀ y∈l,y.rd W' B))
 have hT:=Lib.hid (fun (W':World) (hB':Below W1.heap.size W1 W') =>
  (⟨(kT.below hB' tZ1).cell 0,(kT.below hB' tZ1).cell 1,(kT.below hB' tZ1).cell 2,(kT.below hB' tZ1).cell 3,(kT.below hB' tZ1).cell 4,(kT.below hB' tZ1).cell 5,(kT.below hB' tZ1).cell 6⟩ :
   W'.cell? ⟨w.heap.size,0,none⟩=some v0∧W'.cell? ⟨w.heap.size,1,none⟩=some v1∧W'.cell? ⟨w.heap.size,2,none⟩=some v2∧W'.cell? ⟨w.heap.size,3,none⟩=some (.slice A n c)∧W'.cell? ⟨w.heap.size,4,none⟩=some v4∧W'.cell? ⟨w.heap.size,5,none⟩=some v5∧W'.cell? ⟨w.heap.size,6,none⟩=some v6))
 have HB0:=Lib.hid hb1
 have HSZ1:=Lib.hid hsz1
 have HVS:=Lib.hid hv
 clear hnl hV hb1 kT hr he hv hsz1
 by_cases hn32:32<n
 ·have hi:(32:Int)<(n:Int):=tZ1
  have HF:Hid (V=false):=by show _=_;rw [HVB.out,decide_eq_false tZ1];rfl
  go_enter Tryz.func106,Tryz.ntmps106
  go_wp2_with fail
  rw [← hW1]
  go_ret
  exact ⟨by rw [HF.out];rfl,HB0.out⟩
 have hi:¬ (32:Int)<(n:Int):=tZ1
 have HVB2:Hid (V=((l.any fun x=>x.path == []) && setsFrom l none l)):=by show _=_;rw [HVB.out,decide_eq_true tZ1];rfl
 have hfi:=find_any v0 v1 v2 v4 v5 v6 l n HN.out A c [] W1 B (hR.out _ (Below.refl _ _)).1 tZ13 tZ1
 have hfa:=firstI_any (fun x:SetR=>x.path == []) l
 obtain ⟨z0,hz0⟩:∃ z,z=findS l []:=⟨_,rfl⟩
 rw [show firstI (fun x:SetR=>x.path == []) l=z0 from hz0.symm] at hfa
 rw [← hz0] at hfi
 clear hz0
 by_cases hz:z0<0
 ·have HF:Hid (V=false):=by show _=_;rw [HVB2.out,← hfa,decide_eq_false tZ1];rfl
  clear hfa
  go_enter Tryz.func106,Tryz.ntmps106
  go_wp2_with fail
  rw [← hW1]
  refine hfi.mono ?_
  rintro e w1 ⟨rfl,hb2⟩
  go_wp2_with fail
  go_ret
  exact ⟨by rw [HF.out];rfl,HB0.out.trans (hb2.mono tZ13)⟩
 have HVB3:Hid (V=setsFrom l none l):=by show _=_;rw [HVB2.out,← hfa,decide_eq_true tZ1];rfl
 clear hfa
 go_enter Tryz.func106,Tryz.ntmps106
 go_wp2_with fail
 rw [← hW1]
 refine hfi.mono ?_
 clear hfi
 rintro e w1 ⟨rfl,hb2⟩
 obtain ⟨t0,t1,t2,t3,t4,t5,t6⟩:=hT.out _ hb2
 go_wp2_with fail
 clear t0 t1 t2 t3 t4 t5 t6 hz
 go_loopw [19] (fun j wr=>∃ k:Nat,k≤n∧j=.int .i64 (k:Int)∧Hid (V=setsFrom l (prevT l k) (l.drop k))∧Below W1.heap.size W1 wr) (fun j _=>n-(intOf j).toNat)
 case atStart=>exact ⟨0,Nat.zero_le _,rfl,HVB3.out,hb2⟩
 case round =>
  clear hb2
  obtain ⟨k,hk,rfl,hok,hbw⟩:=hrel
  by_cases hlt:k<n
  ·obtain ⟨hrw,-,-,hew⟩:=hR.out _ hbw
   obtain ⟨ad,rfl,hadB,c0,c1,c2,c3,c4⟩:=set_at hrw HN.out hlt
   have hki:(k:Int)<(n:Int):=tZ1
   have hkl:k<l.length:=tZ9
   obtain ⟨x,hx⟩:∃ x,x=l[k]'hkl:=⟨_,rfl⟩
   have hxm:x∈l:=tZ12
   have hxs:=HVS.out x hxm
   rw [← hx] at c0 c1 c2 c3 c4
   have hdr:=List.drop_eq_getElem_cons hkl
   rw [← hx] at hdr
   have hbad:Hid ((pathB x.path=false∨(∃ y,prevT l k=some y∧Op.bytesLess y x.path=false)∨(∃ u,parB x.path=some u∧(l.any fun y=>y.path == u)=false)∨propsB x.own.l=false∨okL x.body.l=false∨snapsB x.snaps.l=false∨originP l x.path x.org=false)→V=false):=by
    show _→_
    intro h
    rw [hok.out,hdr,setsFrom_cons,setB_eq]
    rcases h with h | ⟨y,hy,h⟩ | ⟨u,hu,h⟩ | h | h | h | h
    ·rw [h];simp
    ·rw [hy];simp only [h];simp
    ·rw [hu];simp only [h];simp
    ·rw [h];simp
    ·rw [h];simp
    ·rw [h];simp
    ·rw [h];simp
   have hgood:Hid (pathB x.path=true→(∀ y,prevT l k=some y→Op.bytesLess y x.path=true)→(∀ u,parB x.path=some u→(l.any fun y=>y.path == u)=true)→propsB x.own.l=true→okL x.body.l=true→snapsB x.snaps.l=true→originP l x.path x.org=true→Hid (V=setsFrom l (prevT l (k+1)) (l.drop (k+1)))):=by
    show _→_→_→_→_→_→_→_
    intro h1 h2 h3 h4 h5 h6 h7
    show _=_
    rw [hok.out,hdr,setsFrom_cons,setB_eq]
    have hp:prevT l (k+1)=some x.path:=by
     exact mZ71
    rw [hp,h1,h4,h5,h6,h7]
    cases hq:prevT l k with
    | none =>
     cases hu:parB x.path with
     | none=>rfl
     | some u=>simp only [h3 u hu];rfl
    | some y =>
     simp only [h2 y hq]
     cases hu:parB x.path with
     | none=>rfl
     | some u=>simp only [h3 u hu];rfl
   have hprev:(decide ((0:Int)<(k:Int))=false∧decide (0<k)=false∧Hid (∀ y,prevT l k=some y→Op.bytesLess y x.path=true))∨(decide ((0:Int)<(k:Int))=true∧decide (0<k)=true∧(1:Int)≤(k:Int)∧(k:Int)-1<(n:Int)∧IntKind.i64.wrap ((k:Int)-1)=(k:Int)-1∧((k:Int)-1).toNat=k-1∧∃ yp,Hid ((Op.bytesLess yp x.path=true→∀ y,prevT l k=some y→Op.bytesLess y x.path=true)∧(Op.bytesLess yp x.path=false→∃ y,prevT l k=some y∧Op.bytesLess y x.path=false))∧Hid (∃ h:k-1<l.length,yp=(l[k-1]'h).path)):=by
    rcases Nat.eq_zero_or_pos k with h0 | h0
    ·exact mZ70
    ·have hk1l:k-1<l.length:=tZ1
     have hpv:prevT l k=some (l[k-1]'hk1l).path:=by
      exact mZ69
     refine .inr ⟨by simp;omega,by simp;omega,by omega,by omega,IntWalk.i64_in _ tZ1,by omega,(l[k-1]'hk1l).path,?_,⟨hk1l,rfl⟩⟩
     exact mZ68
   obtain ⟨W0,hW0⟩:∃ W0,W0=wr.alloc (.cells #[.string ⟨x.path.toArray⟩,.string ⟨x.org.toArray⟩,.slice x.body.A x.body.n x.body.c,.slice x.snaps.A x.snaps.n x.snaps.c,.slice x.own.A x.own.n x.own.c] 56):=⟨_,rfl⟩
   have hblk:Blk W0 wr.heap.size 56 #[.string ⟨x.path.toArray⟩,.string ⟨x.org.toArray⟩,.slice x.body.A x.body.n x.body.c,.slice x.snaps.A x.snaps.n x.snaps.c,.slice x.own.A x.own.n x.own.c]:=tZ46
   have hszW:W0.heap.size=wr.heap.size+1:=tZ15
   have hlt0:wr.heap.size<W0.heap.size:=tZ1
   have HSZ:=Lib.hid hszW
   have hwr:=hbw.size
   have hsz1:=HSZ1.out
   have hb1W:Below W1.heap.size W1 W0:=tZ31
   have hbW:=HB0.out.trans (hb1W.mono tZ1)
   have HB1:=Lib.hid hb1W
   have hto:Hid (∀ W,Below W0.heap.size W0 W→Below W1.heap.size W1 W):=fun W hb=>hb1W.trans (hb.mono tZ1)
   have hPa:Hid (∀ W,Below W0.heap.size W0 W→Calls Tryz.prog 72 #[.string ⟨x.path.toArray⟩] W fun e W'=>e=.returned (.bool (pathB x.path))∧Below W.heap.size W W'):=fun W hb =>
    path_any ⟨x.path.toArray⟩ W tZ53 (hR.out _ (hto.out _ hb)).2.2.1
   have hPn:Hid (∀ W,Below W0.heap.size W0 W→Calls Tryz.prog 41 #[.string ⟨x.path.toArray⟩] W fun e W'=>Below W.heap.size W W'∧((x.path=[]∨pathB x.path=false)∧e=.returned (.tuple #[.string ⟨#[]⟩,.bool false])∨x.path≠[]∧pathB x.path=true∧e=.returned (.tuple #[.string ⟨(upL x.path).toArray⟩,.bool true]))):=fun W hb =>
    parent_any ⟨x.path.toArray⟩ W tZ53 (hR.out _ (hto.out _ hb)).2.2.1
   have hFi:Hid (∀ W,Below W0.heap.size W0 W→Calls Tryz.prog 42 #[.agg #[v0,v1,v2,.slice (some ad) n c,v4,v5,v6],.string ⟨(upL x.path).toArray⟩] W fun e W'=>e=.returned (.int .i64 (findS l (upL x.path)))∧Below W.heap.size W W'):=fun W hb =>
    find_any v0 v1 v2 v4 v5 v6 l n HN.out (some ad) c (upL x.path) W B (hR.out _ (hto.out _ hb)).1 tZ20 tZ1
   have hBk:Hid (∀ W,Below W0.heap.size W0 W→Calls Tryz.prog 145 #[.slice x.body.A x.body.n x.body.c] W fun e W'=>e=.returned (.int .i64 (if okL x.body.l=true then 0 else 9))∧Below W.heap.size W W'):=fun W hb=>by
    have hrd:=(hR.out _ (hto.out _ hb)).2.2.2 x hxm
    exact checkBk_any x.body.l x.body.n hrd.body.1 x.body.A x.body.c W B hrd.body.2.2 tZ20 tZ127
   have hPr:Hid (∀ W,Below W0.heap.size W0 W→Calls Tryz.prog 144 #[.slice x.own.A x.own.n x.own.c] W fun e W'=>e=.returned (.int .i64 (if propsB x.own.l=true then 0 else 9))∧Below W.heap.size W W'):=fun W hb=>by
    have hrd:=(hR.out _ (hto.out _ hb)).2.2.2 x hxm
    exact checkP_any x.own.l x.own.n hrd.own.1 x.own.A x.own.c W B hrd.own.2.2 tZ20 (by have:=hxs.own;omega) (fun p hp=>by have:=hxs.props p hp;omega)
   have hSn:Hid (∀ W,Below W0.heap.size W0 W→Calls Tryz.prog 146 #[.slice x.snaps.A x.snaps.n x.snaps.c] W fun e W'=>e=.returned (.bool (snapsB x.snaps.l))∧Below W.heap.size W W'):=fun W hb=>by
    have hrd:=(hR.out _ (hto.out _ hb)).2.2.2 x hxm
    exact snaps_any x.snaps.l x.snaps.n hrd.snaps.1 x.snaps.A x.snaps.c W B hrd.snaps.2.2 hrd.each tZ20 hxs.snaps hxs.each
   have hOr:Hid (∀ W,Below W0.heap.size W0 W→Calls Tryz.prog 147 #[.agg #[v0,v1,v2,.slice (some ad) n c,v4,v5,v6],.agg #[.string ⟨x.path.toArray⟩,.string ⟨x.org.toArray⟩,.slice x.body.A x.body.n x.body.c,.slice x.snaps.A x.snaps.n x.snaps.c,.slice x.own.A x.own.n x.own.c]] W fun e W'=>e=.returned (.bool (originP l x.path x.org))∧Below W.heap.size W W'):=fun W hb=>by
    obtain ⟨r1,-,r3,r4⟩:=hR.out _ (hto.out _ hb)
    exact origin_any v0 v1 v2 v4 v5 v6 _ _ _ l n HN.out (some ad) c x.path x.org W B r1 r4 tZ20 hn HVS.out hxs.org r3
   have hS:Hid (∀ W,Below W0.heap.size W0 W→W.cell? ⟨w.heap.size,0,none⟩=some v0∧W.cell? ⟨w.heap.size,1,none⟩=some v1∧W.cell? ⟨w.heap.size,2,none⟩=some v2∧W.cell? ⟨w.heap.size,3,none⟩=some (.slice (some ad) n c)∧W.cell? ⟨w.heap.size,4,none⟩=some v4∧W.cell? ⟨w.heap.size,5,none⟩=some v5∧W.cell? ⟨w.heap.size,6,none⟩=some v6 ∧
     W.cell? ⟨wr.heap.size,0,none⟩=some (.string ⟨x.path.toArray⟩)∧W.cell? ⟨wr.heap.size,1,none⟩=some (.string ⟨x.org.toArray⟩)∧W.cell? ⟨wr.heap.size,2,none⟩=some (.slice x.body.A x.body.n x.body.c)∧W.cell? ⟨wr.heap.size,3,none⟩=some (.slice x.snaps.A x.snaps.n x.snaps.c)∧W.cell? ⟨wr.heap.size,4,none⟩=some (.slice x.own.A x.own.n x.own.c) ∧
     ∀ yp,(∃ h:k-1<l.length,yp=(l[k-1]'h).path)→W.cell? (ad.add ((k-1)*5))=some (.string ⟨yp.toArray⟩)):=by
    show ∀ W,_→_
    intro W hb
    have hb2:=hblk.below hb hlt0
    obtain ⟨t0,t1,t2,t3,t4,t5,t6⟩:=hT.out _ (hto.out _ hb)
    refine ⟨t0,t1,t2,t3,t4,t5,t6,hb2.cell 0,hb2.cell 1,hb2.cell 2,hb2.cell 3,hb2.cell 4,?_⟩
    rintro yp ⟨h,rfl⟩
    obtain ⟨ad2,e2,-,p1,-⟩:=set_at (hR.out _ (hto.out _ hb)).1 HN.out (i:=k-1) tZ1
    injection e2 with e2
    subst e2
    exact p1
   have HFL:Hid (∀ u,parB x.path=some u→(findS l u<0→(l.any fun y=>y.path == u)=false)∧(0≤findS l u→(l.any fun y=>y.path == u)=true)):=by
    show ∀ u,_→_
    intro u _
    have:=firstI_any (fun y:SetR=>y.path == u) l
    rw [← this]
    exact ⟨fun h=>decide_eq_false (by show ¬ (0:Int)≤findS l u;omega),fun h=>decide_eq_true h⟩
   obtain ⟨xp,xo,⟨b1,b2,b3,bl⟩,⟨s1,s2,s3,sl⟩,⟨o1,o2,o3,ol⟩⟩:=x
   simp only at c0 c1 c2 c3 c4 hbad hgood hprev hW0 hBk hPr hPa hPn hFi hSn hOr hS HFL
   clear hx hdr hok hxm hxs hblk hrw hew hR hT hto hi
   obtain ⟨bB,hbB⟩:∃ b,b=okL bl:=⟨_,rfl⟩
   obtain ⟨bP,hbP⟩:∃ b,b=propsB ol:=⟨_,rfl⟩
   obtain ⟨bS,hbS⟩:∃ b,b=snapsB sl:=⟨_,rfl⟩
   obtain ⟨bO,hbO⟩:∃ b,b=originP l xp xo:=⟨_,rfl⟩
   rw [← hbB] at hbad hgood hBk
   rw [← hbP] at hbad hgood hPr
   rw [← hbS] at hbad hgood hSn
   rw [← hbO] at hbad hgood hOr
   clear hbB hbP hbS hbO
   have hpn:=hPn.out _ (Below.refl _ _)
   clear hPn
   go_wp2_with fail
   rw [← hW0]
   clear hW0 hszW c0 c1 c2 c3 c4
   refine hpn.mono ?_
   clear hpn
   rintro e w4 ⟨hb4,⟨hpar,rfl⟩ | ⟨hne,hpb,rfl⟩⟩
   ·have HFL:Hid (∀ u,parB xp=some u→(l.any fun y=>y.path == u)=true):=by
     show ∀ u,_→_
     intro u hu
     unfold parB at hu
     rw [if_pos hpar] at hu
     cases hu
    obtain ⟨bPa,hbPa⟩:∃ b,b=pathB xp:=⟨_,rfl⟩
    rw [← hbPa] at hbad hgood hPa
    clear hbPa hpar hFi
    go_wp2_with fail
    refine wpC_regionH (fun W'=>Below W0.heap.size W0 W') (hb4.drew) (fun OPS D QQ HO HD HD2 HQQ=>?_)
    have hgo4:=hgoL HO 4 35 rfl
    have hgo7:=hgoL HO 7 38 rfl
    have hgo20:=hgoL HO 20 51 rfl
    have hgo22:=hgoL HO 22 53 rfl
    clear HO
    refine zX ?_
    refine zY ?_
    cases bPa with
    | false =>
     have HB:=Lib.hid (hbad.out (.inl rfl))
     refine zN hPa.out ?_
     iterate 27 refine zX ?_
     refine wpQuiet_nil (HQQ.out _ (fun W hW=>?_))
     obtain ⟨t0,t1,t2,t3,t4,t5,t6,q0,q1,q2,q3,q4,qp⟩:=hS.out W hW
     go_wp2_with fail
     go_ret
     exact ⟨by rw [HB.out];rfl,hbW.trans (hW.mono tZ6)⟩
    | true =>
     refine zN hPa.out ?_
     iterate 3 refine zX ?_
     rcases hprev with ⟨d4,d4',d5⟩ | ⟨d4,d4',i1,i2,i3,i4,yp,d5,d6⟩
     ·iterate 24 refine zX ?_
      refine wpQuiet_nil (HQQ.out _ (fun W hW=>?_))
      obtain ⟨t0,t1,t2,t3,t4,t5,t6,q0,q1,q2,q3,q4,qp⟩:=hS.out W hW
      have HGO:=Lib.hid (d5.out)
      have HPAR:=Lib.hid (HFL.out)
      exact mZ93
     ·have hge:=geqS 9 yp xp
      iterate 3 refine zX ?_
      refine zY ?_
      iterate 4 refine zX ?_
      refine wpC_greadS (v:=?_) rfl rfl hgo7.out rfl (fun W hW=>?_) ?_
      rotate_left
      ·exact mZ95
      dsimp only [zB,zC]
      refine zX ?_
      refine zY ?_
      cases hbl:Op.bytesLess yp xp with
      | false =>
       exact mZ92
      | true =>
       have HG:=d5.out.1 hbl
       rw [hbl] at hge
       iterate 13 refine zX ?_
       refine wpQuiet_nil (HQQ.out _ (fun W hW=>?_))
       obtain ⟨t0,t1,t2,t3,t4,t5,t6,q0,q1,q2,q3,q4,qp⟩:=hS.out W hW
       have HGO:=Lib.hid (HG)
       have HPAR:=Lib.hid (HFL.out)
       exact mZ93
   ·have hpe:parB xp=some (upL xp):=by
     exact mZ96
    obtain ⟨z,hz⟩:∃ z,z=findS l (upL xp):=⟨_,rfl⟩
    have HFL:Hid ((z<0→∃ u,parB xp=some u∧(l.any fun y=>y.path == u)=false)∧(0≤z→∀ u,parB xp=some u→(l.any fun y=>y.path == u)=true)):=by
     show _∧_
     rw [hz]
     exact ⟨fun h=>⟨_,hpe,(HFL.out _ hpe).1 h⟩,fun h u hu=>by rw [hpe] at hu;cases hu;exact (HFL.out _ hpe).2 h⟩
    rw [← hz] at hFi
    rw [hpb] at hbad hgood hPa
    have hF:z<0∨0≤z:=tZ1
    obtain ⟨up,hup⟩:∃ u,u=upL xp:=⟨_,rfl⟩
    rw [← hup] at hFi ⊢
    clear hne hpb hpe hz hup
    go_wp2_with fail
    refine wpC_regionH (fun W'=>Below W0.heap.size W0 W') (hb4.drew) (fun OPS D QQ HO HD HD2 HQQ=>?_)
    have hgo4:=hgoL HO 4 35 rfl
    have hgo7:=hgoL HO 7 38 rfl
    have hgo20:=hgoL HO 20 51 rfl
    have hgo22:=hgoL HO 22 53 rfl
    clear HO
    refine zX ?_
    refine zY ?_
    refine zN hPa.out ?_
    iterate 3 refine zX ?_
    rcases hprev with ⟨d4,d4',d5⟩ | ⟨d4,d4',i1,i2,i3,i4,yp,d5,d6⟩
    ·iterate 17 refine zX ?_
     refine zY ?_
     refine zX ?_
     rcases hF with hF | hF
     ·exact mZ94
     ·have hz1:decide (z<0)=false:=tZ7
      refine zN hFi.out ?_
      iterate 4 refine zX ?_
      refine wpQuiet_nil (HQQ.out _ (fun W hW=>?_))
      obtain ⟨t0,t1,t2,t3,t4,t5,t6,q0,q1,q2,q3,q4,qp⟩:=hS.out W hW
      have HGO:=Lib.hid (d5.out)
      have HPAR:=Lib.hid (HFL.out.2 hF)
      exact mZ93
    ·have hge:=geqS 9 yp xp
     iterate 3 refine zX ?_
     refine zY ?_
     iterate 4 refine zX ?_
     refine wpC_greadS (v:=?_) rfl rfl hgo7.out rfl (fun W hW=>?_) ?_
     rotate_left
     ·exact mZ95
     dsimp only [zB,zC]
     refine zX ?_
     refine zY ?_
     cases hbl:Op.bytesLess yp xp with
     | false =>
      exact mZ92
     | true =>
      have HG:=d5.out.1 hbl
      rw [hbl] at hge
      iterate 6 refine zX ?_
      refine zY ?_
      refine zX ?_
      rcases hF with hF | hF
      ·exact mZ94
      ·have hz1:decide (z<0)=false:=tZ7
       refine zN hFi.out ?_
       iterate 4 refine zX ?_
       refine wpQuiet_nil (HQQ.out _ (fun W hW=>?_))
       obtain ⟨t0,t1,t2,t3,t4,t5,t6,q0,q1,q2,q3,q4,qp⟩:=hS.out W hW
       have HGO:=Lib.hid (HG)
       have HPAR:=Lib.hid (HFL.out.2 hF)
       exact mZ93
  ·have hkn:k=n:=tZ1
   have HF:Hid (V=true):=by
    exact mZ33
   clear hkn
   go_wp2_with fail
   go_ret
   exact ⟨by rw [HF.out];rfl,HB0.out.trans (hbw.mono tZ13)⟩
end Go.Proofs.YtiojfffgiejibaaGreatDoor
