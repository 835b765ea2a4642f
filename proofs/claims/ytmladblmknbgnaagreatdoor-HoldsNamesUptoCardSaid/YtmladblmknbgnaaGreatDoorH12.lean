/-
  tree.sets, by its contract. The page's amount, Find, Snap, tags, Parent, Split: by their contracts.
-/
import Derived.Test.YtmladblmknbgnaaGreatDoorH0
import Derived.Test.YtmladblmknbgnaaGreatDoorH10
import Derived.Test.YtmladblmknbgnaaGreatDoorH9
import Derived.Test.YtmladblmknbgnaaGreatDoorH8
namespace Go.Proofs.YtmladblmknbgnaaGreatDoor
open Go.RowKit
def prevT (l:List SetR) (k:Nat):Option BS:=match k with
 | 0=>none
 | j+1=>(l[j]?).map (·.path)
theorem setsFrom_cons (all:List SetR) (p:Option BS) (s:SetR) (l:List SetR):setsFrom all p (s :: l)=(setB all s && (match p with | none=>true | some q=>Op.bytesLess q s.path) && setsFrom all (some s.path) l):=by cases p <;> rfl
theorem setB_eq (all:List SetR) (s:SetR):setB all s=(pathB s.path && (match parB s.path with | none=>true | some u=>all.any fun x=>x.path == u) && propsB s.own.l && okL s.body.l && snapsB s.snaps.l && originP all s.path s.org):=rfl
set_option maxRecDepth 100000 in
set_option maxHeartbeats 8000000 in
theorem sets_any (v0 v1 v2 v4 v5 v6:Value) (l:List SetR) (n:Nat) (hnl:n=l.length) (A:Option Addr) (c:Nat) (w:World) (B:Nat) (hr:Reads w B 5 A n (cellsK encSet l)) (he:∀ y∈l,y.rd w B) (hB:B≤w.heap.size) (hn:n≤1000000000000) (hv:∀ y∈l,y.sz) (hmx:HasMax w) :
  Calls Tryz.prog 146 #[.agg #[v0,v1,v2,.slice A n c,v4,v5,v6]] w fun e w'=>e=.returned (.bool (setsB l))∧Below w.heap.size w w':=by
 have hb1:=(Below.refl w.heap.size w).alloc (Nat.le_refl _) (.cells #[v0,v1,v2,.slice A n c,v4,v5,v6] 27)
 have kT:=Blk.new w 27 #[v0,v1,v2,.slice A n c,v4,v5,v6]
 obtain ⟨W1,hW1⟩:∃ W,W=w.alloc (.cells #[v0,v1,v2,.slice A n c,v4,v5,v6] 27):=⟨_,rfl⟩
 have hsz1:W1.heap.size=w.heap.size+1:=by rw [hW1];simp
 rw [← hW1] at hb1 kT
 have HN:=Lib.hid hnl
 have HVB:Hid (setsB l=(decide (n≤32) && (l.any fun x=>x.path == []) && setsFrom l none l)):=by show _=_;unfold setsB;rw [hnl]
 obtain ⟨V,hV⟩:∃ V,V=setsB l:=⟨_,rfl⟩
 rw [← hV] at HVB ⊢
 have hR:=Lib.hid (fun (W':World) (hB':Below W1.heap.size W1 W')=>(⟨hr.below ((hb1.trans (hB'.mono (by omega))).mono hB),hB'.size,hmx.below (hb1.trans (hB'.mono (by omega))),fun y hy=>⟨(he y hy).body.below ((hb1.trans (hB'.mono (by omega))).mono hB),(he y hy).snaps.below ((hb1.trans (hB'.mono (by omega))).mono hB),fun z hz=>⟨((he y hy).each z hz).body.below ((hb1.trans (hB'.mono (by omega))).mono hB),((he y hy).each z hz).tags.below ((hb1.trans (hB'.mono (by omega))).mono hB),((he y hy).each z hz).own.below ((hb1.trans (hB'.mono (by omega))).mono hB)⟩,(he y hy).own.below ((hb1.trans (hB'.mono (by omega))).mono hB)⟩⟩:Reads W' B 5 A n (cellsK encSet l)∧W1.heap.size≤W'.heap.size∧HasMax W'∧∀ y∈l,y.rd W' B))
 have hT:=Lib.hid (fun (W':World) (hB':Below W1.heap.size W1 W') =>
  (⟨(kT.below hB' (by omega)).cell 0,(kT.below hB' (by omega)).cell 1,(kT.below hB' (by omega)).cell 2,(kT.below hB' (by omega)).cell 3,(kT.below hB' (by omega)).cell 4,(kT.below hB' (by omega)).cell 5,(kT.below hB' (by omega)).cell 6⟩ :
   W'.cell? ⟨w.heap.size,0,none⟩=some v0∧W'.cell? ⟨w.heap.size,1,none⟩=some v1∧W'.cell? ⟨w.heap.size,2,none⟩=some v2∧W'.cell? ⟨w.heap.size,3,none⟩=some (.slice A n c)∧W'.cell? ⟨w.heap.size,4,none⟩=some v4∧W'.cell? ⟨w.heap.size,5,none⟩=some v5∧W'.cell? ⟨w.heap.size,6,none⟩=some v6))
 have HB0:=Lib.hid hb1
 have HSZ1:=Lib.hid hsz1
 have HVS:=Lib.hid hv
 clear hnl hV hb1 kT hr he hv hsz1
 by_cases hn32:32<n
 ·have hi:(32:Int)<(n:Int):=by omega
  have HF:Hid (V=false):=by show _=_;rw [HVB.out,decide_eq_false (by omega)];rfl
  go_enter Tryz.func146,Tryz.ntmps146
  go_wp2_with fail
  rw [← hW1]
  go_ret
  exact ⟨by rw [HF.out];rfl,HB0.out⟩
 have hi:¬ (32:Int)<(n:Int):=by omega
 have HVB2:Hid (V=((l.any fun x=>x.path == []) && setsFrom l none l)):=by show _=_;rw [HVB.out,decide_eq_true (by omega)];rfl
 have hfi:=find_any v0 v1 v2 v4 v5 v6 l n HN.out A c [] W1 B (hR.out _ (Below.refl _ _)).1 (by have:=HSZ1.out;omega) (by omega)
 have hfa:=firstI_any (fun x:SetR=>x.path == []) l
 obtain ⟨z0,hz0⟩:∃ z,z=findS l []:=⟨_,rfl⟩
 rw [show firstI (fun x:SetR=>x.path == []) l=z0 from hz0.symm] at hfa
 rw [← hz0] at hfi
 clear hz0
 by_cases hz:z0<0
 ·have HF:Hid (V=false):=by show _=_;rw [HVB2.out,← hfa,decide_eq_false (by omega)];rfl
  clear hfa
  go_enter Tryz.func146,Tryz.ntmps146
  go_wp2_with fail
  rw [← hW1]
  refine hfi.mono ?_
  rintro e w1 ⟨rfl,hb2⟩
  go_wp2_with fail
  go_ret
  exact ⟨by rw [HF.out];rfl,HB0.out.trans (hb2.mono (by have:=HSZ1.out;omega))⟩
 have HVB3:Hid (V=setsFrom l none l):=by show _=_;rw [HVB2.out,← hfa,decide_eq_true (by omega)];rfl
 clear hfa
 go_enter Tryz.func146,Tryz.ntmps146
 go_wp2_with fail
 rw [← hW1]
 refine hfi.mono ?_
 clear hfi
 rintro e w1 ⟨rfl,hb2⟩
 obtain ⟨t0,t1,t2,t3,t4,t5,t6⟩:=hT.out _ hb2
 go_wp2_with fail
 clear t0 t1 t2 t3 t4 t5 t6 hz
 go_loopw [19] (fun j wr=>∃ k:Nat,k≤n∧j=.int .i64 (k:Int)∧Hid (V=setsFrom l (prevT l k) (l.drop k))∧Below W1.heap.size W1 wr) (fun j _=>n-(intOf j).toNat)
 case atStart=>exact ⟨0,Nat.zero_le _,rfl,HVB3.out,hb2⟩
 case round =>
  clear hb2
  obtain ⟨k,hk,rfl,hok,hbw⟩:=hrel
  by_cases hlt:k<n
  ·obtain ⟨hrw,-,-,hew⟩:=hR.out _ hbw
   obtain ⟨ad,rfl,hadB,c0,c1,c2,c3,c4⟩:=set_at hrw HN.out hlt
   have hki:(k:Int)<(n:Int):=by omega
   have hkl:k<l.length:=by have:=HN.out;omega
   obtain ⟨x,hx⟩:∃ x,x=l[k]'hkl:=⟨_,rfl⟩
   have hxm:x∈l:=by rw [hx];exact List.getElem_mem _
   have hxs:=HVS.out x hxm
   rw [← hx] at c0 c1 c2 c3 c4
   have hdr:=List.drop_eq_getElem_cons hkl
   rw [← hx] at hdr
   have hbad:Hid ((pathB x.path=false∨(∃ y,prevT l k=some y∧Op.bytesLess y x.path=false)∨(∃ u,parB x.path=some u∧(l.any fun y=>y.path == u)=false)∨propsB x.own.l=false∨okL x.body.l=false∨snapsB x.snaps.l=false∨originP l x.path x.org=false)→V=false):=by
    show _→_
    intro h
    rw [hok.out,hdr,setsFrom_cons,setB_eq]
    rcases h with h | ⟨y,hy,h⟩ | ⟨u,hu,h⟩ | h | h | h | h
    ·rw [h];simp
    ·rw [hy];simp only [h];simp
    ·rw [hu];simp only [h];simp
    ·rw [h];simp
    ·rw [h];simp
    ·rw [h];simp
    ·rw [h];simp
   have hgood:Hid (pathB x.path=true→(∀ y,prevT l k=some y→Op.bytesLess y x.path=true)→(∀ u,parB x.path=some u→(l.any fun y=>y.path == u)=true)→propsB x.own.l=true→okL x.body.l=true→snapsB x.snaps.l=true→originP l x.path x.org=true→Hid (V=setsFrom l (prevT l (k+1)) (l.drop (k+1)))):=by
    show _→_→_→_→_→_→_→_
    intro h1 h2 h3 h4 h5 h6 h7
    show _=_
    rw [hok.out,hdr,setsFrom_cons,setB_eq]
    have hp:prevT l (k+1)=some x.path:=by
     show (l[k]?).map _=_
     rw [List.getElem?_eq_getElem hkl,← hx]
     rfl
    rw [hp,h1,h4,h5,h6,h7]
    cases hq:prevT l k with
    | none =>
     cases hu:parB x.path with
     | none=>rfl
     | some u=>simp only [h3 u hu];rfl
    | some y =>
     simp only [h2 y hq]
     cases hu:parB x.path with
     | none=>rfl
     | some u=>simp only [h3 u hu];rfl
   have hprev:(decide ((0:Int)<(k:Int))=false∧decide (0<k)=false∧Hid (∀ y,prevT l k=some y→Op.bytesLess y x.path=true))∨(decide ((0:Int)<(k:Int))=true∧decide (0<k)=true∧(1:Int)≤(k:Int)∧(k:Int)-1<(n:Int)∧IntKind.i64.wrap ((k:Int)-1)=(k:Int)-1∧((k:Int)-1).toNat=k-1∧∃ yp,Hid ((Op.bytesLess yp x.path=true→∀ y,prevT l k=some y→Op.bytesLess y x.path=true)∧(Op.bytesLess yp x.path=false→∃ y,prevT l k=some y∧Op.bytesLess y x.path=false))∧Hid (∃ h:k-1<l.length,yp=(l[k-1]'h).path)):=by
    rcases Nat.eq_zero_or_pos k with h0 | h0
    ·exact .inl ⟨by simp;omega,by simp;omega,(fun y hy=>by subst h0;cases hy)⟩
    ·have hk1l:k-1<l.length:=by omega
     have hpv:prevT l k=some (l[k-1]'hk1l).path:=by
      obtain ⟨j,rfl⟩:∃ j,k=j+1:=⟨k-1,by omega⟩
      show (l[j]?).map _=_
      have hj:j<l.length:=by simpa using hk1l
      rw [List.getElem?_eq_getElem hj]
      rfl
     refine .inr ⟨by simp;omega,by simp;omega,by omega,by omega,IntWalk.i64_in _ (by omega),by omega,(l[k-1]'hk1l).path,?_,⟨hk1l,rfl⟩⟩
     exact ⟨fun h y hy=>by rw [hpv] at hy;cases hy;exact h,fun h=>⟨_,hpv,h⟩⟩
   obtain ⟨W0,hW0⟩:∃ W0,W0=wr.alloc (.cells #[.string ⟨x.path.toArray⟩,.string ⟨x.org.toArray⟩,.slice x.body.A x.body.n x.body.c,.slice x.snaps.A x.snaps.n x.snaps.c,.slice x.own.A x.own.n x.own.c] 42):=⟨_,rfl⟩
   have hblk:Blk W0 wr.heap.size 42 #[.string ⟨x.path.toArray⟩,.string ⟨x.org.toArray⟩,.slice x.body.A x.body.n x.body.c,.slice x.snaps.A x.snaps.n x.snaps.c,.slice x.own.A x.own.n x.own.c]:=by rw [hW0];exact Blk.new wr _ _
   have hszW:W0.heap.size=wr.heap.size+1:=by rw [hW0];show (wr.heap.push _).size=_;rw [Array.size_push]
   have hlt0:wr.heap.size<W0.heap.size:=by omega
   have HSZ:=Lib.hid hszW
   have hwr:=hbw.size
   have hsz1:=HSZ1.out
   have hb1W:Below W1.heap.size W1 W0:=by rw [hW0];exact hbw.alloc hbw.size _
   have hbW:=HB0.out.trans (hb1W.mono (by omega))
   have HB1:=Lib.hid hb1W
   have hto:Hid (∀ W,Below W0.heap.size W0 W→Below W1.heap.size W1 W):=fun W hb=>hb1W.trans (hb.mono (by omega))
   have hPa:Hid (∀ W,Below W0.heap.size W0 W→Calls Tryz.prog 112 #[.string ⟨x.path.toArray⟩] W fun e W'=>e=.returned (.bool (pathB x.path))∧Below W.heap.size W W'):=fun W hb =>
    path_any ⟨x.path.toArray⟩ W (by show x.path.length≤_;exact hxs.path) (hR.out _ (hto.out _ hb)).2.2.1
   have hPn:Hid (∀ W,Below W0.heap.size W0 W→Calls Tryz.prog 99 #[.string ⟨x.path.toArray⟩] W fun e W'=>Below W.heap.size W W'∧((x.path=[]∨pathB x.path=false)∧e=.returned (.tuple #[.string ⟨#[]⟩,.bool false])∨x.path≠[]∧pathB x.path=true∧e=.returned (.tuple #[.string ⟨(upL x.path).toArray⟩,.bool true]))):=fun W hb =>
    parent_any ⟨x.path.toArray⟩ W (by show x.path.length≤_;exact hxs.path) (hR.out _ (hto.out _ hb)).2.2.1
   have hFi:Hid (∀ W,Below W0.heap.size W0 W→Calls Tryz.prog 75 #[.agg #[v0,v1,v2,.slice (some ad) n c,v4,v5,v6],.string ⟨(upL x.path).toArray⟩] W fun e W'=>e=.returned (.int .i64 (findS l (upL x.path)))∧Below W.heap.size W W'):=fun W hb =>
    find_any v0 v1 v2 v4 v5 v6 l n HN.out (some ad) c (upL x.path) W B (hR.out _ (hto.out _ hb)).1 (by have:=hb.size;omega) (by omega)
   have hBk:Hid (∀ W,Below W0.heap.size W0 W→Calls Tryz.prog 182 #[.slice x.body.A x.body.n x.body.c] W fun e W'=>e=.returned (.int .i64 (if okL x.body.l=true then 0 else 9))∧Below W.heap.size W W'):=fun W hb=>by
    have hrd:=(hR.out _ (hto.out _ hb)).2.2.2 x hxm
    exact checkBk_any x.body.l x.body.n hrd.body.1 x.body.A x.body.c W B hrd.body.2.2 (by have:=hb.size;omega) (by have:=hxs.body;omega)
   have hPr:Hid (∀ W,Below W0.heap.size W0 W→Calls Tryz.prog 188 #[.slice x.own.A x.own.n x.own.c] W fun e W'=>e=.returned (.int .i64 (if propsB x.own.l=true then 0 else 9))∧Below W.heap.size W W'):=fun W hb=>by
    have hrd:=(hR.out _ (hto.out _ hb)).2.2.2 x hxm
    exact checkP_any x.own.l x.own.n hrd.own.1 x.own.A x.own.c W B hrd.own.2.2 (by have:=hb.size;omega) (by have:=hxs.own;omega) (fun p hp=>by have:=hxs.props p hp;omega)
   have hSn:Hid (∀ W,Below W0.heap.size W0 W→Calls Tryz.prog 197 #[.slice x.snaps.A x.snaps.n x.snaps.c] W fun e W'=>e=.returned (.bool (snapsB x.snaps.l))∧Below W.heap.size W W'):=fun W hb=>by
    have hrd:=(hR.out _ (hto.out _ hb)).2.2.2 x hxm
    exact snaps_any x.snaps.l x.snaps.n hrd.snaps.1 x.snaps.A x.snaps.c W B hrd.snaps.2.2 hrd.each (by have:=hb.size;omega) hxs.snaps hxs.each
   have hOr:Hid (∀ W,Below W0.heap.size W0 W→Calls Tryz.prog 198 #[.agg #[v0,v1,v2,.slice (some ad) n c,v4,v5,v6],.agg #[.string ⟨x.path.toArray⟩,.string ⟨x.org.toArray⟩,.slice x.body.A x.body.n x.body.c,.slice x.snaps.A x.snaps.n x.snaps.c,.slice x.own.A x.own.n x.own.c]] W fun e W'=>e=.returned (.bool (originP l x.path x.org))∧Below W.heap.size W W'):=fun W hb=>by
    obtain ⟨r1,-,r3,r4⟩:=hR.out _ (hto.out _ hb)
    exact origin_any v0 v1 v2 v4 v5 v6 _ _ _ l n HN.out (some ad) c x.path x.org W B r1 r4 (by have:=hb.size;omega) hn HVS.out hxs.org r3
   have hS:Hid (∀ W,Below W0.heap.size W0 W→W.cell? ⟨w.heap.size,0,none⟩=some v0∧W.cell? ⟨w.heap.size,1,none⟩=some v1∧W.cell? ⟨w.heap.size,2,none⟩=some v2∧W.cell? ⟨w.heap.size,3,none⟩=some (.slice (some ad) n c)∧W.cell? ⟨w.heap.size,4,none⟩=some v4∧W.cell? ⟨w.heap.size,5,none⟩=some v5∧W.cell? ⟨w.heap.size,6,none⟩=some v6 ∧
     W.cell? ⟨wr.heap.size,0,none⟩=some (.string ⟨x.path.toArray⟩)∧W.cell? ⟨wr.heap.size,1,none⟩=some (.string ⟨x.org.toArray⟩)∧W.cell? ⟨wr.heap.size,2,none⟩=some (.slice x.body.A x.body.n x.body.c)∧W.cell? ⟨wr.heap.size,3,none⟩=some (.slice x.snaps.A x.snaps.n x.snaps.c)∧W.cell? ⟨wr.heap.size,4,none⟩=some (.slice x.own.A x.own.n x.own.c) ∧
     ∀ yp,(∃ h:k-1<l.length,yp=(l[k-1]'h).path)→W.cell? (ad.add ((k-1)*5))=some (.string ⟨yp.toArray⟩)):=by
    show ∀ W,_→_
    intro W hb
    have hb2:=hblk.below hb hlt0
    obtain ⟨t0,t1,t2,t3,t4,t5,t6⟩:=hT.out _ (hto.out _ hb)
    refine ⟨t0,t1,t2,t3,t4,t5,t6,hb2.cell 0,hb2.cell 1,hb2.cell 2,hb2.cell 3,hb2.cell 4,?_⟩
    rintro yp ⟨h,rfl⟩
    obtain ⟨ad2,e2,-,p1,-⟩:=set_at (hR.out _ (hto.out _ hb)).1 HN.out (i:=k-1) (by omega)
    injection e2 with e2
    subst e2
    exact p1
   have HFL:Hid (∀ u,parB x.path=some u→(findS l u<0→(l.any fun y=>y.path == u)=false)∧(0≤findS l u→(l.any fun y=>y.path == u)=true)):=by
    show ∀ u,_→_
    intro u _
    have:=firstI_any (fun y:SetR=>y.path == u) l
    rw [← this]
    exact ⟨fun h=>decide_eq_false (by show ¬ (0:Int)≤findS l u;omega),fun h=>decide_eq_true h⟩
   obtain ⟨xp,xo,⟨b1,b2,b3,bl⟩,⟨s1,s2,s3,sl⟩,⟨o1,o2,o3,ol⟩⟩:=x
   simp only at c0 c1 c2 c3 c4 hbad hgood hprev hW0 hBk hPr hPa hPn hFi hSn hOr hS HFL
   clear hx hdr hok hxm hxs hblk hrw hew hR hT hto hi
   obtain ⟨bB,hbB⟩:∃ b,b=okL bl:=⟨_,rfl⟩
   obtain ⟨bP,hbP⟩:∃ b,b=propsB ol:=⟨_,rfl⟩
   obtain ⟨bS,hbS⟩:∃ b,b=snapsB sl:=⟨_,rfl⟩
   obtain ⟨bO,hbO⟩:∃ b,b=originP l xp xo:=⟨_,rfl⟩
   rw [← hbB] at hbad hgood hBk
   rw [← hbP] at hbad hgood hPr
   rw [← hbS] at hbad hgood hSn
   rw [← hbO] at hbad hgood hOr
   clear hbB hbP hbS hbO
   have hpn:=hPn.out _ (Below.refl _ _)
   clear hPn
   go_wp2_with fail
   rw [← hW0]
   clear hW0 hszW c0 c1 c2 c3 c4
   refine hpn.mono ?_
   clear hpn
   rintro e w4 ⟨hb4,⟨hpar,rfl⟩ | ⟨hne,hpb,rfl⟩⟩
   ·have HFL:Hid (∀ u,parB xp=some u→(l.any fun y=>y.path == u)=true):=by
     show ∀ u,_→_
     intro u hu
     unfold parB at hu
     rw [if_pos hpar] at hu
     cases hu
    obtain ⟨bPa,hbPa⟩:∃ b,b=pathB xp:=⟨_,rfl⟩
    rw [← hbPa] at hbad hgood hPa
    clear hbPa hpar hFi
    go_wp2_with fail
    refine wpC_regionH (fun W'=>Below W0.heap.size W0 W') (hb4.drew) (fun OPS D QQ HO HD HD2 HQQ=>?_)
    have hgo4:=hgoL HO 4 35 rfl
    have hgo7:=hgoL HO 7 38 rfl
    have hgo20:=hgoL HO 20 51 rfl
    have hgo22:=hgoL HO 22 53 rfl
    clear HO
    refine zX ?_
    refine zY ?_
    cases bPa with
    | false =>
     have HB:=Lib.hid (hbad.out (.inl rfl))
     refine zN hPa.out ?_
     iterate 27 refine zX ?_
     refine wpQuiet_nil (HQQ.out _ (fun W hW=>?_))
     obtain ⟨t0,t1,t2,t3,t4,t5,t6,q0,q1,q2,q3,q4,qp⟩:=hS.out W hW
     go_wp2_with fail
     go_ret
     exact ⟨by rw [HB.out];rfl,hbW.trans (hW.mono (by have:=HSZ.out;omega))⟩
    | true =>
     refine zN hPa.out ?_
     iterate 3 refine zX ?_
     rcases hprev with ⟨d4,d4',d5⟩ | ⟨d4,d4',i1,i2,i3,i4,yp,d5,d6⟩
     ·iterate 24 refine zX ?_
      refine wpQuiet_nil (HQQ.out _ (fun W hW=>?_))
      obtain ⟨t0,t1,t2,t3,t4,t5,t6,q0,q1,q2,q3,q4,qp⟩:=hS.out W hW
      have HGO:=Lib.hid (d5.out)
      have HPAR:=Lib.hid (HFL.out)
      cases bP with
      | false =>
       have HB:=Lib.hid (hbad.out (.inr (.inr (.inr (.inl rfl)))))
       have hc:=hPr.out _ hW
       rw [if_neg (by decide)] at hc
       go_wp2_with fail
       refine (hc).mono ?_
       rintro e w6 ⟨rfl,hb6⟩
       have hWw6:=hW.trans (hb6.mono hW.size)
       clear hb6 t0 t1 t2 t3 t4 t5 t6 q0 q1 q2 q3 q4 qp
       obtain ⟨t0,t1,t2,t3,t4,t5,t6,q0,q1,q2,q3,q4,qp⟩:=hS.out _ hWw6
       go_wp2_with fail
       go_ret
       exact ⟨by rw [HB.out];rfl,hbW.trans (hWw6.mono (by have:=HSZ.out;omega))⟩
      | true =>
       have hc:=hPr.out _ hW
       rw [if_pos rfl] at hc
       go_wp2_with fail
       refine (hc).mono ?_
       rintro e w6 ⟨rfl,hb6⟩
       have hWw6:=hW.trans (hb6.mono hW.size)
       clear hb6 t0 t1 t2 t3 t4 t5 t6 q0 q1 q2 q3 q4 qp
       obtain ⟨t0,t1,t2,t3,t4,t5,t6,q0,q1,q2,q3,q4,qp⟩:=hS.out _ hWw6
       clear hc
       have hc:=hBk.out _ hWw6
       cases bB with
       | false =>
        have HB:=Lib.hid (hbad.out (.inr (.inr (.inr (.inr (.inl rfl))))))
        rw [if_neg (by decide)] at hc
        go_wp2_with fail
        refine (hc).mono ?_
        rintro e w7 ⟨rfl,hb7⟩
        have hWw7:=hWw6.trans (hb7.mono hWw6.size)
        clear hb7 t0 t1 t2 t3 t4 t5 t6 q0 q1 q2 q3 q4 qp
        obtain ⟨t0,t1,t2,t3,t4,t5,t6,q0,q1,q2,q3,q4,qp⟩:=hS.out _ hWw7
        go_wp2_with fail
        go_ret
        exact ⟨by rw [HB.out];rfl,hbW.trans (hWw7.mono (by have:=HSZ.out;omega))⟩
       | true =>
        rw [if_pos rfl] at hc
        go_wp2_with fail
        refine (hc).mono ?_
        rintro e w7 ⟨rfl,hb7⟩
        have hWw7:=hWw6.trans (hb7.mono hWw6.size)
        clear hb7 t0 t1 t2 t3 t4 t5 t6 q0 q1 q2 q3 q4 qp
        obtain ⟨t0,t1,t2,t3,t4,t5,t6,q0,q1,q2,q3,q4,qp⟩:=hS.out _ hWw7
        clear hc
        have hc:=hSn.out _ hWw7
        cases bS with
        | false =>
         have HB:=Lib.hid (hbad.out (.inr (.inr (.inr (.inr (.inr (.inl rfl)))))))
         go_wp2_with fail
         refine (hc).mono ?_
         rintro e w8 ⟨rfl,hb8⟩
         have hWw8:=hWw7.trans (hb8.mono hWw7.size)
         clear hb8 t0 t1 t2 t3 t4 t5 t6 q0 q1 q2 q3 q4 qp
         obtain ⟨t0,t1,t2,t3,t4,t5,t6,q0,q1,q2,q3,q4,qp⟩:=hS.out _ hWw8
         go_wp2_with fail
         go_ret
         exact ⟨by rw [HB.out];rfl,hbW.trans (hWw8.mono (by have:=HSZ.out;omega))⟩
        | true =>
         go_wp2_with fail
         refine (hc).mono ?_
         rintro e w8 ⟨rfl,hb8⟩
         have hWw8:=hWw7.trans (hb8.mono hWw7.size)
         clear hb8 t0 t1 t2 t3 t4 t5 t6 q0 q1 q2 q3 q4 qp
         obtain ⟨t0,t1,t2,t3,t4,t5,t6,q0,q1,q2,q3,q4,qp⟩:=hS.out _ hWw8
         clear hc
         have hc:=hOr.out _ hWw8
         cases bO with
         | false =>
          have HB:=Lib.hid (hbad.out (.inr (.inr (.inr (.inr (.inr (.inr rfl)))))))
          go_wp2_with fail
          refine (hc).mono ?_
          rintro e w9 ⟨rfl,hb9⟩
          have hWw9:=hWw8.trans (hb9.mono hWw8.size)
          clear hb9 t0 t1 t2 t3 t4 t5 t6 q0 q1 q2 q3 q4 qp
          obtain ⟨t0,t1,t2,t3,t4,t5,t6,q0,q1,q2,q3,q4,qp⟩:=hS.out _ hWw9
          go_wp2_with fail
          go_ret
          exact ⟨by rw [HB.out];rfl,hbW.trans (hWw9.mono (by have:=HSZ.out;omega))⟩
         | true =>
          have HGG:=Lib.hid (hgood.out (by trivial) HGO.out HPAR.out (by trivial) (by trivial) (by trivial) (by trivial))
          go_wp2_with fail
          refine (hc).mono ?_
          rintro e w9 ⟨rfl,hb9⟩
          have hWw9:=hWw8.trans (hb9.mono hWw8.size)
          clear hb9 t0 t1 t2 t3 t4 t5 t6 q0 q1 q2 q3 q4 qp
          obtain ⟨t0,t1,t2,t3,t4,t5,t6,q0,q1,q2,q3,q4,qp⟩:=hS.out _ hWw9
          have hbf:=HB1.out.trans (hWw9.mono (by have:=HSZ.out;have:=HB1.out.size;omega))
          clear hc
          go_wp2_with fail
          go_roundw
          case rel=>exact ⟨k+1,by omega,by go_num,HGG.out,hbf⟩
          case measure=>simp [intOf];omega
     ·have hge:=geqS 9 yp xp
      iterate 3 refine zX ?_
      refine zY ?_
      iterate 4 refine zX ?_
      refine wpC_greadS (v:=?_) rfl rfl hgo7.out rfl (fun W hW=>?_) ?_
      rotate_left
      ·replace hW:=HD.out W hW
       obtain ⟨t0,t1,t2,t3,t4,t5,t6,q0,q1,q2,q3,q4,qp⟩:=hS.out W hW
       replace qp:=qp _ d6.out
       go_simp;try (with_reducible rfl)
      dsimp only [zB,zC]
      refine zX ?_
      refine zY ?_
      cases hbl:Op.bytesLess yp xp with
      | false =>
       have HB:=Lib.hid (hbad.out (.inr (.inl (d5.out.2 hbl))))
       rw [hbl] at hge
       iterate 13 refine zX ?_
       refine wpQuiet_nil (HQQ.out _ (fun W hW=>?_))
       obtain ⟨t0,t1,t2,t3,t4,t5,t6,q0,q1,q2,q3,q4,qp⟩:=hS.out W hW
       go_wp2_with fail
       go_ret
       exact ⟨by rw [HB.out];rfl,hbW.trans (hW.mono (by have:=HSZ.out;omega))⟩
      | true =>
       have HG:=d5.out.1 hbl
       rw [hbl] at hge
       iterate 13 refine zX ?_
       refine wpQuiet_nil (HQQ.out _ (fun W hW=>?_))
       obtain ⟨t0,t1,t2,t3,t4,t5,t6,q0,q1,q2,q3,q4,qp⟩:=hS.out W hW
       have HGO:=Lib.hid (HG)
       have HPAR:=Lib.hid (HFL.out)
       cases bP with
       | false =>
        have HB:=Lib.hid (hbad.out (.inr (.inr (.inr (.inl rfl)))))
        have hc:=hPr.out _ hW
        rw [if_neg (by decide)] at hc
        go_wp2_with fail
        refine (hc).mono ?_
        rintro e w6 ⟨rfl,hb6⟩
        have hWw6:=hW.trans (hb6.mono hW.size)
        clear hb6 t0 t1 t2 t3 t4 t5 t6 q0 q1 q2 q3 q4 qp
        obtain ⟨t0,t1,t2,t3,t4,t5,t6,q0,q1,q2,q3,q4,qp⟩:=hS.out _ hWw6
        go_wp2_with fail
        go_ret
        exact ⟨by rw [HB.out];rfl,hbW.trans (hWw6.mono (by have:=HSZ.out;omega))⟩
       | true =>
        have hc:=hPr.out _ hW
        rw [if_pos rfl] at hc
        go_wp2_with fail
        refine (hc).mono ?_
        rintro e w6 ⟨rfl,hb6⟩
        have hWw6:=hW.trans (hb6.mono hW.size)
        clear hb6 t0 t1 t2 t3 t4 t5 t6 q0 q1 q2 q3 q4 qp
        obtain ⟨t0,t1,t2,t3,t4,t5,t6,q0,q1,q2,q3,q4,qp⟩:=hS.out _ hWw6
        clear hc
        have hc:=hBk.out _ hWw6
        cases bB with
        | false =>
         have HB:=Lib.hid (hbad.out (.inr (.inr (.inr (.inr (.inl rfl))))))
         rw [if_neg (by decide)] at hc
         go_wp2_with fail
         refine (hc).mono ?_
         rintro e w7 ⟨rfl,hb7⟩
         have hWw7:=hWw6.trans (hb7.mono hWw6.size)
         clear hb7 t0 t1 t2 t3 t4 t5 t6 q0 q1 q2 q3 q4 qp
         obtain ⟨t0,t1,t2,t3,t4,t5,t6,q0,q1,q2,q3,q4,qp⟩:=hS.out _ hWw7
         go_wp2_with fail
         go_ret
         exact ⟨by rw [HB.out];rfl,hbW.trans (hWw7.mono (by have:=HSZ.out;omega))⟩
        | true =>
         rw [if_pos rfl] at hc
         go_wp2_with fail
         refine (hc).mono ?_
         rintro e w7 ⟨rfl,hb7⟩
         have hWw7:=hWw6.trans (hb7.mono hWw6.size)
         clear hb7 t0 t1 t2 t3 t4 t5 t6 q0 q1 q2 q3 q4 qp
         obtain ⟨t0,t1,t2,t3,t4,t5,t6,q0,q1,q2,q3,q4,qp⟩:=hS.out _ hWw7
         clear hc
         have hc:=hSn.out _ hWw7
         cases bS with
         | false =>
          have HB:=Lib.hid (hbad.out (.inr (.inr (.inr (.inr (.inr (.inl rfl)))))))
          go_wp2_with fail
          refine (hc).mono ?_
          rintro e w8 ⟨rfl,hb8⟩
          have hWw8:=hWw7.trans (hb8.mono hWw7.size)
          clear hb8 t0 t1 t2 t3 t4 t5 t6 q0 q1 q2 q3 q4 qp
          obtain ⟨t0,t1,t2,t3,t4,t5,t6,q0,q1,q2,q3,q4,qp⟩:=hS.out _ hWw8
          go_wp2_with fail
          go_ret
          exact ⟨by rw [HB.out];rfl,hbW.trans (hWw8.mono (by have:=HSZ.out;omega))⟩
         | true =>
          go_wp2_with fail
          refine (hc).mono ?_
          rintro e w8 ⟨rfl,hb8⟩
          have hWw8:=hWw7.trans (hb8.mono hWw7.size)
          clear hb8 t0 t1 t2 t3 t4 t5 t6 q0 q1 q2 q3 q4 qp
          obtain ⟨t0,t1,t2,t3,t4,t5,t6,q0,q1,q2,q3,q4,qp⟩:=hS.out _ hWw8
          clear hc
          have hc:=hOr.out _ hWw8
          cases bO with
          | false =>
           have HB:=Lib.hid (hbad.out (.inr (.inr (.inr (.inr (.inr (.inr rfl)))))))
           go_wp2_with fail
           refine (hc).mono ?_
           rintro e w9 ⟨rfl,hb9⟩
           have hWw9:=hWw8.trans (hb9.mono hWw8.size)
           clear hb9 t0 t1 t2 t3 t4 t5 t6 q0 q1 q2 q3 q4 qp
           obtain ⟨t0,t1,t2,t3,t4,t5,t6,q0,q1,q2,q3,q4,qp⟩:=hS.out _ hWw9
           go_wp2_with fail
           go_ret
           exact ⟨by rw [HB.out];rfl,hbW.trans (hWw9.mono (by have:=HSZ.out;omega))⟩
          | true =>
           have HGG:=Lib.hid (hgood.out (by trivial) HGO.out HPAR.out (by trivial) (by trivial) (by trivial) (by trivial))
           go_wp2_with fail
           refine (hc).mono ?_
           rintro e w9 ⟨rfl,hb9⟩
           have hWw9:=hWw8.trans (hb9.mono hWw8.size)
           clear hb9 t0 t1 t2 t3 t4 t5 t6 q0 q1 q2 q3 q4 qp
           obtain ⟨t0,t1,t2,t3,t4,t5,t6,q0,q1,q2,q3,q4,qp⟩:=hS.out _ hWw9
           have hbf:=HB1.out.trans (hWw9.mono (by have:=HSZ.out;have:=HB1.out.size;omega))
           clear hc
           go_wp2_with fail
           go_roundw
           case rel=>exact ⟨k+1,by omega,by go_num,HGG.out,hbf⟩
           case measure=>simp [intOf];omega
   ·have hpe:parB xp=some (upL xp):=by
     unfold parB
     rw [if_neg (by rw [hpb];simp [hne])]
    obtain ⟨z,hz⟩:∃ z,z=findS l (upL xp):=⟨_,rfl⟩
    have HFL:Hid ((z<0→∃ u,parB xp=some u∧(l.any fun y=>y.path == u)=false)∧(0≤z→∀ u,parB xp=some u→(l.any fun y=>y.path == u)=true)):=by
     show _∧_
     rw [hz]
     exact ⟨fun h=>⟨_,hpe,(HFL.out _ hpe).1 h⟩,fun h u hu=>by rw [hpe] at hu;cases hu;exact (HFL.out _ hpe).2 h⟩
    rw [← hz] at hFi
    rw [hpb] at hbad hgood hPa
    have hF:z<0∨0≤z:=by omega
    obtain ⟨up,hup⟩:∃ u,u=upL xp:=⟨_,rfl⟩
    rw [← hup] at hFi ⊢
    clear hne hpb hpe hz hup
    go_wp2_with fail
    refine wpC_regionH (fun W'=>Below W0.heap.size W0 W') (hb4.drew) (fun OPS D QQ HO HD HD2 HQQ=>?_)
    have hgo4:=hgoL HO 4 35 rfl
    have hgo7:=hgoL HO 7 38 rfl
    have hgo20:=hgoL HO 20 51 rfl
    have hgo22:=hgoL HO 22 53 rfl
    clear HO
    refine zX ?_
    refine zY ?_
    refine zN hPa.out ?_
    iterate 3 refine zX ?_
    rcases hprev with ⟨d4,d4',d5⟩ | ⟨d4,d4',i1,i2,i3,i4,yp,d5,d6⟩
    ·iterate 17 refine zX ?_
     refine zY ?_
     refine zX ?_
     rcases hF with hF | hF
     ·have HB:=Lib.hid (hbad.out (.inr (.inr (.inl (HFL.out.1 hF)))))
      have hz1:decide (z<0)=true:=by simpa using hF
      refine zN hFi.out ?_
      iterate 4 refine zX ?_
      refine wpQuiet_nil (HQQ.out _ (fun W hW=>?_))
      obtain ⟨t0,t1,t2,t3,t4,t5,t6,q0,q1,q2,q3,q4,qp⟩:=hS.out W hW
      go_wp2_with fail
      go_ret
      exact ⟨by rw [HB.out];rfl,hbW.trans (hW.mono (by have:=HSZ.out;omega))⟩
     ·have hz1:decide (z<0)=false:=by simp;omega
      refine zN hFi.out ?_
      iterate 4 refine zX ?_
      refine wpQuiet_nil (HQQ.out _ (fun W hW=>?_))
      obtain ⟨t0,t1,t2,t3,t4,t5,t6,q0,q1,q2,q3,q4,qp⟩:=hS.out W hW
      have HGO:=Lib.hid (d5.out)
      have HPAR:=Lib.hid (HFL.out.2 hF)
      cases bP with
      | false =>
       have HB:=Lib.hid (hbad.out (.inr (.inr (.inr (.inl rfl)))))
       have hc:=hPr.out _ hW
       rw [if_neg (by decide)] at hc
       go_wp2_with fail
       refine (hc).mono ?_
       rintro e w6 ⟨rfl,hb6⟩
       have hWw6:=hW.trans (hb6.mono hW.size)
       clear hb6 t0 t1 t2 t3 t4 t5 t6 q0 q1 q2 q3 q4 qp
       obtain ⟨t0,t1,t2,t3,t4,t5,t6,q0,q1,q2,q3,q4,qp⟩:=hS.out _ hWw6
       go_wp2_with fail
       go_ret
       exact ⟨by rw [HB.out];rfl,hbW.trans (hWw6.mono (by have:=HSZ.out;omega))⟩
      | true =>
       have hc:=hPr.out _ hW
       rw [if_pos rfl] at hc
       go_wp2_with fail
       refine (hc).mono ?_
       rintro e w6 ⟨rfl,hb6⟩
       have hWw6:=hW.trans (hb6.mono hW.size)
       clear hb6 t0 t1 t2 t3 t4 t5 t6 q0 q1 q2 q3 q4 qp
       obtain ⟨t0,t1,t2,t3,t4,t5,t6,q0,q1,q2,q3,q4,qp⟩:=hS.out _ hWw6
       clear hc
       have hc:=hBk.out _ hWw6
       cases bB with
       | false =>
        have HB:=Lib.hid (hbad.out (.inr (.inr (.inr (.inr (.inl rfl))))))
        rw [if_neg (by decide)] at hc
        go_wp2_with fail
        refine (hc).mono ?_
        rintro e w7 ⟨rfl,hb7⟩
        have hWw7:=hWw6.trans (hb7.mono hWw6.size)
        clear hb7 t0 t1 t2 t3 t4 t5 t6 q0 q1 q2 q3 q4 qp
        obtain ⟨t0,t1,t2,t3,t4,t5,t6,q0,q1,q2,q3,q4,qp⟩:=hS.out _ hWw7
        go_wp2_with fail
        go_ret
        exact ⟨by rw [HB.out];rfl,hbW.trans (hWw7.mono (by have:=HSZ.out;omega))⟩
       | true =>
        rw [if_pos rfl] at hc
        go_wp2_with fail
        refine (hc).mono ?_
        rintro e w7 ⟨rfl,hb7⟩
        have hWw7:=hWw6.trans (hb7.mono hWw6.size)
        clear hb7 t0 t1 t2 t3 t4 t5 t6 q0 q1 q2 q3 q4 qp
        obtain ⟨t0,t1,t2,t3,t4,t5,t6,q0,q1,q2,q3,q4,qp⟩:=hS.out _ hWw7
        clear hc
        have hc:=hSn.out _ hWw7
        cases bS with
        | false =>
         have HB:=Lib.hid (hbad.out (.inr (.inr (.inr (.inr (.inr (.inl rfl)))))))
         go_wp2_with fail
         refine (hc).mono ?_
         rintro e w8 ⟨rfl,hb8⟩
         have hWw8:=hWw7.trans (hb8.mono hWw7.size)
         clear hb8 t0 t1 t2 t3 t4 t5 t6 q0 q1 q2 q3 q4 qp
         obtain ⟨t0,t1,t2,t3,t4,t5,t6,q0,q1,q2,q3,q4,qp⟩:=hS.out _ hWw8
         go_wp2_with fail
         go_ret
         exact ⟨by rw [HB.out];rfl,hbW.trans (hWw8.mono (by have:=HSZ.out;omega))⟩
        | true =>
         go_wp2_with fail
         refine (hc).mono ?_
         rintro e w8 ⟨rfl,hb8⟩
         have hWw8:=hWw7.trans (hb8.mono hWw7.size)
         clear hb8 t0 t1 t2 t3 t4 t5 t6 q0 q1 q2 q3 q4 qp
         obtain ⟨t0,t1,t2,t3,t4,t5,t6,q0,q1,q2,q3,q4,qp⟩:=hS.out _ hWw8
         clear hc
         have hc:=hOr.out _ hWw8
         cases bO with
         | false =>
          have HB:=Lib.hid (hbad.out (.inr (.inr (.inr (.inr (.inr (.inr rfl)))))))
          go_wp2_with fail
          refine (hc).mono ?_
          rintro e w9 ⟨rfl,hb9⟩
          have hWw9:=hWw8.trans (hb9.mono hWw8.size)
          clear hb9 t0 t1 t2 t3 t4 t5 t6 q0 q1 q2 q3 q4 qp
          obtain ⟨t0,t1,t2,t3,t4,t5,t6,q0,q1,q2,q3,q4,qp⟩:=hS.out _ hWw9
          go_wp2_with fail
          go_ret
          exact ⟨by rw [HB.out];rfl,hbW.trans (hWw9.mono (by have:=HSZ.out;omega))⟩
         | true =>
          have HGG:=Lib.hid (hgood.out (by trivial) HGO.out HPAR.out (by trivial) (by trivial) (by trivial) (by trivial))
          go_wp2_with fail
          refine (hc).mono ?_
          rintro e w9 ⟨rfl,hb9⟩
          have hWw9:=hWw8.trans (hb9.mono hWw8.size)
          clear hb9 t0 t1 t2 t3 t4 t5 t6 q0 q1 q2 q3 q4 qp
          obtain ⟨t0,t1,t2,t3,t4,t5,t6,q0,q1,q2,q3,q4,qp⟩:=hS.out _ hWw9
          have hbf:=HB1.out.trans (hWw9.mono (by have:=HSZ.out;have:=HB1.out.size;omega))
          clear hc
          go_wp2_with fail
          go_roundw
          case rel=>exact ⟨k+1,by omega,by go_num,HGG.out,hbf⟩
          case measure=>simp [intOf];omega
    ·have hge:=geqS 9 yp xp
     iterate 3 refine zX ?_
     refine zY ?_
     iterate 4 refine zX ?_
     refine wpC_greadS (v:=?_) rfl rfl hgo7.out rfl (fun W hW=>?_) ?_
     rotate_left
     ·replace hW:=HD.out W hW
      obtain ⟨t0,t1,t2,t3,t4,t5,t6,q0,q1,q2,q3,q4,qp⟩:=hS.out W hW
      replace qp:=qp _ d6.out
      go_simp;try (with_reducible rfl)
     dsimp only [zB,zC]
     refine zX ?_
     refine zY ?_
     cases hbl:Op.bytesLess yp xp with
     | false =>
      have HB:=Lib.hid (hbad.out (.inr (.inl (d5.out.2 hbl))))
      rw [hbl] at hge
      iterate 13 refine zX ?_
      refine wpQuiet_nil (HQQ.out _ (fun W hW=>?_))
      obtain ⟨t0,t1,t2,t3,t4,t5,t6,q0,q1,q2,q3,q4,qp⟩:=hS.out W hW
      go_wp2_with fail
      go_ret
      exact ⟨by rw [HB.out];rfl,hbW.trans (hW.mono (by have:=HSZ.out;omega))⟩
     | true =>
      have HG:=d5.out.1 hbl
      rw [hbl] at hge
      iterate 6 refine zX ?_
      refine zY ?_
      refine zX ?_
      rcases hF with hF | hF
      ·have HB:=Lib.hid (hbad.out (.inr (.inr (.inl (HFL.out.1 hF)))))
       have hz1:decide (z<0)=true:=by simpa using hF
       refine zN hFi.out ?_
       iterate 4 refine zX ?_
       refine wpQuiet_nil (HQQ.out _ (fun W hW=>?_))
       obtain ⟨t0,t1,t2,t3,t4,t5,t6,q0,q1,q2,q3,q4,qp⟩:=hS.out W hW
       go_wp2_with fail
       go_ret
       exact ⟨by rw [HB.out];rfl,hbW.trans (hW.mono (by have:=HSZ.out;omega))⟩
      ·have hz1:decide (z<0)=false:=by simp;omega
       refine zN hFi.out ?_
       iterate 4 refine zX ?_
       refine wpQuiet_nil (HQQ.out _ (fun W hW=>?_))
       obtain ⟨t0,t1,t2,t3,t4,t5,t6,q0,q1,q2,q3,q4,qp⟩:=hS.out W hW
       have HGO:=Lib.hid (HG)
       have HPAR:=Lib.hid (HFL.out.2 hF)
       cases bP with
       | false =>
        have HB:=Lib.hid (hbad.out (.inr (.inr (.inr (.inl rfl)))))
        have hc:=hPr.out _ hW
        rw [if_neg (by decide)] at hc
        go_wp2_with fail
        refine (hc).mono ?_
        rintro e w6 ⟨rfl,hb6⟩
        have hWw6:=hW.trans (hb6.mono hW.size)
        clear hb6 t0 t1 t2 t3 t4 t5 t6 q0 q1 q2 q3 q4 qp
        obtain ⟨t0,t1,t2,t3,t4,t5,t6,q0,q1,q2,q3,q4,qp⟩:=hS.out _ hWw6
        go_wp2_with fail
        go_ret
        exact ⟨by rw [HB.out];rfl,hbW.trans (hWw6.mono (by have:=HSZ.out;omega))⟩
       | true =>
        have hc:=hPr.out _ hW
        rw [if_pos rfl] at hc
        go_wp2_with fail
        refine (hc).mono ?_
        rintro e w6 ⟨rfl,hb6⟩
        have hWw6:=hW.trans (hb6.mono hW.size)
        clear hb6 t0 t1 t2 t3 t4 t5 t6 q0 q1 q2 q3 q4 qp
        obtain ⟨t0,t1,t2,t3,t4,t5,t6,q0,q1,q2,q3,q4,qp⟩:=hS.out _ hWw6
        clear hc
        have hc:=hBk.out _ hWw6
        cases bB with
        | false =>
         have HB:=Lib.hid (hbad.out (.inr (.inr (.inr (.inr (.inl rfl))))))
         rw [if_neg (by decide)] at hc
         go_wp2_with fail
         refine (hc).mono ?_
         rintro e w7 ⟨rfl,hb7⟩
         have hWw7:=hWw6.trans (hb7.mono hWw6.size)
         clear hb7 t0 t1 t2 t3 t4 t5 t6 q0 q1 q2 q3 q4 qp
         obtain ⟨t0,t1,t2,t3,t4,t5,t6,q0,q1,q2,q3,q4,qp⟩:=hS.out _ hWw7
         go_wp2_with fail
         go_ret
         exact ⟨by rw [HB.out];rfl,hbW.trans (hWw7.mono (by have:=HSZ.out;omega))⟩
        | true =>
         rw [if_pos rfl] at hc
         go_wp2_with fail
         refine (hc).mono ?_
         rintro e w7 ⟨rfl,hb7⟩
         have hWw7:=hWw6.trans (hb7.mono hWw6.size)
         clear hb7 t0 t1 t2 t3 t4 t5 t6 q0 q1 q2 q3 q4 qp
         obtain ⟨t0,t1,t2,t3,t4,t5,t6,q0,q1,q2,q3,q4,qp⟩:=hS.out _ hWw7
         clear hc
         have hc:=hSn.out _ hWw7
         cases bS with
         | false =>
          have HB:=Lib.hid (hbad.out (.inr (.inr (.inr (.inr (.inr (.inl rfl)))))))
          go_wp2_with fail
          refine (hc).mono ?_
          rintro e w8 ⟨rfl,hb8⟩
          have hWw8:=hWw7.trans (hb8.mono hWw7.size)
          clear hb8 t0 t1 t2 t3 t4 t5 t6 q0 q1 q2 q3 q4 qp
          obtain ⟨t0,t1,t2,t3,t4,t5,t6,q0,q1,q2,q3,q4,qp⟩:=hS.out _ hWw8
          go_wp2_with fail
          go_ret
          exact ⟨by rw [HB.out];rfl,hbW.trans (hWw8.mono (by have:=HSZ.out;omega))⟩
         | true =>
          go_wp2_with fail
          refine (hc).mono ?_
          rintro e w8 ⟨rfl,hb8⟩
          have hWw8:=hWw7.trans (hb8.mono hWw7.size)
          clear hb8 t0 t1 t2 t3 t4 t5 t6 q0 q1 q2 q3 q4 qp
          obtain ⟨t0,t1,t2,t3,t4,t5,t6,q0,q1,q2,q3,q4,qp⟩:=hS.out _ hWw8
          clear hc
          have hc:=hOr.out _ hWw8
          cases bO with
          | false =>
           have HB:=Lib.hid (hbad.out (.inr (.inr (.inr (.inr (.inr (.inr rfl)))))))
           go_wp2_with fail
           refine (hc).mono ?_
           rintro e w9 ⟨rfl,hb9⟩
           have hWw9:=hWw8.trans (hb9.mono hWw8.size)
           clear hb9 t0 t1 t2 t3 t4 t5 t6 q0 q1 q2 q3 q4 qp
           obtain ⟨t0,t1,t2,t3,t4,t5,t6,q0,q1,q2,q3,q4,qp⟩:=hS.out _ hWw9
           go_wp2_with fail
           go_ret
           exact ⟨by rw [HB.out];rfl,hbW.trans (hWw9.mono (by have:=HSZ.out;omega))⟩
          | true =>
           have HGG:=Lib.hid (hgood.out (by trivial) HGO.out HPAR.out (by trivial) (by trivial) (by trivial) (by trivial))
           go_wp2_with fail
           refine (hc).mono ?_
           rintro e w9 ⟨rfl,hb9⟩
           have hWw9:=hWw8.trans (hb9.mono hWw8.size)
           clear hb9 t0 t1 t2 t3 t4 t5 t6 q0 q1 q2 q3 q4 qp
           obtain ⟨t0,t1,t2,t3,t4,t5,t6,q0,q1,q2,q3,q4,qp⟩:=hS.out _ hWw9
           have hbf:=HB1.out.trans (hWw9.mono (by have:=HSZ.out;have:=HB1.out.size;omega))
           clear hc
           go_wp2_with fail
           go_roundw
           case rel=>exact ⟨k+1,by omega,by go_num,HGG.out,hbf⟩
           case measure=>simp [intOf];omega
  ·have hkn:k=n:=by omega
   have HF:Hid (V=true):=by
    show _=_
    rw [hok.out,List.drop_of_length_le (by rw [hkn,HN.out];exact Nat.le_refl _)]
    rfl
   clear hkn
   go_wp2_with fail
   go_ret
   exact ⟨by rw [HF.out];rfl,HB0.out.trans (hbw.mono (by have:=HSZ1.out;omega))⟩
end Go.Proofs.YtmladblmknbgnaaGreatDoor
namespace Go.Proofs.YtmladblmknbgnaaGreatDoor
open Go.RowKit
set_option maxRecDepth 100000 in
theorem refAmount_any (n k:Int) (w:World):Calls Tryz.prog 82 #[.int .i64 n,.int .i64 k] w fun e w'=>e=.returned (.bool (amt n k))∧w'=w:=by
 go_enter Tryz.func82,Tryz.ntmps82
 go_wp2_with fail
 all_goals go_ret
 all_goals refine ⟨congrArg Ending.returned (congrArg Value.bool ?_),rfl⟩
 all_goals unfold amt
 all_goals rw [Bool.eq_iff_iff]
 all_goals simp
 all_goals omega
theorem refAmountB_any (n k:Int) (w:World):Calls Tryz.prog 82 #[.int .i64 n,.int .i64 k] w fun e w'=>e=.returned (.bool (amt n k))∧Below w.heap.size w w':=by
 refine (refAmount_any n k w).mono ?_
 rintro e w1 ⟨rfl,rfl⟩
 exact ⟨rfl,Below.refl _ _⟩
theorem refNameB_any (x:BS) (w:World) (hs:x.length≤4000000000):Calls Tryz.prog 81 #[.string ⟨x.toArray⟩] w fun e w'=>e=.returned (.bool (nameB x))∧Below w.heap.size w w':=by
 refine (refName_s ⟨x.toArray⟩ w (by show x.length≤_;omega)).mono ?_
 rintro e w1 ⟨rfl,rfl⟩
 exact ⟨rfl,Below.refl _ _⟩
set_option maxRecDepth 100000 in
set_option maxHeartbeats 1000000 in
theorem refFind_any (v0 v1 v2 v4 v5 v6:Value) (l:List SetR) (n:Nat) (hnl:n=l.length) (A:Option Addr) (c:Nat) (p:BS) (w:World) (B:Nat) (hr:Reads w B 5 A n (cellsK encSet l)) (hB:B≤w.heap.size) (hn:n≤5000000000000) :
  Calls Tryz.prog 15 #[.agg #[v0,v1,v2,.slice A n c,v4,v5,v6],.string ⟨p.toArray⟩] w fun e w'=>e=.returned (.int .i64 (findS l p))∧Below w.heap.size w w':=by
 have HN:=Lib.hid hnl
 have hb1:=(Below.refl w.heap.size w).alloc (Nat.le_refl _) (.cells #[v0,v1,v2,.slice A n c,v4,v5,v6] 27)
 have kT:=Blk.new w 27 #[v0,v1,v2,.slice A n c,v4,v5,v6]
 obtain ⟨W1,hW1⟩:∃ W,W=w.alloc (.cells #[v0,v1,v2,.slice A n c,v4,v5,v6] 27):=⟨_,rfl⟩
 have hsz1:W1.heap.size=w.heap.size+1:=by rw [hW1];simp
 rw [← hW1] at hb1 kT
 have q3:W1.cell? ⟨w.heap.size,3,none⟩=some (.slice A n c):=kT.cell 3
 have hrw:=hr.below (hb1.mono hB)
 have HB1:=Lib.hid hb1
 clear hnl hr kT hsz1 hb1
 go_enter Tryz.func15,Tryz.ntmps15
 go_wp2_with fail
 rw [← hW1]
 clear hW1
 go_loopw [5] (fun j wr=>∃ k:Nat,k≤n∧j=.int .i64 (k:Int)∧Hid (∀ y∈l.take k,(y.path == p)=false)∧wr=W1) (fun j _=>n-(intOf j).toNat)
 case atStart=>exact ⟨0,Nat.zero_le _,rfl,(show ∀ y∈_,_ by simp),rfl⟩
 case round =>
  obtain ⟨k,hk,rfl,hno,hww⟩:=hrel
  have hww:=hww.symm
  subst hww
  by_cases hlt:k<n
  ·have hki:(k:Int)<(n:Int):=by omega
   have hkl:k<l.length:=by have:=HN.out;omega
   obtain ⟨ad,rfl,-,c0,-⟩:=set_at hrw HN.out hlt
   obtain ⟨x,hx⟩:∃ x,x=l[k]'hkl:=⟨_,rfl⟩
   rw [← hx] at c0
   have htk:=List.take_succ_eq_append_getElem hkl
   rw [← hx] at htk
   have HTK:=Lib.hid htk
   have HX:=Lib.hid (show l[k]?=some x by rw [hx];exact List.getElem?_eq_getElem _)
   obtain ⟨xp,hxp⟩:∃ y,y=x.path:=⟨_,rfl⟩
   rw [← hxp] at c0
   have HXP:=Lib.hid hxp
   clear hx htk hrw hxp
   by_cases hxy:xp=p
   ·subst hxy
    go_wp2_with fail
    go_ret
    have hf:=firstP_eq (fun y:SetR=>y.path == xp) l k x hno.out HX.out (by show (x.path == xp)=true;rw [← HXP.out];simp)
    exact ⟨by show _=Ending.returned (.int .i64 (firstI (fun y:SetR=>y.path == xp) l));unfold firstI;rw [hf,if_pos hkl];rfl,HB1.out⟩
   ·have hd:(xp == p)=false:=by simpa using hxy
    have HD:Hid ((x.path == p)=false):=by show _=_;rw [← HXP.out];exact hd
    clear hxy
    go_wp2_with fail
    go_roundw
    case rel =>
     refine ⟨k+1,by omega,by go_num,?_,trivial⟩
     show ∀ z∈l.take (k+1),(z.path == p)=false
     intro z hz
     rw [HTK.out] at hz
     rcases List.mem_append.1 hz with hz | hz
     ·exact hno.out z hz
     ·simp at hz;subst hz;exact HD.out
    case measure=>simp [intOf];omega
  ·have hkn:k=n:=by omega
   have HF:Hid (findS l p=-1):=by
    show firstI (fun y:SetR=>y.path == p) l=_
    unfold firstI
    rw [firstP_none _ l (fun y hy=>hno.out y (by rw [List.take_of_length_le (by rw [hkn,HN.out];exact Nat.le_refl _)];exact hy)),if_neg (Nat.lt_irrefl _)]
   clear hrw hkn
   go_wp2_with fail
   go_ret
   exact ⟨by rw [HF.out];rfl,HB1.out⟩
set_option maxRecDepth 100000 in
set_option maxHeartbeats 1000000 in
theorem refSnap_any (v0 v1 v2 v4:Value) (l:List SnapR) (n:Nat) (hnl:n=l.length) (A:Option Addr) (c:Nat) (p:BS) (w:World) (B:Nat) (hr:Reads w B 5 A n (cellsK encSnap l)) (hB:B≤w.heap.size) (hn:n≤5000000000000) :
  Calls Tryz.prog 46 #[.agg #[v0,v1,v2,.slice A n c,v4],.string ⟨p.toArray⟩] w fun e w'=>e=.returned (.int .i64 (findN l p))∧Below w.heap.size w w':=by
 have HN:=Lib.hid hnl
 have hb1:=(Below.refl w.heap.size w).alloc (Nat.le_refl _) (.cells #[v0,v1,v2,.slice A n c,v4] 42)
 have kT:=Blk.new w 42 #[v0,v1,v2,.slice A n c,v4]
 obtain ⟨W1,hW1⟩:∃ W,W=w.alloc (.cells #[v0,v1,v2,.slice A n c,v4] 42):=⟨_,rfl⟩
 have hsz1:W1.heap.size=w.heap.size+1:=by rw [hW1];simp
 rw [← hW1] at hb1 kT
 have q3:W1.cell? ⟨w.heap.size,3,none⟩=some (.slice A n c):=kT.cell 3
 have hrw:=hr.below (hb1.mono hB)
 have HB1:=Lib.hid hb1
 clear hnl hr kT hsz1 hb1
 go_enter Tryz.func46,Tryz.ntmps46
 go_wp2_with fail
 rw [← hW1]
 clear hW1
 go_loopw [5] (fun j wr=>∃ k:Nat,k≤n∧j=.int .i64 (k:Int)∧Hid (∀ y∈l.take k,(y.nm == p)=false)∧wr=W1) (fun j _=>n-(intOf j).toNat)
 case atStart=>exact ⟨0,Nat.zero_le _,rfl,(show ∀ y∈_,_ by simp),rfl⟩
 case round =>
  obtain ⟨k,hk,rfl,hno,hww⟩:=hrel
  have hww:=hww.symm
  subst hww
  by_cases hlt:k<n
  ·have hki:(k:Int)<(n:Int):=by omega
   have hkl:k<l.length:=by have:=HN.out;omega
   obtain ⟨ad,rfl,-,c0,-⟩:=snap_at hrw HN.out hlt
   obtain ⟨x,hx⟩:∃ x,x=l[k]'hkl:=⟨_,rfl⟩
   rw [← hx] at c0
   have htk:=List.take_succ_eq_append_getElem hkl
   rw [← hx] at htk
   have HTK:=Lib.hid htk
   have HX:=Lib.hid (show l[k]?=some x by rw [hx];exact List.getElem?_eq_getElem _)
   obtain ⟨xp,hxp⟩:∃ y,y=x.nm:=⟨_,rfl⟩
   rw [← hxp] at c0
   have HXP:=Lib.hid hxp
   clear hx htk hrw hxp
   by_cases hxy:xp=p
   ·subst hxy
    go_wp2_with fail
    go_ret
    have hf:=firstP_eq (fun y:SnapR=>y.nm == xp) l k x hno.out HX.out (by show (x.nm == xp)=true;rw [← HXP.out];simp)
    exact ⟨by show _=Ending.returned (.int .i64 (firstI (fun y:SnapR=>y.nm == xp) l));unfold firstI;rw [hf,if_pos hkl];rfl,HB1.out⟩
   ·have hd:(xp == p)=false:=by simpa using hxy
    have HD:Hid ((x.nm == p)=false):=by show _=_;rw [← HXP.out];exact hd
    clear hxy
    go_wp2_with fail
    go_roundw
    case rel =>
     refine ⟨k+1,by omega,by go_num,?_,trivial⟩
     show ∀ z∈l.take (k+1),(z.nm == p)=false
     intro z hz
     rw [HTK.out] at hz
     rcases List.mem_append.1 hz with hz | hz
     ·exact hno.out z hz
     ·simp at hz;subst hz;exact HD.out
    case measure=>simp [intOf];omega
  ·have hkn:k=n:=by omega
   have HF:Hid (findN l p=-1):=by
    show firstI (fun y:SnapR=>y.nm == p) l=_
    unfold firstI
    rw [firstP_none _ l (fun y hy=>hno.out y (by rw [List.take_of_length_le (by rw [hkn,HN.out];exact Nat.le_refl _)];exact hy)),if_neg (Nat.lt_irrefl _)]
   clear hrw hkn
   go_wp2_with fail
   go_ret
   exact ⟨by rw [HF.out];rfl,HB1.out⟩
def prevS (l:List BS) (k:Nat):Option BS:=match k with
 | 0=>none
 | j+1=>l[j]?
set_option maxRecDepth 100000 in
set_option maxHeartbeats 2000000 in
theorem refTags_any (l:List BS) (n:Nat) (hnl:n=l.length) (A:Option Addr) (c:Nat) (w:World) (B:Nat) (hr:Reads w B 1 A n (scells l)) (hn:n≤5000000000000) (hv:∀ x∈l,x.length≤4000000000) :
  Calls Tryz.prog 202 #[.slice A n c] w fun e w'=>e=.returned (.bool (tagsB l))∧∃ q,w'=w.drewN q:=by
 have HN:=Lib.hid hnl
 obtain ⟨V,hV⟩:∃ V,V=tagsB l:=⟨_,rfl⟩
 have HVB:Hid (V=(decide (n≤4) && ascF none l)):=by show _=_;rw [hV];unfold tagsB;rw [hnl]
 rw [← hV]
 clear hnl hV
 go_enter Tryz.func202,Tryz.ntmps202
 go_wp2_with fail
 go_loopw [3] (fun j wr=>∃ k:Nat,k≤n∧j=.int .i64 (k:Int)∧Hid (ascF none l=ascF (prevS l k) (l.drop k))∧∃ p,wr=w.drewN p) (fun j _=>n-(intOf j).toNat)
 case atStart=>exact ⟨0,Nat.zero_le _,rfl,rfl,0,rfl⟩
 case round =>
  obtain ⟨k,hk,rfl,hok,p,rfl⟩:=hrel
  by_cases hlt:k<n
  ·obtain ⟨ad,rfl,hadB,c0⟩:=strs_at hr HN.out hlt
   have hki:(k:Int)<(n:Int):=by omega
   have hkl:k<l.length:=by have:=HN.out;omega
   obtain ⟨x,hx⟩:∃ x,x=l[k]'hkl:=⟨_,rfl⟩
   have hxl:=hv x (by rw [hx];exact List.getElem_mem _)
   rw [← hx] at c0
   have hdr:=List.drop_eq_getElem_cons hkl
   rw [← hx] at hdr
   have HX:=Lib.hid hx
   have HDR:=Lib.hid hdr
   simp only [strV] at c0
   have hbad:Hid ((nameB x=false∨(∃ y,prevS l k=some y∧Op.bytesLess y x=false))→V=false):=by
    show _→_
    intro h
    rw [HVB.out,hok.out,HDR.out,ascF_cons]
    rcases h with h | ⟨y,hy,h⟩
    ·rw [h];simp
    ·rw [hy];simp [h]
   have hgood:Hid (nameB x=true→(∀ y,prevS l k=some y→Op.bytesLess y x=true)→ascF none l=ascF (prevS l (k+1)) (l.drop (k+1))):=by
    show _→_→_
    intro h1 h3
    rw [hok.out,HDR.out]
    have hp:prevS l (k+1)=some x:=by
     show l[k]?=_
     rw [List.getElem?_eq_getElem hkl,← HX.out]
    rw [hp,ascF_cons,h1]
    cases hq:prevS l k with
    | none=>rfl
    | some y=>simp [h3 y hq]
   have hN:∀ m,Calls Tryz.prog 81 #[.string ⟨x.toArray⟩] (w.drewN (p+m)) fun e W'=>e=.returned (.bool (nameB x))∧∃ n,W'=w.drewN (p+n):=fun m=>quietN (refName_any x _ (by omega))
   clear hx hdr hok hxl hv
   obtain ⟨bn,hbn0⟩:∃ b,b=nameB x:=⟨_,rfl⟩
   rw [← hbn0] at hbad hgood hN
   clear hbn0
   cases bn with
   | false =>
    have HB:=Lib.hid (hbad.out (.inl rfl))
    clear hr hbad hgood
    go_wp2_with fail
    go_big_quiet ((go_at_call 81;exact hN _))
    clear hN
    go_wp2_with fail
    go_ret
    exact ⟨by rw [HB.out];rfl,_,World.drewN_drewN _ _ _⟩
   | true =>
    rcases Nat.eq_zero_or_pos k with h0 | h0
    ·have HG:=Lib.hid (hgood.out rfl (fun y hy=>by subst h0;cases hy))
     have d4:decide ((0:Int)<(k:Int))=false:=by simp;omega
     have d4':decide (0<k)=false:=by simp;omega
     clear h0 hr hbad hgood
     go_wp2_with fail
     go_big_quiet ((go_at_call 81;exact hN _))
     clear hN
     go_wp2_with fail
     go_roundw
     case rel=>exact ⟨k+1,by omega,by go_num,HG,_,rfl⟩
     case measure=>simp [intOf];omega
    ·have d4:decide ((0:Int)<(k:Int))=true:=by simp;omega
     have d4':decide (0<k)=true:=by simp;omega
     have hk1l:k-1<l.length:=by omega
     obtain ⟨y,hy⟩:∃ y,y=l[k-1]'hk1l:=⟨_,rfl⟩
     have hpv:prevS l k=some y:=by
      obtain ⟨j,rfl⟩:∃ j,k=j+1:=⟨k-1,by omega⟩
      show l[j]?=_
      have hj:j<l.length:=by simpa using hk1l
      rw [List.getElem?_eq_getElem hj,hy]
      rfl
     obtain ⟨ad2,e2,-,c2⟩:=(strs_at hr HN.out (k:=k-1) (by omega))
     injection e2 with e2
     subst e2
     rw [← hy] at c2
     simp only [strV] at c2
     have i1:(1:Int)≤(k:Int):=by omega
     have i2:(k:Int)-1<(n:Int):=by omega
     have i3:IntKind.i64.wrap ((k:Int)-1)=(k:Int)-1:=IntWalk.i64_in _ (by omega)
     have i4:((k:Int)-1).toNat=k-1:=by omega
     have hleq:=leqS 9 x y
     cases hcmp:Op.bytesLess y x with
     | true =>
      have HG:=Lib.hid (hgood.out rfl (fun y' hy'=>by rw [hpv] at hy';cases hy';exact hcmp))
      have f1:(Op.bytesLess x y || x == y)=false:=by
       rw [Bool.or_eq_false_iff]
       refine ⟨?_,by simpa using (bl_ne hcmp).symm⟩
       rw [← Bool.not_eq_true]
       intro h
       have:=bl_trans hcmp h
       rw [bl_irrefl] at this
       cases this
      rw [f1] at hleq
      clear hr hbad hgood h0 hpv hy hcmp f1
      go_wp2_with fail
      go_big_quiet ((go_at_call 81;exact hN _))
      clear hN hleq
      go_wp2_with fail
      go_roundw
      case rel=>exact ⟨k+1,by omega,by go_num,HG,_,rfl⟩
      case measure=>simp [intOf];omega
     | false =>
      have HB:=Lib.hid (hbad.out (.inr ⟨y,hpv,hcmp⟩))
      have f1:(Op.bytesLess x y || x == y)=true:=by
       by_cases e:x=y
       ·simp [e]
       ·rw [bl_tri y x hcmp (fun h=>e h.symm)];rfl
      rw [f1] at hleq
      clear hr hbad hgood h0 hpv hy hcmp f1
      go_wp2_with fail
      go_big_quiet ((go_at_call 81;exact hN _))
      clear hN hleq
      go_wp2_with fail
      go_ret
      exact ⟨by rw [HB.out];rfl,_,World.drewN_drewN _ _ _⟩
  ·have hkn:k=n:=by omega
   have hF:Hid (V=decide (n≤4)):=by
    show _=_
    rw [HVB.out,hok.out,List.drop_of_length_le (by rw [hkn,HN.out];exact Nat.le_refl _)]
    simp [ascF]
   clear hok hr hkn HVB
   by_cases h8:n≤4
   ·have hi8:(n:Int)≤(4:Int):=by omega
    have HV:Hid (V=true):=by show _=_;rw [hF.out,decide_eq_true h8]
    clear hF
    go_wp2_with fail
    go_ret
    exact ⟨by rw [HV.out];rfl,p,rfl⟩
   ·have hi8:¬ (n:Int)≤(4:Int):=by omega
    have HV:Hid (V=false):=by show _=_;rw [hF.out,decide_eq_false h8]
    clear hF
    go_wp2_with fail
    go_ret
    exact ⟨by rw [HV.out];rfl,p,rfl⟩
def ParPost (l:BS) (w:World) (e:Ending) (w':World):Prop:=Below w.heap.size w w' ∧
   ((l=[]∨pathB l=false)∧e=.returned (.tuple #[.string ⟨#[]⟩,.bool false]) ∨
    l≠[]∧pathB l=true∧e=.returned (.tuple #[.string ⟨(upL l).toArray⟩,.bool true]))
set_option maxRecDepth 100000 in
set_option maxHeartbeats 1000000 in
theorem refParent_any (s:ByteArray) (w:World) (hs:s.size≤4000000000) :
  Calls Tryz.prog 154 #[.string s] w (ParPost s.data.toList w):=by
 have hts:=Lib.hid (toList_data s)
 have hpa:=refPath_any s w hs
 by_cases hs0:s.data.toList=[]
 ·have h0:s=⟨#[]⟩:=by apply eq_mk;exact hs0
  subst h0
  clear hpa hts
  go_enter Tryz.func154,Tryz.ntmps154
  go_wp2_with fail
  refine bodyPost_ret (v:=.tuple #[.string ⟨#[]⟩,.bool false]) (by simp [results,Tryz.results154,go_sem]) rfl ⟨Below.refl _ _,.inl ⟨.inl rfl,rfl⟩⟩
 have HNE:=Lib.hid hs0
 have hie:s.toList.isEmpty=false:=by rw [hts.out];simpa using hs0
 have hie2:s.toList≠[]:=by rw [hts.out];exact hs0
 obtain ⟨bs,hbs0⟩:∃ b,b=pathB s.data.toList:=⟨_,rfl⟩
 rw [← hbs0] at hpa
 have HBS:=Lib.hid hbs0
 have hsp:=Lib.hid (lastS_spec s.data.toList)
 have hsz:=Lib.hid (Lib.size_eq s)
 clear hs0 hbs0
 cases bs with
 | false =>
  go_enter Tryz.func154,Tryz.ntmps154
  go_wp2_with fail
  refine hpa.mono ?_
  rintro e w1 ⟨rfl,hb1⟩
  go_wp2_with fail
  refine bodyPost_ret (v:=.tuple #[.string ⟨#[]⟩,.bool false]) (by simp [results,Tryz.results154,go_sem]) rfl ⟨hb1,.inl ⟨.inr HBS.out.symm,rfl⟩⟩
 | true =>
  have i3:IntKind.i64.wrap ((s.size:Int)-1)=(s.size:Int)-1:=IntWalk.i64_in _ (by omega)
  go_enter Tryz.func154,Tryz.ntmps154
  go_wp2_with fail
  refine hpa.mono ?_
  rintro e w1 ⟨rfl,hb1⟩
  go_wp2_with fail
  clear i3 hpa
  go_loopw [4] (fun j wr=>∃ z:Int,-1≤z∧z≤(s.size:Int)-1∧j=.int .i64 z∧Hid (∀ k:Nat,z<(k:Int)→s.data.toList[k]?≠some 47)∧wr=w1) (fun j _=>(intOf j+1).toNat)
  case atStart =>
   refine ⟨(s.size:Int)-1,by omega,by omega,rfl,?_,rfl⟩
   show ∀ k:Nat,_→_
   intro k hk e
   have:=(List.getElem?_eq_some_iff.1 e).1
   have:=hsz.out
   omega
  case round =>
   obtain ⟨z,hz1,hz2,rfl,hok,hww⟩:=hrel
   have hww:=hww.symm
   subst hww
   by_cases hz:0≤z
   ·obtain ⟨k,rfl⟩:∃ k:Nat,z=(k:Int):=⟨z.toNat,by omega⟩
    have hks:k<s.size:=by omega
    have hki:(k:Int)<(s.size:Int):=by omega
    have hkl:k<s.data.toList.length:=by have:=hsz.out;omega
    obtain ⟨y,hy⟩:∃ y,y=s[k]'hks:=⟨_,rfl⟩
    have HY:=Lib.hid (show s.data.toList[k]?=some y by rw [List.getElem?_eq_getElem hkl,bget s k hks,hy])
    have hyv:((s[k]'hks).toNat:Int)=(y.toNat:Int):=by rw [hy]
    have hlt:=y.toNat_lt
    clear hy hz1 hz2
    by_cases h47:(y.toNat:Int)=47
    ·have hy47:y=47:=by
      apply UInt8.toNat_inj.1
      have e:(47:UInt8).toNat=47:=rfl
      omega
     have HU:Hid (upL s.data.toList=s.data.toList.take k):=by
      show _=_
      rcases hsp.out with ⟨_,h2⟩ | ⟨j,h1,h2,h3⟩
      ·exact absurd (by rw [← hy47];exact List.mem_of_getElem? HY.out) h2
      ·have hjk:j=k:=by
        rcases Nat.lt_trichotomy j k with h | h | h
        ·exact absurd (by rw [HY.out,hy47]) (h3 k h)
        ·exact h
        ·exact absurd h2 (hok.out j (by omega))
       unfold upL
       rw [h1,hjk]
       rfl
     have hks2:(k:Int)≤(s.size:Int):=by omega
     clear hy47
     go_wp2_with fail
     have hv:s.extract 0 k=⟨(upL s.data.toList).toArray⟩:=by
      apply eq_mk
      rw [Lib.extract_from_zero,HU.out]
     refine bodyPost_ret (v:=.tuple #[.string ⟨(upL s.data.toList).toArray⟩,.bool true]) (by simp [results,Tryz.results154,go_sem,hv]) rfl ⟨hb1,.inr ⟨HNE.out,HBS.out.symm,rfl⟩⟩
    ·have hyb:((y.toNat:Int) == 47)=false:=by simpa using h47
     have HG:Hid (y≠47):=by
      show _≠_
      rintro rfl
      exact h47 rfl
     go_wp2_with fail
     go_roundw
     case rel =>
      refine ⟨(k:Int)-1,by omega,by omega,by go_num,?_,trivial⟩
      show ∀ k':Nat,_→_
      intro k' hk' e
      by_cases h:k'=k
      ·subst h
       rw [HY.out] at e
       exact HG.out (Option.some.inj e)
      ·exact hok.out k' (by omega) e
     case measure=>simp [intOf];try omega
   ·have HU:Hid (upL s.data.toList=[]):=by
     show _=_
     rcases hsp.out with ⟨h1,_⟩ | ⟨j,h1,h2,h3⟩
     ·unfold upL;rw [h1];rfl
     ·exact absurd h2 (hok.out j (by omega))
    go_wp2_with fail
    have HU2:=HU.out
    refine bodyPost_ret (v:=.tuple #[.string ⟨#[]⟩,.bool true]) (by simp [results,Tryz.results154,go_sem]) rfl ⟨hb1,.inr ⟨HNE.out,HBS.out.symm,by rw [HU2]⟩⟩
end Go.Proofs.YtmladblmknbgnaaGreatDoor
