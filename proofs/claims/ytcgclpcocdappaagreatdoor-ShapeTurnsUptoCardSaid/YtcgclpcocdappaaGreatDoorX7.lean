/-
  Properties in memory; props.value, props.Check, by their contracts. cmp.Or at a row of two numbers; the order of grants: by their contracts. blocks.Free, by its contract. slices.Delete of one element, at elements of 2 cells, by its contract.
-/
import Derived.Test.YtcgclpcocdappaaGreatDoorXM1
import Derived.Test.YtcgclpcocdappaaGreatDoorX0
import Derived.Test.YtcgclpcocdappaaGreatDoorX3
import Derived.Test.YtcgclpcocdappaaGreatDoorX2
import Derived.Test.YtcgclpcocdappaaGreatDoorX6
import Derived.Test.YtcgclpcocdappaaGreatDoorX5
import Derived.Test.YtcgclpcocdappaaGreatDoorRows
import Derived.Handy
import Derived.Lib.Hide
import Derived.Deep.RegionLaw
namespace Go.Proofs.YtcgclpcocdappaaGreatDoor
open Go.RowKit
def strV (s:BS):Value:=.string ⟨s.toArray⟩
def pcells (l:PL):List Value:=l.flatMap fun x=>[strV x.1,strV x.2]
theorem pcells_length (l:PL):(pcells l).length=l.length*2:=by
 induction l with
 | nil=>rfl
 | cons x l ih=>simp only [pcells,List.flatMap_cons,List.length_append,List.length_cons,List.length_nil] at ih ⊢;omega
theorem pcells_append (a b:PL):pcells (a++b)=pcells a++pcells b:=by simp [pcells]
theorem pcells_get (l:PL) (k:Nat) (h:k<l.length):(pcells l)[k*2]?=some (strV (l[k]).1)∧(pcells l)[k*2+1]?=some (strV (l[k]).2):=by
 induction l generalizing k with
 | nil=>simp at h
 | cons x l ih =>
  have e:pcells (x :: l)=strV x.1 :: strV x.2 :: pcells l:=rfl
  exact mZ1
theorem Reads.prop {w:World} {B n:Nat} {A:Option Addr} {l:PL} (h:Reads w B 2 A n (pcells l)) (hn:n=l.length) {k:Nat} (hk:k<n) :
  ∃ ad,A=some ad∧ad.block<B∧w.cell? (ad.add (k*2))=some (strV (l[k]'tZ1).1)∧w.cell? ⟨(ad.add (k*2)).block,(ad.add (k*2)).off+1,none⟩=some (strV (l[k]'tZ1).2):=by
 obtain ⟨ad,e,hb,hc⟩:=h.2 tZ1
 obtain ⟨g1,g2⟩:=pcells_get l k tZ1
 exact mZ2
set_option maxRecDepth 100000 in
theorem valOdd_any (c:UInt8) (w:World):Calls Tryz.prog 196 #[.int .u8 (c.toNat:Int)] w fun e w'=>e=.returned (.bool (!(decide (32≤c) && decide (c≤126))))∧w'=w:=by
 have hc:c.toNat<256:=c.toNat_lt
 have hk:=Lib.hid (show (decide (32≤c) && decide (c≤126))=true↔32≤(c.toNat:Int)∧(c.toNat:Int)≤126 by
  simp only [Bool.and_eq_true,decide_eq_true_eq,UInt8.le_iff_toNat_le]
  have e1:(32:UInt8).toNat=32:=rfl
  have e2:(126:UInt8).toNat=126:=rfl
  omega)
 obtain ⟨b,hb⟩:∃ b,b=(decide (32≤c) && decide (c≤126)):=⟨_,rfl⟩
 rw [← hb] at hk ⊢
 clear hb
 go_enter Tryz.func196,Tryz.ntmps196
 exact mZ23
set_option maxRecDepth 100000 in
set_option maxHeartbeats 1000000 in
theorem fiV_index {α:Type} (f:α→Value) (p:α→Bool) (l:List α) (n:Nat) (hnl:n=l.length) (A:Option Addr) (c:Nat) (w:World) (B:Nat)
  (hr:Reads w B 1 A n (l.map f)) (hB:B≤w.heap.size) (hn:n≤5000000000000)
  (hp:∀ x∈l,∀ W,Calls Tryz.prog 196 #[f x] W fun e W'=>e=.returned (.bool (p x))∧Below W.heap.size W W') :
  Calls Tryz.prog 191 #[.slice A n c,.func (.func 196) #[] #[]] w fun e w'=>e=.returned (.int .i64 (firstI p l))∧Below w.heap.size w w':=by
 exact mZ28
theorem fiV_contains {α:Type} (f:α→Value) (p:α→Bool) (l:List α) (n:Nat) (hnl:n=l.length) (A:Option Addr) (c:Nat) (w:World) (B:Nat)
  (hr:Reads w B 1 A n (l.map f)) (hB:B≤w.heap.size) (hn:n≤5000000000000)
  (hp:∀ x∈l,∀ W,Calls Tryz.prog 196 #[f x] W fun e W'=>e=.returned (.bool (p x))∧Below W.heap.size W W') :
  Calls Tryz.prog 149 #[.slice A n c,.func (.func 196) #[] #[]] w fun e w'=>e=.returned (.bool (l.any p))∧Below w.heap.size w w':=by
 have hcall:=Lib.hid (fiV_index f p l n hnl A c w B hr hB hn hp)
 exact mZ30
set_option maxRecDepth 100000 in
set_option maxHeartbeats 1000000 in
theorem value_any (s:ByteArray) (w:World) (hs:s.size≤140737488351232):Calls Tryz.prog 161 #[.string s] w fun e w'=>e=.returned (.bool (valB s.data.toList))∧Below w.heap.size w w':=by
 have hcv:=Lib.hid (Lib.run_convert_string_bytes (P:=Tryz.prog) w 9 177 5 s Tryz.underlying9 Tryz.underlying177 Tryz.underlying5)
 have hb:=Lib.hid (bytesWorld_below w 5 s)
 have hr:=Lib.hid (bytesWorld_reads w 5 s)
 have hsz:=Lib.hid (Lib.size_eq s)
 go_enter Tryz.func161,Tryz.ntmps161
 go_wp2_with fail
 ·have h16:(s.size:Int)≤32:=by assumption
  rw [hcv.out]
  have hB:=hb.out.size
  have hc:=Lib.hid (fiV_contains (fun c:UInt8=>Value.int .u8 (c.toNat:Int)) (fun c=>!(decide (32≤c) && decide (c≤126))) s.data.toList s.size hsz.out (some ⟨w.heap.size,0,none⟩) (grownCap w s.size 0 5) (Lib.bytesWorld w 5 s) (w.heap.size+1) hr.out
   tZ164 tZ1 (fun x _ W=>(valOdd_any x W).mono fun _ _ ⟨h1,h2⟩=>⟨h1,by rw [h2];exact Below.refl _ _⟩))
  obtain ⟨b,hbe0⟩:∃ b,b=s.data.toList.any fun c=>!(decide (32≤c) && decide (c≤126)):=⟨_,rfl⟩
  rw [← hbe0] at hc
  have hbe:=Lib.hid hbe0
  clear hbe0
  go_wp2_with fail
  refine hc.out.mono ?_
  rintro e w1 ⟨rfl,hb1⟩
  go_wp2_with fail
  go_ret
  refine ⟨congrArg Ending.returned (congrArg Value.bool ?_),hb.out.trans (hb1.mono hB)⟩
  have e2:decide (s.data.toList.length≤32)=true:=by
   rw [← hsz.out]
   exact decide_eq_true tZ1
  unfold valB
  rw [e2,List.all_eq_not_any_not,← hbe.out]
  rfl
 ·have h16:32<(s.size:Int):=by assumption
  go_ret
  refine ⟨congrArg Ending.returned (congrArg Value.bool ?_),Below.refl _ _⟩
  have e2:decide (s.data.toList.length≤32)=false:=by
   rw [← hsz.out]
   exact decide_eq_false tZ1
  unfold valB
  rw [e2]
  simp
/-! ### Check -/
def prevP (l:PL) (k:Nat):Option BS:=match k with
 | 0=>none
 | j+1=>(l[j]?).map (·.1)
theorem propsFrom_cons (p:Option BS) (x:BS×BS) (l:PL):propsFrom p (x :: l)=(nameB x.1 && valB x.2 && (match p with | none=>true | some q=>Op.bytesLess q x.1) && propsFrom (some x.1) l):=by
 cases p <;> rfl
def propsE (l:PL):Int:=if propsB l=true then 0 else 9
set_option maxRecDepth 100000 in
set_option maxHeartbeats 2000000 in
theorem checkP_any (l:PL) (n:Nat) (hnl:n=l.length) (A:Option Addr) (c:Nat) (w:World) (B:Nat) (hr:Reads w B 2 A n (pcells l)) (hB:B≤w.heap.size) (hn:n≤140737488351232) (hv:∀ x∈l,x.2.length≤140737488351232) :
  Calls Tryz.prog 158 #[.slice A n c] w fun e w'=>e=.returned (.int .i64 (propsE l))∧Below w.heap.size w w':=by
 have HN:=Lib.hid hnl
 clear hnl
 go_enter Tryz.func158,Tryz.ntmps158
 by_cases hn8:8<n
 ·have hi:(8:Int)<(n:Int):=tZ1
  have HE:Hid (propsE l=9):=by
   show _=_
   unfold propsE propsB
   rw [if_neg]
   rw [Bool.and_eq_true,decide_eq_true_eq]
   have:=HN.out
   omega
  exact mZ72
 have hi:¬ (8:Int)<(n:Int):=tZ1
 have hPE:Hid (∀ b,propsFrom none l=b→propsE l=if b=true then 0 else 9):=by
  show ∀ b,_→_
  rintro b rfl
  unfold propsE propsB
  rw [decide_eq_true (show l.length≤8 by have:=HN.out;omega),Bool.true_and]
 go_wp2_with fail
 go_loopw [10] (fun j wr=>∃ k:Nat,k≤n∧j=.int .i64 (k:Int)∧Hid (propsFrom none l=propsFrom (prevP l k) (l.drop k))∧Below w.heap.size w wr) (fun j _=>n-(intOf j).toNat)
 case atStart=>exact ⟨0,Nat.zero_le _,rfl,rfl,Below.refl _ _⟩
 case round =>
  obtain ⟨k,hk,rfl,hok,hbw⟩:=hrel
  by_cases hlt:k<n
  ·have hrw:=hr.below (hbw.mono hB)
   obtain ⟨ad,rfl,hadB,c0,c1⟩:=hrw.prop HN.out hlt
   have hki:(k:Int)<(n:Int):=tZ1
   have hkl:k<l.length:=tZ7
   obtain ⟨x,hx⟩:∃ x,x=l[k]'hkl:=⟨_,rfl⟩
   have hxl:x.2.length≤140737488351232:=hv x tZ14
   rw [← hx] at c0 c1
   have hdr:=List.drop_eq_getElem_cons hkl
   rw [← hx] at hdr
   have HX:=Lib.hid hx
   have HDR:=Lib.hid hdr
   obtain ⟨xn,xv⟩:=x
   simp only [strV] at c0 c1 hxl
   obtain ⟨W0,hW0⟩:∃ W0,W0=wr.alloc (.cells #[.string ⟨xn.toArray⟩,.string ⟨xv.toArray⟩] 78):=⟨_,rfl⟩
   have k0:W0.cell? ⟨wr.heap.size,0,none⟩=some (.string ⟨xn.toArray⟩):=tZ145
   have k1:W0.cell? ⟨wr.heap.size,1,none⟩=some (.string ⟨xv.toArray⟩):=tZ146
   have hszW:W0.heap.size=wr.heap.size+1:=tZ21
   have hlt0:wr.heap.size<W0.heap.size:=tZ1
   have HSZ:=Lib.hid hszW
   have hwr:=hbw.size
   have hbW:Below w.heap.size w W0:=tZ54
   have hS0:=(Below.refl W0.heap.size W0).drew
   have hbad:Hid ((nameB xn=false∨valB xv=false∨(∃ y,prevP l k=some y∧Op.bytesLess y xn=false))→propsE l=9):=by
    exact mZ71
   have hgood:Hid (nameB xn=true→valB xv=true→(∀ y,prevP l k=some y→Op.bytesLess y xn=true)→propsFrom none l=propsFrom (prevP l (k+1)) (l.drop (k+1))):=by
    exact mZ70
   have hN:∀ W,Calls Tryz.prog 83 #[.string ⟨xn.toArray⟩] W fun e W'=>e=.returned (.bool (nameB xn))∧Below W.heap.size W W':=fun W=>name_any ⟨xn.toArray⟩ W
   have hV:∀ W,Calls Tryz.prog 161 #[.string ⟨xv.toArray⟩] W fun e W'=>e=.returned (.bool (valB xv))∧Below W.heap.size W W':=fun W=>value_any ⟨xv.toArray⟩ W hxl
   clear hx hdr hok hxl
   obtain ⟨bn,hbn0⟩:∃ b,b=nameB xn:=⟨_,rfl⟩
   obtain ⟨bv,hbv0⟩:∃ b,b=valB xv:=⟨_,rfl⟩
   rw [← hbn0] at hbad hgood hN
   rw [← hbv0] at hbad hgood hV
   clear hbn0 hbv0
   cases bn with
   | false =>
    have HB:=Lib.hid (hbad.out (.inl rfl))
    have hS:=Lib.hid (fun (W':World) (hB:Below W0.heap.size W0 W')=>(⟨(hB.cell (p:=⟨wr.heap.size,0,none⟩) hlt0).trans k0,(hB.cell (p:=⟨wr.heap.size,1,none⟩) hlt0).trans k1,hB⟩:W'.cell? ⟨wr.heap.size,0,none⟩=some (.string ⟨xn.toArray⟩)∧W'.cell? ⟨wr.heap.size,1,none⟩=some (.string ⟨xv.toArray⟩)∧Below W0.heap.size W0 W'))
    clear hr hrw hbad hgood hV
    go_wp2_with fail
    rw [← hW0]
    clear hW0 hszW
    refine wpC_regionH (fun W'=>W'.cell? ⟨wr.heap.size,0,none⟩=some (.string ⟨xn.toArray⟩)∧W'.cell? ⟨wr.heap.size,1,none⟩=some (.string ⟨xv.toArray⟩)∧Below W0.heap.size W0 W') (hS.out _ hS0) (fun OPS D QQ HO HD HD2 HQQ=>?_)
    have hgo4:=hgoL HO 4 19 rfl
    have hgo10:=hgoL HO 10 25 rfl
    have hgo13:=hgoL HO 13 28 rfl
    clear HO
    refine zX ?_
    refine zY ?_
    refine zN hN ?_
    iterate 22 refine zX ?_
    refine wpQuiet_nil (HQQ.out _ (fun W hW=>?_))
    obtain ⟨q0,q1,hcW⟩:=hW
    exact mZ68
   | true =>
    cases bv with
    | false =>
     have HB:=Lib.hid (hbad.out (.inr (.inl rfl)))
     have hS:=Lib.hid (fun (W':World) (hB:Below W0.heap.size W0 W')=>(⟨(hB.cell (p:=⟨wr.heap.size,0,none⟩) hlt0).trans k0,(hB.cell (p:=⟨wr.heap.size,1,none⟩) hlt0).trans k1,hB⟩:W'.cell? ⟨wr.heap.size,0,none⟩=some (.string ⟨xn.toArray⟩)∧W'.cell? ⟨wr.heap.size,1,none⟩=some (.string ⟨xv.toArray⟩)∧Below W0.heap.size W0 W'))
     clear hr hrw hbad hgood
     go_wp2_with fail
     rw [← hW0]
     clear hW0 hszW
     refine wpC_regionH (fun W'=>W'.cell? ⟨wr.heap.size,0,none⟩=some (.string ⟨xn.toArray⟩)∧W'.cell? ⟨wr.heap.size,1,none⟩=some (.string ⟨xv.toArray⟩)∧Below W0.heap.size W0 W') (hS.out _ hS0) (fun OPS D QQ HO HD HD2 HQQ=>?_)
     have hgo4:=hgoL HO 4 19 rfl
     have hgo10:=hgoL HO 10 25 rfl
     have hgo13:=hgoL HO 13 28 rfl
     clear HO
     refine zX ?_
     refine zY ?_
     refine zN hN ?_
     iterate 3 refine zX ?_
     refine zY ?_
     refine zN hV ?_
     iterate 17 refine zX ?_
     refine wpQuiet_nil (HQQ.out _ (fun W hW=>?_))
     obtain ⟨q0,q1,hcW⟩:=hW
     exact mZ68
    | true =>
     rcases Nat.eq_zero_or_pos k with h0 | h0
     ·have HG:=Lib.hid (hgood.out rfl rfl (fun y hy=>by subst h0;cases hy))
      have d4:decide ((0:Int)<(k:Int))=false:=tZ6
      have d4':decide (0<k)=false:=tZ6
      clear h0
      have hS:=Lib.hid (fun (W':World) (hB:Below W0.heap.size W0 W')=>(⟨(hB.cell (p:=⟨wr.heap.size,0,none⟩) hlt0).trans k0,(hB.cell (p:=⟨wr.heap.size,1,none⟩) hlt0).trans k1,hB⟩:W'.cell? ⟨wr.heap.size,0,none⟩=some (.string ⟨xn.toArray⟩)∧W'.cell? ⟨wr.heap.size,1,none⟩=some (.string ⟨xv.toArray⟩)∧Below W0.heap.size W0 W'))
      clear hr hrw hbad hgood
      go_wp2_with fail
      rw [← hW0]
      clear hW0 hszW
      refine wpC_regionH (fun W'=>W'.cell? ⟨wr.heap.size,0,none⟩=some (.string ⟨xn.toArray⟩)∧W'.cell? ⟨wr.heap.size,1,none⟩=some (.string ⟨xv.toArray⟩)∧Below W0.heap.size W0 W') (hS.out _ hS0) (fun OPS D QQ HO HD HD2 HQQ=>?_)
      have hgo4:=hgoL HO 4 19 rfl
      have hgo10:=hgoL HO 10 25 rfl
      have hgo13:=hgoL HO 13 28 rfl
      clear HO
      refine zX ?_
      refine zY ?_
      refine zN hN ?_
      iterate 3 refine zX ?_
      refine zY ?_
      refine zN hV ?_
      iterate 17 refine zX ?_
      refine wpQuiet_nil (HQQ.out _ (fun W hW=>?_))
      obtain ⟨q0,q1,hcW⟩:=hW
      exact mZ69
     ·have d4:decide ((0:Int)<(k:Int))=true:=tZ6
      have d4':decide (0<k)=true:=tZ6
      have hk1l:k-1<l.length:=tZ1
      obtain ⟨y,hy⟩:∃ y,y=(l[k-1]'hk1l).1:=⟨_,rfl⟩
      have hpv:prevP l k=some y:=by
       exact mZ9
      obtain ⟨ad2,e2,-,c2,-⟩:=(hrw.prop HN.out (k:=k-1) tZ1)
      injection e2 with e2
      subst e2
      rw [← hy] at c2
      simp only [strV] at c2
      have hltp:(ad.add ((k-1)*2)).block<W0.heap.size:=tZ120
      have kp:W0.cell? (ad.add ((k-1)*2))=some (.string ⟨y.toArray⟩):=by rw [hW0];exact (World.cell?_alloc_lt wr _ _ tZ120).trans c2
      have hgeq:=geqS 9 y xn
      have i1:(1:Int)≤(k:Int):=tZ1
      have i2:(k:Int)-1<(n:Int):=tZ1
      have i3:IntKind.i64.wrap ((k:Int)-1)=(k:Int)-1:=IntWalk.i64_in _ tZ1
      have i4:((k:Int)-1).toNat=k-1:=tZ1
      have hS:=Lib.hid (fun (W':World) (hB:Below W0.heap.size W0 W')=>(⟨(hB.cell (p:=⟨wr.heap.size,0,none⟩) hlt0).trans k0,(hB.cell (p:=⟨wr.heap.size,1,none⟩) hlt0).trans k1,(hB.cell (p:=ad.add ((k-1)*2)) hltp).trans kp,hB⟩:W'.cell? ⟨wr.heap.size,0,none⟩=some (.string ⟨xn.toArray⟩)∧W'.cell? ⟨wr.heap.size,1,none⟩=some (.string ⟨xv.toArray⟩)∧W'.cell? (ad.add ((k-1)*2))=some (.string ⟨y.toArray⟩)∧Below W0.heap.size W0 W'))
      cases hcmp:Op.bytesLess y xn with
      | true =>
       have HG:=Lib.hid (hgood.out rfl rfl (fun y' hy'=>by rw [hpv] at hy';cases hy';exact hcmp))
       clear hr hrw hbad hgood h0 hpv hy c2
       go_wp2_with fail
       rw [← hW0]
       clear hW0 hszW
       refine wpC_regionH (fun W'=>W'.cell? ⟨wr.heap.size,0,none⟩=some (.string ⟨xn.toArray⟩)∧W'.cell? ⟨wr.heap.size,1,none⟩=some (.string ⟨xv.toArray⟩)∧W'.cell? (ad.add ((k-1)*2))=some (.string ⟨y.toArray⟩)∧Below W0.heap.size W0 W') (hS.out _ hS0) (fun OPS D QQ HO HD HD2 HQQ=>?_)
       have hgo4:=hgoL HO 4 19 rfl
       have hgo10:=hgoL HO 10 25 rfl
       have hgo13:=hgoL HO 13 28 rfl
       clear HO
       refine zX ?_
       refine zY ?_
       refine zN hN ?_
       iterate 3 refine zX ?_
       refine zY ?_
       refine zN hV ?_
       iterate 11 refine zX ?_
       refine zY ?_
       refine zX ?_
       refine zY ?_
       iterate 3 refine zX ?_
       refine wpQuiet_nil (HQQ.out _ (fun W hW=>?_))
       obtain ⟨q0,q1,q2,hcW⟩:=hW
       exact mZ69
      | false =>
       have HB:=Lib.hid (hbad.out (.inr (.inr ⟨y,hpv,hcmp⟩)))
       clear hr hrw hbad hgood h0 hpv hy c2
       go_wp2_with fail
       rw [← hW0]
       clear hW0 hszW
       refine wpC_regionH (fun W'=>W'.cell? ⟨wr.heap.size,0,none⟩=some (.string ⟨xn.toArray⟩)∧W'.cell? ⟨wr.heap.size,1,none⟩=some (.string ⟨xv.toArray⟩)∧W'.cell? (ad.add ((k-1)*2))=some (.string ⟨y.toArray⟩)∧Below W0.heap.size W0 W') (hS.out _ hS0) (fun OPS D QQ HO HD HD2 HQQ=>?_)
       have hgo4:=hgoL HO 4 19 rfl
       have hgo10:=hgoL HO 10 25 rfl
       have hgo13:=hgoL HO 13 28 rfl
       clear HO
       refine zX ?_
       refine zY ?_
       refine zN hN ?_
       iterate 3 refine zX ?_
       refine zY ?_
       refine zN hV ?_
       iterate 11 refine zX ?_
       refine zY ?_
       refine zX ?_
       refine zY ?_
       iterate 3 refine zX ?_
       refine wpQuiet_nil (HQQ.out _ (fun W hW=>?_))
       obtain ⟨q0,q1,q2,hcW⟩:=hW
       exact mZ68
  ·obtain rfl:k=n:=tZ1
   have HF:Hid (propsE l=0):=by
    exact mZ67
   clear hok hr
   exact mZ4
end Go.Proofs.YtcgclpcocdappaaGreatDoor
namespace Go.Proofs.YtcgclpcocdappaaGreatDoor
open Go.RowKit
def orI2 (x y:Int):Int:=if x=0 then y else x
set_option maxRecDepth 100000 in
theorem orI2_any (x y:Int) (A:Option Addr) (c:Nat) (w:World) (B:Nat) (hr:Reads w B 1 A 2 [.int .i64 x,.int .i64 y]) :
  Calls Tryz.prog 204 #[.slice A 2 c] w fun e w'=>e=.returned (.int .i64 (orI2 x y))∧∃ q,w'=w.drewN q:=by
 obtain ⟨ad,rfl,_,hc⟩:=hr.2 tZ1
 have h0:w.cell? ad=some (.int .i64 x):=by have:=hc 0 _ rfl;rwa [add_zero] at this
 have h1:w.cell? ⟨ad.block,ad.off+1,none⟩=some (.int .i64 y):=by have:=hc 1 _ rfl;rwa [addr_add_succ] at this
 clear hc hr
 by_cases hx:x=0
 ·subst hx
  by_cases hy:y=0
  ·subst hy
   go_enter Tryz.func204,Tryz.ntmps204
   go_wp2_with fail
   refine wp_loop_rounds 3 ?_
   rw [rounds_succ]
   go_wp2_with fail
   rw [rounds_succ]
   go_wp2_with fail
   rw [rounds_succ]
   exact mZ52
  ·have hyb:(y == 0)=false:=by simp [hy]
   go_enter Tryz.func204,Tryz.ntmps204
   go_wp2_with fail
   refine wp_loop_rounds 3 ?_
   rw [rounds_succ]
   go_wp2_with fail
   rw [rounds_succ]
   go_wp2_with fail
   go_ret
   exact ⟨by unfold orI2;rw [if_pos rfl];rfl,0,rfl⟩
 ·have hxb:(x == 0)=false:=tZ129
  go_enter Tryz.func204,Tryz.ntmps204
  go_wp2_with fail
  refine wp_loop_rounds 3 ?_
  rw [rounds_succ]
  go_wp2_with fail
  go_ret
  exact ⟨by unfold orI2;rw [if_neg hx];rfl,0,rfl⟩
theorem cmpG_or (a b c d:BS):orI2 (cmpS a c) (cmpS b d)=cmpG a b c d:=rfl
set_option maxRecDepth 100000 in
set_option maxHeartbeats 1000000 in
theorem orderG_any (a b c d:BS) (n m:Int) (w:World) :
  Calls Tryz.prog 180 #[.agg #[.string ⟨a.toArray⟩,.string ⟨b.toArray⟩,.int .i64 n],.agg #[.string ⟨c.toArray⟩,.string ⟨d.toArray⟩,.int .i64 m]] w fun e w'=>e=.returned (.int .i64 (cmpG a b c d))∧Below w.heap.size w w':=by
 obtain ⟨W0,hW0⟩:∃ W0,W0=(w.alloc (.cells #[.string ⟨a.toArray⟩,.string ⟨b.toArray⟩,.int .i64 n] 147)).alloc (.cells #[.string ⟨c.toArray⟩,.string ⟨d.toArray⟩,.int .i64 m] 147):=⟨_,rfl⟩
 have hb1:=(Below.refl w.heap.size w).alloc (Nat.le_refl _) (.cells #[.string ⟨a.toArray⟩,.string ⟨b.toArray⟩,.int .i64 n] 147)
 have hb2:=hb1.alloc hb1.size (.cells #[.string ⟨c.toArray⟩,.string ⟨d.toArray⟩,.int .i64 m] 147)
 have k0:=(Blk.new w 147 #[.string ⟨a.toArray⟩,.string ⟨b.toArray⟩,.int .i64 n]).alloc (.cells #[.string ⟨c.toArray⟩,.string ⟨d.toArray⟩,.int .i64 m] 147)
 have k1:=Blk.new (w.alloc (.cells #[.string ⟨a.toArray⟩,.string ⟨b.toArray⟩,.int .i64 n] 147)) 147 #[.string ⟨c.toArray⟩,.string ⟨d.toArray⟩,.int .i64 m]
 have e1:(w.alloc (.cells #[.string ⟨a.toArray⟩,.string ⟨b.toArray⟩,.int .i64 n] 147)).heap.size=w.heap.size+1:=tZ3
 rw [e1] at k1
 rw [← hW0] at hb2 k0 k1
 have hsz:W0.heap.size=w.heap.size+2:=by rw [hW0];simp
 have hS:=Lib.hid (fun (W':World) (hB:Below W0.heap.size W0 W') =>
  (⟨(k0.below hB tZ1).cell 0,(k0.below hB tZ1).cell 1,(k1.below hB tZ1).cell 0,(k1.below hB tZ1).cell 1⟩ :
   W'.cell? ⟨w.heap.size,0,none⟩=some (.string ⟨a.toArray⟩)∧W'.cell? ⟨w.heap.size,1,none⟩=some (.string ⟨b.toArray⟩)∧W'.cell? ⟨w.heap.size+1,0,none⟩=some (.string ⟨c.toArray⟩)∧W'.cell? ⟨w.heap.size+1,1,none⟩=some (.string ⟨d.toArray⟩)))
 have HSZ:=Lib.hid hsz
 have HG:=Lib.hid (cmpG_or a b c d)
 have HB:=Lib.hid hb2
 clear k0 k1 e1 hsz hb1 hb2
 go_enter Tryz.func180,Tryz.ntmps180
 go_wp2_with fail
 rw [← hW0]
 clear hW0
 refine wp_region_good2 tZ2 tZ2 [(fun v _=>v=.pointer (some ⟨w.heap.size,0,none⟩)),
  (fun v _=>v=.string ⟨a.toArray⟩),
  (fun v _=>v=.pointer (some ⟨(w.heap.size+1),0,none⟩)),
  (fun v _=>v=.string ⟨c.toArray⟩),
  (fun v _=>v=.int .i64 (cmpS a c)),
  (fun v _=>v=.pointer (some ⟨w.heap.size,1,none⟩)),
  (fun v _=>v=.string ⟨b.toArray⟩),
  (fun v _=>v=.pointer (some ⟨(w.heap.size+1),1,none⟩)),
  (fun v _=>v=.string ⟨d.toArray⟩),
  (fun v _=>v=.int .i64 (cmpS b d)),
  (fun v W=>W.ownsRow w.heap.size 3 1 v 2 [.int .i64 (cmpS a c),.int .i64 (cmpS b d)]),
  (fun v _=>v=.int .i64 (cmpG a b c d)),
  (fun v _=>v=.int .i64 (cmpG a b c d))] ?_ ?_ ?_
 ·repeat' (first | exact stays_nil | refine stays_cons ?_ ?_ | exact Stays.pure | exact Stays.own _ _ _ _ _)
 ·intro i oo ho m2 W hb0 hmi hcl hdeps AA KK hA hK
  rcases i with _ | _ | _ | _ | _ | _ | _ | _ | _ | _ | _ | _ | _ | i
  ·injection ho with ho
   subst ho
   have ef2:AA.tmps[2]?.getD undef=.pointer (some ⟨w.heap.size,0,none⟩):=by rw [hA];exact tmps_free tZ2
   clear hA hdeps hcl hmi
   have hK0:KK (AA.put (some 5) _) _:=hK (.pointer (some ⟨w.heap.size,0,none⟩)) _ (Below.refl _ _) (Eq.refl _)
   exact mZ73
  ·injection ho with ho
   subst ho
   obtain ⟨x0,hx0,hg0⟩:=hdeps ⟨0,.data⟩ tZ3 rfl
   have hg0:x0=.pointer (some ⟨w.heap.size,0,none⟩):=hg0
   subst hg0
   have e0:AA.tmps[5]?.getD undef=.pointer (some ⟨w.heap.size,0,none⟩):=by rw [hA];exact tmps_own tZ2 hx0 (of_decide_eq_true tZ2)
   clear hA hdeps hcl hmi hx0
   obtain ⟨c0,c1,c2,c3⟩:=hS.out W hb0
   have hK0:KK (AA.put (some 6) _) _:=hK (.string ⟨a.toArray⟩) _ (Below.refl _ _) (Eq.refl _)
   exact mZ73
  ·injection ho with ho
   subst ho
   have ef3:AA.tmps[3]?.getD undef=.pointer (some ⟨(w.heap.size+1),0,none⟩):=by rw [hA];exact tmps_free tZ2
   clear hA hdeps hcl hmi
   have hK0:KK (AA.put (some 7) _) _:=hK (.pointer (some ⟨(w.heap.size+1),0,none⟩)) _ (Below.refl _ _) (Eq.refl _)
   exact mZ73
  ·injection ho with ho
   subst ho
   obtain ⟨x2,hx2,hg2⟩:=hdeps ⟨2,.data⟩ tZ3 rfl
   have hg2:x2=.pointer (some ⟨(w.heap.size+1),0,none⟩):=hg2
   subst hg2
   have e2:AA.tmps[7]?.getD undef=.pointer (some ⟨(w.heap.size+1),0,none⟩):=by rw [hA];exact tmps_own tZ2 hx2 (of_decide_eq_true tZ2)
   clear hA hdeps hcl hmi hx2
   obtain ⟨c0,c1,c2,c3⟩:=hS.out W hb0
   have hK0:KK (AA.put (some 8) _) _:=hK (.string ⟨c.toArray⟩) _ (Below.refl _ _) (Eq.refl _)
   exact mZ73
  ·injection ho with ho
   subst ho
   obtain ⟨x1,hx1,hg1⟩:=hdeps ⟨1,.data⟩ tZ3 rfl
   have hg1:x1=.string ⟨a.toArray⟩:=hg1
   subst hg1
   have e1:AA.tmps[6]?.getD undef=.string ⟨a.toArray⟩:=by rw [hA];exact tmps_own tZ2 hx1 (of_decide_eq_true tZ2)
   obtain ⟨x3,hx3,hg3⟩:=hdeps ⟨3,.data⟩ tZ3 rfl
   have hg3:x3=.string ⟨c.toArray⟩:=hg3
   subst hg3
   have e3:AA.tmps[8]?.getD undef=.string ⟨c.toArray⟩:=by rw [hA];exact tmps_own tZ2 hx3 (of_decide_eq_true tZ2)
   clear hA hdeps hcl hmi hx1 hx3
   have hKK:=Lib.hid hK
   clear hK
   go_simp
   refine (compareS_any a c _).mono ?_
   rintro e w5 ⟨rfl,q,rfl⟩
   exact hKK.out _ _ (below_drewN (Below.refl _ _) q) rfl
  ·injection ho with ho
   subst ho
   have ef2:AA.tmps[2]?.getD undef=.pointer (some ⟨w.heap.size,0,none⟩):=by rw [hA];exact tmps_free tZ2
   clear hA hdeps hcl hmi
   have hK0:KK (AA.put (some 10) _) _:=hK (.pointer (some ⟨w.heap.size,1,none⟩)) _ (Below.refl _ _) (Eq.refl _)
   exact mZ73
  ·injection ho with ho
   subst ho
   obtain ⟨x5,hx5,hg5⟩:=hdeps ⟨5,.data⟩ tZ3 rfl
   have hg5:x5=.pointer (some ⟨w.heap.size,1,none⟩):=hg5
   subst hg5
   have e5:AA.tmps[10]?.getD undef=.pointer (some ⟨w.heap.size,1,none⟩):=by rw [hA];exact tmps_own tZ2 hx5 (of_decide_eq_true tZ2)
   clear hA hdeps hcl hmi hx5
   obtain ⟨c0,c1,c2,c3⟩:=hS.out W hb0
   have hK0:KK (AA.put (some 11) _) _:=hK (.string ⟨b.toArray⟩) _ (Below.refl _ _) (Eq.refl _)
   exact mZ73
  ·injection ho with ho
   subst ho
   have ef3:AA.tmps[3]?.getD undef=.pointer (some ⟨(w.heap.size+1),0,none⟩):=by rw [hA];exact tmps_free tZ2
   clear hA hdeps hcl hmi
   have hK0:KK (AA.put (some 12) _) _:=hK (.pointer (some ⟨(w.heap.size+1),1,none⟩)) _ (Below.refl _ _) (Eq.refl _)
   exact mZ73
  ·injection ho with ho
   subst ho
   obtain ⟨x7,hx7,hg7⟩:=hdeps ⟨7,.data⟩ tZ3 rfl
   have hg7:x7=.pointer (some ⟨(w.heap.size+1),1,none⟩):=hg7
   subst hg7
   have e7:AA.tmps[12]?.getD undef=.pointer (some ⟨(w.heap.size+1),1,none⟩):=by rw [hA];exact tmps_own tZ2 hx7 (of_decide_eq_true tZ2)
   clear hA hdeps hcl hmi hx7
   obtain ⟨c0,c1,c2,c3⟩:=hS.out W hb0
   have hK0:KK (AA.put (some 13) _) _:=hK (.string ⟨d.toArray⟩) _ (Below.refl _ _) (Eq.refl _)
   exact mZ73
  ·injection ho with ho
   subst ho
   obtain ⟨x6,hx6,hg6⟩:=hdeps ⟨6,.data⟩ tZ3 rfl
   have hg6:x6=.string ⟨b.toArray⟩:=hg6
   subst hg6
   have e6:AA.tmps[11]?.getD undef=.string ⟨b.toArray⟩:=by rw [hA];exact tmps_own tZ2 hx6 (of_decide_eq_true tZ2)
   obtain ⟨x8,hx8,hg8⟩:=hdeps ⟨8,.data⟩ tZ3 rfl
   have hg8:x8=.string ⟨d.toArray⟩:=hg8
   subst hg8
   have e8:AA.tmps[13]?.getD undef=.string ⟨d.toArray⟩:=by rw [hA];exact tmps_own tZ2 hx8 (of_decide_eq_true tZ2)
   clear hA hdeps hcl hmi hx6 hx8
   have hKK:=Lib.hid hK
   clear hK
   go_simp
   refine (compareS_any b d _).mono ?_
   rintro e w5 ⟨rfl,q,rfl⟩
   exact hKK.out _ _ (below_drewN (Below.refl _ _) q) rfl
  ·injection ho with ho
   subst ho
   obtain ⟨x4,hx4,hg4⟩:=hdeps ⟨4,.data⟩ tZ3 rfl
   have hg4:x4=.int .i64 (cmpS a c):=hg4
   subst hg4
   have e4:AA.tmps[9]?.getD undef=.int .i64 (cmpS a c):=by rw [hA];exact tmps_own tZ2 hx4 (of_decide_eq_true tZ2)
   obtain ⟨x9,hx9,hg9⟩:=hdeps ⟨9,.data⟩ tZ3 rfl
   have hg9:x9=.int .i64 (cmpS b d):=hg9
   subst hg9
   have e9:AA.tmps[14]?.getD undef=.int .i64 (cmpS b d):=by rw [hA];exact tmps_own tZ2 hx9 (of_decide_eq_true tZ2)
   clear hA hdeps hcl hmi hx4 hx9
   have hK0:KK (AA.put (some 15) _) _:=hK _ _ ((Below.refl _ _).alloc (Nat.le_refl _) _) (own_mono (own_lit W #[.int .i64 (cmpS a c),.int .i64 (cmpS b d)] 3 2 rfl tZ4) (by have:=hb0.size;have:=HSZ.out;omega))
   exact mZ73
  ·injection ho with ho
   subst ho
   obtain ⟨x10,hx10,hg10⟩:=hdeps ⟨10,.data⟩ tZ3 rfl
   have hg10:W.ownsRow w.heap.size 3 1 x10 2 [.int .i64 (cmpS a c),.int .i64 (cmpS b d)]:=hg10
   have e10:AA.tmps[15]?.getD undef=x10:=by rw [hA];exact tmps_own tZ2 hx10 (of_decide_eq_true tZ2)
   clear hA hdeps hcl hmi hx10
   obtain ⟨A1,c1,rfl,_,_,hr1⟩:=own_form hg10
   have hKK:=Lib.hid hK
   clear hK hg10
   go_simp
   refine (orI2_any _ _ A1 c1 W W.heap.size hr1).mono ?_
   rintro e w5 ⟨rfl,q,rfl⟩
   exact hKK.out _ _ (below_drewN (Below.refl _ _) q) (show Value.int .i64 (orI2 (cmpS a c) (cmpS b d))=.int .i64 (cmpG a b c d) from congrArg (Value.int .i64) HG.out)
  ·injection ho with ho
   subst ho
   obtain ⟨x11,hx11,hg11⟩:=hdeps ⟨11,.data⟩ tZ3 rfl
   have hg11:x11=.int .i64 (cmpG a b c d):=hg11
   subst hg11
   have e11:AA.tmps[16]?.getD undef=.int .i64 (cmpG a b c d):=by rw [hA];exact tmps_own tZ2 hx11 (of_decide_eq_true tZ2)
   clear hA hdeps hcl hmi hx11
   have hK0:KK (AA.put (some 4) _) _:=hK (.int .i64 (cmpG a b c d)) _ (Below.refl _ _) (Eq.refl _)
   exact mZ73
  ·simp at ho
 ·intro m W hbx hall
  obtain ⟨x0,m0,g0⟩:=hall 0 tZ3
  replace g0:x0=.pointer (some ⟨w.heap.size,0,none⟩):=g0
  subst g0
  obtain ⟨x1,m1,g1⟩:=hall 1 tZ3
  replace g1:x1=.string ⟨a.toArray⟩:=g1
  subst g1
  obtain ⟨x2,m2,g2⟩:=hall 2 tZ3
  replace g2:x2=.pointer (some ⟨(w.heap.size+1),0,none⟩):=g2
  subst g2
  obtain ⟨x3,m3,g3⟩:=hall 3 tZ3
  replace g3:x3=.string ⟨c.toArray⟩:=g3
  subst g3
  obtain ⟨x4,m4,g4⟩:=hall 4 tZ3
  replace g4:x4=.int .i64 (cmpS a c):=g4
  subst g4
  obtain ⟨x5,m5,g5⟩:=hall 5 tZ3
  replace g5:x5=.pointer (some ⟨w.heap.size,1,none⟩):=g5
  subst g5
  obtain ⟨x6,m6,g6⟩:=hall 6 tZ3
  replace g6:x6=.string ⟨b.toArray⟩:=g6
  subst g6
  obtain ⟨x7,m7,g7⟩:=hall 7 tZ3
  replace g7:x7=.pointer (some ⟨(w.heap.size+1),1,none⟩):=g7
  subst g7
  obtain ⟨x8,m8,g8⟩:=hall 8 tZ3
  replace g8:x8=.string ⟨d.toArray⟩:=g8
  subst g8
  obtain ⟨x9,m9,g9⟩:=hall 9 tZ3
  replace g9:x9=.int .i64 (cmpS b d):=g9
  subst g9
  obtain ⟨x10,m10,g10⟩:=hall 10 tZ3
  replace g10:W.ownsRow w.heap.size 3 1 x10 2 [.int .i64 (cmpS a c),.int .i64 (cmpS b d)]:=g10
  obtain ⟨x11,m11,g11⟩:=hall 11 tZ3
  replace g11:x11=.int .i64 (cmpG a b c d):=g11
  subst g11
  obtain ⟨x12,m12,g12⟩:=hall 12 tZ3
  replace g12:x12=.int .i64 (cmpG a b c d):=g12
  subst g12
  rw [frameM_all tZ2 [.pointer (some ⟨w.heap.size,0,none⟩),.string ⟨a.toArray⟩,.pointer (some ⟨(w.heap.size+1),0,none⟩),.string ⟨c.toArray⟩,.int .i64 (cmpS a c),.pointer (some ⟨w.heap.size,1,none⟩),.string ⟨b.toArray⟩,.pointer (some ⟨(w.heap.size+1),1,none⟩),.string ⟨d.toArray⟩,.int .i64 (cmpS b d),x10,.int .i64 (cmpG a b c d),.int .i64 (cmpG a b c d)] rfl (fun i hi=>by
   rcases i with _ | _ | _ | _ | _ | _ | _ | _ | _ | _ | _ | _ | _ | i
   ·exact m0
   ·exact m1
   ·exact m2
   ·exact m3
   ·exact m4
   ·exact m5
   ·exact m6
   ·exact m7
   ·exact m8
   ·exact m9
   ·exact m10
   ·exact m11
   ·exact m12
   ·simp at hi;omega)]
  clear hall m0 m1 m2 m3 m4 m5 m6 m7 m8 m9 m10 m11 m12
  simp only [putAll,Act.put,zA,zC,zB]
  go_wp2_with fail
  go_ret
  exact ⟨rfl,HB.out.trans (hbx.mono tZ8)⟩
end Go.Proofs.YtcgclpcocdappaaGreatDoor
namespace Go.Proofs.YtcgclpcocdappaaGreatDoor
open Go.RowKit
def inB (i c:Int) (x:Int×List UInt8):Bool:=decide (i≤x.1) && decide (x.1<i+c)
def freeE (l:BL) (i c:Int):Int:=if okL l=true then (if 0≤i∧i<1024∧1≤c∧c≤1024-i then 0 else 4) else 9
def freeL (l:BL) (i c:Int):BL:=l.filter fun x=>!inB i c x
def freeR (l:BL) (i c:Int):BL:=if freeE l i c=0 then freeL l i c else []
def FreePost (w:World) (l:BL) (i c:Int) (e:Ending) (w':World):Prop :=
 ∃ v,e=.returned (.tuple #[v,.int .i64 (freeE l i c)])∧w'.ownsRow w.heap.size 75 2 v (freeR l i c).length (bcells (freeR l i c))∧Below w.heap.size w w'
set_option maxRecDepth 100000 in
theorem inB_any (x i c:Int) (s:ByteArray) (p0 p1:Addr) (hi:0≤i∧i<1024) (hc:1≤c∧c≤1024) (w:World) (h0:w.cell? p0=some (.int .i64 i)) (h1:w.cell? p1=some (.int .i64 c)) :
  Calls Tryz.prog 157 #[.agg #[.int .i64 x,.string s],.pointer (some p0),.pointer (some p1)] w fun e w'=>e=.returned (.bool (decide (i≤x) && decide (x<i+c)))∧Below w.heap.size w w':=by
 have hb0:=(Below.refl w.heap.size w).alloc (Nat.le_refl _) (.cells #[.int .i64 x,.string s] 75)
 have hcx:=(Blk.new w 75 #[.int .i64 x,.string s]).cell 0
 have l0:=block_lt_of_cell h0
 have l1:=block_lt_of_cell h1
 have k0:=(World.cell?_alloc_lt w (.cells #[.int .i64 x,.string s] 75) p0 l0).trans h0
 have k1:=(World.cell?_alloc_lt w (.cells #[.int .i64 x,.string s] 75) p1 l1).trans h1
 by_cases hx:i≤x
 ·go_enter Tryz.func157,Tryz.ntmps157
  go_wp2_with fail
  go_ret
  exact ⟨by simp [hx],hb0⟩
 ·go_enter Tryz.func157,Tryz.ntmps157
  go_wp2_with fail
  go_ret
  exact ⟨by simp;intro h;omega,hb0⟩
set_option maxRecDepth 100000 in
set_option maxHeartbeats 2000000 in
theorem bkFree_any (l:BL) (n:Nat) (hnl:n=l.length) (A:Option Addr) (cp:Nat) (i c:Int) (w:World) (B:Nat) (hr:Reads w B 2 A n (bcells l)) (hB:B≤w.heap.size) (hn:n≤5000000000000) :
  Calls Tryz.prog 89 #[.slice A n cp,.int .i64 i,.int .i64 c] w (FreePost w l i c):=by
 obtain ⟨W1,hW1⟩:∃ W1,W1=(w.alloc (.cells #[.int .i64 i] 3)).alloc (.cells #[.int .i64 c] 3):=⟨_,rfl⟩
 have hb0:Below w.heap.size w W1:=by rw [hW1];exact ((Below.refl _ w).alloc (Nat.le_refl _) _).alloc tZ3 _
 have hs0:W1.heap.size=w.heap.size+2:=tZ55
 have hbi:Blk W1 w.heap.size 3 #[.int .i64 i]:=by rw [hW1];exact (Blk.new w _ _).alloc _
 have hbc:Blk W1 (w.heap.size+1) 3 #[.int .i64 c]:=by
  rw [hW1]
  have:=Blk.new (w.alloc (.cells #[.int .i64 i] 3)) 3 #[.int .i64 c]
  simpa using this
 have hck:=checkBk_any l n hnl A cp W1 B (hr.below (hb0.mono hB)) (by have:=hb0.size;omega) tZ1
 by_cases hok:okL l=true
 ·have h1:okE l=0:=tZ104
  rw [h1] at hck
  by_cases hi:0≤i∧i<1024∧1≤c∧c≤1024-i
  ·have hfe:freeE l i c=0:=tZ147
   have hfr:freeR l i c=freeL l i c:=tZ179
   have hcl:=fun w' (hb:Below w.heap.size w w')=>cloneB_any (bcells l) n A cp w' B (hr.below (hb.mono hB)) tZ13 (bcells_one l) hn
   obtain ⟨i1,i2,i3,i4⟩:=hi
   have HFE:=Lib.hid hfe
   have HFR:=Lib.hid hfr
   have HN:=Lib.hid hnl
   have HB0:=Lib.hid hb0
   have HBI:=Lib.hid hbi
   have HBC:=Lib.hid hbc
   have HS0:=Lib.hid hs0
   have HW1:=Lib.hid hW1.symm
   clear hfe hfr h1 hok hnl hr hb0 hbi hbc hs0
   have g0:W1.cell? ⟨w.heap.size,0,none⟩=some (.int .i64 i):=HBI.out.cell 0
   have g1:W1.cell? ⟨w.heap.size+1,0,none⟩=some (.int .i64 c):=HBC.out.cell 0
   clear hW1
   go_enter Tryz.func89,Tryz.ntmps89
   go_wp2_with fail
   rw [HW1.out]
   refine hck.mono ?_
   clear hck
   rintro e w1 ⟨rfl,hb1⟩
   have hbw1:=HB0.out.trans (hb1.mono HB0.out.size)
   have q0:w1.cell? ⟨w.heap.size,0,none⟩=some (.int .i64 i):=(hb1.cell (by have:=HS0.out;show w.heap.size<_;omega)).trans g0
   have q1:w1.cell? ⟨w.heap.size+1,0,none⟩=some (.int .i64 c):=(hb1.cell (by have:=HS0.out;show w.heap.size+1<_;omega)).trans g1
   have hcl1:=hcl w1 hbw1
   have hsz1:w.heap.size+2≤w1.heap.size:=by have:=hb1.size;have:=HS0.out;omega
   clear hcl g0 g1 hb1
   go_wp2_with fail
   refine hcl1.mono ?_
   clear hcl1
   rintro e w2 ⟨v2,rfl,hown2,hb2⟩
   obtain ⟨A2,c2,rfl,_,_,_⟩:=own_form hown2
   have r0:w2.cell? ⟨w.heap.size,0,none⟩=some (.int .i64 i):=(hb2.cell tZ35).trans q0
   have r1:w2.cell? ⟨w.heap.size+1,0,none⟩=some (.int .i64 c):=(hb2.cell (by show w.heap.size+1<_;omega)).trans q1
   have hbw2:=hbw1.trans (hb2.mono hbw1.size)
   have hnb:∀ k,(Value.slice A2 n c2).ownBlock=some k→w.heap.size+2≤k:=fun k hk=>by have:=(hown2.lt k hk).1;omega
   have hdel:=delBk_any (inB i c) l n HN.out A2 c2 w1.heap.size ⟨w.heap.size,0,none⟩ ⟨w.heap.size+1,0,none⟩
    (fun W=>W.cell? ⟨w.heap.size,0,none⟩=some (.int .i64 i)∧W.cell? ⟨w.heap.size+1,0,none⟩=some (.int .i64 c)) w2 hown2 hn
    ⟨fun x W hk=>inB_any x.1 i c _ _ _ ⟨i1,i2⟩ ⟨i3,by omega⟩ W hk.1 hk.2,fun W W' hk hb=>⟨(hb.cell (block_lt_of_cell hk.1)).trans hk.1,(hb.cell (block_lt_of_cell hk.2)).trans hk.2⟩⟩
    (fun W W' hk hg=>⟨hg.cell hk.1 (fun e=>by have h:w.heap.size+2≤w.heap.size:=hnb _ e.symm;omega),hg.cell hk.2 (fun e=>by have h:w.heap.size+2≤w.heap.size+1:=hnb _ e.symm;omega)⟩) ⟨r0,r1⟩
   have HNB:=Lib.hid hnb
   have HBW:=Lib.hid hbw2
   clear q0 q1 r0 r1 hown2 hb2 hbw1 hnb hbw2
   go_wp2_with fail
   refine hdel.mono ?_
   clear hdel
   rintro e w3 ⟨v3,rfl,hown3,hgr3⟩
   have HO:=Lib.hid hown3
   have HG:=Lib.hid hgr3
   clear hown3 hgr3
   go_wp2_with fail
   go_ret2
   refine ⟨v3,by rw [HFE.out];rfl,?_,HBW.out.grown HG.out HBW.out.size (fun k hk=>by have:=HNB.out k hk;omega)⟩
   rw [HFR.out]
   exact own_mono HO.out tZ1
  ·have hfe:freeE l i c=4:=tZ148
   have hfr:freeR l i c=[]:=by unfold freeR;rw [if_neg tZ1]
   have HFE:=Lib.hid hfe
   have HFR:=Lib.hid hfr
   have HB0:=Lib.hid hb0
   have HW1:=Lib.hid hW1.symm
   have hs1:w.heap.size+1<W1.heap.size:=tZ1
   have g0:W1.cell? ⟨w.heap.size,0,none⟩=some (.int .i64 i):=hbi.cell 0
   have g1:W1.cell? ⟨w.heap.size+1,0,none⟩=some (.int .i64 c):=hbc.cell 0
   clear hfe hfr h1 hok hnl hr hb0 hbi hbc hs0 hW1
   have hw:0≤i→i<1024→IntKind.i64.wrap (1024-i)=1024-i:=fun _ _=>IntWalk.i64_in _ tZ1
   by_cases ha:i<0
   ·clear hi hw
    exact mZ75
   by_cases hb:1024≤i
   ·have ha':0≤i:=tZ1
    clear hi hw ha
    exact mZ75
   have ha':0≤i:=tZ1
   have hb':i<1024:=tZ1
   by_cases hc:c<1
   ·clear hi hw ha hb
    exact mZ75
   ·have hc':1≤c:=tZ1
    have hd:1024-i<c:=tZ1
    have hw:=hw ha' hb'
    clear hi ha hb hc
    exact mZ75
 ·have h1:okE l=9:=tZ105
  rw [h1] at hck
  have hfe:freeE l i c=9:=tZ180
  have hfr:freeR l i c=[]:=by unfold freeR;rw [if_neg tZ1]
  have HFE:=Lib.hid hfe
  have HFR:=Lib.hid hfr
  have HB0:=Lib.hid hb0
  have HW1:=Lib.hid hW1.symm
  clear hfe hfr h1 hok hnl hr hb0 hbi hbc hs0 hW1
  go_enter Tryz.func89,Tryz.ntmps89
  go_wp2_with fail
  rw [HW1.out]
  refine hck.mono ?_
  clear hck
  rintro e w1 ⟨rfl,hb1⟩
  exact mZ74
end Go.Proofs.YtcgclpcocdappaaGreatDoor
namespace Go.Proofs.YtcgclpcocdappaaGreatDoor
open Go.RowKit
theorem Tryz.delP_size:(Tryz.prog.info? 78).map (·.size)=some 2:=tZ2
theorem Tryz.delP_zero (w:World):(zeroValue 78).run Tryz.prog w=.ok (.agg #[.string ByteArray.empty,.string ByteArray.empty]) w:=tZ2
theorem delP_splice (cur:List Value) (n i c0:Nat) (xs:List Value) (hx:cur.take (n*2)=xs) (hi:i<n) (hn:n≤c0) (hl:cur.length=c0*2) (zs:List Value) (hz:zs.length=1*2) :
  (splice (splice cur (i*2) (xs.drop ((i+1)*2))) ((n-1)*2) zs).take ((n-1)*2)=xs.take (i*2)++xs.drop ((i+1)*2)∧(splice (splice cur (i*2) (xs.drop ((i+1)*2))) ((n-1)*2) zs).length=c0*2:=by
 have hxl:xs.length=n*2:=tZ157
 have hdl:(xs.drop ((i+1)*2)).length=(n-1-i)*2:=tZ163
 have h1:(splice cur (i*2) (xs.drop ((i+1)*2))).length=c0*2:=by
  unfold splice
  simp only [List.length_append,List.length_take,List.length_drop] at hdl ⊢
  omega
 refine ⟨?_,?_⟩
 ·have e1:(splice (splice cur (i*2) (xs.drop ((i+1)*2))) ((n-1)*2) zs).take ((n-1)*2)=(splice cur (i*2) (xs.drop ((i+1)*2))).take ((n-1)*2):=by
   show List.take _ (List.take _ (splice cur (i*2) (xs.drop ((i+1)*2)))++(zs++_))=_
   rw [List.take_append_of_le_length (by rw [List.length_take,h1];omega),List.take_take,Nat.min_self]
  rw [e1]
  have hc:cur.take (i*2)=xs.take (i*2):=by rw [← hx,List.take_take,Nat.min_eq_left tZ1]
  have hL:(xs.take (i*2)++xs.drop ((i+1)*2)).length=(n-1)*2:=by rw [List.length_append,List.length_take,hdl,hxl];omega
  show List.take _ (cur.take (i*2)++(xs.drop ((i+1)*2)++_))=_
  rw [hc,← List.append_assoc,List.take_append_of_le_length (by rw [hL];exact Nat.le_refl _)]
  exact List.take_of_length_le (by rw [hL];exact Nat.le_refl _)
 ·show (List.take _ (splice cur (i*2) (xs.drop ((i+1)*2)))++(zs++List.drop _ _)).length=_
  rw [List.length_append,List.length_append,List.length_take,List.length_drop,h1,hz]
  omega
set_option maxRecDepth 100000 in
set_option maxHeartbeats 1000000 in
theorem delP_any (xs:List Value) (h1:∀ u∈xs,u.oneCell'=true) (n i c0 base:Nat) (A0:Option Addr) (w:World) (hi:i<n) (hn:n≤5000000000000) (hown:w.ownsRow base 78 2 (.slice A0 n c0) n xs) :
  Calls Tryz.prog 163 #[.slice A0 n c0,.int .i64 i,.int .i64 ((i:Int)+1)] w fun e w'=>∃ v,e=.returned v∧w'.ownsRow base 78 2 v (n-1) (xs.take (i*2)++xs.drop ((i+1)*2))∧w.grownBy w' (Value.slice A0 n c0).ownBlock:=by
 rcases hown.2 with ⟨_,h0⟩ | ⟨g,cap,cur,hs,hbg,hh,hnc,hcm,hsz,hx⟩
 ·omega
 injection hs with e1 _ e2
 subst e1 e2
 have hh':w.heap[g]?=some (.cells cur.toList.toArray 78 (0,0)):=tZ102
 have hcl:cur.toList.length=c0*2:=tZ80
 obtain ⟨cl,hcl0⟩:∃ cl,cl=cur.toList:=⟨_,rfl⟩
 rw [← hcl0] at hh' hcl hx
 have hxl:xs.length=n*2:=hown.1
 have hdl:(xs.drop ((i+1)*2)).length=(n-1-i)*2:=tZ163
 have hcells:∀ (w':World),w'.heap[g]?=w.heap[g]?→∀ j v,(xs.drop ((i+1)*2))[j]?=some v→w'.cell? ((⟨g,(i+1)*2,none⟩:Addr).add j)=some v:=by
  intro w' hw j v hv
  have hv2:cl[(i+1)*2+j]?=some v:=by
   rw [List.getElem?_drop,← hx] at hv
   obtain ⟨hlt,_⟩:=List.getElem?_eq_some_iff.1 hv
   rw [List.length_take] at hlt
   rwa [List.getElem?_take_of_lt tZ1] at hv
  have had:(⟨g,(i+1)*2,none⟩:Addr).add j=⟨g,(i+1)*2+j,none⟩:=tZ26
  rw [had,cell_of_row w' g _ _ _ _ (hw.trans hh')]
  simpa using hv2
 have hni:(i:Int)+1≤(n:Int):=tZ1
 have hin:(i:Int)≤(n:Int):=tZ1
 have hnci:(n:Int)≤(c0:Int):=tZ1
 have hcmi:c0≤9223372036854775807:=by unfold maxLen at hcm;omega
 have hne:(((i:Int)) == (i:Int)+1)=false:=tZ171
 have ht1:((i:Int)+1).toNat=i+1:=tZ1
 have hsub:n-(i+1)=n-1-i:=tZ1
 have hi1c:(i:Int)+1≤(c0:Int):=tZ1
 have hic:(i:Int)≤(c0:Int):=tZ1
 have hi0:(0:Int)≤(i:Int)+1:=tZ1
 have HC:=Lib.hid hcells
 have HH:=Lib.hid hh'
 have HDL:=Lib.hid hdl
 have HXL:=Lib.hid hxl
 have HCL:=Lib.hid hcl
 have HX:=Lib.hid hx
 have H1:=Lib.hid (fun u hu=>h1 u (List.mem_of_mem_drop (i:=(i+1)*2) hu))
 have HSP:=Lib.hid (fun zs hz=>delP_splice cl n i c0 xs hx hi hnc hcl zs hz)
 have hgl:g<w.heap.size:=heap_lt hh'
 clear hcells hh' hdl hxl hcl hx h1 hown hh hsz hcl0
 go_enter Tryz.func163,Tryz.ntmps163
 go_wp2_with fail
 by_cases hlast:c0=i+1
 ·have hnl:n=i+1:=tZ1
  subst hlast
  subst hnl
  have hic2:(i:Int)≤(i:Int)+1:=tZ1
  have hnil:xs.drop ((i+1)*2)=[]:=List.drop_eq_nil_of_le (by rw [HXL.out];exact Nat.le_refl _)
  have HNIL:=Lib.hid hnil
  clear hnil
  go_region_law (refine step_appendK rfl _ _ 40 rfl 78 2 Tryz.underlying40 Tryz.delP_size g i (i+1) ⟨g,0,none⟩ 0 0 tZ19 tZ19 cl 78 HH.out [] tZ3 tZ3 (by rw [HCL.out];simp;omega) tZ1 tZ3 ?_;intro w1 hg1 hgr1)
  have hgr:=grown_drew hgr1
  have HGR:=Lib.hid hgr
  have HG1:=hg1
  have hz1:∀ u∈(.agg #[.string ByteArray.empty,.string ByteArray.empty]:Value).cells.toList,u.oneCell'=true:=fun u hu=>List.all_eq_true.1 (show ((.agg #[.string ByteArray.empty,.string ByteArray.empty]:Value).cells.toList.all (·.oneCell'))=true from rfl) u hu
  clear hg1 hgr1 hgr
  simp only [Act.put,zA]
  go_wp2_with (with_reducible refine wpList_clearK rfl (.tmp 31) 40 rfl 78 (.agg #[.string ByteArray.empty,.string ByteArray.empty]) Tryz.underlying40 Tryz.delP_zero hz1 g (i*2) 1 1 tZ135 (splice cl (i*2) ([])) 78 HG1.out (by simp [splice,Value.cells,HCL.out];omega) ?_;intro w2 zs hzs hg2 hgr2)
  have hzz:zs.length=1*2:=by rw [hzs];rfl
  have hsp:=HSP.out zs hzz
  rw [HNIL.out,Nat.add_sub_cancel] at hsp
  have hrow:=own_of_row (base:=base) hg2.out hbg (Nat.le_succ i) hcm hsp.2 hsp.1
  have hgr:=HGR.out.trans hgr2
  have HROW:=Lib.hid hrow
  clear hrow hsp hg2 hgr2 hzs hzz
  go_ret
  exact ⟨_,rfl,by rw [HNIL.out];exact HROW.out,hgr⟩
 ·have hlt2:i+1<c0:=tZ1
  obtain ⟨p,hp⟩:∃ p,p=n-1:=⟨_,rfl⟩
  have hip:i+(n-1-i)=p:=tZ1
  have hnp1:n-p=1:=tZ1
  have hpn:(p:Int)≤(n:Int):=tZ1
  have hpc:(p:Int)≤(c0:Int):=tZ1
  have hcp:¬ c0=p:=tZ1
  have HIP:=Lib.hid hip
  have HP:=Lib.hid hp
  clear hip hp
  go_region_law (refine step_appendK rfl _ _ 40 rfl 78 2 Tryz.underlying40 Tryz.delP_size g i c0 ⟨g,(i+1)*2,none⟩ (n-1-i) (c0-(i+1)) tZ19 tZ19 cl 78 HH.out (xs.drop ((i+1)*2)) HDL.out (HC.out _ rfl) (by rw [HDL.out,HCL.out];omega) tZ1 H1.out ?_;intro w1 hg1 hgr1)
  have hgr:=grown_drew hgr1
  have HGR:=Lib.hid hgr
  have HG1:=hg1
  have hz1:∀ u∈(.agg #[.string ByteArray.empty,.string ByteArray.empty]:Value).cells.toList,u.oneCell'=true:=fun u hu=>List.all_eq_true.1 (show ((.agg #[.string ByteArray.empty,.string ByteArray.empty]:Value).cells.toList.all (·.oneCell'))=true from rfl) u hu
  clear hg1 hgr1 hgr
  simp only [Act.put,zA]
  rw [HIP.out]
  go_wp2_with (with_reducible refine wpList_clearK rfl (.tmp 31) 40 rfl 78 (.agg #[.string ByteArray.empty,.string ByteArray.empty]) Tryz.underlying40 Tryz.delP_zero hz1 g (p*2) 1 (c0-p) tZ135 (splice cl (i*2) (xs.drop ((i+1)*2))) 78 HG1.out (by have h2:=(HSP.out (.agg #[.string ByteArray.empty,.string ByteArray.empty]:Value).cells.toList rfl).2;have h3:=HDL.out;have h4:=HCL.out;have h5:=HP.out;unfold splice;simp only [List.length_append,List.length_take,List.length_drop] at h3 ⊢;simp [Value.cells];omega) ?_;intro w2 zs hzs hg2 hgr2)
  have hzz:zs.length=1*2:=by rw [hzs];rfl
  have hsp:=HSP.out zs hzz
  rw [← HP.out] at hsp
  have hrow:=own_of_row (base:=base) hg2.out hbg (by have:=HP.out;omega) hcm hsp.2 hsp.1
  have hgr:=HGR.out.trans hgr2
  have HROW:=Lib.hid hrow
  clear hrow hsp hg2 hgr2 hzs hzz
  go_ret
  exact ⟨_,rfl,by rw [← HP.out];exact HROW.out,hgr⟩
end Go.Proofs.YtcgclpcocdappaaGreatDoor
