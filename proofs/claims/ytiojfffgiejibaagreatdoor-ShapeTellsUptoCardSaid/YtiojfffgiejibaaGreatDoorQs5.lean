/-
  A running sum: four numbers. The words of properties and of records: the part of the plain law that speaks of no octets. Properties in memory; props.value, props.Check, by their contracts. Properties, one list over the other: the plain law. cmp.Compare at strings, by its contract. Grants: the plain law.
-/
import Derived.Test.YtiojfffgiejibaaGreatDoorQsM1
import Derived.WalkKit
import Derived.WalkSpells
import Derived.Below
import Derived.Laws.OwnMore
import Derived.Deep.AppendLies
import Derived.Deep.Draws
import Derived.Laws.Rows
import Derived.Maps.AppendAt
import Derived.RegionTactic
import Derived.OwnWalk
import Derived.Deep.QuietTactic
import Derived.BigQuiet
import Derived.Lib.Hide
import Derived.Laws.CopyOwn
import Derived.IntWalk
import Derived.Deep.Quiet
import Derived.Test.YtiojfffgiejibaaGreatDoorRows
import Derived.Handy
import Derived.Laws.BytesString
import Derived.Laws.IdiomStrings
import Derived.Lib.ConvBytes
import Derived.Lib.Strings
import Derived.Sort.Walk0
import Derived.Sort.KeysCollected
import Derived.Test.YtiojfffgiejibaaGreatDoorQ0
import Derived.Test.YtiojfffgiejibaaGreatDoorQs1
import Derived.Test.YtiojfffgiejibaaGreatDoorQs2
import Derived.Test.YtiojfffgiejibaaGreatDoorQs3
import Derived.Test.YtiojfffgiejibaaGreatDoorQs4
namespace Go.Proofs.YtiojfffgiejibaaGreatDoor
structure Sm where
 a:Int
 b:Int
 c:Int
 d:Int
def Sm.val (s:Sm):Value:=.agg #[.int .u64 s.a,.int .u64 s.b,.int .u64 s.c,.int .u64 s.d]
structure Sm.ok (s:Sm):Prop where
 a:0≤s.a∧s.a<18446744073709551616
 b:0≤s.b∧s.b<18446744073709551616
 c:0≤s.c∧s.c<18446744073709551616
 d:0≤s.d∧s.d<18446744073709551616
end Go.Proofs.YtiojfffgiejibaaGreatDoor
namespace Go.Proofs.YtiojfffgiejibaaGreatDoor
open Go.RowKit
abbrev BS:=List UInt8
/-! ### Records -/
abbrev PL:=List (BS×BS)
def valB (s:BS):Bool:=decide (s.length≤32) && s.all fun c=>decide (32≤c) && decide (c≤126)
def propsFrom:Option BS→PL→Bool
 | _,[]=>true
 | p,x :: l=>nameB x.1 && valB x.2 && (match p with | none=>true | some q=>Op.bytesLess q x.1) && propsFrom (some x.1) l
def propsB (l:PL):Bool:=decide (l.length≤8) && propsFrom none l
def smZ (s:Sm):Bool:=decide (s.a=0∧s.b=0∧s.c=0∧s.d=0)
def amt (n:Int) (least:Int):Bool:=decide (least≤n) && decide (n≤1099511627776)
/-! ### A record that may be -/
end Go.Proofs.YtiojfffgiejibaaGreatDoor
namespace Go.Proofs.YtiojfffgiejibaaGreatDoor
open Go.RowKit
def strV (s:BS):Value:=.string ⟨s.toArray⟩
def pcells (l:PL):List Value:=l.flatMap fun x=>[strV x.1,strV x.2]
theorem pcells_get (l:PL) (k:Nat) (h:k<l.length):(pcells l)[k*2]?=some (strV (l[k]).1)∧(pcells l)[k*2+1]?=some (strV (l[k]).2):=by
 induction l generalizing k with
 | nil=>simp at h
 | cons x l ih =>
  have e:pcells (x :: l)=strV x.1 :: strV x.2 :: pcells l:=rfl
  exact mZ9
theorem Reads.prop {w:World} {B n:Nat} {A:Option Addr} {l:PL} (h:Reads w B 2 A n (pcells l)) (hn:n=l.length) {k:Nat} (hk:k<n) :
  ∃ ad,A=some ad∧ad.block<B∧w.cell? (ad.add (k*2))=some (strV (l[k]'tZ1).1)∧w.cell? ⟨(ad.add (k*2)).block,(ad.add (k*2)).off+1,none⟩=some (strV (l[k]'tZ1).2):=by
 obtain ⟨ad,e,hb,hc⟩:=h.2 tZ1
 obtain ⟨g1,g2⟩:=pcells_get l k tZ1
 exact mZ10
set_option maxRecDepth 100000 in
theorem valOdd_any (c:UInt8) (w:World):Calls Tryz.prog 178 #[.int .u8 (c.toNat:Int)] w fun e w'=>e=.returned (.bool (!(decide (32≤c) && decide (c≤126))))∧w'=w:=by
 have hc:c.toNat<256:=c.toNat_lt
 have hk:=Lib.hid (show (decide (32≤c) && decide (c≤126))=true↔32≤(c.toNat:Int)∧(c.toNat:Int)≤126 by
  simp only [Bool.and_eq_true,decide_eq_true_eq,UInt8.le_iff_toNat_le]
  have e1:(32:UInt8).toNat=32:=rfl
  have e2:(126:UInt8).toNat=126:=rfl
  omega)
 obtain ⟨b,hb⟩:∃ b,b=(decide (32≤c) && decide (c≤126)):=⟨_,rfl⟩
 rw [← hb] at hk ⊢
 clear hb
 go_enter Tryz.func178,Tryz.ntmps178
 exact mZ1
set_option maxRecDepth 100000 in
set_option maxHeartbeats 1000000 in
theorem fiV_index {α:Type} (f:α→Value) (p:α→Bool) (l:List α) (n:Nat) (hnl:n=l.length) (A:Option Addr) (c:Nat) (w:World) (B:Nat)
  (hr:Reads w B 1 A n (l.map f)) (hB:B≤w.heap.size) (hn:n≤5000000000000)
  (hp:∀ x∈l,∀ W,Calls Tryz.prog 178 #[f x] W fun e W'=>e=.returned (.bool (p x))∧Below W.heap.size W W') :
  Calls Tryz.prog 160 #[.slice A n c,.func (.func 178) #[] #[]] w fun e w'=>e=.returned (.int .i64 (firstI p l))∧Below w.heap.size w w':=by
 exact mZ6
theorem fiV_contains {α:Type} (f:α→Value) (p:α→Bool) (l:List α) (n:Nat) (hnl:n=l.length) (A:Option Addr) (c:Nat) (w:World) (B:Nat)
  (hr:Reads w B 1 A n (l.map f)) (hB:B≤w.heap.size) (hn:n≤5000000000000)
  (hp:∀ x∈l,∀ W,Calls Tryz.prog 178 #[f x] W fun e W'=>e=.returned (.bool (p x))∧Below W.heap.size W W') :
  Calls Tryz.prog 127 #[.slice A n c,.func (.func 178) #[] #[]] w fun e w'=>e=.returned (.bool (l.any p))∧Below w.heap.size w w':=by
 have hcall:=Lib.hid (fiV_index f p l n hnl A c w B hr hB hn hp)
 exact mZ8
set_option maxRecDepth 100000 in
set_option maxHeartbeats 1000000 in
theorem value_any (s:ByteArray) (w:World) (hs:s.size≤140737488351232):Calls Tryz.prog 164 #[.string s] w fun e w'=>e=.returned (.bool (valB s.data.toList))∧Below w.heap.size w w':=by
 have hcv:=Lib.hid (Lib.run_convert_string_bytes (P:=Tryz.prog) w 9 154 5 s Tryz.underlying9 Tryz.underlying154 Tryz.underlying5)
 have hb:=Lib.hid (bytesWorld_below w 5 s)
 have hr:=Lib.hid (bytesWorld_reads w 5 s)
 have hsz:=Lib.hid (Lib.size_eq s)
 go_enter Tryz.func164,Tryz.ntmps164
 go_wp2_with fail
 ·have h16:(s.size:Int)≤32:=by assumption
  rw [hcv.out]
  have hB:=hb.out.size
  have hc:=Lib.hid (fiV_contains (fun c:UInt8=>Value.int .u8 (c.toNat:Int)) (fun c=>!(decide (32≤c) && decide (c≤126))) s.data.toList s.size hsz.out (some ⟨w.heap.size,0,none⟩) (grownCap w s.size 0 5) (Lib.bytesWorld w 5 s) (w.heap.size+1) hr.out
   tZ132 tZ1 (fun x _ W=>(valOdd_any x W).mono fun _ _ ⟨h1,h2⟩=>⟨h1,by rw [h2];exact Below.refl _ _⟩))
  obtain ⟨b,hbe0⟩:∃ b,b=s.data.toList.any fun c=>!(decide (32≤c) && decide (c≤126)):=⟨_,rfl⟩
  rw [← hbe0] at hc
  have hbe:=Lib.hid hbe0
  clear hbe0
  go_wp2_with fail
  refine hc.out.mono ?_
  rintro e w1 ⟨rfl,hb1⟩
  go_wp2_with fail
  go_ret
  refine ⟨congrArg Ending.returned (congrArg Value.bool ?_),hb.out.trans (hb1.mono hB)⟩
  have e2:decide (s.data.toList.length≤32)=true:=by
   rw [← hsz.out]
   exact decide_eq_true tZ1
  unfold valB
  rw [e2,List.all_eq_not_any_not,← hbe.out]
  rfl
 ·have h16:32<(s.size:Int):=by assumption
  go_ret
  refine ⟨congrArg Ending.returned (congrArg Value.bool ?_),Below.refl _ _⟩
  have e2:decide (s.data.toList.length≤32)=false:=by
   rw [← hsz.out]
   exact decide_eq_false tZ1
  unfold valB
  rw [e2]
  simp
/-! ### Check -/
def prevP (l:PL) (k:Nat):Option BS:=match k with
 | 0=>none
 | j+1=>(l[j]?).map (·.1)
theorem propsFrom_cons (p:Option BS) (x:BS×BS) (l:PL):propsFrom p (x :: l)=(nameB x.1 && valB x.2 && (match p with | none=>true | some q=>Op.bytesLess q x.1) && propsFrom (some x.1) l):=by
 cases p <;> rfl
def propsE (l:PL):Int:=if propsB l=true then 0 else 9
set_option maxRecDepth 100000 in
set_option maxHeartbeats 2000000 in
theorem checkP_any (l:PL) (n:Nat) (hnl:n=l.length) (A:Option Addr) (c:Nat) (w:World) (B:Nat) (hr:Reads w B 2 A n (pcells l)) (hB:B≤w.heap.size) (hn:n≤140737488351232) (hv:∀ x∈l,x.2.length≤140737488351232) :
  Calls Tryz.prog 144 #[.slice A n c] w fun e w'=>e=.returned (.int .i64 (propsE l))∧Below w.heap.size w w':=by
 have HN:=Lib.hid hnl
 clear hnl
 go_enter Tryz.func144,Tryz.ntmps144
 by_cases hn8:8<n
 ·have hi:(8:Int)<(n:Int):=tZ1
  have HE:Hid (propsE l=9):=by
   show _=_
   unfold propsE propsB
   rw [if_neg]
   rw [Bool.and_eq_true,decide_eq_true_eq]
   have:=HN.out
   omega
  exact mZ17
 have hi:¬ (8:Int)<(n:Int):=tZ1
 have hPE:Hid (∀ b,propsFrom none l=b→propsE l=if b=true then 0 else 9):=by
  show ∀ b,_→_
  rintro b rfl
  unfold propsE propsB
  rw [decide_eq_true (show l.length≤8 by have:=HN.out;omega),Bool.true_and]
 go_wp2_with fail
 go_loopw [10] (fun j wr=>∃ k:Nat,k≤n∧j=.int .i64 (k:Int)∧Hid (propsFrom none l=propsFrom (prevP l k) (l.drop k))∧Below w.heap.size w wr) (fun j _=>n-(intOf j).toNat)
 case atStart=>exact ⟨0,Nat.zero_le _,rfl,rfl,Below.refl _ _⟩
 case round =>
  obtain ⟨k,hk,rfl,hok,hbw⟩:=hrel
  by_cases hlt:k<n
  ·have hrw:=hr.below (hbw.mono hB)
   obtain ⟨ad,rfl,hadB,c0,c1⟩:=hrw.prop HN.out hlt
   have hki:(k:Int)<(n:Int):=tZ1
   have hkl:k<l.length:=tZ9
   obtain ⟨x,hx⟩:∃ x,x=l[k]'hkl:=⟨_,rfl⟩
   have hxl:x.2.length≤140737488351232:=hv x tZ12
   rw [← hx] at c0 c1
   have hdr:=List.drop_eq_getElem_cons hkl
   rw [← hx] at hdr
   have HX:=Lib.hid hx
   have HDR:=Lib.hid hdr
   obtain ⟨xn,xv⟩:=x
   simp only [strV] at c0 c1 hxl
   obtain ⟨W0,hW0⟩:∃ W0,W0=wr.alloc (.cells #[.string ⟨xn.toArray⟩,.string ⟨xv.toArray⟩] 100):=⟨_,rfl⟩
   have k0:W0.cell? ⟨wr.heap.size,0,none⟩=some (.string ⟨xn.toArray⟩):=tZ108
   have k1:W0.cell? ⟨wr.heap.size,1,none⟩=some (.string ⟨xv.toArray⟩):=tZ109
   have hszW:W0.heap.size=wr.heap.size+1:=tZ15
   have hlt0:wr.heap.size<W0.heap.size:=tZ1
   have HSZ:=Lib.hid hszW
   have hwr:=hbw.size
   have hbW:Below w.heap.size w W0:=tZ31
   have hS0:=(Below.refl W0.heap.size W0).drew
   have hbad:Hid ((nameB xn=false∨valB xv=false∨(∃ y,prevP l k=some y∧Op.bytesLess y xn=false))→propsE l=9):=by
    exact mZ16
   have hgood:Hid (nameB xn=true→valB xv=true→(∀ y,prevP l k=some y→Op.bytesLess y xn=true)→propsFrom none l=propsFrom (prevP l (k+1)) (l.drop (k+1))):=by
    exact mZ15
   have hN:∀ W,Calls Tryz.prog 77 #[.string ⟨xn.toArray⟩] W fun e W'=>e=.returned (.bool (nameB xn))∧Below W.heap.size W W':=fun W=>name_any ⟨xn.toArray⟩ W
   have hV:∀ W,Calls Tryz.prog 164 #[.string ⟨xv.toArray⟩] W fun e W'=>e=.returned (.bool (valB xv))∧Below W.heap.size W W':=fun W=>value_any ⟨xv.toArray⟩ W hxl
   clear hx hdr hok hxl
   obtain ⟨bn,hbn0⟩:∃ b,b=nameB xn:=⟨_,rfl⟩
   obtain ⟨bv,hbv0⟩:∃ b,b=valB xv:=⟨_,rfl⟩
   rw [← hbn0] at hbad hgood hN
   rw [← hbv0] at hbad hgood hV
   clear hbn0 hbv0
   cases bn with
   | false =>
    have HB:=Lib.hid (hbad.out (.inl rfl))
    have hS:=Lib.hid (fun (W':World) (hB:Below W0.heap.size W0 W')=>(⟨(hB.cell (p:=⟨wr.heap.size,0,none⟩) hlt0).trans k0,(hB.cell (p:=⟨wr.heap.size,1,none⟩) hlt0).trans k1,hB⟩:W'.cell? ⟨wr.heap.size,0,none⟩=some (.string ⟨xn.toArray⟩)∧W'.cell? ⟨wr.heap.size,1,none⟩=some (.string ⟨xv.toArray⟩)∧Below W0.heap.size W0 W'))
    clear hr hrw hbad hgood hV
    go_wp2_with fail
    rw [← hW0]
    clear hW0 hszW
    refine wpC_regionH (fun W'=>W'.cell? ⟨wr.heap.size,0,none⟩=some (.string ⟨xn.toArray⟩)∧W'.cell? ⟨wr.heap.size,1,none⟩=some (.string ⟨xv.toArray⟩)∧Below W0.heap.size W0 W') (hS.out _ hS0) (fun OPS D QQ HO HD HD2 HQQ=>?_)
    have hgo4:=hgoL HO 4 19 rfl
    have hgo10:=hgoL HO 10 25 rfl
    have hgo13:=hgoL HO 13 28 rfl
    clear HO
    refine zX ?_
    refine zY ?_
    refine zN hN ?_
    iterate 22 refine zX ?_
    refine wpQuiet_nil (HQQ.out _ (fun W hW=>?_))
    obtain ⟨q0,q1,hcW⟩:=hW
    exact mZ12
   | true =>
    cases bv with
    | false =>
     have HB:=Lib.hid (hbad.out (.inr (.inl rfl)))
     have hS:=Lib.hid (fun (W':World) (hB:Below W0.heap.size W0 W')=>(⟨(hB.cell (p:=⟨wr.heap.size,0,none⟩) hlt0).trans k0,(hB.cell (p:=⟨wr.heap.size,1,none⟩) hlt0).trans k1,hB⟩:W'.cell? ⟨wr.heap.size,0,none⟩=some (.string ⟨xn.toArray⟩)∧W'.cell? ⟨wr.heap.size,1,none⟩=some (.string ⟨xv.toArray⟩)∧Below W0.heap.size W0 W'))
     clear hr hrw hbad hgood
     go_wp2_with fail
     rw [← hW0]
     clear hW0 hszW
     refine wpC_regionH (fun W'=>W'.cell? ⟨wr.heap.size,0,none⟩=some (.string ⟨xn.toArray⟩)∧W'.cell? ⟨wr.heap.size,1,none⟩=some (.string ⟨xv.toArray⟩)∧Below W0.heap.size W0 W') (hS.out _ hS0) (fun OPS D QQ HO HD HD2 HQQ=>?_)
     have hgo4:=hgoL HO 4 19 rfl
     have hgo10:=hgoL HO 10 25 rfl
     have hgo13:=hgoL HO 13 28 rfl
     clear HO
     refine zX ?_
     refine zY ?_
     refine zN hN ?_
     iterate 3 refine zX ?_
     refine zY ?_
     refine zN hV ?_
     iterate 17 refine zX ?_
     refine wpQuiet_nil (HQQ.out _ (fun W hW=>?_))
     obtain ⟨q0,q1,hcW⟩:=hW
     exact mZ12
    | true =>
     rcases Nat.eq_zero_or_pos k with h0 | h0
     ·have HG:=Lib.hid (hgood.out rfl rfl (fun y hy=>by subst h0;cases hy))
      have d4:decide ((0:Int)<(k:Int))=false:=tZ7
      have d4':decide (0<k)=false:=tZ7
      clear h0
      have hS:=Lib.hid (fun (W':World) (hB:Below W0.heap.size W0 W')=>(⟨(hB.cell (p:=⟨wr.heap.size,0,none⟩) hlt0).trans k0,(hB.cell (p:=⟨wr.heap.size,1,none⟩) hlt0).trans k1,hB⟩:W'.cell? ⟨wr.heap.size,0,none⟩=some (.string ⟨xn.toArray⟩)∧W'.cell? ⟨wr.heap.size,1,none⟩=some (.string ⟨xv.toArray⟩)∧Below W0.heap.size W0 W'))
      clear hr hrw hbad hgood
      go_wp2_with fail
      rw [← hW0]
      clear hW0 hszW
      refine wpC_regionH (fun W'=>W'.cell? ⟨wr.heap.size,0,none⟩=some (.string ⟨xn.toArray⟩)∧W'.cell? ⟨wr.heap.size,1,none⟩=some (.string ⟨xv.toArray⟩)∧Below W0.heap.size W0 W') (hS.out _ hS0) (fun OPS D QQ HO HD HD2 HQQ=>?_)
      have hgo4:=hgoL HO 4 19 rfl
      have hgo10:=hgoL HO 10 25 rfl
      have hgo13:=hgoL HO 13 28 rfl
      clear HO
      refine zX ?_
      refine zY ?_
      refine zN hN ?_
      iterate 3 refine zX ?_
      refine zY ?_
      refine zN hV ?_
      iterate 17 refine zX ?_
      refine wpQuiet_nil (HQQ.out _ (fun W hW=>?_))
      obtain ⟨q0,q1,hcW⟩:=hW
      exact mZ13
     ·have d4:decide ((0:Int)<(k:Int))=true:=tZ7
      have d4':decide (0<k)=true:=tZ7
      have hk1l:k-1<l.length:=tZ1
      obtain ⟨y,hy⟩:∃ y,y=(l[k-1]'hk1l).1:=⟨_,rfl⟩
      have hpv:prevP l k=some y:=by
       exact mZ14
      obtain ⟨ad2,e2,-,c2,-⟩:=(hrw.prop HN.out (k:=k-1) tZ1)
      injection e2 with e2
      subst e2
      rw [← hy] at c2
      simp only [strV] at c2
      have hltp:(ad.add ((k-1)*2)).block<W0.heap.size:=tZ82
      have kp:W0.cell? (ad.add ((k-1)*2))=some (.string ⟨y.toArray⟩):=by rw [hW0];exact (World.cell?_alloc_lt wr _ _ tZ82).trans c2
      have hgeq:=geqS 9 y xn
      have i1:(1:Int)≤(k:Int):=tZ1
      have i2:(k:Int)-1<(n:Int):=tZ1
      have i3:IntKind.i64.wrap ((k:Int)-1)=(k:Int)-1:=IntWalk.i64_in _ tZ1
      have i4:((k:Int)-1).toNat=k-1:=tZ1
      have hS:=Lib.hid (fun (W':World) (hB:Below W0.heap.size W0 W')=>(⟨(hB.cell (p:=⟨wr.heap.size,0,none⟩) hlt0).trans k0,(hB.cell (p:=⟨wr.heap.size,1,none⟩) hlt0).trans k1,(hB.cell (p:=ad.add ((k-1)*2)) hltp).trans kp,hB⟩:W'.cell? ⟨wr.heap.size,0,none⟩=some (.string ⟨xn.toArray⟩)∧W'.cell? ⟨wr.heap.size,1,none⟩=some (.string ⟨xv.toArray⟩)∧W'.cell? (ad.add ((k-1)*2))=some (.string ⟨y.toArray⟩)∧Below W0.heap.size W0 W'))
      cases hcmp:Op.bytesLess y xn with
      | true =>
       have HG:=Lib.hid (hgood.out rfl rfl (fun y' hy'=>by rw [hpv] at hy';cases hy';exact hcmp))
       clear hr hrw hbad hgood h0 hpv hy c2
       go_wp2_with fail
       rw [← hW0]
       clear hW0 hszW
       refine wpC_regionH (fun W'=>W'.cell? ⟨wr.heap.size,0,none⟩=some (.string ⟨xn.toArray⟩)∧W'.cell? ⟨wr.heap.size,1,none⟩=some (.string ⟨xv.toArray⟩)∧W'.cell? (ad.add ((k-1)*2))=some (.string ⟨y.toArray⟩)∧Below W0.heap.size W0 W') (hS.out _ hS0) (fun OPS D QQ HO HD HD2 HQQ=>?_)
       have hgo4:=hgoL HO 4 19 rfl
       have hgo10:=hgoL HO 10 25 rfl
       have hgo13:=hgoL HO 13 28 rfl
       clear HO
       refine zX ?_
       refine zY ?_
       refine zN hN ?_
       iterate 3 refine zX ?_
       refine zY ?_
       refine zN hV ?_
       iterate 11 refine zX ?_
       refine zY ?_
       refine zX ?_
       refine zY ?_
       iterate 3 refine zX ?_
       refine wpQuiet_nil (HQQ.out _ (fun W hW=>?_))
       obtain ⟨q0,q1,q2,hcW⟩:=hW
       exact mZ13
      | false =>
       have HB:=Lib.hid (hbad.out (.inr (.inr ⟨y,hpv,hcmp⟩)))
       clear hr hrw hbad hgood h0 hpv hy c2
       go_wp2_with fail
       rw [← hW0]
       clear hW0 hszW
       refine wpC_regionH (fun W'=>W'.cell? ⟨wr.heap.size,0,none⟩=some (.string ⟨xn.toArray⟩)∧W'.cell? ⟨wr.heap.size,1,none⟩=some (.string ⟨xv.toArray⟩)∧W'.cell? (ad.add ((k-1)*2))=some (.string ⟨y.toArray⟩)∧Below W0.heap.size W0 W') (hS.out _ hS0) (fun OPS D QQ HO HD HD2 HQQ=>?_)
       have hgo4:=hgoL HO 4 19 rfl
       have hgo10:=hgoL HO 10 25 rfl
       have hgo13:=hgoL HO 13 28 rfl
       clear HO
       refine zX ?_
       refine zY ?_
       refine zN hN ?_
       iterate 3 refine zX ?_
       refine zY ?_
       refine zN hV ?_
       iterate 11 refine zX ?_
       refine zY ?_
       refine zX ?_
       refine zY ?_
       iterate 3 refine zX ?_
       refine wpQuiet_nil (HQQ.out _ (fun W hW=>?_))
       obtain ⟨q0,q1,q2,hcW⟩:=hW
       exact mZ12
  ·obtain rfl:k=n:=tZ1
   have HF:Hid (propsE l=0):=by
    exact mZ11
   clear hok hr
   exact mZ2
end Go.Proofs.YtiojfffgiejibaaGreatDoor
namespace Go.Proofs.YtiojfffgiejibaaGreatDoor
open Go.RowKit
theorem bl_irrefl (x:BS):Op.bytesLess x x=false:=by rw [bytesLess_eq];exact decide_eq_false (List.lt_irrefl x)
theorem bl_trans {x y z:BS} (h1:Op.bytesLess x y=true) (h2:Op.bytesLess y z=true):Op.bytesLess x z=true:=by
 rw [bytesLess_eq,decide_eq_true_eq] at *
 exact List.lt_trans h1 h2
theorem bl_tri:∀ (x y:BS),Op.bytesLess x y=false→x≠y→Op.bytesLess y x=true
 | [],[],_,h2=>absurd rfl h2
 | [],_ :: _,h1,_=>by cases h1
 | _ :: _,[],_,_=>rfl
 | a :: x,b :: y,h1,h2=>by
  simp only [Op.bytesLess,Bool.or_eq_false_iff,Bool.and_eq_false_iff,decide_eq_false_iff_not] at h1
  simp only [Op.bytesLess,Bool.or_eq_true,Bool.and_eq_true,decide_eq_true_eq]
  obtain ⟨h3,h4⟩:=h1
  rw [UInt8.lt_iff_toNat_lt] at h3 ⊢
  by_cases hab:a=b
  ·subst hab
   right
   refine ⟨by simp,bl_tri x y ?_ (fun e=>h2 (by rw [e]))⟩
   rcases h4 with h4 | h4
   ·simp at h4
   ·exact h4
  ·left
   have:a.toNat≠b.toNat:=fun e=>hab (UInt8.toNat_inj.1 e)
   omega
theorem bl_ne {x y:BS} (h:Op.bytesLess x y=true):x≠y:=by
 intro e
 subst e
 rw [bl_irrefl] at h
 cases h
end Go.Proofs.YtiojfffgiejibaaGreatDoor
namespace Go.Proofs.YtiojfffgiejibaaGreatDoor
open Go.RowKit
def cmpS (x y:BS):Int:=if Op.bytesLess x y=true then -1 else if Op.bytesLess y x=true then 1 else 0
theorem cmpS_neg (x y:BS):cmpS x y<0↔Op.bytesLess x y=true:=by
 unfold cmpS
 split
 ·rename_i h;simp [h]
 ·rename_i h
  split
  ·simp [h]
  ·simp [h]
theorem cmpS_zero (x y:BS):cmpS x y=0↔x=y:=by
 unfold cmpS
 split
 ·rename_i h
  constructor
  ·intro e;cases e
  ·intro e;exact absurd e (bl_ne h)
 ·rename_i h
  split
  ·rename_i h2
   constructor
   ·intro e;cases e
   ·intro e;exact absurd e.symm (bl_ne h2)
  ·rename_i h2
   constructor
   ·intro _
    by_cases e:x=y
    ·exact e
    ·exact absurd (bl_tri x y tZ50 e) h2
   ·intro _;rfl
set_option maxRecDepth 100000 in
theorem isNaNS_any (x:BS) (w:World):Calls Tryz.prog 137 #[.string ⟨x.toArray⟩] w fun e w'=>e=.returned (.bool false)∧∃ q,w'=w.drewN q:=by
 go_enter Tryz.func137,Tryz.ntmps137
 go_wp2_with fail
 go_ret
 exact ⟨rfl,0,rfl⟩
set_option maxRecDepth 100000 in
theorem compareS_any (x y:BS) (w:World):Calls Tryz.prog 90 #[.string ⟨x.toArray⟩,.string ⟨y.toArray⟩] w fun e w'=>e=.returned (.int .i64 (cmpS x y))∧∃ q,w'=w.drewN q:=by
 have hlss:=lssS 9 x y
 have hgtr:=gtrS 9 x y
 go_enter Tryz.func90,Tryz.ntmps90
 go_wp2_with fail
 refine (isNaNS_any x _).mono ?_
 rintro e w1 ⟨rfl,q1,rfl⟩
 go_wp2_with fail
 refine (isNaNS_any y _).mono ?_
 rintro e w1 ⟨rfl,q2,rfl⟩
 cases h1:Op.bytesLess x y with
 | true =>
  have HV:Hid (cmpS x y=-1):=by show _=_;unfold cmpS;rw [if_pos h1]
  rw [h1] at hlss hgtr
  clear h1
  go_wp2_with fail
  go_ret
  exact ⟨by rw [HV.out];rfl,q1+q2,rfl⟩
 | false =>
  by_cases h2:x=y
  ·have HV:Hid (cmpS x y=0):=(cmpS_zero x y).2 h2
   have hd:(Op.bytesLess x y || x == y)=true:=by simp [h2]
   exact mZ18
  ·have HV:Hid (cmpS x y=1):=by show _=_;unfold cmpS;rw [if_neg (by rw [h1];simp),if_pos (bl_tri x y h1 h2)]
   have hd:(Op.bytesLess x y || x == y)=false:=by rw [h1];simpa using h2
   exact mZ18
end Go.Proofs.YtiojfffgiejibaaGreatDoor
namespace Go.Proofs.YtiojfffgiejibaaGreatDoor
open Go.RowKit
abbrev GT:=BS×BS×Int
abbrev GL:=List GT
def cmpG (a b c d:BS):Int:=if cmpS a c=0 then cmpS b d else cmpS a c
theorem cmpG_neg (a b c d:BS):cmpG a b c d<0↔Op.bytesLess a c=true∨a=c∧Op.bytesLess b d=true:=by
 unfold cmpG
 by_cases h:cmpS a c=0
 ·rw [if_pos h,cmpS_neg]
  rw [cmpS_zero] at h
  subst h
  rw [bl_irrefl]
  simp
 ·rw [if_neg h,cmpS_neg]
  rw [cmpS_zero] at h
  simp [h]
def grantB (g:GT):Bool:=nameB g.1 && pathB g.2.1 && decide (1≤g.2.2) && decide (g.2.2≤255)
def grantsFrom:Option GT→GL→Bool
 | _,[]=>true
 | p,x :: l=>grantB x && (match p with | none=>true | some q=>decide (cmpG q.1 q.2.1 x.1 x.2.1<0)) && grantsFrom (some x) l
def grantsB (l:GL):Bool:=decide (l.length≤16) && grantsFrom none l
def grantsE (l:GL):Int:=if grantsB l=true then 0 else 9
theorem grantsFrom_cons (p:Option GT) (x:GT) (l:GL):grantsFrom p (x :: l)=(grantB x && (match p with | none=>true | some q=>decide (cmpG q.1 q.2.1 x.1 x.2.1<0)) && grantsFrom (some x) l):=by
 cases p <;> rfl
end Go.Proofs.YtiojfffgiejibaaGreatDoor
