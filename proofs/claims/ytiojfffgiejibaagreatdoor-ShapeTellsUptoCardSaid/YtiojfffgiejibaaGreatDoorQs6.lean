/-
  Lists of blocks in memory; blocks.Get, blocks.Check, the page's Same, by their contracts.
-/
import Derived.Test.YtiojfffgiejibaaGreatDoorQsM1
import Derived.Test.YtiojfffgiejibaaGreatDoorRows
import Derived.Handy
import Derived.WalkKit
import Derived.WalkSpells
import Derived.Below
import Derived.Laws.OwnMore
import Derived.Deep.AppendLies
import Derived.Deep.Draws
import Derived.Laws.Rows
import Derived.Maps.AppendAt
import Derived.RegionTactic
import Derived.OwnWalk
import Derived.Deep.QuietTactic
import Derived.BigQuiet
import Derived.Lib.Hide
import Derived.Laws.CopyOwn
import Derived.IntWalk
import Derived.Test.YtiojfffgiejibaaGreatDoorQ0
import Derived.Test.YtiojfffgiejibaaGreatDoorQs1
namespace Go.Proofs.YtiojfffgiejibaaGreatDoor
open Go.RowKit
abbrev BL:=List (Int×List UInt8)
def bcells (l:BL):List Value:=l.flatMap fun x=>[.int .i64 x.1,.string ⟨x.2.toArray⟩]
theorem bcells_get (l:BL) (k:Nat) (h:k<l.length):(bcells l)[k*2]?=some (.int .i64 (l[k]).1)∧(bcells l)[k*2+1]?=some (.string ⟨(l[k]).2.toArray⟩):=by
 induction l generalizing k with
 | nil=>simp at h
 | cons x l ih =>
  have e:bcells (x :: l)=.int .i64 x.1 :: .string ⟨x.2.toArray⟩ :: bcells l:=rfl
  exact mZ9
theorem Reads.blk2 {w:World} {B n:Nat} {A:Option Addr} {l:BL} (h:Reads w B 2 A n (bcells l)) (hn:n=l.length) {k:Nat} (hk:k<n) :
  ∃ ad,A=some ad∧ad.block<B∧w.cell? (ad.add (k*2))=some (.int .i64 (l[k]'tZ1).1)∧w.cell? ⟨(ad.add (k*2)).block,(ad.add (k*2)).off+1,none⟩=some (.string ⟨(l[k]'tZ1).2.toArray⟩):=by
 obtain ⟨ad,e,hb,hc⟩:=h.2 tZ1
 obtain ⟨g1,g2⟩:=bcells_get l k tZ1
 exact mZ10
set_option maxRecDepth 100000 in
set_option maxHeartbeats 1000000 in
theorem bksame_any (l m:BL) (n n':Nat) (hnl:n=l.length) (hnm:n'=m.length) (A A':Option Addr) (c c':Nat) (w:World) (B B':Nat) (hr:Reads w B 2 A n (bcells l)) (hr':Reads w B' 2 A' n' (bcells m)) (hn:n≤140737488351232) :
  Calls Tryz.prog 118 #[.slice A n c,.slice A' n' c'] w fun e w'=>e=.returned (.bool (l == m))∧∃ q,w'=w.drewN q:=by
 by_cases hlen:n=n'
 ·have e1:((n:Int) == (n':Int))=true:=by simp [hlen]
  have e2:((n:Int) != (n':Int))=false:=by simp [hlen]
  have HL:=Lib.hid hlen
  have HN:=Lib.hid hnl
  have HM:=Lib.hid hnm
  clear hnl hnm hlen
  go_enter Tryz.func118,Tryz.ntmps118
  go_wp2_with fail
  clear e1 e2
  go_loopw [5] (fun j wr=>∃ k q:Nat,k≤n∧j=.int .i64 (k:Int)∧Hid (l.take k=m.take k)∧wr=w.drewN q) (fun j _=>n-(intOf j).toNat)
  case atStart=>exact ⟨0,0,Nat.zero_le _,rfl,(show _=_ by simp),rfl⟩
  case round =>
   obtain ⟨k,q,hk,rfl,heq,rfl⟩:=hrel
   by_cases hlt:k<n
   ·obtain ⟨ad,rfl,_,c0,c1⟩:=hr.blk2 HN.out hlt
    obtain ⟨ad',rfl,_,c0',c1'⟩:=hr'.blk2 HM.out (k:=k) (by have:=HL.out;omega)
    have hki:(k:Int)<(n:Int):=tZ1
    have hki':(k:Int)<(n':Int):=by have:=HL.out;omega
    have hkl:k<l.length:=tZ9
    have hkm:k<m.length:=by have:=HL.out;have:=HN.out;have:=HM.out;omega
    obtain ⟨x,hx⟩:∃ x,x=l[k]'hkl:=⟨_,rfl⟩
    obtain ⟨y,hy⟩:∃ y,y=m[k]'hkm:=⟨_,rfl⟩
    rw [← hx] at c0 c1
    rw [← hy] at c0' c1'
    have htl:=List.take_succ_eq_append_getElem hkl
    have htm:=List.take_succ_eq_append_getElem hkm
    rw [← hx] at htl
    rw [← hy] at htm
    have HX:=Lib.hid hx
    have HY:=Lib.hid hy
    have HTL:=Lib.hid htl
    have HTM:=Lib.hid htm
    obtain ⟨xi,xs⟩:=x
    obtain ⟨yi,ys⟩:=y
    simp only at c0 c1 c0' c1'
    clear hx hy htl htm hr hr'
    go_wp2_with fail
    by_cases hxy:xi=yi
    ·subst hxy
     by_cases hss:xs=ys
     ·subst hss
      have hnext:Hid (l.take (k+1)=m.take (k+1)):=by
       show _=_
       rw [HTL.out,HTM.out,heq.out]
      clear heq HTL HTM HX HY
      go_big_quiet (fail)
      go_wp2_with fail
      go_roundw
      case rel=>exact ⟨k+1,q+nq,by omega,by go_num,hnext,rfl⟩
      case measure=>simp [intOf];omega
     ·have hb1:(xs == ys)=false:=by simpa using hss
      have hb2:(xs != ys)=true:=by simpa using hss
      have HF:Hid ((l == m)=false):=by
       show _=_
       cases h:(l == m) with
       | false=>rfl
       | true =>
        have e:=eq_of_beq h
        subst e
        exact absurd (HX.out.trans HY.out.symm) (by intro e;injection e with e1 e2;exact hss e2)
      clear hss heq HX HY HTL HTM
      exact mZ19
    ·have hb1:(xi == yi)=false:=tZ97
     have hb2:(xi != yi)=true:=tZ97
     have HF:Hid ((l == m)=false):=by
      show _=_
      cases h:(l == m) with
      | false=>rfl
      | true =>
       have e:=eq_of_beq h
       subst e
       exact absurd (HX.out.trans HY.out.symm) (by intro e;injection e with e1 e2;exact hxy e1)
     clear hxy heq HX HY HTL HTM
     exact mZ19
   ·obtain rfl:k=n:=tZ1
    have HF:Hid ((l == m)=true):=by
     show _=_
     have h1:=heq.out
     rw [List.take_of_length_le tZ83,List.take_of_length_le (by rw [HL.out,HM.out];exact Nat.le_refl _)] at h1
     rw [h1]
     exact beq_self_eq_true m
    clear heq hr hr'
    go_wp2_with fail
    go_ret
    exact ⟨by rw [HF.out];rfl,q,rfl⟩
 ·have e1:((n:Int) == (n':Int))=false:=tZ7
  have e2:((n:Int) != (n':Int))=true:=tZ7
  have e3:¬ (n:Int)=(n':Int):=tZ1
  have hne:(l == m)=false:=by
   cases h:(l == m) with
   | false=>rfl
   | true=>exact absurd (by rw [hnl,hnm,(eq_of_beq h:l=m)]) hlen
  have HNE:=Lib.hid hne
  clear hnl hnm hne hr hr'
  go_enter Tryz.func118,Tryz.ntmps118
  go_wp2_with fail
  go_ret
  exact ⟨by rw [HNE.out];rfl,0,rfl⟩
/-! ### Check -/
def okFrom:Option Int→BL→Bool
 | _,[]=>true
 | p,x :: r=>decide (0≤x.1) && decide (x.1<1024) && decide (x.2.length=16) && (match p with
  | none=>true
  | some y=>decide (y<x.1)) && okFrom (some x.1) r
def okL (l:BL):Bool:=okFrom none l
def okE (l:BL):Int:=if okL l then 0 else 9
def prevAt (l:BL) (k:Nat):Option Int:=match k with
 | 0=>none
 | j+1=>(l[j]?).map (·.1)
def CheckBk (w:World) (E:Int) (e:Ending) (w':World):Prop:=e=.returned (.int .i64 E)∧Below w.heap.size w w'
set_option maxRecDepth 100000 in
set_option maxHeartbeats 2000000 in
theorem checkBk_any (l:BL) (n:Nat) (hnl:n=l.length) (A:Option Addr) (c:Nat) (w:World) (B:Nat) (hr:Reads w B 2 A n (bcells l)) (hB:B≤w.heap.size) (hn:n≤140737488351232) :
  Calls Tryz.prog 145 #[.slice A n c] w (CheckBk w (okE l)):=by
 have HN:=Lib.hid hnl
 clear hnl
 go_enter Tryz.func145,Tryz.ntmps145
 go_wp2_with fail
 go_loopw [7] (fun j wr=>∃ k:Nat,k≤n∧j=.int .i64 (k:Int)∧Hid (okL l=okFrom (prevAt l k) (l.drop k))∧Below w.heap.size w wr) (fun j _=>n-(intOf j).toNat)
 case atStart=>exact ⟨0,Nat.zero_le _,rfl,rfl,Below.refl _ _⟩
 case round =>
  obtain ⟨k,hk,rfl,hok,hbw⟩:=hrel
  by_cases hlt:k<n
  ·have hrw:=hr.below (hbw.mono hB)
   obtain ⟨ad,rfl,hadB,c0,c1⟩:=hrw.blk2 HN.out hlt
   have hki:(k:Int)<(n:Int):=tZ1
   have hkl:k<l.length:=tZ9
   obtain ⟨x,hx⟩:∃ x,x=l[k]'hkl:=⟨_,rfl⟩
   rw [← hx] at c0 c1
   have hdr:=List.drop_eq_getElem_cons hkl
   rw [← hx] at hdr
   have HX:=Lib.hid hx
   have HDR:=Lib.hid hdr
   obtain ⟨xi,xs⟩:=x
   simp only at c0 c1
   have hk0:(wr.alloc (.cells #[.int .i64 xi,.string ⟨xs.toArray⟩] 97)).cell? ⟨wr.heap.size,0,none⟩=some (.int .i64 xi):=(Blk.new wr _ _).cell 0
   have hk1:(wr.alloc (.cells #[.int .i64 xi,.string ⟨xs.toArray⟩] 97)).cell? ⟨wr.heap.size,1,none⟩=some (.string ⟨xs.toArray⟩):=(Blk.new wr _ _).cell 1
   have hbad:Hid ((xi<0∨1024≤xi∨xs.length≠16∨(∃ y,prevAt l k=some y∧xi≤y))→okE l=9):=by
    exact mZ25
   have hgood:Hid ((0≤xi∧xi<1024∧xs.length=16∧(∀ y,prevAt l k=some y→y<xi))→okL l=okFrom (prevAt l (k+1)) (l.drop (k+1))):=by
    exact mZ24
   clear hx hdr hok
   by_cases g1:xi<0
   ·have HB:=Lib.hid (hbad.out (.inl g1))
    clear hr hrw hbad hgood
    exact mZ22
   by_cases g2:1024≤xi
   ·have HB:=Lib.hid (hbad.out (.inr (.inl g2)))
    have d1:decide (xi<0)=false:=tZ7
    have d2:decide (1024≤xi)=true:=tZ7
    clear hr hrw hbad hgood g1 g2
    exact mZ22
   by_cases g3:xs.length=16
   ·have g1':0≤xi:=tZ1
    have g2':xi<1024:=tZ1
    have g3a:((xs.length:Int) == 16)=true:=by simp [g3]
    have g3b:((xs.length:Int) != 16)=false:=by simp [g3]
    have d1:decide (xi<0)=false:=tZ7
    have d2:decide (1024≤xi)=false:=tZ7
    rcases Nat.eq_zero_or_pos k with h0 | h0
    ·have HG:=Lib.hid (hgood.out ⟨g1',g2',g3,fun y hy=>by subst h0;cases hy⟩)
     have d4:decide ((0:Int)<(k:Int))=false:=tZ7
     have d4':decide (0<k)=false:=tZ7
     have H0:=Lib.hid h0
     clear hr hrw hbad hgood g1 g2 g3 h0
     go_wp2_with fail
     go_big_quiet (fail)
     exact mZ23
    ·have d4:decide ((0:Int)<(k:Int))=true:=tZ7
     have d4':decide (0<k)=true:=tZ7
     have hk1l:k-1<l.length:=tZ1
     obtain ⟨y,hy⟩:∃ y,y=(l[k-1]'hk1l).1:=⟨_,rfl⟩
     have hpv:prevAt l k=some y:=by
      exact mZ14
     have hcp:=(hrw.blk2 HN.out (k:=k-1) tZ1)
     obtain ⟨ad2,e2,-,c2,-⟩:=hcp
     injection e2 with e2
     subst e2
     rw [← hy] at c2
     have c3:(wr.alloc (.cells #[.int .i64 xi,.string ⟨xs.toArray⟩] 97)).cell? (ad.add ((k-1)*2))=some (.int .i64 y):=(World.cell?_alloc_lt wr _ _ (by rw [block_of_add];have:=hbw.size;omega)).trans c2
     have i1:(0:Int)≤(k:Int)-1:=tZ1
     have i2:(k:Int)-1<(n:Int):=tZ1
     have i3:IntKind.i64.wrap ((k:Int)-1)=(k:Int)-1:=IntWalk.i64_in _ tZ1
     have i4:((k:Int)-1).toNat=k-1:=tZ1
     by_cases g5:y<xi
     ·have HG:=Lib.hid (hgood.out ⟨g1',g2',g3,fun y' hy'=>by rw [hpv] at hy';cases hy';exact g5⟩)
      have d5:decide (xi≤y)=false:=tZ7
      clear hr hrw hbad hgood g1 g2 g3 h0 hpv hy c2 g5
      go_wp2_with fail
      go_big_quiet (fail)
      clear i3 i4
      exact mZ23
     ·have HB:=Lib.hid (hbad.out (.inr (.inr (.inr ⟨y,hpv,by omega⟩))))
      have d5:decide (xi≤y)=true:=tZ7
      clear hr hrw hbad hgood g1 g2 g3 h0 hpv hy c2 g5
      go_wp2_with fail
      go_big_quiet (fail)
      clear i3 i4
      exact mZ21
   ·have g3a:((xs.length:Int) == 16)=false:=tZ7
    have g3b:((xs.length:Int) != 16)=true:=tZ7
    have g1':0≤xi:=tZ1
    have g2':xi<1024:=tZ1
    have HB:=Lib.hid (hbad.out (.inr (.inr (.inl g3))))
    have d1:decide (xi<0)=false:=tZ7
    have d2:decide (1024≤xi)=false:=tZ7
    clear hr hrw hbad hgood g1 g2 g3
    exact mZ22
  ·obtain rfl:k=n:=tZ1
   have HF:Hid (okE l=0):=by
    exact mZ20
   clear hok hr
   exact mZ2
end Go.Proofs.YtiojfffgiejibaaGreatDoor
