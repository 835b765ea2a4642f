/-
  The page's Check of contents, as a callee that only draws.
-/
import Derived.Test.YtiojfffgiejibaaGreatDoorTtM1
import Derived.WalkKit
import Derived.WalkSpells
import Derived.Below
import Derived.Laws.OwnMore
import Derived.Deep.AppendLies
import Derived.Deep.Draws
import Derived.Laws.Rows
import Derived.Maps.AppendAt
import Derived.RegionTactic
import Derived.OwnWalk
import Derived.Deep.QuietTactic
import Derived.BigQuiet
import Derived.Lib.Hide
import Derived.Laws.CopyOwn
import Derived.IntWalk
import Derived.Test.YtiojfffgiejibaaGreatDoorRows
import Derived.Handy
import Derived.Test.YtiojfffgiejibaaGreatDoorT0
import Derived.Test.YtiojfffgiejibaaGreatDoorTt1
import Derived.Test.YtiojfffgiejibaaGreatDoorTt6
namespace Go.Proofs.YtiojfffgiejibaaGreatDoor
open Go.RowKit
set_option maxRecDepth 100000 in
set_option maxHeartbeats 2000000 in
theorem rcheckq_any (l:BL) (n:Nat) (hnl:n=l.length) (A:Option Addr) (c:Nat) (w:World) (B:Nat) (hr:Reads w B 2 A n (bcells l)) (hn:n≤140737488351232) :
  Calls Tryz.prog 153 #[.slice A n c] w fun e w'=>e=.returned (.int .i64 (okE l))∧∃ q,w'=w.drewN q:=by
 have HN:=Lib.hid hnl
 clear hnl
 go_enter Tryz.func153,Tryz.ntmps153
 go_wp2_with fail
 go_loopw [3] (fun j wr=>∃ k q0:Nat,k≤n∧j=.int .i64 (k:Int)∧Hid (okL l=okFrom (prevAt l k) (l.drop k))∧wr=w.drewN q0) (fun j _=>n-(intOf j).toNat)
 case atStart=>exact ⟨0,0,Nat.zero_le _,rfl,rfl,rfl⟩
 case round =>
  obtain ⟨k,q0,hk,rfl,hok,rfl⟩:=hrel
  by_cases hlt:k<n
  ·have hrw:=hr
   obtain ⟨ad,rfl,hadB,c0,c1⟩:=hrw.blk2 HN.out hlt
   have hki:(k:Int)<(n:Int):=tZ1
   have hkl:k<l.length:=tZ9
   obtain ⟨x,hx⟩:∃ x,x=l[k]'hkl:=⟨_,rfl⟩
   rw [← hx] at c0 c1
   have hdr:=List.drop_eq_getElem_cons hkl
   rw [← hx] at hdr
   have HX:=Lib.hid hx
   have HDR:=Lib.hid hdr
   obtain ⟨xi,xs⟩:=x
   simp only at c0 c1
   have hbad:Hid ((xi<0∨1024≤xi∨xs.length≠16∨(∃ y,prevAt l k=some y∧xi≤y))→okE l=9):=by
    exact mZ26
   have hgood:Hid ((0≤xi∧xi<1024∧xs.length=16∧(∀ y,prevAt l k=some y→y<xi))→okL l=okFrom (prevAt l (k+1)) (l.drop (k+1))):=by
    exact mZ25
   clear hx hdr hok
   by_cases g1:xi<0
   ·have HB:=Lib.hid (hbad.out (.inl g1))
    clear hr hrw hbad hgood
    exact mZ156
   by_cases g2:1024≤xi
   ·have HB:=Lib.hid (hbad.out (.inr (.inl g2)))
    have d1:decide (xi<0)=false:=tZ7
    have d2:decide (1024≤xi)=true:=tZ7
    clear hr hrw hbad hgood g1 g2
    exact mZ156
   by_cases g3:xs.length=16
   ·have g1':0≤xi:=tZ1
    have g2':xi<1024:=tZ1
    have g3a:((xs.length:Int) == 16)=true:=by simp [g3]
    have g3b:((xs.length:Int) != 16)=false:=by simp [g3]
    have d1:decide (xi<0)=false:=tZ7
    have d2:decide (1024≤xi)=false:=tZ7
    rcases Nat.eq_zero_or_pos k with h0 | h0
    ·have HG:=Lib.hid (hgood.out ⟨g1',g2',g3,fun y hy=>by subst h0;cases hy⟩)
     have d4:decide ((0:Int)<(k:Int))=false:=tZ7
     have d4':decide (0<k)=false:=tZ7
     have H0:=Lib.hid h0
     clear hr hrw hbad hgood g1 g2 g3 h0
     go_wp2_with fail
     go_big_quiet (fail)
     exact mZ157
    ·have d4:decide ((0:Int)<(k:Int))=true:=tZ7
     have d4':decide (0<k)=true:=tZ7
     have hk1l:k-1<l.length:=tZ1
     obtain ⟨y,hy⟩:∃ y,y=(l[k-1]'hk1l).1:=⟨_,rfl⟩
     have hpv:prevAt l k=some y:=by
      exact mZ14
     have hcp:=(hrw.blk2 HN.out (k:=k-1) tZ1)
     obtain ⟨ad2,e2,-,c2,-⟩:=hcp
     injection e2 with e2
     subst e2
     rw [← hy] at c2
     have i1:(0:Int)≤(k:Int)-1:=tZ1
     have i2:(k:Int)-1<(n:Int):=tZ1
     have i3:IntKind.i64.wrap ((k:Int)-1)=(k:Int)-1:=IntWalk.i64_in _ tZ1
     have i4:((k:Int)-1).toNat=k-1:=tZ1
     by_cases g5:y<xi
     ·have HG:=Lib.hid (hgood.out ⟨g1',g2',g3,fun y' hy'=>by rw [hpv] at hy';cases hy';exact g5⟩)
      have d5:decide (xi≤y)=false:=tZ7
      clear hr hrw hbad hgood g1 g2 g3 h0 hpv hy g5
      go_wp2_with fail
      go_big_quiet (fail)
      clear i3 i4
      exact mZ157
     ·have HB:=Lib.hid (hbad.out (.inr (.inr (.inr ⟨y,hpv,by omega⟩))))
      have d5:decide (xi≤y)=true:=tZ7
      clear hr hrw hbad hgood g1 g2 g3 h0 hpv hy g5
      go_wp2_with fail
      go_big_quiet (fail)
      clear i3 i4
      exact mZ155
   ·have g3a:((xs.length:Int) == 16)=false:=tZ7
    have g3b:((xs.length:Int) != 16)=true:=tZ7
    have g1':0≤xi:=tZ1
    have g2':xi<1024:=tZ1
    have HB:=Lib.hid (hbad.out (.inr (.inr (.inl g3))))
    have d1:decide (xi<0)=false:=tZ7
    have d2:decide (1024≤xi)=false:=tZ7
    clear hr hrw hbad hgood g1 g2 g3
    exact mZ156
  ·obtain rfl:k=n:=tZ1
   have HF:Hid (okE l=0):=by
    exact mZ21
   clear hok hr
   go_wp2_with fail
   go_ret
   exact ⟨by rw [HF.out];rfl,q0,rfl⟩
end Go.Proofs.YtiojfffgiejibaaGreatDoor
