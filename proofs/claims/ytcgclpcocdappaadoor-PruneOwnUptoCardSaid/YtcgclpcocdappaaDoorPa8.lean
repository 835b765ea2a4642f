/-
  Lists of blocks in memory; blocks.Get, blocks.Check, the page's Same, by their contracts. Tenants: the plain law of what may be. Tenants: tags and snapshots, as the program and the page look at them.
-/
import Derived.Test.YtcgclpcocdappaaDoorRows
import Derived.Handy
import Derived.WalkKit
import Derived.WalkSpells
import Derived.Below
import Derived.Laws.OwnMore
import Derived.Deep.AppendLies
import Derived.Deep.Draws
import Derived.Laws.Rows
import Derived.Maps.AppendAt
import Derived.RegionTactic
import Derived.OwnWalk
import Derived.Deep.QuietTactic
import Derived.BigQuiet
import Derived.Lib.Hide
import Derived.Laws.CopyOwn
import Derived.IntWalk
import Derived.Deep.Quiet
import Derived.Orders
import Derived.Sort.Walk0
import Derived.Sort.KeysCollected
import Derived.Laws.BytesString
import Derived.Laws.IdiomStrings
import Derived.Lib.ConvBytes
import Derived.Lib.Strings
import Derived.Test.YtcgclpcocdappaaDoorP0
import Derived.Test.YtcgclpcocdappaaDoorPa1
import Derived.Test.YtcgclpcocdappaaDoorPa2
import Derived.Test.YtcgclpcocdappaaDoorPa3
import Derived.Test.YtcgclpcocdappaaDoorPa5
import Derived.Test.YtcgclpcocdappaaDoorPa7
namespace Go.Proofs.YtcgclpcocdappaaDoor
open Go.RowKit
abbrev BL:=List (Int×List UInt8)
def bcells (l:BL):List Value:=l.flatMap fun x=>[.int .i64 x.1,.string ⟨x.2.toArray⟩]
theorem bcells_length (l:BL):(bcells l).length=l.length*2:=by
 induction l with
 | nil=>rfl
 | cons x l ih=>simp only [bcells,List.flatMap_cons,List.length_append,List.length_cons,List.length_nil] at ih ⊢;omega
theorem bcells_append (a b:BL):bcells (a++b)=bcells a++bcells b:=by simp [bcells]
theorem bcells_get (l:BL) (k:Nat) (h:k<l.length):(bcells l)[k*2]?=some (.int .i64 (l[k]).1)∧(bcells l)[k*2+1]?=some (.string ⟨(l[k]).2.toArray⟩):=by
 induction l generalizing k with
 | nil=>simp at h
 | cons x l ih =>
  have e:bcells (x :: l)=.int .i64 x.1 :: .string ⟨x.2.toArray⟩ :: bcells l:=rfl
  rw [e]
  cases k with
  | zero=>exact ⟨rfl,rfl⟩
  | succ k =>
   rw [show (k+1)*2=k*2+1+1 by omega]
   simp only [zD,List.getElem_cons_succ]
   exact ih k (by simpa using h)
theorem Reads.blk2 {w:World} {B n:Nat} {A:Option Addr} {l:BL} (h:Reads w B 2 A n (bcells l)) (hn:n=l.length) {k:Nat} (hk:k<n) :
  ∃ ad,A=some ad∧ad.block<B∧w.cell? (ad.add (k*2))=some (.int .i64 (l[k]'(by omega)).1)∧w.cell? ⟨(ad.add (k*2)).block,(ad.add (k*2)).off+1,none⟩=some (.string ⟨(l[k]'(by omega)).2.toArray⟩):=by
 obtain ⟨ad,e,hb,hc⟩:=h.2 (by omega)
 obtain ⟨g1,g2⟩:=bcells_get l k (by omega)
 refine ⟨ad,e,hb,hc _ _ g1,?_⟩
 have h2:=hc _ _ g2
 rw [← add_of_add] at h2
 simpa [Addr.add] using h2
def getL (l:BL) (i:Int):List UInt8:=match l.find? (fun x=>x.1 == i) with
 | some x=>x.2
 | none=>[]
def hasL (l:BL) (i:Int):Bool:=l.any fun x=>x.1 == i
set_option maxRecDepth 100000 in
set_option maxHeartbeats 1000000 in
theorem bksame_any (l m:BL) (n n':Nat) (hnl:n=l.length) (hnm:n'=m.length) (A A':Option Addr) (c c':Nat) (w:World) (B B':Nat) (hr:Reads w B 2 A n (bcells l)) (hr':Reads w B' 2 A' n' (bcells m)) (hn:n≤140737488351232) :
  Calls Tryd.prog 42 #[.slice A n c,.slice A' n' c'] w fun e w'=>e=.returned (.bool (l == m))∧∃ q,w'=w.drewN q:=by
 by_cases hlen:n=n'
 ·have e1:((n:Int) == (n':Int))=true:=by simp [hlen]
  have e2:((n:Int) != (n':Int))=false:=by simp [hlen]
  have HL:=Lib.hid hlen
  have HN:=Lib.hid hnl
  have HM:=Lib.hid hnm
  clear hnl hnm hlen
  go_enter Tryd.func42,Tryd.ntmps42
  go_wp2_with fail
  clear e1 e2
  go_loopw [5] (fun j wr=>∃ k q:Nat,k≤n∧j=.int .i64 (k:Int)∧Hid (l.take k=m.take k)∧wr=w.drewN q) (fun j _=>n-(intOf j).toNat)
  case atStart=>exact ⟨0,0,Nat.zero_le _,rfl,(show _=_ by simp),rfl⟩
  case round =>
   obtain ⟨k,q,hk,rfl,heq,rfl⟩:=hrel
   by_cases hlt:k<n
   ·obtain ⟨ad,rfl,_,c0,c1⟩:=hr.blk2 HN.out hlt
    obtain ⟨ad',rfl,_,c0',c1'⟩:=hr'.blk2 HM.out (k:=k) (by have:=HL.out;omega)
    have hki:(k:Int)<(n:Int):=by omega
    have hki':(k:Int)<(n':Int):=by have:=HL.out;omega
    have hkl:k<l.length:=by have:=HN.out;omega
    have hkm:k<m.length:=by have:=HL.out;have:=HN.out;have:=HM.out;omega
    obtain ⟨x,hx⟩:∃ x,x=l[k]'hkl:=⟨_,rfl⟩
    obtain ⟨y,hy⟩:∃ y,y=m[k]'hkm:=⟨_,rfl⟩
    rw [← hx] at c0 c1
    rw [← hy] at c0' c1'
    have htl:=List.take_succ_eq_append_getElem hkl
    have htm:=List.take_succ_eq_append_getElem hkm
    rw [← hx] at htl
    rw [← hy] at htm
    have HX:=Lib.hid hx
    have HY:=Lib.hid hy
    have HTL:=Lib.hid htl
    have HTM:=Lib.hid htm
    obtain ⟨xi,xs⟩:=x
    obtain ⟨yi,ys⟩:=y
    simp only at c0 c1 c0' c1'
    clear hx hy htl htm hr hr'
    go_wp2_with fail
    by_cases hxy:xi=yi
    ·subst hxy
     by_cases hss:xs=ys
     ·subst hss
      have hnext:Hid (l.take (k+1)=m.take (k+1)):=by
       show _=_
       rw [HTL.out,HTM.out,heq.out]
      clear heq HTL HTM HX HY
      go_big_quiet (fail)
      go_wp2_with fail
      go_roundw
      case rel=>exact ⟨k+1,q+nq,by omega,by go_num,hnext,rfl⟩
      case measure=>simp [intOf];omega
     ·have hb1:(xs == ys)=false:=by simpa using hss
      have hb2:(xs != ys)=true:=by simpa using hss
      have HF:Hid ((l == m)=false):=by
       show _=_
       cases h:(l == m) with
       | false=>rfl
       | true =>
        have e:=eq_of_beq h
        subst e
        exact absurd (HX.out.trans HY.out.symm) (by intro e;injection e with e1 e2;exact hss e2)
      clear hss heq HX HY HTL HTM
      go_big_quiet (fail)
      go_wp2_with fail
      go_ret
      exact ⟨by rw [HF.out];rfl,q+nq,World.drewN_drewN _ _ _⟩
    ·have hb1:(xi == yi)=false:=by simpa using hxy
     have hb2:(xi != yi)=true:=by simpa using hxy
     have HF:Hid ((l == m)=false):=by
      show _=_
      cases h:(l == m) with
      | false=>rfl
      | true =>
       have e:=eq_of_beq h
       subst e
       exact absurd (HX.out.trans HY.out.symm) (by intro e;injection e with e1 e2;exact hxy e1)
     clear hxy heq HX HY HTL HTM
     go_big_quiet (fail)
     go_wp2_with fail
     go_ret
     exact ⟨by rw [HF.out];rfl,q+nq,World.drewN_drewN _ _ _⟩
   ·obtain rfl:k=n:=by omega
    have HF:Hid ((l == m)=true):=by
     show _=_
     have h1:=heq.out
     rw [List.take_of_length_le (by rw [HN.out];exact Nat.le_refl _),List.take_of_length_le (by rw [HL.out,HM.out];exact Nat.le_refl _)] at h1
     rw [h1]
     exact beq_self_eq_true m
    clear heq hr hr'
    go_wp2_with fail
    go_ret
    exact ⟨by rw [HF.out];rfl,q,rfl⟩
 ·have e1:((n:Int) == (n':Int))=false:=by simp;omega
  have e2:((n:Int) != (n':Int))=true:=by simp;omega
  have e3:¬ (n:Int)=(n':Int):=by omega
  have hne:(l == m)=false:=by
   cases h:(l == m) with
   | false=>rfl
   | true=>exact absurd (by rw [hnl,hnm,(eq_of_beq h:l=m)]) hlen
  have HNE:=Lib.hid hne
  clear hnl hnm hne hr hr'
  go_enter Tryd.func42,Tryd.ntmps42
  go_wp2_with fail
  go_ret
  exact ⟨by rw [HNE.out];rfl,0,rfl⟩
/-! ### Check -/
def okFrom:Option Int→BL→Bool
 | _,[]=>true
 | p,x :: r=>decide (0≤x.1) && decide (x.1<1024) && decide (x.2.length=16) && (match p with
  | none=>true
  | some y=>decide (y<x.1)) && okFrom (some x.1) r
def okL (l:BL):Bool:=okFrom none l
def okE (l:BL):Int:=if okL l then 0 else 9
def prevAt (l:BL) (k:Nat):Option Int:=match k with
 | 0=>none
 | j+1=>(l[j]?).map (·.1)
def CheckBk (w:World) (E:Int) (e:Ending) (w':World):Prop:=e=.returned (.int .i64 E)∧Below w.heap.size w w'
set_option maxRecDepth 100000 in
set_option maxHeartbeats 2000000 in
theorem checkBk_any (l:BL) (n:Nat) (hnl:n=l.length) (A:Option Addr) (c:Nat) (w:World) (B:Nat) (hr:Reads w B 2 A n (bcells l)) (hB:B≤w.heap.size) (hn:n≤140737488351232) :
  Calls Tryd.prog 52 #[.slice A n c] w (CheckBk w (okE l)):=by
 have HN:=Lib.hid hnl
 clear hnl
 go_enter Tryd.func52,Tryd.ntmps52
 go_wp2_with fail
 go_loopw [7] (fun j wr=>∃ k:Nat,k≤n∧j=.int .i64 (k:Int)∧Hid (okL l=okFrom (prevAt l k) (l.drop k))∧Below w.heap.size w wr) (fun j _=>n-(intOf j).toNat)
 case atStart=>exact ⟨0,Nat.zero_le _,rfl,rfl,Below.refl _ _⟩
 case round =>
  obtain ⟨k,hk,rfl,hok,hbw⟩:=hrel
  by_cases hlt:k<n
  ·have hrw:=hr.below (hbw.mono hB)
   obtain ⟨ad,rfl,hadB,c0,c1⟩:=hrw.blk2 HN.out hlt
   have hki:(k:Int)<(n:Int):=by omega
   have hkl:k<l.length:=by have:=HN.out;omega
   obtain ⟨x,hx⟩:∃ x,x=l[k]'hkl:=⟨_,rfl⟩
   rw [← hx] at c0 c1
   have hdr:=List.drop_eq_getElem_cons hkl
   rw [← hx] at hdr
   have HX:=Lib.hid hx
   have HDR:=Lib.hid hdr
   obtain ⟨xi,xs⟩:=x
   simp only at c0 c1
   have hk0:(wr.alloc (.cells #[.int .i64 xi,.string ⟨xs.toArray⟩] 66)).cell? ⟨wr.heap.size,0,none⟩=some (.int .i64 xi):=(Blk.new wr _ _).cell 0
   have hk1:(wr.alloc (.cells #[.int .i64 xi,.string ⟨xs.toArray⟩] 66)).cell? ⟨wr.heap.size,1,none⟩=some (.string ⟨xs.toArray⟩):=(Blk.new wr _ _).cell 1
   have hbad:Hid ((xi<0∨1024≤xi∨xs.length≠16∨(∃ y,prevAt l k=some y∧xi≤y))→okE l=9):=by
    intro h
    have hf:okL l=false:=by
     rw [hok.out,HDR.out]
     cases hfv:okFrom (prevAt l k) ((xi,xs) :: l.drop (k+1)) with
     | false=>rfl
     | true =>
      exfalso
      simp only [okFrom,Bool.and_eq_true,decide_eq_true_eq] at hfv
      obtain ⟨⟨⟨⟨h1,h2⟩,h3⟩,h4⟩,_⟩:=hfv
      rcases h with h | h | h | ⟨y,hy,h⟩
      ·omega
      ·omega
      ·exact h h3
      ·rw [hy] at h4;simp at h4;omega
    unfold okE
    rw [hf]
    rfl
   have hgood:Hid ((0≤xi∧xi<1024∧xs.length=16∧(∀ y,prevAt l k=some y→y<xi))→okL l=okFrom (prevAt l (k+1)) (l.drop (k+1))):=by
    rintro ⟨h1,h2,h3,h4⟩
    rw [hok.out,HDR.out]
    have hp:prevAt l (k+1)=some xi:=by
     show (l[k]?).map (·.1)=_
     rw [List.getElem?_eq_getElem hkl,← HX.out]
     rfl
    rw [hp]
    simp only [okFrom,h1,h2,h3,decide_true,Bool.true_and]
    cases hq:prevAt l k with
    | none=>rfl
    | some y=>simp [h4 y hq]
   clear hx hdr hok
   by_cases g1:xi<0
   ·have HB:=Lib.hid (hbad.out (.inl g1))
    clear hr hrw hbad hgood
    go_wp2_with fail
    go_big_quiet (fail)
    go_wp2_with fail
    go_ret
    exact ⟨by rw [HB.out];rfl,below_drewN (hbw.alloc hbw.size _) nq⟩
   by_cases g2:1024≤xi
   ·have HB:=Lib.hid (hbad.out (.inr (.inl g2)))
    have d1:decide (xi<0)=false:=by simp;omega
    have d2:decide (1024≤xi)=true:=by simp;omega
    clear hr hrw hbad hgood g1 g2
    go_wp2_with fail
    go_big_quiet (fail)
    go_wp2_with fail
    go_ret
    exact ⟨by rw [HB.out];rfl,below_drewN (hbw.alloc hbw.size _) nq⟩
   by_cases g3:xs.length=16
   ·have g1':0≤xi:=by omega
    have g2':xi<1024:=by omega
    have g3a:((xs.length:Int) == 16)=true:=by simp [g3]
    have g3b:((xs.length:Int) != 16)=false:=by simp [g3]
    have d1:decide (xi<0)=false:=by simp;omega
    have d2:decide (1024≤xi)=false:=by simp;omega
    rcases Nat.eq_zero_or_pos k with h0 | h0
    ·have HG:=Lib.hid (hgood.out ⟨g1',g2',g3,fun y hy=>by subst h0;cases hy⟩)
     have d4:decide ((0:Int)<(k:Int))=false:=by simp;omega
     have d4':decide (0<k)=false:=by simp;omega
     have H0:=Lib.hid h0
     clear hr hrw hbad hgood g1 g2 g3 h0
     go_wp2_with fail
     go_big_quiet (fail)
     go_wp2_with fail
     go_roundw
     case rel=>exact ⟨k+1,by omega,by go_num,HG,below_drewN (hbw.alloc hbw.size _) nq⟩
     case measure=>simp [intOf];omega
    ·have d4:decide ((0:Int)<(k:Int))=true:=by simp;omega
     have d4':decide (0<k)=true:=by simp;omega
     have hk1l:k-1<l.length:=by omega
     obtain ⟨y,hy⟩:∃ y,y=(l[k-1]'hk1l).1:=⟨_,rfl⟩
     have hpv:prevAt l k=some y:=by
      obtain ⟨j,rfl⟩:∃ j,k=j+1:=⟨k-1,by omega⟩
      show (l[j]?).map (·.1)=_
      have hj:j<l.length:=by simpa using hk1l
      rw [List.getElem?_eq_getElem hj,hy]
      rfl
     have hcp:=(hrw.blk2 HN.out (k:=k-1) (by omega))
     obtain ⟨ad2,e2,-,c2,-⟩:=hcp
     injection e2 with e2
     subst e2
     rw [← hy] at c2
     have c3:(wr.alloc (.cells #[.int .i64 xi,.string ⟨xs.toArray⟩] 66)).cell? (ad.add ((k-1)*2))=some (.int .i64 y):=(World.cell?_alloc_lt wr _ _ (by rw [block_of_add];have:=hbw.size;omega)).trans c2
     have i1:(0:Int)≤(k:Int)-1:=by omega
     have i2:(k:Int)-1<(n:Int):=by omega
     have i3:IntKind.i64.wrap ((k:Int)-1)=(k:Int)-1:=IntWalk.i64_in _ (by omega)
     have i4:((k:Int)-1).toNat=k-1:=by omega
     by_cases g5:y<xi
     ·have HG:=Lib.hid (hgood.out ⟨g1',g2',g3,fun y' hy'=>by rw [hpv] at hy';cases hy';exact g5⟩)
      have d5:decide (xi≤y)=false:=by simp;omega
      clear hr hrw hbad hgood g1 g2 g3 h0 hpv hy c2 g5
      go_wp2_with fail
      go_big_quiet (fail)
      clear i3 i4
      go_wp2_with fail
      go_roundw
      case rel=>exact ⟨k+1,by omega,by go_num,HG,below_drewN (hbw.alloc hbw.size _) nq⟩
      case measure=>simp [intOf];omega
     ·have HB:=Lib.hid (hbad.out (.inr (.inr (.inr ⟨y,hpv,by omega⟩))))
      have d5:decide (xi≤y)=true:=by simp;omega
      clear hr hrw hbad hgood g1 g2 g3 h0 hpv hy c2 g5
      go_wp2_with fail
      go_big_quiet (fail)
      clear i3 i4
      go_wp2_with fail
      go_ret
      exact ⟨by rw [HB.out];rfl,below_drewN (hbw.alloc hbw.size _) nq⟩
   ·have g3a:((xs.length:Int) == 16)=false:=by simp;omega
    have g3b:((xs.length:Int) != 16)=true:=by simp;omega
    have g1':0≤xi:=by omega
    have g2':xi<1024:=by omega
    have HB:=Lib.hid (hbad.out (.inr (.inr (.inl g3))))
    have d1:decide (xi<0)=false:=by simp;omega
    have d2:decide (1024≤xi)=false:=by simp;omega
    clear hr hrw hbad hgood g1 g2 g3
    go_wp2_with fail
    go_big_quiet (fail)
    go_wp2_with fail
    go_ret
    exact ⟨by rw [HB.out];rfl,below_drewN (hbw.alloc hbw.size _) nq⟩
  ·obtain rfl:k=n:=by omega
   have HF:Hid (okE l=0):=by
    show _=_
    unfold okE
    rw [hok.out,List.drop_of_length_le (by rw [HN.out];exact Nat.le_refl _)]
    rfl
   clear hok hr
   go_wp2_with fail
   go_ret
   exact ⟨by rw [HF.out];rfl,hbw⟩
end Go.Proofs.YtcgclpcocdappaaDoor
namespace Go.Proofs.YtcgclpcocdappaaDoor
open Go.RowKit
/-! ### what stands under what -/
/-- what a path stands under, if any -/
def parB (s:BS):Option BS:=if s=[]∨pathB s=false then none else some (upL s)
def kidsL (l:List SetR) (p:BS):List BS:=(l.filter fun s=>parB s.path == some p).map (·.path)
theorem sum_kids (qs:List BS) (hq:qs.Nodup) (l:List SetR) (h:∀ s∈l,∀ p,parB s.path=some p→p∈qs) :
  (qs.map fun q=>(kidsL l q).length).sum=l.countP fun s=>(parB s.path).isSome:=by
 induction l with
 | nil =>
  have:(qs.map fun q=>(kidsL [] q).length)=qs.map fun _=>0:=by
   apply List.map_congr_left
   intro q _
   rfl
  rw [this]
  clear this hq h
  induction qs with
  | nil=>rfl
  | cons q qs ih=>rw [List.map_cons,List.sum_cons,ih];rfl
 | cons s l ih =>
  have e:∀ q,(kidsL (s :: l) q).length=(kidsL l q).length+if parB s.path=some q then 1 else 0:=by
   intro q
   unfold kidsL
   rw [List.filter_cons]
   by_cases hs:parB s.path=some q
   ·rw [if_pos (by simpa using hs),if_pos hs];simp
   ·rw [if_neg (by simpa using hs),if_neg hs];simp
  have e2:(qs.map fun q=>(kidsL (s :: l) q).length).sum=(qs.map fun q=>(kidsL l q).length).sum+(qs.map fun q=>if parB s.path=some q then 1 else 0).sum:=by
   have:(qs.map fun q=>(kidsL (s :: l) q).length)=qs.map fun q=>(kidsL l q).length+if parB s.path=some q then 1 else 0:=List.map_congr_left fun q _=>e q
   rw [this]
   clear this ih h hq e
   induction qs with
   | nil=>rfl
   | cons q qs ih=>simp only [List.map_cons,List.sum_cons,ih];omega
  rw [e2,ih (fun x hx=>h x (List.mem_cons_of_mem _ hx)),List.countP_cons]
  congr 1
  cases hp:parB s.path with
  | none =>
   have:(qs.map fun q=>if (none:Option BS)=some q then 1 else 0)=qs.map fun _=>0:=List.map_congr_left fun q _=>by simp
   rw [this]
   clear this hq h e e2 ih
   induction qs with
   | nil=>rfl
   | cons q qs ih=>rw [List.map_cons,List.sum_cons,ih];rfl
  | some p =>
   have hm:=h s (List.mem_cons_self ..) p hp
   simp only [Option.some.injEq,Option.isSome_some,if_true]
   clear h e e2 ih hp
   induction qs with
   | nil=>cases hm
   | cons q qs ih =>
    obtain ⟨h1,h2⟩:=List.nodup_cons.1 hq
    rw [List.map_cons,List.sum_cons]
    rcases List.mem_cons.1 hm with e | hm
    ·subst e
     rw [if_pos rfl]
     have:(qs.map fun q=>if p=q then 1 else 0)=qs.map fun _=>0:=List.map_congr_left fun x hx=>if_neg (fun e=>h1 (by rw [e];exact hx))
     rw [this]
     clear this ih hq h1 h2 hm
     induction qs with
     | nil=>rfl
     | cons q qs ih=>rw [List.map_cons,List.sum_cons];omega
    ·rw [if_neg (fun e=>h1 (by rw [← e];exact hm)),ih h2 hm]
theorem count_root (l:List SetR) (hq:(l.map (·.path)).Nodup) (hr:[]∈l.map (·.path)) (hp:∀ s∈l,pathB s.path=true) :
  1+l.countP (fun s=>(parB s.path).isSome)=l.length:=by
 have e:∀ s∈l,(parB s.path).isSome=!(s.path == []):=by
  intro s hs
  unfold parB
  by_cases h:s.path=[]
  ·rw [if_pos (.inl h),h];rfl
  ·rw [if_neg (by rw [hp s hs];simp [h])]
   simp [h]
 have e1:l.countP (fun s=>(parB s.path).isSome)=l.countP (fun s=>!(s.path == [])):=List.countP_congr (fun s hs=>by rw [e s hs])
 have e2:l.countP (fun s=>s.path == [])=1:=by
  have h1:(l.map (·.path)).count []=1:=by rw [hq.count,if_pos hr]
  rw [← h1,List.count,List.countP_map]
  rfl
 have e3:=List.length_eq_countP_add_countP (fun s:SetR=>s.path == []) (l:=l)
 rw [e1]
 have e4:l.countP (fun s=>!(s.path == []))=l.countP (fun s=>decide ¬(s.path == [])=true):=List.countP_congr (fun s _=>by simp)
 omega
/-! ### what may be -/
def unlikeF:List BS→List BS→Bool
 | _,[]=>true
 | acc,x :: l=>nameB x && !(acc.contains x) && unlikeF (acc++[x]) l
def unlikeB (l:List BS):Bool:=unlikeF [] l
/-- names, each behind the one ahead of it -/
def ascF:Option BS→List BS→Bool
 | _,[]=>true
 | p,x :: l=>nameB x && (match p with | none=>true | some q=>Op.bytesLess q x) && ascF (some x) l
def tagsB (l:List BS):Bool:=decide (l.length≤4) && ascF none l
def snapsFrom:Option Int→List SnapR→Bool
 | _,[]=>true
 | p,x :: l=>amt x.gd 1 && (match p with | none=>true | some q=>decide (q<x.gd)) && okL x.body.l && propsB x.own.l && tagsB x.tags.l && snapsFrom (some x.gd) l
def snapsB (l:List SnapR):Bool:=decide (l.length≤16) && snapsFrom none l && unlikeB (l.map (·.nm))
def findS (l:List SetR) (p:BS):Int:=firstI (fun s=>s.path == p) l
def findN (l:List SnapR) (n:BS):Int:=firstI (fun s=>s.nm == n) l
def splitL (l:BS):Option (BS×BS):=match atL l with
 | some (p,n)=>if (pathB p && nameB n)=true then some (p,n) else none
 | none=>none
def originB (all:List SetR) (s:SetR):Bool:=s.org == [] || match splitL s.org with
 | none=>false
 | some (p,n)=>!(p == s.path) && match all.find? (fun x=>x.path == p) with
  | none=>false
  | some x=>x.snaps.l.any fun y=>y.nm == n
def setB (all:List SetR) (s:SetR):Bool:=pathB s.path && (match parB s.path with | none=>true | some u=>all.any fun x=>x.path == u) && propsB s.own.l && okL s.body.l && snapsB s.snaps.l && originB all s
def setsFrom (all:List SetR):Option BS→List SetR→Bool
 | _,[]=>true
 | p,s :: l=>setB all s && (match p with | none=>true | some q=>Op.bytesLess q s.path) && setsFrom all (some s.path) l
def setsB (l:List SetR):Bool:=decide (l.length≤32) && (l.any fun x=>x.path == []) && setsFrom l none l
def beginB (x:StageR):Bool:=decide (x.kind=1) && nameB x.nm && amt x.frm 0 && amt x.gd 1 && propsB x.own.l && decide (x.ix=0) && decide (x.ct=0) && decide (x.dt=[]) && smZ x.sm
def stageB (x:StageR):Bool:=!(x.into == []) && pathB x.into && beginB x && okL x.body.l && amt x.at_ 0 && amt x.nx 0
def stagesFrom:Option BS→List StageR→Bool
 | _,[]=>true
 | p,s :: l=>stageB s && (match p with | none=>true | some q=>Op.bytesLess q s.into) && stagesFrom (some s.into) l
def stagesB (l:List StageR):Bool:=decide (l.length≤4) && stagesFrom none l
def entryB (x:EntryR):Bool:=(x.user == [] || nameB x.user) && pathB x.path && amt x.kind 0 && amt x.err 0
def logB (l:List EntryR):Bool:=decide (l.length≤16) && l.all entryB
def tenB (t:TenR):Bool:=nameB t.nm && amt t.quota 0 && amt t.next 1 && setsB t.sets.l && grantsB t.grants.l && stagesB t.stages.l && logB t.log.l
def tenE (t:TenR):Int:=if tenB t=true then 0 else 9
theorem setsFrom_iff (all:List SetR) (p:Option BS) (l:List SetR):setsFrom all p l=true↔(∀ s∈l,setB all s=true)∧(l.Pairwise fun a b=>Op.bytesLess a.path b.path=true)∧∀ q,p=some q→∀ s∈l,Op.bytesLess q s.path=true:=by
 induction l generalizing p with
 | nil=>simp [setsFrom]
 | cons y l ih =>
  have e:setsFrom all p (y :: l)=(setB all y && (match p with | none=>true | some q=>Op.bytesLess q y.path) && setsFrom all (some y.path) l):=by cases p <;> rfl
  rw [e,Bool.and_eq_true,Bool.and_eq_true,ih]
  constructor
  ·rintro ⟨⟨h1,h2⟩,h3,h4,h5⟩
   refine ⟨fun x hx=>?_,List.pairwise_cons.2 ⟨fun z hz=>h5 _ rfl z hz,h4⟩,fun q hq x hx=>?_⟩
   ·rcases List.mem_cons.1 hx with rfl | hx
    ·exact h1
    ·exact h3 x hx
   ·subst hq
    rcases List.mem_cons.1 hx with rfl | hx
    ·exact h2
    ·exact bl_trans h2 (h5 _ rfl x hx)
  ·rintro ⟨h1,h2,h3⟩
   obtain ⟨h4,h5⟩:=List.pairwise_cons.1 h2
   refine ⟨⟨h1 y (List.mem_cons_self ..),?_⟩,fun x hx=>h1 x (List.mem_cons_of_mem _ hx),h5,fun q hq x hx=>?_⟩
   ·cases p with
    | none=>rfl
    | some q=>exact h3 q rfl y (List.mem_cons_self ..)
   ·cases hq
    exact h4 x hx
theorem setB_path (all:List SetR) (s:SetR) (h:setB all s=true):pathB s.path=true∧∀ u,parB s.path=some u→u∈all.map (·.path):=by
 unfold setB at h
 simp only [Bool.and_eq_true] at h
 obtain ⟨⟨⟨⟨⟨h1,h2⟩,_⟩,_⟩,_⟩,_⟩:=h
 refine ⟨h1,fun u hu=>?_⟩
 rw [hu] at h2
 obtain ⟨x,hx,e⟩:=List.any_eq_true.1 h2
 exact List.mem_map.2 ⟨x,hx,by simpa using e⟩
/-- TreeKids, in plain lists -/
theorem kids_law (l:List SetR) (h:setsB l=true):1+((l.map (·.path)).map fun q=>(kidsL l q).length).sum=l.length:=by
 unfold setsB at h
 simp only [Bool.and_eq_true] at h
 obtain ⟨⟨_,h2⟩,h3⟩:=h
 obtain ⟨g1,g2,_⟩:=(setsFrom_iff l none l).1 h3
 have hq:(l.map (·.path)).Nodup:=by
  refine List.pairwise_map.2 (g2.imp ?_)
  intro a b hab
  exact bl_ne hab
 rw [sum_kids _ hq l (fun s hs p hp=>(setB_path l s (g1 s hs)).2 p hp)]
 refine count_root l hq ?_ (fun s hs=>(setB_path l s (g1 s hs)).1)
 obtain ⟨x,hx,e⟩:=List.any_eq_true.1 h2
 exact List.mem_map.2 ⟨x,hx,by simpa using e⟩
end Go.Proofs.YtcgclpcocdappaaDoor
namespace Go.Proofs.YtcgclpcocdappaaDoor
open Go.RowKit
/-- texts, none ahead of the one before it (slices.IsSorted) -/
def sortF:Option BS→List BS→Bool
 | _,[]=>true
 | p,x :: l=>(match p with | none=>true | some q=>!(Op.bytesLess x q)) && sortF (some x) l
theorem sortF_cons (p:Option BS) (x:BS) (l:List BS):sortF p (x :: l)=((match p with | none=>true | some q=>!(Op.bytesLess x q)) && sortF (some x) l):=by cases p <;> rfl
theorem ascF_cons (p:Option BS) (x:BS) (l:List BS):ascF p (x :: l)=(nameB x && (match p with | none=>true | some q=>Op.bytesLess q x) && ascF (some x) l):=by cases p <;> rfl
theorem unlikeF_cons (acc:List BS) (x:BS) (l:List BS):unlikeF acc (x :: l)=(nameB x && !(acc.contains x) && unlikeF (acc++[x]) l):=rfl
theorem bl_asym (a b:BS) (h:Op.bytesLess a b=true):Op.bytesLess b a=false:=by
 rw [← Bool.not_eq_true]
 intro h2
 have:=bl_trans h h2
 rw [bl_irrefl] at this
 cases this
theorem tags_to (l:List BS) (acc:List BS) (p:Option BS) (hp:∀ q,p=some q→q∈acc) (h1:unlikeF acc l=true) (h2:sortF p l=true):ascF p l=true:=by
 induction l generalizing acc p with
 | nil=>rfl
 | cons x l ih =>
  rw [unlikeF_cons,Bool.and_eq_true,Bool.and_eq_true] at h1
  rw [sortF_cons,Bool.and_eq_true] at h2
  obtain ⟨⟨h3,h4⟩,h5⟩:=h1
  obtain ⟨h6,h7⟩:=h2
  rw [ascF_cons,h3,Bool.true_and,Bool.and_eq_true]
  refine ⟨?_,ih (acc++[x]) (some x) (fun q hq=>by cases hq;simp) h5 h7⟩
  cases p with
  | none=>rfl
  | some q =>
   simp only at h6 ⊢
   refine bl_tri x q (by simpa using h6) ?_
   rintro rfl
   have:=hp x rfl
   simp [this] at h4
theorem tags_from (l:List BS) (acc:List BS) (p:Option BS) (hp:∀ a∈acc,∃ q,p=some q∧(a=q∨Op.bytesLess a q=true)) (h:ascF p l=true):unlikeF acc l=true∧sortF p l=true:=by
 induction l generalizing acc p with
 | nil=>exact ⟨rfl,rfl⟩
 | cons x l ih =>
  rw [ascF_cons,Bool.and_eq_true,Bool.and_eq_true] at h
  obtain ⟨⟨h1,h2⟩,h3⟩:=h
  have hlt:∀ a∈acc,Op.bytesLess a x=true:=by
   intro a ha
   obtain ⟨q,rfl,hq⟩:=hp a ha
   simp only at h2
   rcases hq with rfl | hq
   ·exact h2
   ·exact bl_trans hq h2
  obtain ⟨i1,i2⟩:=ih (acc++[x]) (some x) (fun a ha=>by
   rcases List.mem_append.1 ha with ha | ha
   ·exact ⟨x,rfl,.inr (hlt a ha)⟩
   ·exact ⟨x,rfl,.inl (by simpa using ha)⟩) h3
  rw [unlikeF_cons,sortF_cons,h1,i1,i2,Bool.and_true,Bool.and_true,Bool.true_and]
  constructor
  ·rw [Bool.not_eq_true',← Bool.not_eq_true,List.contains_iff_mem]
   intro hx
   have:=hlt x hx
   rw [bl_irrefl] at this
   cases this
  ·cases p with
   | none=>rfl
   | some q=>simp only at h2 ⊢;rw [bl_asym _ _ h2];rfl
/-- as the program looks at tags -/
theorem tagged_eq (l:List BS):(unlikeB l && sortF none l)=ascF none l:=by
 rw [Bool.eq_iff_iff,Bool.and_eq_true]
 exact ⟨fun h=>tags_to l [] none (fun q hq=>by cases hq) h.1 h.2,fun h=>tags_from l [] none (fun a ha=>by cases ha) h⟩
/-- as the page looks at snapshots -/
def snapOk (x:SnapR):Bool:=amt x.gd 1 && okL x.body.l && propsB x.own.l && tagsB x.tags.l
def snapsRef:List BS→Option Int→List SnapR→Bool
 | _,_,[]=>true
 | acc,p,x :: l=>nameB x.nm && snapOk x && (match p with | none=>true | some q=>decide (q<x.gd)) && !(acc.contains x.nm) && snapsRef (acc++[x.nm]) (some x.gd) l
theorem snapsFrom_cons (p:Option Int) (x:SnapR) (l:List SnapR):snapsFrom p (x :: l)=(snapOk x && (match p with | none=>true | some q=>decide (q<x.gd)) && snapsFrom (some x.gd) l):=by
 have:snapsFrom p (x :: l)=(amt x.gd 1 && (match p with | none=>true | some q=>decide (q<x.gd)) && okL x.body.l && propsB x.own.l && tagsB x.tags.l && snapsFrom (some x.gd) l):=by cases p <;> rfl
 rw [this]
 unfold snapOk
 generalize (match p with | none=>true | some q=>decide (q<x.gd))=b
 cases amt x.gd 1 <;> cases b <;> cases okL x.body.l <;> cases propsB x.own.l <;> cases tagsB x.tags.l <;> rfl
theorem snapsRef_cons (acc:List BS) (p:Option Int) (x:SnapR) (l:List SnapR):snapsRef acc p (x :: l)=(nameB x.nm && snapOk x && (match p with | none=>true | some q=>decide (q<x.gd)) && !(acc.contains x.nm) && snapsRef (acc++[x.nm]) (some x.gd) l):=by cases p <;> rfl
theorem snapsRef_eq (l:List SnapR) (acc:List BS) (p:Option Int):snapsRef acc p l=(snapsFrom p l && unlikeF acc (l.map (·.nm))):=by
 induction l generalizing acc p with
 | nil=>rfl
 | cons x l ih =>
  rw [snapsRef_cons,snapsFrom_cons,List.map_cons,unlikeF_cons,ih]
  generalize (match p with | none=>true | some q=>decide (q<x.gd))=b
  cases nameB x.nm <;> cases snapOk x <;> cases b <;> cases acc.contains x.nm <;> cases snapsFrom (some x.gd) l <;> rfl
theorem snapsB_ref (l:List SnapR):snapsB l=(decide (l.length≤16) && snapsRef [] none l):=by
 rw [snapsRef_eq]
 unfold snapsB unlikeB
 rw [Bool.and_assoc]
end Go.Proofs.YtcgclpcocdappaaDoor
