/-
  Lists of blocks in memory; blocks.Get, blocks.Check, the page's Same, by their contracts. slices.Clone at blocks, texts, properties and entries; the page's Own of contents: by their contracts. The shelf's words of a text's parts, in the words of the plain law. Lists of elements of several cells each, in memory: the cells of one element; where a sorted list is parted. A wide struct: loaded, and stored into a block that has just been made, all its cells at once. A region that draws its order, whose operations each have one value in every world of a class: one walk in the order of the text. 'string(b)' of octets; a row with a mark behind its end (what '[]byte(s)' makes). slices.Clone at elements of 3 cells, by its contract. The words of properties and of records: the part of the plain law that speaks of no octets. Arguments opened field by field, to any depth: what a row of cells reads as.
-/
import Derived.Test.YtmladblmknbgnaaGreatDoorH0
import Derived.Test.YtmladblmknbgnaaGreatDoorH1
import Derived.Test.YtmladblmknbgnaaGreatDoorRows
import Derived.Handy
import Derived.Lib.SplitLaws
import Derived.Lib.LastIndexByte
import Derived.Lib.Strings
import Derived.Deep.MidRow
import Derived.Deep.Quiet
import Derived.Deep.QuietTactic
import Derived.Laws.BytesString
import Derived.Laws.IdiomStrings
import Derived.Lib.ConvBytes
import Derived.Deep.Slices
import Derived.Deep.Fields
import Derived.ChangeSame
namespace Go.Proofs.YtmladblmknbgnaaGreatDoor
open Go.RowKit
abbrev BL:=List (Int×List UInt8)
def bcells (l:BL):List Value:=l.flatMap fun x=>[.int .i64 x.1,.string ⟨x.2.toArray⟩]
theorem bcells_get (l:BL) (k:Nat) (h:k<l.length):(bcells l)[k*2]?=some (.int .i64 (l[k]).1)∧(bcells l)[k*2+1]?=some (.string ⟨(l[k]).2.toArray⟩):=by
 induction l generalizing k with
 | nil=>simp at h
 | cons x l ih =>
  have e:bcells (x :: l)=.int .i64 x.1 :: .string ⟨x.2.toArray⟩ :: bcells l:=rfl
  rw [e]
  cases k with
  | zero=>exact ⟨rfl,rfl⟩
  | succ k =>
   rw [show (k+1)*2=k*2+1+1 by omega]
   simp only [zD,List.getElem_cons_succ]
   exact ih k (by simpa using h)
theorem Reads.blk2 {w:World} {B n:Nat} {A:Option Addr} {l:BL} (h:Reads w B 2 A n (bcells l)) (hn:n=l.length) {k:Nat} (hk:k<n) :
  ∃ ad,A=some ad∧ad.block<B∧w.cell? (ad.add (k*2))=some (.int .i64 (l[k]'(by omega)).1)∧w.cell? ⟨(ad.add (k*2)).block,(ad.add (k*2)).off+1,none⟩=some (.string ⟨(l[k]'(by omega)).2.toArray⟩):=by
 obtain ⟨ad,e,hb,hc⟩:=h.2 (by omega)
 obtain ⟨g1,g2⟩:=bcells_get l k (by omega)
 refine ⟨ad,e,hb,hc _ _ g1,?_⟩
 have h2:=hc _ _ g2
 rw [← add_of_add] at h2
 simpa [Addr.add] using h2
/-! ### Check -/
def okFrom:Option Int→BL→Bool
 | _,[]=>true
 | p,x :: r=>decide (0≤x.1) && decide (x.1<1024) && decide (x.2.length=16) && (match p with
  | none=>true
  | some y=>decide (y<x.1)) && okFrom (some x.1) r
def okL (l:BL):Bool:=okFrom none l
def okE (l:BL):Int:=if okL l then 0 else 9
def prevAt (l:BL) (k:Nat):Option Int:=match k with
 | 0=>none
 | j+1=>(l[j]?).map (·.1)
def CheckBk (w:World) (E:Int) (e:Ending) (w':World):Prop:=e=.returned (.int .i64 E)∧Below w.heap.size w w'
set_option maxRecDepth 100000 in
set_option maxHeartbeats 2000000 in
theorem checkBk_any (l:BL) (n:Nat) (hnl:n=l.length) (A:Option Addr) (c:Nat) (w:World) (B:Nat) (hr:Reads w B 2 A n (bcells l)) (hB:B≤w.heap.size) (hn:n≤140737488351232) :
  Calls Tryz.prog 182 #[.slice A n c] w (CheckBk w (okE l)):=by
 have HN:=Lib.hid hnl
 clear hnl
 go_enter Tryz.func182,Tryz.ntmps182
 go_wp2_with fail
 go_loopw [7] (fun j wr=>∃ k:Nat,k≤n∧j=.int .i64 (k:Int)∧Hid (okL l=okFrom (prevAt l k) (l.drop k))∧Below w.heap.size w wr) (fun j _=>n-(intOf j).toNat)
 case atStart=>exact ⟨0,Nat.zero_le _,rfl,rfl,Below.refl _ _⟩
 case round =>
  obtain ⟨k,hk,rfl,hok,hbw⟩:=hrel
  by_cases hlt:k<n
  ·have hrw:=hr.below (hbw.mono hB)
   obtain ⟨ad,rfl,hadB,c0,c1⟩:=hrw.blk2 HN.out hlt
   have hki:(k:Int)<(n:Int):=by omega
   have hkl:k<l.length:=by have:=HN.out;omega
   obtain ⟨x,hx⟩:∃ x,x=l[k]'hkl:=⟨_,rfl⟩
   rw [← hx] at c0 c1
   have hdr:=List.drop_eq_getElem_cons hkl
   rw [← hx] at hdr
   have HX:=Lib.hid hx
   have HDR:=Lib.hid hdr
   obtain ⟨xi,xs⟩:=x
   simp only at c0 c1
   have hk0:(wr.alloc (.cells #[.int .i64 xi,.string ⟨xs.toArray⟩] 88)).cell? ⟨wr.heap.size,0,none⟩=some (.int .i64 xi):=(Blk.new wr _ _).cell 0
   have hk1:(wr.alloc (.cells #[.int .i64 xi,.string ⟨xs.toArray⟩] 88)).cell? ⟨wr.heap.size,1,none⟩=some (.string ⟨xs.toArray⟩):=(Blk.new wr _ _).cell 1
   have hbad:Hid ((xi<0∨1024≤xi∨xs.length≠16∨(∃ y,prevAt l k=some y∧xi≤y))→okE l=9):=by
    intro h
    have hf:okL l=false:=by
     rw [hok.out,HDR.out]
     cases hfv:okFrom (prevAt l k) ((xi,xs) :: l.drop (k+1)) with
     | false=>rfl
     | true =>
      exfalso
      simp only [okFrom,Bool.and_eq_true,decide_eq_true_eq] at hfv
      obtain ⟨⟨⟨⟨h1,h2⟩,h3⟩,h4⟩,_⟩:=hfv
      rcases h with h | h | h | ⟨y,hy,h⟩
      ·omega
      ·omega
      ·exact h h3
      ·rw [hy] at h4;simp at h4;omega
    unfold okE
    rw [hf]
    rfl
   have hgood:Hid ((0≤xi∧xi<1024∧xs.length=16∧(∀ y,prevAt l k=some y→y<xi))→okL l=okFrom (prevAt l (k+1)) (l.drop (k+1))):=by
    rintro ⟨h1,h2,h3,h4⟩
    rw [hok.out,HDR.out]
    have hp:prevAt l (k+1)=some xi:=by
     show (l[k]?).map (·.1)=_
     rw [List.getElem?_eq_getElem hkl,← HX.out]
     rfl
    rw [hp]
    simp only [okFrom,h1,h2,h3,decide_true,Bool.true_and]
    cases hq:prevAt l k with
    | none=>rfl
    | some y=>simp [h4 y hq]
   clear hx hdr hok
   by_cases g1:xi<0
   ·have HB:=Lib.hid (hbad.out (.inl g1))
    clear hr hrw hbad hgood
    go_wp2_with fail
    go_big_quiet (fail)
    go_wp2_with fail
    go_ret
    exact ⟨by rw [HB.out];rfl,below_drewN (hbw.alloc hbw.size _) nq⟩
   by_cases g2:1024≤xi
   ·have HB:=Lib.hid (hbad.out (.inr (.inl g2)))
    have d1:decide (xi<0)=false:=by simp;omega
    have d2:decide (1024≤xi)=true:=by simp;omega
    clear hr hrw hbad hgood g1 g2
    go_wp2_with fail
    go_big_quiet (fail)
    go_wp2_with fail
    go_ret
    exact ⟨by rw [HB.out];rfl,below_drewN (hbw.alloc hbw.size _) nq⟩
   by_cases g3:xs.length=16
   ·have g1':0≤xi:=by omega
    have g2':xi<1024:=by omega
    have g3a:((xs.length:Int) == 16)=true:=by simp [g3]
    have g3b:((xs.length:Int) != 16)=false:=by simp [g3]
    have d1:decide (xi<0)=false:=by simp;omega
    have d2:decide (1024≤xi)=false:=by simp;omega
    rcases Nat.eq_zero_or_pos k with h0 | h0
    ·have HG:=Lib.hid (hgood.out ⟨g1',g2',g3,fun y hy=>by subst h0;cases hy⟩)
     have d4:decide ((0:Int)<(k:Int))=false:=by simp;omega
     have d4':decide (0<k)=false:=by simp;omega
     have H0:=Lib.hid h0
     clear hr hrw hbad hgood g1 g2 g3 h0
     go_wp2_with fail
     go_big_quiet (fail)
     go_wp2_with fail
     go_roundw
     case rel=>exact ⟨k+1,by omega,by go_num,HG,below_drewN (hbw.alloc hbw.size _) nq⟩
     case measure=>simp [intOf];omega
    ·have d4:decide ((0:Int)<(k:Int))=true:=by simp;omega
     have d4':decide (0<k)=true:=by simp;omega
     have hk1l:k-1<l.length:=by omega
     obtain ⟨y,hy⟩:∃ y,y=(l[k-1]'hk1l).1:=⟨_,rfl⟩
     have hpv:prevAt l k=some y:=by
      obtain ⟨j,rfl⟩:∃ j,k=j+1:=⟨k-1,by omega⟩
      show (l[j]?).map (·.1)=_
      have hj:j<l.length:=by simpa using hk1l
      rw [List.getElem?_eq_getElem hj,hy]
      rfl
     have hcp:=(hrw.blk2 HN.out (k:=k-1) (by omega))
     obtain ⟨ad2,e2,-,c2,-⟩:=hcp
     injection e2 with e2
     subst e2
     rw [← hy] at c2
     have c3:(wr.alloc (.cells #[.int .i64 xi,.string ⟨xs.toArray⟩] 88)).cell? (ad.add ((k-1)*2))=some (.int .i64 y):=(World.cell?_alloc_lt wr _ _ (by rw [block_of_add];have:=hbw.size;omega)).trans c2
     have i1:(0:Int)≤(k:Int)-1:=by omega
     have i2:(k:Int)-1<(n:Int):=by omega
     have i3:IntKind.i64.wrap ((k:Int)-1)=(k:Int)-1:=IntWalk.i64_in _ (by omega)
     have i4:((k:Int)-1).toNat=k-1:=by omega
     by_cases g5:y<xi
     ·have HG:=Lib.hid (hgood.out ⟨g1',g2',g3,fun y' hy'=>by rw [hpv] at hy';cases hy';exact g5⟩)
      have d5:decide (xi≤y)=false:=by simp;omega
      clear hr hrw hbad hgood g1 g2 g3 h0 hpv hy c2 g5
      go_wp2_with fail
      go_big_quiet (fail)
      clear i3 i4
      go_wp2_with fail
      go_roundw
      case rel=>exact ⟨k+1,by omega,by go_num,HG,below_drewN (hbw.alloc hbw.size _) nq⟩
      case measure=>simp [intOf];omega
     ·have HB:=Lib.hid (hbad.out (.inr (.inr (.inr ⟨y,hpv,by omega⟩))))
      have d5:decide (xi≤y)=true:=by simp;omega
      clear hr hrw hbad hgood g1 g2 g3 h0 hpv hy c2 g5
      go_wp2_with fail
      go_big_quiet (fail)
      clear i3 i4
      go_wp2_with fail
      go_ret
      exact ⟨by rw [HB.out];rfl,below_drewN (hbw.alloc hbw.size _) nq⟩
   ·have g3a:((xs.length:Int) == 16)=false:=by simp;omega
    have g3b:((xs.length:Int) != 16)=true:=by simp;omega
    have g1':0≤xi:=by omega
    have g2':xi<1024:=by omega
    have HB:=Lib.hid (hbad.out (.inr (.inr (.inl g3))))
    have d1:decide (xi<0)=false:=by simp;omega
    have d2:decide (1024≤xi)=false:=by simp;omega
    clear hr hrw hbad hgood g1 g2 g3
    go_wp2_with fail
    go_big_quiet (fail)
    go_wp2_with fail
    go_ret
    exact ⟨by rw [HB.out];rfl,below_drewN (hbw.alloc hbw.size _) nq⟩
  ·obtain rfl:k=n:=by omega
   have HF:Hid (okE l=0):=by
    show _=_
    unfold okE
    rw [hok.out,List.drop_of_length_le (by rw [HN.out];exact Nat.le_refl _)]
    rfl
   clear hok hr
   go_wp2_with fail
   go_ret
   exact ⟨by rw [HF.out];rfl,hbw⟩
end Go.Proofs.YtmladblmknbgnaaGreatDoor
namespace Go.Proofs.YtmladblmknbgnaaGreatDoor
open Go.RowKit
theorem Tryz.cloneBl_info:(Tryz.prog.info? 88).map (fun i=>(i.zero,i.size,i.bytes))=some (some (.agg #[.int .i64 0,.string ByteArray.empty]),2,24):=by kernel_rfl
set_option maxRecDepth 100000 in
theorem cloneBl_any (xs:List Value) (n:Nat) (A:Option Addr) (c:Nat) (w:World) (B:Nat) (hr:Reads w B 2 A n xs) (hB:B≤w.heap.size) (h1:∀ u∈xs,u.oneCell'=true) (hn:n*24≤140737488355328) :
  Calls Tryz.prog 65 #[.slice A n c] w fun e w'=>∃ v,e=.returned v∧w'.ownsRow w.heap.size 88 2 v n xs∧Below w.heap.size w w':=by
 obtain ⟨i0,hi0,hz0,hz1,hz2⟩:=info_parts Tryz.cloneBl_info
 rcases A with _ | ad
 ·obtain rfl:n=0:=by
   rcases Nat.eq_zero_or_pos n with h | h
   ·exact h
   ·obtain ⟨_,h,_⟩:=hr.2 h;cases h
  obtain rfl:xs=[]:=List.eq_nil_of_length_eq_zero (by simpa using hr.1)
  have heq:=fun W=>Lib.run_eql_slice_nil (P:=Tryz.prog) W 38 88 none 0 c 0 0 Tryz.underlying38
  go_enter Tryz.func65,Tryz.ntmps65
  go_wp2_with fail
  go_ret
  exact ⟨_,rfl,World.ownsRow_nil _ _ _ _,Below.refl _ _⟩
 ·have heq:=fun W=>Lib.run_eql_slice_nil (P:=Tryz.prog) W 38 88 (some ad) n c 0 0 Tryz.underlying38
  have hown:(w.alloc (.cells #[] 88)).ownsRow w.heap.size 88 2 (.slice (some ⟨w.heap.size,0,none⟩) 0 0) 0 []:=World.ownsRow_made w #[] 0 (Nat.le_refl _) (by simp [maxLen]) rfl
  have hra:=hr.alloc hB (.cells #[] 88)
  go_enter Tryz.func65,Tryz.ntmps65
  go_wp2_with (at_builtin;(refine wpList_append_any _ rfl (.tmp 5) (.tmp 6) _ rfl w.heap.size 88 i0 _ 2 24 Tryz.underlying38 hi0 hz0 hz1 hz2 rfl (by omega) (.slice (some ⟨w.heap.size,0,none⟩) 0 0) 0 [] rfl hown B (some ad) n c xs rfl hra h1 (by unfold maxLen;omega) (by omega) (by simp) ?_);intro v1 w2 hown1 hg1 hat1)
  go_ret
  refine ⟨v1,rfl,by simpa using hown1,((Below.refl _ _).alloc (Nat.le_refl _) _).grown hg1 (by simp) (fun k hk=>?_)⟩
  simp [Value.ownBlock] at hk
  omega
theorem Tryz.cloneSt_info:(Tryz.prog.info? 9).map (fun i=>(i.zero,i.size,i.bytes))=some (some (.string ByteArray.empty),1,16):=by kernel_rfl
set_option maxRecDepth 100000 in
theorem cloneSt_any (xs:List Value) (n:Nat) (A:Option Addr) (c:Nat) (w:World) (B:Nat) (hr:Reads w B 1 A n xs) (hB:B≤w.heap.size) (h1:∀ u∈xs,u.oneCell'=true) (hn:n*16≤140737488355328) :
  Calls Tryz.prog 120 #[.slice A n c] w fun e w'=>∃ v,e=.returned v∧w'.ownsRow w.heap.size 9 1 v n xs∧Below w.heap.size w w':=by
 obtain ⟨i0,hi0,hz0,hz1,hz2⟩:=info_parts Tryz.cloneSt_info
 rcases A with _ | ad
 ·obtain rfl:n=0:=by
   rcases Nat.eq_zero_or_pos n with h | h
   ·exact h
   ·obtain ⟨_,h,_⟩:=hr.2 h;cases h
  obtain rfl:xs=[]:=List.eq_nil_of_length_eq_zero (by simpa using hr.1)
  have heq:=fun W=>Lib.run_eql_slice_nil (P:=Tryz.prog) W 48 9 none 0 c 0 0 Tryz.underlying48
  go_enter Tryz.func120,Tryz.ntmps120
  go_wp2_with fail
  go_ret
  exact ⟨_,rfl,World.ownsRow_nil _ _ _ _,Below.refl _ _⟩
 ·have heq:=fun W=>Lib.run_eql_slice_nil (P:=Tryz.prog) W 48 9 (some ad) n c 0 0 Tryz.underlying48
  have hown:(w.alloc (.cells #[] 9)).ownsRow w.heap.size 9 1 (.slice (some ⟨w.heap.size,0,none⟩) 0 0) 0 []:=World.ownsRow_made w #[] 0 (Nat.le_refl _) (by simp [maxLen]) rfl
  have hra:=hr.alloc hB (.cells #[] 9)
  go_enter Tryz.func120,Tryz.ntmps120
  go_wp2_with (at_builtin;(refine wpList_append_any _ rfl (.tmp 5) (.tmp 6) _ rfl w.heap.size 9 i0 _ 1 16 Tryz.underlying48 hi0 hz0 hz1 hz2 rfl (by omega) (.slice (some ⟨w.heap.size,0,none⟩) 0 0) 0 [] rfl hown B (some ad) n c xs rfl hra h1 (by unfold maxLen;omega) (by omega) (by simp) ?_);intro v1 w2 hown1 hg1 hat1)
  go_ret
  refine ⟨v1,rfl,by simpa using hown1,((Below.refl _ _).alloc (Nat.le_refl _) _).grown hg1 (by simp) (fun k hk=>?_)⟩
  simp [Value.ownBlock] at hk
  omega
theorem Tryz.clonePr_info:(Tryz.prog.info? 91).map (fun i=>(i.zero,i.size,i.bytes))=some (some (.agg #[.string ByteArray.empty,.string ByteArray.empty]),2,32):=by kernel_rfl
set_option maxRecDepth 100000 in
theorem clonePr_any (xs:List Value) (n:Nat) (A:Option Addr) (c:Nat) (w:World) (B:Nat) (hr:Reads w B 2 A n xs) (hB:B≤w.heap.size) (h1:∀ u∈xs,u.oneCell'=true) (hn:n*32≤140737488355328) :
  Calls Tryz.prog 66 #[.slice A n c] w fun e w'=>∃ v,e=.returned v∧w'.ownsRow w.heap.size 91 2 v n xs∧Below w.heap.size w w':=by
 obtain ⟨i0,hi0,hz0,hz1,hz2⟩:=info_parts Tryz.clonePr_info
 rcases A with _ | ad
 ·obtain rfl:n=0:=by
   rcases Nat.eq_zero_or_pos n with h | h
   ·exact h
   ·obtain ⟨_,h,_⟩:=hr.2 h;cases h
  obtain rfl:xs=[]:=List.eq_nil_of_length_eq_zero (by simpa using hr.1)
  have heq:=fun W=>Lib.run_eql_slice_nil (P:=Tryz.prog) W 40 91 none 0 c 0 0 Tryz.underlying40
  go_enter Tryz.func66,Tryz.ntmps66
  go_wp2_with fail
  go_ret
  exact ⟨_,rfl,World.ownsRow_nil _ _ _ _,Below.refl _ _⟩
 ·have heq:=fun W=>Lib.run_eql_slice_nil (P:=Tryz.prog) W 40 91 (some ad) n c 0 0 Tryz.underlying40
  have hown:(w.alloc (.cells #[] 91)).ownsRow w.heap.size 91 2 (.slice (some ⟨w.heap.size,0,none⟩) 0 0) 0 []:=World.ownsRow_made w #[] 0 (Nat.le_refl _) (by simp [maxLen]) rfl
  have hra:=hr.alloc hB (.cells #[] 91)
  go_enter Tryz.func66,Tryz.ntmps66
  go_wp2_with (at_builtin;(refine wpList_append_any _ rfl (.tmp 5) (.tmp 6) _ rfl w.heap.size 91 i0 _ 2 32 Tryz.underlying40 hi0 hz0 hz1 hz2 rfl (by omega) (.slice (some ⟨w.heap.size,0,none⟩) 0 0) 0 [] rfl hown B (some ad) n c xs rfl hra h1 (by unfold maxLen;omega) (by omega) (by simp) ?_);intro v1 w2 hown1 hg1 hat1)
  go_ret
  refine ⟨v1,rfl,by simpa using hown1,((Below.refl _ _).alloc (Nat.le_refl _) _).grown hg1 (by simp) (fun k hk=>?_)⟩
  simp [Value.ownBlock] at hk
  omega
theorem Tryz.cloneEn_info:(Tryz.prog.info? 117).map (fun i=>(i.zero,i.size,i.bytes))=some (some (.agg #[.string ByteArray.empty,.int .i64 0,.string ByteArray.empty,.int .i64 0]),4,48):=by kernel_rfl
set_option maxRecDepth 100000 in
theorem cloneEn_any (xs:List Value) (n:Nat) (A:Option Addr) (c:Nat) (w:World) (B:Nat) (hr:Reads w B 4 A n xs) (hB:B≤w.heap.size) (h1:∀ u∈xs,u.oneCell'=true) (hn:n*48≤140737488355328) :
  Calls Tryz.prog 137 #[.slice A n c] w fun e w'=>∃ v,e=.returned v∧w'.ownsRow w.heap.size 117 4 v n xs∧Below w.heap.size w w':=by
 obtain ⟨i0,hi0,hz0,hz1,hz2⟩:=info_parts Tryz.cloneEn_info
 rcases A with _ | ad
 ·obtain rfl:n=0:=by
   rcases Nat.eq_zero_or_pos n with h | h
   ·exact h
   ·obtain ⟨_,h,_⟩:=hr.2 h;cases h
  obtain rfl:xs=[]:=List.eq_nil_of_length_eq_zero (by simpa using hr.1)
  have heq:=fun W=>Lib.run_eql_slice_nil (P:=Tryz.prog) W 25 117 none 0 c 0 0 Tryz.underlying25
  go_enter Tryz.func137,Tryz.ntmps137
  go_wp2_with fail
  go_ret
  exact ⟨_,rfl,World.ownsRow_nil _ _ _ _,Below.refl _ _⟩
 ·have heq:=fun W=>Lib.run_eql_slice_nil (P:=Tryz.prog) W 25 117 (some ad) n c 0 0 Tryz.underlying25
  have hown:(w.alloc (.cells #[] 117)).ownsRow w.heap.size 117 4 (.slice (some ⟨w.heap.size,0,none⟩) 0 0) 0 []:=World.ownsRow_made w #[] 0 (Nat.le_refl _) (by simp [maxLen]) rfl
  have hra:=hr.alloc hB (.cells #[] 117)
  go_enter Tryz.func137,Tryz.ntmps137
  go_wp2_with (at_builtin;(refine wpList_append_any _ rfl (.tmp 5) (.tmp 6) _ rfl w.heap.size 117 i0 _ 4 48 Tryz.underlying25 hi0 hz0 hz1 hz2 rfl (by omega) (.slice (some ⟨w.heap.size,0,none⟩) 0 0) 0 [] rfl hown B (some ad) n c xs rfl hra h1 (by unfold maxLen;omega) (by omega) (by simp) ?_);intro v1 w2 hown1 hg1 hat1)
  go_ret
  refine ⟨v1,rfl,by simpa using hown1,((Below.refl _ _).alloc (Nat.le_refl _) _).grown hg1 (by simp) (fun k hk=>?_)⟩
  simp [Value.ownBlock] at hk
  omega
end Go.Proofs.YtmladblmknbgnaaGreatDoor
namespace Go.Proofs.YtmladblmknbgnaaGreatDoor
open Go.Lib
theorem index_none (c:UInt8) (s:List UInt8) (h:c ∉ s):index s [c]=-1:=by
 induction s with
 | nil=>rfl
 | cons b r ih =>
  have hb:([c].isPrefixOf (b :: r))=false:=by
   have:c≠b:=fun e=>h (by rw [e];exact List.mem_cons_self ..)
   simp [List.isPrefixOf,this]
  unfold index
  rw [hb,ih (fun e=>h (List.mem_cons_of_mem _ e))]
  rfl
theorem index_some (c:UInt8) (a r:List UInt8) (h:c ∉ a):index (a++c :: r) [c]=(a.length:Int):=by
 induction a with
 | nil=>simp [index,List.isPrefixOf]
 | cons b a ih =>
  have hb:([c].isPrefixOf (b :: (a++c :: r)))=false:=by
   have:c≠b:=fun e=>h (by rw [e];exact List.mem_cons_self ..)
   simp [List.isPrefixOf,this]
  rw [List.cons_append]
  unfold index
  rw [hb,ih (fun e=>h (List.mem_cons_of_mem _ e))]
  have:(((a.length:Nat):Int) == -1)=false:=by rw [beq_eq_false_iff_ne];omega
  simp [this]
/-- a text holds no c, or one first -/
theorem first_split (c:UInt8) (s:List UInt8):c ∉ s∨∃ a r,s=a++c :: r∧c ∉ a:=by
 induction s with
 | nil=>exact .inl (by simp)
 | cons b s ih =>
  by_cases hb:c=b
  ·exact .inr ⟨[],s,by simp [hb],by simp⟩
  ·rcases ih with h | ⟨a,r,rfl,h⟩
   ·exact .inl (by simp [hb,h])
   ·exact .inr ⟨b :: a,r,rfl,by simp [hb,h]⟩
theorem partsL_one (a:List UInt8) (h:47 ∉ a):partsL a=[a]:=by
 induction a with
 | nil=>rfl
 | cons b a ih =>
  unfold partsL
  rw [if_neg (fun e=>h (by rw [e];exact List.mem_cons_self ..)),ih (fun e=>h (List.mem_cons_of_mem _ e))]
theorem partsL_two (a r:List UInt8) (h:47 ∉ a):partsL (a++47 :: r)=a :: partsL r:=by
 induction a with
 | nil=>simp [partsL]
 | cons b a ih =>
  rw [List.cons_append,partsL,if_neg (fun e=>h (by rw [e];exact List.mem_cons_self ..)),ih (fun e=>h (List.mem_cons_of_mem _ e))]
theorem splitK_parts (n:Nat):∀ s:List UInt8,s.length≤n→splitK [47] 0 (count s [47]) s=partsL s:=by
 induction n with
 | zero =>
  intro s hs
  obtain rfl:=List.eq_nil_of_length_eq_zero (Nat.le_zero.1 hs)
  rfl
 | succ n ih =>
  intro s hs
  rcases first_split 47 s with h | ⟨a,r,rfl,h⟩
  ·rw [partsL_one s h,count_miss (index_none 47 s h)]
   rfl
  ·have hi:=index_some 47 a r h
   have hd:(a++47 :: r).drop (a.length+1)=r:=by
    rw [← List.drop_drop,List.drop_append_of_le_length (Nat.le_refl _)]
    simp
   have hc:=count_hit (s:=a++47 :: r) (sub:=[47]) (i:=a.length) (by simp) hi
   rw [partsL_two a r h,hc]
   rw [show ([47]:List UInt8).length=1 from rfl,hd,Nat.add_comm 1]
   have hm:(index (a++47 :: r) [47] == -1)=false:=by rw [hi,beq_eq_false_iff_ne];omega
   unfold splitK
   rw [hm,hi,if_neg (by simp)]
   simp only [Int.toNat_natCast,Nat.add_zero,List.length_singleton,hd]
   rw [List.take_left' rfl,ih r (by simp at hs;omega)]
theorem splitB_parts (s:ByteArray):(splitB ⟨#[47]⟩ 0 (countB s ⟨#[47]⟩) s).map (·.data.toList)=partsL s.data.toList:=by
 rw [splitB_data]
 exact splitK_parts _ _ (Nat.le_refl _)
theorem splitB_len (s:ByteArray):(splitB ⟨#[47]⟩ 0 (countB s ⟨#[47]⟩) s).length=countB s ⟨#[47]⟩+1:=splitB_all ⟨#[47]⟩ (Nat.le_refl _) 0 _ s rfl
theorem atL_none (s:List UInt8) (h:64 ∉ s):atL s=none:=by
 induction s with
 | nil=>rfl
 | cons b s ih =>
  unfold atL
  rw [if_neg (fun e=>h (by rw [e];exact List.mem_cons_self ..)),ih (fun e=>h (List.mem_cons_of_mem _ e))]
theorem cut_at (s:List UInt8):cut s [64]=match atL s with
  | some (p,n)=>(p,n,true)
  | none=>(s,[],false):=by
 rcases first_split 64 s with h | ⟨a,r,rfl,h⟩
 ·rw [atL_none s h]
  unfold cut
  rw [index_none 64 s h]
  rfl
 ·rw [atL_join a r (fun c hc e=>h (by rw [← e];exact hc))]
  unfold cut
  rw [index_some 64 a r h,if_pos (by omega)]
  have hd:(a++64 :: r).drop (a.length+1)=r:=by
   rw [← List.drop_drop,List.drop_append_of_le_length (Nat.le_refl _)]
   simp
  simp only [Int.toNat_natCast,List.length_singleton,hd]
  rw [List.take_left' rfl]
theorem lastS_spec (l:List UInt8):(lastS l=none∧47 ∉ l)∨∃ k,lastS l=some k∧l[k]?=some 47∧∀ j,k<j→l[j]?≠some 47:=by
 induction l with
 | nil=>exact .inl ⟨rfl,by simp⟩
 | cons b l ih =>
  unfold lastS
  rcases ih with ⟨h,hn⟩ | ⟨k,h,hk,hj⟩
  ·rw [h]
   by_cases hb:b=47
   ·refine .inr ⟨0,by simp [hb],by simp [hb],?_⟩
    intro j hj e
    obtain ⟨j,rfl⟩:∃ i,j=i+1:=⟨j-1,by omega⟩
    rw [zD] at e
    exact hn (List.mem_of_getElem? e)
   ·exact .inl ⟨by simp [hb],by simp [hn];exact fun e=>hb e.symm⟩
  ·rw [h]
   refine .inr ⟨k+1,rfl,by simpa using hk,?_⟩
   intro j hlt e
   obtain ⟨j,rfl⟩:∃ i,j=i+1:=⟨j-1,by omega⟩
   rw [zD] at e
   exact hj j (by omega) e
theorem data_get (s:ByteArray) (j:Nat) (hj:j<s.size):s.data.toList[j]?=some s.data[j]!:=by
 have h:j<s.data.size:=hj
 rw [getElem!_pos s.data j h,Array.getElem?_toList,Array.getElem?_eq_getElem h]
theorem last_eq (s:ByteArray):(max (Lib.lastIndexByte s 47) 0)=(((lastS s.data.toList).getD 0:Nat):Int):=by
 rcases Lib.lastIndexByte_spec s 47 with ⟨h,hn⟩ | ⟨i,hi,h,hc,hn⟩
 ·rw [h]
  rcases lastS_spec s.data.toList with ⟨h2,_⟩ | ⟨k,_,hk,_⟩
  ·rw [h2];rfl
  ·exfalso
   have hks:k<s.size:=(List.getElem?_eq_some_iff.1 hk).1
   rw [data_get s k hks] at hk
   exact hn k hks (by rw [Option.some.inj hk];rfl)
 ·rw [h]
  have h47:s.data[i]! = 47:=UInt8.toNat_inj.1 (by have e:(47:UInt8).toNat=47:=rfl;rw [e];omega)
  have hi2:s.data.toList[i]?=some 47:=by rw [data_get s i hi,h47]
  rcases lastS_spec s.data.toList with ⟨_,h3⟩ | ⟨k,h2,hk,hj⟩
  ·exact absurd (List.mem_of_getElem? hi2) h3
  ·rw [h2]
   have hks:k<s.size:=(List.getElem?_eq_some_iff.1 hk).1
   have hki:k=i:=by
    rcases Nat.lt_trichotomy k i with hl | he | hg
    ·exact absurd hi2 (hj i hl)
    ·exact he
    ·rw [data_get s k hks] at hk
     exact absurd (by rw [Option.some.inj hk];rfl) (hn k hg hks)
   subst hki
   simp
theorem last_bound (l:List UInt8):(lastS l).getD 0≤l.length:=by
 rcases lastS_spec l with ⟨h,_⟩ | ⟨k,h,hk,_⟩
 ·rw [h];simp
 ·rw [h]
  have:=(List.getElem?_eq_some_iff.1 hk).1
  simp only [Option.getD_some]
  omega
end Go.Proofs.YtmladblmknbgnaaGreatDoor
namespace Go.Proofs.YtmladblmknbgnaaGreatDoor
open Go.RowKit
section
variable {α:Type}
def cellsK (enc:α→List Value) (l:List α):List Value:=l.flatMap enc
theorem cellsK_append (enc:α→List Value) (a b:List α):cellsK enc (a++b)=cellsK enc a++cellsK enc b:=by simp [cellsK]
theorem cellsK_one (enc:α→List Value) (x:α):cellsK enc [x]=enc x:=by simp [cellsK]
theorem cellsK_get {enc:α→List Value} {k:Nat} (hk:∀ x,(enc x).length=k) (l:List α) (i:Nat) (h:i<l.length) (j:Nat) (hj:j<k):(cellsK enc l)[i*k+j]?=(enc l[i])[j]?:=by
 induction l generalizing i with
 | nil=>simp at h
 | cons x l ih =>
  have e:cellsK enc (x :: l)=enc x++cellsK enc l:=rfl
  rw [e]
  cases i with
  | zero=>rw [Nat.zero_mul,Nat.zero_add,List.getElem?_append_left (by rw [hk];exact hj)];rfl
  | succ i =>
   rw [List.getElem?_append_right (by rw [hk,Nat.add_mul];omega),hk,show (i+1)*k+j-k=i*k+j by rw [Nat.add_mul];omega]
   exact ih i (by simpa using h)
theorem cellsK_take {enc:α→List Value} {k:Nat} (hk:∀ x,(enc x).length=k) (l:List α) (i:Nat):cellsK enc (l.take i)=(cellsK enc l).take (i*k):=by
 induction l generalizing i with
 | nil=>simp [cellsK]
 | cons x l ih =>
  cases i with
  | zero=>simp [cellsK]
  | succ i =>
   have e:cellsK enc (x :: l)=enc x++cellsK enc l:=rfl
   have e2:cellsK enc ((x :: l).take (i+1))=enc x++cellsK enc (l.take i):=rfl
   rw [e,e2,ih,List.take_append,hk,List.take_of_length_le (l:=enc x) (by rw [hk,Nat.add_mul];omega),show (i+1)*k-k=i*k by rw [Nat.add_mul];omega]
theorem cellsK_drop {enc:α→List Value} {k:Nat} (hk:∀ x,(enc x).length=k) (l:List α) (i:Nat):cellsK enc (l.drop i)=(cellsK enc l).drop (i*k):=by
 induction l generalizing i with
 | nil=>simp [cellsK]
 | cons x l ih =>
  cases i with
  | zero=>simp
  | succ i =>
   have e:cellsK enc (x :: l)=enc x++cellsK enc l:=rfl
   rw [e,List.drop_succ_cons,ih,List.drop_append,hk,@List.drop_eq_nil_of_le _ (enc x) _ (by rw [hk,Nat.add_mul];omega),List.nil_append,show (i+1)*k-k=i*k by rw [Nat.add_mul];omega]
theorem Reads.elK {enc:α→List Value} {k:Nat} (hk:∀ x,(enc x).length=k) {w:World} {B n:Nat} {A:Option Addr} {l:List α} (h:Reads w B k A n (cellsK enc l)) (hn:n=l.length) {i:Nat} (hi:i<n) :
  ∃ ad,A=some ad∧ad.block<B∧∀ j,j<k→w.cell? ((ad.add (i*k)).add j)=(enc (l[i]'(by omega)))[j]?:=by
 obtain ⟨ad,e,hb,hc⟩:=h.2 (by omega)
 refine ⟨ad,e,hb,fun j hj=>?_⟩
 have hl:j<(enc (l[i]'(by omega))).length:=by rw [hk];exact hj
 rw [List.getElem?_eq_getElem hl,add_of_add]
 exact hc _ _ ((cellsK_get hk l i (by omega) j hj).trans (List.getElem?_eq_getElem hl))
theorem addr_add_succ (a:Addr) (j:Nat):a.add (j+1)=⟨a.block,a.off+(j+1),none⟩:=by simp [Addr.add]
theorem Reads.el3 {f0 f1 f2:α→Value} {w:World} {B n:Nat} {A:Option Addr} {l:List α} (h:Reads w B 3 A n (cellsK (fun x=>[f0 x,f1 x,f2 x]) l)) (hn:n=l.length) {i:Nat} (hi:i<n) :
  ∃ ad,A=some ad∧ad.block<B∧w.cell? (ad.add (i*3))=some (f0 (l[i]'(by omega)))∧w.cell? ⟨(ad.add (i*3)).block,(ad.add (i*3)).off+1,none⟩=some (f1 (l[i]'(by omega)))∧w.cell? ⟨(ad.add (i*3)).block,(ad.add (i*3)).off+2,none⟩=some (f2 (l[i]'(by omega))):=by
 obtain ⟨ad,e,hb,hc⟩:=Reads.elK (k:=3) (fun _=>rfl) h hn hi
 refine ⟨ad,e,hb,?_,?_,?_⟩
 ·have:=hc 0 (by omega);rwa [add_zero] at this
 ·have:=hc 1 (by omega);rwa [addr_add_succ] at this
 ·have:=hc 2 (by omega);rwa [addr_add_succ] at this
/-! ### where a list is parted -/
def posF (cf:α→Int) (l:List α):Nat:=(l.takeWhile fun x=>decide (cf x<0)).length
def atF (cf:α→Int) (l:List α):Bool:=(l[posF cf l]?).any fun x=>cf x == 0
def SignAsc (cf:α→Int) (l:List α):Prop:=∀ (i j:Nat) x y,i<j→l[i]?=some x→l[j]?=some y→cf y<0→cf x<0
theorem posF_le (cf:α→Int) (l:List α):posF cf l≤l.length:=by
 unfold posF
 exact (List.takeWhile_sublist _).length_le
theorem posF_eq (cf:α→Int) (l:List α) (a:Nat) (ha:a≤l.length) (h1:∀ k x,k<a→l[k]?=some x→cf x<0) (h2:∀ x,l[a]?=some x→0≤cf x):posF cf l=a:=by
 unfold posF
 induction l generalizing a with
 | nil=>simp at ha;simp [ha]
 | cons y r ih =>
  cases a with
  | zero =>
   have:=h2 y rfl
   rw [List.takeWhile_cons_of_neg (by simp;omega)]
   rfl
  | succ a =>
   have:=h1 0 y (by omega) rfl
   rw [List.takeWhile_cons_of_pos (by simpa using this),List.length_cons]
   have:=ih a (by simpa using ha) (fun k x hk hx=>h1 (k+1) x (by omega) (by simpa using hx)) (fun x hx=>h2 x (by simpa using hx))
   omega
end
end Go.Proofs.YtmladblmknbgnaaGreatDoor
namespace Go.Proofs.YtmladblmknbgnaaGreatDoor
open Go.RowKit
theorem run_loadVar_at {P:Program} (w:World) (a:Addr) (ty:TypeId) (cs:List Value) (d:TypeDesc) (hc:∀ (j:Nat) (v:Value),cs[j]?=some v→w.cell? (a.add j)=some v)
  (hu:P.underlying ty=some d) (hd:d.isRow=true) (hi:(P.info? ty).map (·.size)=some cs.length):(loadVar ty a).run P w=.ok (.agg cs.toArray) w:=by
 have hl:(loadCells a cs.length).run P w=.ok cs.toArray w:=run_loadCells_list (P:=P) w a cs hc
 cases hq:P.info? ty with
 | none=>simp [hq] at hi
 | some i =>
  have hs:i.size=cs.length:=by simpa [hq] using hi
  have hagg:(isAgg ty).run P w=.ok true w:=by
   unfold isAgg
   rw [Sem.run_bind,run_underlying hu w]
   cases d <;> simp_all
  simp [loadVar,Sem.run_bind,hagg,sizeOf,typeInfo,hq,hs,hl]
theorem wpList_load_at {P:Program} {ops:Array Oper} {rest:List Oper} {op:Oper} {a:Act} {w:World} {Q:Exit→Act→World→Prop} (hgd:op.guard=none) (ty:TypeId) (x:Operand) (ho:op.op=.load ty x)
  (ad:Addr) (hx:a.eval x=.pointer (some ad)) (cs:List Value) (d:TypeDesc) (hc:∀ (j:Nat) (v:Value),cs[j]?=some v→w.cell? (ad.add j)=some v)
  (hu:P.underlying ty=some d) (hd:d.isRow=true) (hi:(P.info? ty).map (·.size)=some cs.length)
  (h:wpList P ops Q rest (a.put op.dst (.agg cs.toArray)) w):wpList P ops Q (op :: rest) a w:=by
 refine wpList_plain hgd fun K hK=>?_
 unfold Oper.wp execOp
 simp only [ho,hx,Instr.loadAt,Instr.sureAddr,Sem.run_bind,Sem.run_pure,Result.andThen_ok,run_loadVar_at w ad ty cs d hc hu hd hi]
 exact hK _ _ h
theorem setCell_new (w:World) (l:List Value) (t:TypeId) (i:Nat) (v:Value):(w.alloc (.cells l.toArray t)).setCell ⟨w.heap.size,i,none⟩ v=w.alloc (.cells (l.set i v).toArray t):=by
 unfold World.setCell World.alloc
 simp only
 congr 1
 apply Array.ext
 ·simp
 ·intro j h1 h2
  simp only [Array.getElem_modify,Array.getElem_push]
  by_cases hj:j<w.heap.size
  ·have hne:¬ w.heap.size=j:=by omega
   simp [hj,hne]
  ·have hje:w.heap.size=j:=by simp at h1;omega
   simp [hje]
theorem setCells_new (w:World) (t:TypeId) (cs:List Value):∀ (pre post:List Value),post.length=cs.length→(w.alloc (.cells (pre++post).toArray t)).setCells w.heap.size pre.length cs=w.alloc (.cells (pre++cs).toArray t):=by
 induction cs with
 | nil =>
  intro pre post h
  rw [List.eq_nil_of_length_eq_zero h]
  rfl
 | cons v cs ih =>
  intro pre post h
  cases post with
  | nil=>simp at h
  | cons p post =>
   show ((w.alloc _).setCell ⟨w.heap.size,pre.length,none⟩ v).setCells w.heap.size (pre.length+1) cs=_
   rw [setCell_new,show (pre++p :: post).set pre.length v=(pre++[v])++post by simp [List.set_append_right]]
   have:=ih (pre++[v]) post (by simpa using h)
   rw [List.length_append] at this
   rw [show pre.length+1=pre.length+[v].length from rfl,this]
   simp
theorem wpList_store_new {P:Program} {ops:Array Oper} {rest:List Oper} {op:Oper} {a:Act} {Q:Exit→Act→World→Prop} (w:World) (hgd:op.guard=none) (ty:TypeId) (x y:Operand) (ho:op.op=.store ty x y) (t:TypeId) (zs cs:List Value)
  (hx:a.eval x=.pointer (some ⟨w.heap.size,0,none⟩)) (hy:a.eval y=.agg cs.toArray) (hl:zs.length=cs.length) (hi:(P.info? ty).map (·.size)=some cs.length) (h1:∀ v∈cs,v.oneCell'=true)
  (h:wpList P ops Q rest (a.put op.dst undef) (w.alloc (.cells cs.toArray t))):wpList P ops Q (op :: rest) a (w.alloc (.cells zs.toArray t)):=by
 refine wpList_store_mid hgd ty x y ho w.heap.size 0 cs.toArray hx hy ?_ (by simpa using hi) (all_oneCell_toArray h1) ?_
 ·intro j hj
  have hj2:j<zs.toArray.size:=by simp at hj ⊢;omega
  have hb:=Blk.new w t zs.toArray
  rw [Nat.zero_add]
  exact ⟨by rw [hb.cell j];simp [hl];simpa using hj,hb.frozen j⟩
 ·have:=setCells_new w t cs [] zs hl
  simp only [List.nil_append,List.length_nil] at this
  rw [show cs.toArray.toList=cs from rfl,this]
  exact h
end Go.Proofs.YtmladblmknbgnaaGreatDoor
namespace Go.Proofs.YtmladblmknbgnaaGreatDoor
open Go.RowKit
section
variable {P:Program} {ops:Array Oper} {C:World→Prop} {Q:Act→Prop}
theorem wpC_read {o:Oper} {rest:List Oper} {a:Act} {v:Value} (hg:o.guard=none) (h:∀ w,C w→o.quietAt P a C w v) (hn:wpQuiet P ops C Q rest (a.put o.dst v)):wpQuiet P ops C Q (o :: rest) a:=by
 have hw:Region.wanted o (yielded ops a.tmps)=true:=by simp [Region.wanted,hg]
 unfold wpQuiet
 rw [if_pos hw]
 exact ⟨v,h,hn⟩
theorem yielded_tmps {tmps:Array Value} {g k:Nat} (hd:(ops[g]?).bind (·.dst)=some k):yielded ops tmps g=match tmps[k]?.getD undef with | .bool b=>some b | _=>none:=by
 unfold yielded
 rw [hd]
 simp only [Option.bind_some]
 cases tmps[k]? with
 | none=>rfl
 | some v=>cases v <;> rfl
theorem wpC_gread {o:Oper} {rest:List Oper} {a:Act} {v:Value} {g k:Nat} {b:Bool} (hg:o.guard=some (g,b)) (hd:(ops[g]?).bind (·.dst)=some k) (ht:a.tmps[k]?.getD undef=.bool b)
  (h:∀ w,C w→o.quietAt P a C w v) (hn:wpQuiet P ops C Q rest (a.put o.dst v)):wpQuiet P ops C Q (o :: rest) a:=by
 have hw:Region.wanted o (yielded ops a.tmps)=true:=by simp [Region.wanted,hg,yielded_tmps hd,ht]
 unfold wpQuiet
 rw [if_pos hw]
 exact ⟨v,h,hn⟩
theorem wpC_skip {o:Oper} {rest:List Oper} {a:Act} {g k:Nat} {b:Bool} (hg:o.guard=some (g,b)) (hd:(ops[g]?).bind (·.dst)=some k) (ht:a.tmps[k]?.getD undef=.bool (!b)∨a.tmps[k]?.getD undef=undef)
  (hn:wpQuiet P ops C Q rest (a.put o.dst undef)):wpQuiet P ops C Q (o :: rest) a:=by
 have hw:¬ Region.wanted o (yielded ops a.tmps)=true:=by
  rcases ht with ht | ht
  ·simp [Region.wanted,hg,yielded_tmps hd,ht]
  ·have hu:yielded ops a.tmps g=none:=by rw [yielded_tmps hd,ht];rfl
   simp [Region.wanted,hg,hu]
 unfold wpQuiet
 rw [if_neg hw]
 exact hn
theorem wpC_region {id:Nat} {R:Exit→Act→World→Prop} {a:Act} {w:World} {l:List Oper} (C:World→Prop) (hm:P.follows .mixedOrders=true) (hB:Region.lexB .any l.toArray=true) (hC:C w.drew)
  (h:∀ (OPS:Array Oper) (D:World→Prop) (QQ:Act→Prop),Hid (OPS=l.toArray)→(∀ W,D W→C W)→(∀ W,C W→D W)→(∀ a',(∀ w',C w'→R .normal a' w')→QQ a')→wpQuiet P OPS D QQ l a):(Code.region id l.toArray true).wp P R a w :=
 wp_region_quiet (C:=C) hm hB hC (by simpa using h l.toArray C (fun a'=>∀ w',C w'→R .normal a' w') rfl (fun _ h=>h) (fun _ h=>h) (fun _ h=>h))
end
theorem geqS (t:TypeId) (a b:List UInt8):binOp .geq t (.string ⟨a.toArray⟩) (.string ⟨b.toArray⟩)=pure (.bool !(Op.bytesLess a b)):=by simp [binOp,Op.stringOp,ByteArray.toList_eq]
theorem lssS (t:TypeId) (a b:List UInt8):binOp .lss t (.string ⟨a.toArray⟩) (.string ⟨b.toArray⟩)=pure (.bool (Op.bytesLess a b)):=by simp [binOp,Op.stringOp,ByteArray.toList_eq]
theorem leqS (t:TypeId) (a b:List UInt8):binOp .leq t (.string ⟨a.toArray⟩) (.string ⟨b.toArray⟩)=pure (.bool (Op.bytesLess a b || a == b)):=by simp [binOp,Op.stringOp,ByteArray.toList_eq]
theorem gtrS (t:TypeId) (a b:List UInt8):binOp .gtr t (.string ⟨a.toArray⟩) (.string ⟨b.toArray⟩)=pure (.bool !(Op.bytesLess a b || a == b)):=by simp [binOp,Op.stringOp,ByteArray.toList_eq]
end Go.Proofs.YtmladblmknbgnaaGreatDoor
namespace Go.Proofs.YtmladblmknbgnaaGreatDoor
open Go.RowKit
theorem toList_data (s:ByteArray):s.toList=s.data.toList:=by
 obtain ⟨⟨l⟩⟩:=s
 exact ByteArray.toList_mk l
theorem append_data (a b:ByteArray):(a++b).data.toList=a.data.toList++b.data.toList:=by simp
theorem mk_data (a:ByteArray):(⟨a.data.toList.toArray⟩:ByteArray)=a:=by obtain ⟨⟨l⟩⟩:=a;rfl
theorem eq_mk (a:ByteArray) (l:List UInt8) (h:a.data.toList=l):a=⟨l.toArray⟩:=by rw [← h,mk_data]
/-- the row that '[]byte(s)' makes -/
theorem bytesWorld_below (w:World) (e:TypeId) (s:ByteArray):Below w.heap.size w (Lib.bytesWorld w e s) :=
 ⟨rfl,rfl,rfl,by rw [Lib.bytesWorld_size];omega,fun j hj=>Lib.bytesWorld_at_old w e s j hj⟩
theorem bytesWorld_reads (w:World) (e:TypeId) (s:ByteArray):Reads (Lib.bytesWorld w e s) (w.heap.size+1) 1 (some ⟨w.heap.size,0,none⟩) s.size (bts s.data.toList):=by
 refine ⟨by rw [bts_length,Lib.size_eq];simp,fun hn=>⟨_,rfl,Nat.lt_succ_self _,?_⟩⟩
 intro j u hu
 have hj:j<s.size:=by
  have:=(List.getElem?_eq_some_iff.1 hu).1
  rw [bts_length,← Lib.size_eq] at this
  exact this
 rw [addr_add0,Lib.bytesWorld_cell w e s j hj]
 rw [bts_get,List.getElem?_eq_getElem (by rw [← Lib.size_eq];exact hj)] at hu
 rw [← hu]
 simp [List.getD,List.getElem?_eq_getElem (show j<s.data.toList.length by rw [← Lib.size_eq];exact hj)]
/-- a row of which the first n cells bear no mark -/
def RowM (w:World) (g:Nat) (t:TypeId) (n:Nat) (cs:Array Value):Prop:=n≤cs.size∧∃ hi,w.heap[g]?=some (.cells cs t (cs.size,hi))
section
variable {w w':World} {g n:Nat} {t:TypeId} {cs:Array Value}
theorem RowM.lt (h:RowM w g t n cs):g<w.heap.size:=by
 obtain ⟨_,hi,h⟩:=h
 rcases Nat.lt_or_ge g w.heap.size with hlt | hge
 ·exact hlt
 ·rw [Array.getElem?_eq_none hge] at h;cases h
theorem RowM.cell (h:RowM w g t n cs) (i:Nat):w.cell? ⟨g,i,none⟩=cs[i]?:=by
 obtain ⟨_,hi,h⟩:=h
 exact cell_of_row w g i cs t (cs.size,hi) h
theorem RowM.frozen (h:RowM w g t n cs) {i:Nat} (hi:i<n):w.frozen? ⟨g,i,none⟩=false:=by
 obtain ⟨hn,hh,h⟩:=h
 have:¬ cs.size≤i:=by omega
 simp [World.frozen?,h,this]
theorem RowM.set_ (h:RowM w g t n cs) (i:Nat) (u:Value):RowM (w.setCell ⟨g,i,none⟩ u) g t n (cs.setIfInBounds i u):=by
 obtain ⟨hn,hh,h⟩:=h
 refine ⟨by simpa using hn,hh,?_⟩
 simp [World.setCell,Array.getElem?_modify,h]
theorem RowM.below {B:Nat} (h:RowM w g t n cs) (hb:Below B w w') (hg:g<B):RowM w' g t n cs:=⟨h.1,h.2.choose,(hb.block g hg).trans h.2.choose_spec⟩
end
end Go.Proofs.YtmladblmknbgnaaGreatDoor
namespace Go.Proofs.YtmladblmknbgnaaGreatDoor
open Go.RowKit
theorem Tryz.cloneG_info:(Tryz.prog.info? 139).map (fun i=>(i.zero,i.size,i.bytes))=some (some (.agg #[.string ByteArray.empty,.string ByteArray.empty,.int .i64 0]),3,40):=by kernel_rfl
set_option maxRecDepth 100000 in
theorem cloneG_any (xs:List Value) (n:Nat) (A:Option Addr) (c:Nat) (w:World) (B:Nat) (hr:Reads w B 3 A n xs) (hB:B≤w.heap.size) (h1:∀ u∈xs,u.oneCell'=true) (hn:n*40≤140737488355328) :
  Calls Tryz.prog 134 #[.slice A n c] w fun e w'=>∃ v,e=.returned v∧w'.ownsRow w.heap.size 139 3 v n xs∧Below w.heap.size w w':=by
 obtain ⟨i0,hi0,hz0,hz1,hz2⟩:=info_parts Tryz.cloneG_info
 rcases A with _ | ad
 ·obtain rfl:n=0:=by
   rcases Nat.eq_zero_or_pos n with h | h
   ·exact h
   ·obtain ⟨_,h,_⟩:=hr.2 h;cases h
  obtain rfl:xs=[]:=List.eq_nil_of_length_eq_zero (by simpa using hr.1)
  have heq:=fun W=>Lib.run_eql_slice_nil (P:=Tryz.prog) W 23 139 none 0 c 0 0 Tryz.underlying23
  go_enter Tryz.func134,Tryz.ntmps134
  go_wp2_with fail
  go_ret
  exact ⟨_,rfl,World.ownsRow_nil _ _ _ _,Below.refl _ _⟩
 ·have heq:=fun W=>Lib.run_eql_slice_nil (P:=Tryz.prog) W 23 139 (some ad) n c 0 0 Tryz.underlying23
  have hown:(w.alloc (.cells #[] 139)).ownsRow w.heap.size 139 3 (.slice (some ⟨w.heap.size,0,none⟩) 0 0) 0 []:=World.ownsRow_made w #[] 0 (Nat.le_refl _) (by simp [maxLen]) rfl
  have hra:=hr.alloc hB (.cells #[] 139)
  go_enter Tryz.func134,Tryz.ntmps134
  go_wp2_with (at_builtin;(refine wpList_append_any _ rfl (.tmp 5) (.tmp 6) _ rfl w.heap.size 139 i0 _ 3 40 Tryz.underlying23 hi0 hz0 hz1 hz2 rfl (by omega) (.slice (some ⟨w.heap.size,0,none⟩) 0 0) 0 [] rfl hown B (some ad) n c xs rfl hra h1 (by unfold maxLen;omega) (by omega) (by simp) ?_);intro v1 w2 hown1 hg1 hat1)
  go_ret
  refine ⟨v1,rfl,by simpa using hown1,((Below.refl _ _).alloc (Nat.le_refl _) _).grown hg1 (by simp) (fun k hk=>?_)⟩
  simp [Value.ownBlock] at hk
  omega
end Go.Proofs.YtmladblmknbgnaaGreatDoor
namespace Go.Proofs.YtmladblmknbgnaaGreatDoor
open Go.RowKit
abbrev BS:=List UInt8
/-! ### Records -/
abbrev PL:=List (BS×BS)
def valB (s:BS):Bool:=decide (s.length≤32) && s.all fun c=>decide (32≤c) && decide (c≤126)
def propsFrom:Option BS→PL→Bool
 | _,[]=>true
 | p,x :: l=>nameB x.1 && valB x.2 && (match p with | none=>true | some q=>Op.bytesLess q x.1) && propsFrom (some x.1) l
def propsB (l:PL):Bool:=decide (l.length≤8) && propsFrom none l
def smZ (s:Sm):Bool:=decide (s.a=0∧s.b=0∧s.c=0∧s.d=0)
def amt (n:Int) (least:Int):Bool:=decide (least≤n) && decide (n≤1099511627776)
/-! ### A record that may be -/
theorem nameB_len (s:BS) (h:nameB s=true):s.length≤16:=by
 unfold nameB at h
 simp only [Bool.and_eq_true,decide_eq_true_eq] at h
 exact h.1.2
end Go.Proofs.YtmladblmknbgnaaGreatDoor
namespace Go.Proofs.YtmladblmknbgnaaGreatDoor
open Go.RowKit Go.ChangeShapes Go.WideShapes Go.Deep Go.ChangeAt
structure CellsIn {H:Type} (enc:TypeId×Value→H) (P:Program) (W:World) (K:Nat) (t:TypeId) (cs:List Value) (d:DataW H):Prop where
 rd:∃ fuel p,DataW.trod enc P W 0 (fun _=>true) true fuel t cs=some (d,p)
 wt:∀ n∈d.weights P t,n≤reachBytes
 bk:Rows.uptoBulk d≤K
section
variable {H:Type} {enc:TypeId×Value→H} {P:Program} {W:World} {K:Nat} {t:TypeId} {cs:List Value} {d:DataW H}
theorem ArgIn.cellsIn {v:Value} (h:ArgIn enc P W t v d):CellsIn enc P W (Rows.uptoBulk d) t v.cells.toList d:=by
 obtain ⟨_,⟨p,m,hr⟩,hw⟩:=h
 exact ⟨⟨m,p,hr⟩,hw,Nat.le_refl _⟩
theorem ArgIn.agg {v:Value} {fs:Array Field} (h:ArgIn enc P W t v d) (ht:P.underlying t=some (.struct fs)):∃ cs,v=.agg cs∧CellsIn enc P W (Rows.uptoBulk d) t cs.toList d:=by
 have hc:=h.cellsIn
 obtain ⟨⟨base,ho⟩,_,_⟩:=h
 obtain ⟨cs,rfl,_⟩:=okWide_struct ht ho
 exact ⟨cs,rfl,hc⟩
theorem CellsIn.str (h:CellsIn enc P W K t cs d) (ht:P.underlying t=some .string):∃ s:List UInt8,cs=[.string ⟨s.toArray⟩]∧s.length≤140737488351232∧s.length+1≤K:=by
 obtain ⟨⟨m,p,hr⟩,hw,hb⟩:=h
 obtain ⟨s,rfl,hx,_⟩:=DataW.trod_string ht hr
 simp only [Prod.mk.injEq] at hx
 rw [hx.1] at hw hb
 refine ⟨s.data.toList,by simp,?_,?_⟩
 ·have:=hw s.data.toList.length (by simp [DataW.weights])
  simpa [reachBytes] using this
 ·simpa [Rows.uptoBulk] using hb
theorem CellsIn.int {k:IntKind} (h:CellsIn enc P W K t cs d) (ht:P.underlying t=some (.int k)):∃ n,cs=[.int k n]∧(Lit.int k n).wf=true:=by
 obtain ⟨⟨m,p,hr⟩,hw,hb⟩:=h
 obtain ⟨n,hcs,_,hn⟩:=DataW.trod_int ht hr
 exact ⟨n,hcs,hn⟩
theorem CellsIn.i64 (h:CellsIn enc P W K t cs d) (ht:P.underlying t=some (.int .i64)):∃ n:Int,cs=[.int .i64 n]∧-9223372036854775808≤n∧n≤9223372036854775807:=by
 obtain ⟨n,hcs,hn⟩:=h.int ht
 simp [Lit.wf,IntKind.min,IntKind.max,IntKind.signed,IntKind.bits] at hn
 exact ⟨n,hcs,by omega,by omega⟩
theorem CellsIn.u64 (h:CellsIn enc P W K t cs d) (ht:P.underlying t=some (.int .u64)):∃ n:Int,cs=[.int .u64 n]∧0≤n∧n<18446744073709551616:=by
 obtain ⟨n,hcs,hn⟩:=h.int ht
 simp [Lit.wf,IntKind.min,IntKind.max,IntKind.signed,IntKind.bits] at hn
 exact ⟨n,hcs,by omega,by omega⟩
theorem CellsIn.u8 (h:CellsIn enc P W K t cs d) (ht:P.underlying t=some (.int .u8)):∃ b:UInt8,cs=[.int .u8 (b.toNat:Int)]:=by
 obtain ⟨n,hcs,hn⟩:=h.int ht
 simp [Lit.wf,IntKind.min,IntKind.max,IntKind.signed,IntKind.bits] at hn
 refine ⟨UInt8.ofNat n.toNat,?_⟩
 rw [hcs]
 have:(UInt8.ofNat n.toNat).toNat=n.toNat:=by rw [UInt8.toNat_ofNat'];omega
 rw [this,Int.toNat_of_nonneg (by omega)]
theorem CellsIn.bool (h:CellsIn enc P W K t cs d) (ht:P.underlying t=some .bool):∃ b,cs=[.bool b]:=by
 obtain ⟨⟨m,p,hr⟩,hw,hb⟩:=h
 obtain ⟨b,hcs,_⟩:=DataW.trod_bool ht hr
 exact ⟨b,hcs⟩
theorem weightsEach_get:∀ (ts:List TypeId) (ds:List (DataW H)) (j:Nat) (u:TypeId) (y:DataW H) (n:Nat),ts[j]?=some u→ds[j]?=some y→n∈y.weights P u→n∈DataW.weightsEach P ts ds
 | [],_,j,_,_,_,h,_,_=>by simp at h
 | _ :: _,[],j,_,_,_,_,h,_=>by simp at h
 | a :: ts,b :: ds,0,u,y,n,h,h',hn=>by
  simp only [zE,Option.some.injEq] at h h'
  subst h h'
  simp only [DataW.weightsEach,List.mem_append]
  exact .inl hn
 | a :: ts,b :: ds,j+1,u,y,n,h,h',hn=>by
  simp only [zD] at h h'
  simp only [DataW.weightsEach,List.mem_append]
  exact .inr (weightsEach_get ts ds j u y n h h' hn)
theorem weightsAll_get {L:List (DataW H)} {e:TypeId} {x:DataW H} {n:Nat} (hx:x∈L) (hn:n∈x.weights P e):n∈DataW.weightsAll P e L:=by
 induction L with
 | nil=>cases hx
 | cons y L ih =>
  simp only [DataW.weightsAll,List.mem_append]
  rcases List.mem_cons.1 hx with rfl | hx
  ·exact .inl hn
  ·exact .inr (ih hx)
theorem bulk_pos (d:DataW H):1≤Rows.uptoBulk d:=by
 cases d with
 | lit l=>cases l <;> simp [Rows.uptoBulk]
 | _=>simp [Rows.uptoBulk]
theorem bulkAll_get {L:List (DataW H)} {x:DataW H} (hx:x∈L):Rows.uptoBulk x≤Rows.uptoBulkAll L:=by
 induction L with
 | nil=>cases hx
 | cons y L ih =>
  simp only [Rows.uptoBulkAll]
  rcases List.mem_cons.1 hx with rfl | hx
  ·omega
  ·have:=ih hx
   omega
theorem bulkAll_len (L:List (DataW H)):L.length≤Rows.uptoBulkAll L:=by
 induction L with
 | nil=>exact Nat.zero_le _
 | cons x r ih =>
  have:=bulk_pos x
  simp only [List.length_cons,Rows.uptoBulkAll]
  omega
theorem CellsIn.fields {fs:Array Field} (h:CellsIn enc P W K t cs d) (ht:P.underlying t=some (.struct fs)) :
  cs.length=P.cellsOf t∧∀ (j:Nat) (f:Field),fs[j]?=some f→∃ y,CellsIn enc P W K f.type ((cs.drop f.offset).take (P.cellsOf f.type)) y:=by
 obtain ⟨⟨m,p,hr⟩,hw,hb⟩:=h
 obtain ⟨xs,n,_,hx,hl,hxl,hj⟩:=DataW.trod_struct ht hr
 simp only [Prod.mk.injEq] at hx
 rw [hx.1] at hw hb
 refine ⟨hl,fun j f hf=>?_⟩
 have hlt:j<fs.size:=(Array.getElem?_eq_some_iff.1 hf).1
 have hg:xs[j]?=some (xs[j]'(by omega)):=List.getElem?_eq_getElem (by omega)
 refine ⟨(xs[j]'(by omega)).1,⟨n,_,(hj j f hf).trans hg⟩,?_,?_⟩
 ·intro q hq
  refine hw q ?_
  simp only [DataW.weights,ht]
  refine weightsEach_get _ _ j f.type (xs[j]'(by omega)).1 q ?_ (by rw [List.getElem?_map,hg];rfl) hq
  rw [List.getElem?_map,Array.getElem?_toList,hf]
  rfl
 ·have:=bulkAll_get (x:=(xs[j]'(by omega)).1) (L:=xs.map (·.1)) (List.mem_map.2 ⟨xs[j]'(by omega),List.getElem_mem _,rfl⟩)
  simp only [Rows.uptoBulk] at hb
  omega
theorem CellsIn.slice {e:TypeId} (h:CellsIn enc P W K t cs d) (ht:P.underlying t=some (.slice e)) :
  cs=[.slice none 0 0]∨∃ (a:Addr) (n c:Nat) (D:Nat→DataW H),cs=[.slice (some a) n c]∧n≤c∧c≤maxLen∧c*P.bytesOf e≤140737488351232∧n≤K ∧
   ∀ i,i<n→∃ cs',W.cells? 0 (a.add (i*P.cellsOf e)) (P.cellsOf e)=some cs'∧CellsIn enc P W K e cs' (D i):=by
 obtain ⟨⟨m,p,hr⟩,hw,hb⟩:=h
 rcases Go.Deep.open_slice ht hr with ⟨hcs,hx⟩ | ⟨a,l,cc,mm,nn,D,Pl,hcs,_,hl,hm,hmm,hx,hi⟩
 ·exact .inl hcs
 ·right
  simp only [Prod.mk.injEq] at hx
  rw [hx.1] at hw hb
  have hmc:mm=cc:=by rw [hmm];rfl
  have hw1:=hw ((((List.range l).map D).length+((List.range (mm-l)).map fun j=>D (l+j)).length)*P.bytesOf e) (by simp only [DataW.weights,ht];exact List.mem_cons_self ..)
  have hl2:l+(mm-l)=cc:=by omega
  simp only [List.length_map,List.length_range,hl2,reachBytes] at hw1
  have hbl:=bulkAll_len ((List.range l).map D)
  simp only [Rows.uptoBulk,List.length_map,List.length_range] at hb hbl
  refine ⟨a,l,cc,D,hcs,hl,hm,hw1,by omega,fun i hil=>?_⟩
  obtain ⟨cs',hc,ht'⟩:=hi i (by omega)
  have hmem:D i∈(List.range l).map D:=List.mem_map.2 ⟨i,List.mem_range.2 hil,rfl⟩
  refine ⟨cs',hc,⟨_,_,ht'⟩,?_,?_⟩
  ·intro q hq
   refine hw q ?_
   simp only [DataW.weights,ht,List.mem_cons,List.mem_append]
   exact .inr (.inl (weightsAll_get hmem hq))
  ·have:=bulkAll_get hmem
   omega
theorem flatMap_len {α:Type} {Enc:α→List Value} {k:Nat} (hE:∀ x,(Enc x).length=k) (l:List α):(l.flatMap Enc).length=l.length*k:=by
 induction l with
 | nil=>simp
 | cons x l ih=>rw [List.flatMap_cons,List.length_append,hE,ih,List.length_cons,Nat.add_mul];omega
theorem flatMap_get {α:Type} {Enc:α→List Value} {k:Nat} (hE:∀ x,(Enc x).length=k) (l:List α) (i j:Nat) (hi:i<l.length) (hj:j<k):(l.flatMap Enc)[i*k+j]?=(Enc l[i])[j]?:=by
 induction l generalizing i with
 | nil=>cases hi
 | cons x l ih =>
  rw [List.flatMap_cons]
  cases i with
  | zero=>rw [Nat.zero_mul,Nat.zero_add,List.getElem?_append_left (by rw [hE];exact hj)];rfl
  | succ i =>
   rw [List.getElem?_append_right (by rw [hE,Nat.add_mul];omega),hE,show (i+1)*k+j-k=i*k+j by rw [Nat.add_mul];omega,ih i (by simpa using hi)]
   rfl
/-- A LIST: each element by its own law -/
theorem CellsIn.list {α:Type} {e:TypeId} {k:Nat} (Enc:α→List Value) (G:α→Prop) (hE:∀ x,(Enc x).length=k) (hk:0<k) (hC:P.cellsOf e=k) (ht:P.underlying t=some (.slice e))
  (hel:∀ cs d,CellsIn enc P W K e cs d→∃ x:α,cs=Enc x∧G x) (h:CellsIn enc P W K t cs d) :
  ∃ (A:Option Addr) (l:List α) (n c:Nat),cs=[.slice A n c]∧n=l.length∧n≤c∧c≤maxLen∧c*P.bytesOf e≤140737488351232∧n≤K∧Reads W W.heap.size k A n (l.flatMap Enc)∧∀ x∈l,G x:=by
 rcases h.slice ht with rfl | ⟨a,n,c,D,rfl,hn,hm,hb,hK,hi⟩
 ·exact ⟨none,[],0,0,rfl,rfl,Nat.le_refl _,by unfold maxLen;omega,by omega,Nat.zero_le _,⟨by simp,fun h=>absurd h (by omega)⟩,by simp⟩
 ·rw [hC] at hi
  have hq:∀ i,i<n→∃ x:α,(∀ j,j<k→W.cell? (a.add (i*k+j))=(Enc x)[j]?)∧G x:=by
   intro i hin
   obtain ⟨cs',hc,hcell⟩:=hi i hin
   obtain ⟨x,rfl,hg⟩:=hel _ _ hcell
   obtain ⟨_,hcl,hat⟩:=World.cells?_some hc
   refine ⟨x,fun j hj=>?_,hg⟩
   have:=hat j hj
   rwa [add_of_add] at this
  obtain ⟨l,hl,hlx⟩:∃ l:List α,l.length=n∧∀ i (h:i<l.length),(∀ j,j<k→W.cell? (a.add (i*k+j))=(Enc l[i])[j]?)∧G l[i]:=by
   clear hi hK hb hm hn h
   induction n with
   | zero=>exact ⟨[],rfl,fun i h=>by simp at h⟩
   | succ n ih =>
    obtain ⟨l,hl,hlx⟩:=ih (fun i hin=>hq i (by omega))
    obtain ⟨x,hx,hg⟩:=hq n (by omega)
    refine ⟨l++[x],by simp [hl],fun i hin=>?_⟩
    rcases Nat.lt_or_ge i l.length with hlt | hge
    ·rw [List.getElem_append_left hlt]
     exact hlx i hlt
    ·have:i=l.length:=by simp at hin;omega
     subst this
     rw [List.getElem_append_right (Nat.le_refl _)]
     simp only [Nat.sub_self,List.getElem_cons_zero]
     rw [hl]
     exact ⟨hx,hg⟩
  refine ⟨some a,l,n,c,rfl,hl.symm,hn,hm,hb,hK,⟨by rw [flatMap_len hE,hl],fun h0=>⟨a,rfl,?_,fun j u hu=>?_⟩⟩,fun x hx=>?_⟩
  ·obtain ⟨h1,_⟩:=hlx 0 (by omega)
   have h2:=h1 0 hk
   rw [List.getElem?_eq_getElem (by rw [hE];exact hk)] at h2
   have:=World.block_lt_of_cell? W _ h2
   rwa [block_of_add] at this
  ·have hj:j<n*k:=by
    have h3:=(List.getElem?_eq_some_iff.1 hu).1
    rwa [flatMap_len hE,hl] at h3
   have hdm:=Nat.div_add_mod j k
   have hmod:=Nat.mod_lt j hk
   have hdv:j / k<n:=Nat.div_lt_of_lt_mul (by rw [Nat.mul_comm];exact hj)
   have e1:j=j / k*k+j % k:=by rw [Nat.mul_comm];exact hdm.symm
   rw [e1,flatMap_get hE l _ _ (by omega) hmod] at hu
   rw [e1,(hlx (j / k) (by omega)).1 (j % k) hmod]
   exact hu
  ·obtain ⟨i,hil,rfl⟩:=List.getElem_of_mem hx
   exact (hlx i hil).2
end
end Go.Proofs.YtmladblmknbgnaaGreatDoor
