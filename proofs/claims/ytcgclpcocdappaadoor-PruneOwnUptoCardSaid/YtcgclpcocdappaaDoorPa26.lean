/-
  A slice literal of one wide struct: all its cells at once. tree.each at snapshots, sets and stages, over any contract of what copies one.
-/
import Derived.Great.BuildSlice
import Derived.WalkKit
import Derived.WalkSpells
import Derived.Below
import Derived.Laws.OwnMore
import Derived.Deep.AppendLies
import Derived.Deep.Draws
import Derived.Laws.Rows
import Derived.Maps.AppendAt
import Derived.RegionTactic
import Derived.OwnWalk
import Derived.Deep.QuietTactic
import Derived.BigQuiet
import Derived.Lib.Hide
import Derived.Laws.CopyOwn
import Derived.IntWalk
import Derived.Deep.MidRow
import Derived.Test.YtcgclpcocdappaaDoorRows
import Derived.Handy
import Derived.Deep.Quiet
import Derived.Orders
import Derived.Lib.SplitLaws
import Derived.Lib.LastIndexByte
import Derived.Lib.Strings
import Derived.ShutString
import Derived.Sort.Walk0
import Derived.Sort.KeysCollected
import Derived.Shelf.Strings.Search1
import Derived.Shelf.Strings.Search2
import Derived.Shelf.Strings.Search3
import Derived.Shelf.Strings.Cut
import Derived.Shelf.Strings.Count
import Derived.Shelf.LaysM
import Derived.Shelf.Strings.Shaped
import Derived.Shelf.Strings.LastIndex
import Derived.Shelf.Strings.Split
import Derived.Shelf.Strings.SplitShaped
import Derived.Shelf.Unicode.Decode
import Derived.Shelf.Strings.RuneCount
import Derived.Shelf.Strings.Explode
import Derived.Shelf.Unicode.DecodeSlow
import Derived.Shelf.Slices.Turned
import Derived.Test.YtcgclpcocdappaaDoorProg
import Derived.Laws.BytesString
import Derived.Laws.IdiomStrings
import Derived.Lib.ConvBytes
import Derived.Test.YtcgclpcocdappaaDoorP0
import Derived.Test.YtcgclpcocdappaaDoorPa1
import Derived.Test.YtcgclpcocdappaaDoorPa5
import Derived.Test.YtcgclpcocdappaaDoorPa7
import Derived.Test.YtcgclpcocdappaaDoorPa10
import Derived.Test.YtcgclpcocdappaaDoorPa12
import Derived.Test.YtcgclpcocdappaaDoorPa13
import Derived.Test.YtcgclpcocdappaaDoorPa23
import Derived.Test.YtcgclpcocdappaaDoorPa24
namespace Go.Proofs.YtcgclpcocdappaaDoor
open Go.RowKit
theorem fill_one (zs:Array Value) (cs:List Value) (hz:zs.size=cs.length) (hp:0<cs.length):Instr.fill (fun i=>some (i*cs.length,cs.length)) zs [(0,.agg cs.toArray)]=some cs.toArray:=by
 have:=Great.fill_whole (s:=cs.length) hp [.agg cs.toArray] zs (fun v hv=>by rw [List.mem_singleton.1 hv];simp [Value.cells]) (by simp [hz])
 simpa [Value.cells] using this
theorem wpList_build_one {P:Program} {ops:Array Oper} {rest:List Oper} {op:Oper} {a:Act} {w:World} {Q:Exit→Act→World→Prop} (hgd:op.guard=none) (t e:TypeId) (x:Operand) (ho:op.op=.buildSlice t 1 #[(0,x)])
  (cs:List Value) (hx:a.eval x=.agg cs.toArray) (ie:TypeInfo) (z:Value) (hu:P.underlying t=some (.slice e)) (hie:P.info? e=some ie) (hz:ie.zero=some z) (hs:ie.size=cs.length) (hp:0<cs.length) (hl:cs.length≤16777216)
  (h:wpList P ops Q rest (a.put op.dst (.slice (some ⟨w.heap.size,0,none⟩) 1 1)) (w.alloc (.cells cs.toArray e))):wpList P ops Q (op :: rest) a w:=by
 refine wpList_buildSlice hgd t e 1 #[(0,x)] ho cs.toArray ie z hu hie hz (by rw [hs];omega) (by rw [hs];omega) ?_ h
 rw [hs]
 have:((#[(0,x)]:Array (Nat×Operand)).map fun (i,x)=>(i,a.eval x)).toList=[(0,.agg cs.toArray)]:=by simp [hx]
 rw [this]
 exact fill_one _ cs (by simp) hp
/-- an element's cells, all at once -/
theorem Reads.elAll {α:Type} {enc:α→List Value} {k:Nat} (hk:∀ x,(enc x).length=k) {w:World} {B n:Nat} {A:Option Addr} {l:List α} (h:Reads w B k A n (cellsK enc l)) (hn:n=l.length) {i:Nat} (hi:i<n) :
  ∃ ad,A=some ad∧ad.block<B∧∀ j v,(enc (l[i]'(by omega)))[j]?=some v→w.cell? ((ad.add (i*k)).add j)=some v:=by
 obtain ⟨ad,e,hb,hc⟩:=h.elK hk hn hi
 refine ⟨ad,e,hb,fun j v hv=>?_⟩
 have hj:j<k:=by
  rcases Nat.lt_or_ge j k with h | h
  ·exact h
  ·rw [List.getElem?_eq_none (by rw [hk];exact h)] at hv;cases hv
 rw [hc j hj,hv]
end Go.Proofs.YtcgclpcocdappaaDoor
namespace Go.Proofs.YtcgclpcocdappaaDoor
open Go.RowKit
/-- what a copy is: it stands under all that is done elsewhere -/
structure Kept {α:Type} (O:Nat→World→α→Prop):Prop where
 below:∀ b w w' y,O b w y→Below w.heap.size w w'→O b w' y
 kept:∀ b w w' y g,O b w y→w.grownBy w' (some g)→g<b→O b w' y
 mono:∀ b b' w y,O b w y→b'≤b→O b' w y
theorem Tryd.eachSnap_info:(Tryd.prog.info? 42).map (fun i=>(i.zero,i.size,i.bytes))=some (some (.agg #[.string ByteArray.empty,.int .i64 0,.slice none 0 0,.slice none 0 0,.slice none 0 0]),5,96):=by kernel_rfl
set_option maxRecDepth 100000 in
set_option maxHeartbeats 2000000 in
theorem eachSnap_any (O:Nat→World→SnapR→Prop) (hO:Kept O) (r:SnapR→SnapR→Prop) (D:SnapR→SnapR→Prop) (hD:∀ b b' w w' y z,O b w y→O b' w' z→w.heap.size≤b'→D y z) (l:List SnapR) (n:Nat) (hnl:n=l.length) (A:Option Addr) (c:Nat) (w:World) (B:Nat) (hB:B≤w.heap.size) (hr:Reads w B 5 A n (cellsK encSnap l)) (hn:n≤1000000000000)
  (hC:∀ x∈l,∀ W,Below w.heap.size w W→Calls Tryd.prog 63 #[.agg (encSnap x).toArray] W fun e w'=>∃ y,e=.returned (.agg (encSnap y).toArray)∧O W.heap.size w' y∧r x y∧Below W.heap.size W w') :
  Calls Tryd.prog 62 #[.slice A n c,.func (.func 63) #[] #[]] w fun e w'=>∃ s:FS SnapR,e=.returned s.val∧s.own w' w.heap.size 42 5 encSnap∧(∀ y∈s.l,O w.heap.size w' y)∧EachR r l s.l∧s.l.Pairwise D∧Below w.heap.size w w':=by
 obtain ⟨i0,hi0,hz0,hz1,hz2⟩:=info_parts Tryd.eachSnap_info
 have HN:=Lib.hid hnl
 have HC:=Lib.hid hC
 have HR:=Lib.hid hr
 obtain ⟨g,hg⟩:∃ g,g=w.heap.size:=⟨_,rfl⟩
 have HGG:=Lib.hid hg
 clear hnl hC hr
 go_enter Tryd.func62,Tryd.ntmps62
 go_wp2_with (refine wpList_make_own w rfl (.const (.int .i64 0)) (.tmp 9) 43 rfl w.heap.size 42 i0 _ 5 Tryd.underlying43 hi0 hz0 hz1 .i64 .i64 (n:Int) n rfl rfl rfl (by rw [hz2];omega) (by unfold maxLen;omega) (Nat.le_refl _) ?_;intro w1 hown1 hg1;have HO1:=Lib.hid hown1;have HB1:=Lib.hid (show Below w.heap.size w w1 from ⟨hg1.os,hg1.tape,hg1.output,hg1.size,fun k hk=>hg1.block k hk (by simp)⟩);clear hown1 hg1)
 rw [← hg] at HO1 HB1 ⊢
 clear hg
 go_loopw [5,13] (fun o j wr=>∃ (k:Nat) (ys:List SnapR),k≤n∧j=.int .i64 (k:Int)∧o=.slice (some ⟨g,0,none⟩) k n∧Hid (ys.length=k)∧Hid (wr.ownsRow g 42 5 (.slice (some ⟨g,0,none⟩) k n) k (cellsK encSnap ys))∧Hid (∀ y∈ys,O (g+1) wr y)∧Hid (EachR r (l.take k) ys)∧Hid (ys.Pairwise D)∧Hid (Below g w wr)) (fun _ j _=>n-(intOf j).toNat)
 case atStart=>exact ⟨0,[],Nat.zero_le _,rfl,rfl,rfl,HO1.out,fun y hy=>absurd hy (by simp),by rw [List.take_zero];exact EachR.nil,List.Pairwise.nil,HB1.out⟩
 case round =>
  clear HO1 HB1
  obtain ⟨k,ys,hk,rfl,rfl,HY,HOW,HE,HEQ,HPW,HB⟩:=hrel
  by_cases hlt:k<n
  ·obtain ⟨ad,rfl,hadB,hel⟩:=Reads.elAll (enc:=encSnap) (k:=5) (fun _=>rfl) (HR.out.below (HB.out.mono (by have:=HGG.out;omega))) HN.out hlt
   have hkl:k<l.length:=by have:=HN.out;omega
   have hcx:=HC.out _ (List.getElem_mem hkl)
   have HTK:=Lib.hid (show l.take (k+1)=l.take k++[l[k]'hkl] from by rw [List.take_add_one,List.getElem?_eq_getElem hkl];rfl)
   have hki:(k:Int)<(n:Int):=by omega
   obtain ⟨x,hx⟩:∃ x,x=l[k]'hkl:=⟨_,rfl⟩
   rw [← hx] at hel hcx HTK
   obtain ⟨cs,hcs⟩:∃ cs,cs=encSnap x:=⟨_,rfl⟩
   have hcl:cs.length=5:=by rw [hcs];rfl
   have hc1:∀ u∈cs,u.oneCell'=true:=by rw [hcs];intro u hu;simp [encSnap] at hu;rcases hu with rfl | rfl | rfl | rfl | rfl <;> rfl
   rw [← hcs] at hel hcx
   have HEL:=Lib.hid hel
   have hSB:Below w.heap.size w (wr.alloc (.cells cs.toArray 42)):=by rw [← HGG.out];exact HB.out.alloc (by have:=HB.out.size;have:=HGG.out;omega) _
   have hcx:=hcx _ hSB
   have hOW2:=own_below HOW.out ((Below.refl wr.heap.size wr).alloc (Nat.le_refl _) (.cells cs.toArray 42))
   have HL7:Hid (∀ j v,cs[j]?=some v→(wr.alloc (.cells cs.toArray 42)).cell? ((⟨wr.heap.size,0,none⟩:Addr).add j)=some v):=by
    show ∀ j v,_→_
    intro j v hv
    have:=(Blk.new wr 42 cs.toArray).cell j
    rw [zF,hv] at this
    rw [addr_add0]
    exact this
   clear hel hadB HR HC hcs hx
   go_wp2_with (first | (refine wpList_load_at rfl 42 (.tmp 15) rfl (ad.add (k*5)) rfl cs _ HEL.out Tryd.underlying42 rfl (by rw [hcl];kernel_rfl) ?_) | (refine wpList_store_new wr rfl 42 (.tmp 7) (.tmp 16) rfl 42 _ cs rfl rfl (by rw [hcl];rfl) (by rw [hcl];kernel_rfl) hc1 ?_) | (refine wpList_load_at rfl 42 (.tmp 7) rfl ⟨wr.heap.size,0,none⟩ rfl cs _ HL7.out Tryd.underlying42 rfl (by rw [hcl];kernel_rfl) ?_))
   clear HEL
   refine hcx.mono ?_
   clear hcx
   rintro e w2 ⟨y,rfl,hoy,hry,hby⟩
   obtain ⟨ds,hds⟩:∃ ds,ds=encSnap y:=⟨_,rfl⟩
   have hdl:ds.length=5:=by rw [hds];rfl
   have hd1:∀ u∈ds,u.oneCell'=true:=by rw [hds];intro u hu;simp [encSnap] at hu;rcases hu with rfl | rfl | rfl | rfl | rfl <;> rfl
   rw [← hds]
   have hgs:g<wr.heap.size:=(HOW.out.lt g rfl).2
   have hba:Below wr.heap.size wr (w2.alloc (.cells ds.toArray 42)):=((((Below.refl wr.heap.size wr).alloc (Nat.le_refl _) (.cells cs.toArray 42)).trans (hby.mono (by simp))).alloc (by have:=hby.size;simp at this;omega) _)
   have HOW3:=Lib.hid (own_below HOW.out hba)
   have HB3:=Lib.hid (HB.out.trans (hba.mono (by omega)))
   have HE3:Hid (∀ z∈ys++[y],O (g+1) (w2.alloc (.cells ds.toArray 42)) z):=by
    show ∀ z∈_,_
    intro z hz
    rcases List.mem_append.1 hz with hz | hz
    ·exact hO.below _ _ _ _ (HE.out z hz) hba
    ·rw [List.mem_singleton.1 hz]
     exact hO.below _ _ _ _ (hO.mono _ _ _ _ hoy (by simp;omega)) ((Below.refl w2.heap.size w2).alloc (Nat.le_refl _) _)
   have HPW3:Hid ((ys++[y]).Pairwise D):=by
    show List.Pairwise _ _
    rw [List.pairwise_append]
    exact ⟨HPW.out,by simp,fun a ha b hb=>by rw [List.mem_singleton.1 hb];exact hD _ _ _ _ _ _ (HE.out a ha) hoy (by simp)⟩
   have HEQ3:Hid (EachR r (l.take (k+1)) (ys++[y])):=by show EachR _ _ _;rw [HTK.out];exact HEQ.out.snoc hry
   have HY3:=Lib.hid (show (ys++[y]).length=k+1 by rw [List.length_append,HY.out];rfl)
   have hcell:∀ (j:Nat) (u:Value),ds[j]?=some u→(w2.alloc (.cells ds.toArray 42)).cell? ((⟨w2.heap.size,0,none⟩:Addr).add j)=some u:=fun j u hu=>by
    have:=(Blk.new w2 42 ds.toArray).cell j
    rw [zF,hu] at this
    rw [addr_add0]
    exact this
   have HSZ3:=Lib.hid (show g≤(w2.alloc (.cells ds.toArray 42)).heap.size by have:=hba.size;omega)
   have hds':=Lib.hid hds
   clear hba hoy hry hby HOW HE HEQ HPW HY HB HTK hds
   have hi1:i0.size=ds.length:=by rw [hdl];exact hz1
   obtain ⟨W3,hW3⟩:∃ W,W=w2.alloc (.cells ds.toArray 42):=⟨_,rfl⟩
   rw [← hW3] at HOW3 HB3 HE3 hcell HSZ3
   go_wp2_with (first | (refine wpList_build_one rfl 43 42 (.tmp 20) rfl ds rfl i0 _ Tryd.underlying43 hi0 hz0 hi1 (by omega) (by omega) ?_;rw [← hW3];clear hW3) | (at_builtin;refine wpList_append_fits _ rfl (.tmp 17) (.tmp 21) 43 rfl g 42 i0 5 Tryd.underlying43 hi0 hz1 g k n _ rfl HOW3.out ⟨w2.heap.size,0,none⟩ 1 1 ds rfl (by omega) hcell hd1 (by omega) ?_;intro w4 hown4 hg4;have HO4:=Lib.hid hown4;have HG4:=Lib.hid hg4;clear hown4 hg4))
   go_roundw
   case rel =>
    refine ⟨k+1,ys++[y],by omega,by go_num,rfl,HY3.out,?_,fun z hz=>hO.kept _ _ _ _ _ (HE3.out z hz) HG4.out (by omega),HEQ3.out,HPW3.out,HB3.out.grown HG4.out HSZ3.out (fun q hq=>by simp at hq;omega)⟩
    show World.ownsRow _ _ _ _ _ _ _
    rw [cellsK_append,cellsK_one,← hds'.out]
    exact HO4.out
   case measure=>simp [intOf];omega
  ·have hki:¬ (k:Int)<(n:Int):=by omega
   obtain rfl:k=n:=by omega
   go_wp2_with fail
   go_ret
   obtain rfl:=HGG.out
   refine ⟨⟨some ⟨w.heap.size,0,none⟩,k,k,ys⟩,rfl,⟨HY.out.symm,HOW.out⟩,fun y hy=>hO.mono _ _ _ _ (HE.out y hy) (by omega),?_,HPW.out,HB.out⟩
   have:=HEQ.out
   rw [HN.out,List.take_length] at this
   exact this
theorem Tryd.eachSet_info:(Tryd.prog.info? 45).map (fun i=>(i.zero,i.size,i.bytes))=some (some (.agg #[.string ByteArray.empty,.string ByteArray.empty,.slice none 0 0,.slice none 0 0,.slice none 0 0]),5,104):=by kernel_rfl
set_option maxRecDepth 100000 in
set_option maxHeartbeats 2000000 in
theorem eachSet_any (O:Nat→World→SetR→Prop) (hO:Kept O) (r:SetR→SetR→Prop) (D:SetR→SetR→Prop) (hD:∀ b b' w w' y z,O b w y→O b' w' z→w.heap.size≤b'→D y z) (l:List SetR) (n:Nat) (hnl:n=l.length) (A:Option Addr) (c:Nat) (w:World) (B:Nat) (hB:B≤w.heap.size) (hr:Reads w B 5 A n (cellsK encSet l)) (hn:n≤1000000000000)
  (hC:∀ x∈l,∀ W,Below w.heap.size w W→Calls Tryd.prog 35 #[.agg (encSet x).toArray] W fun e w'=>∃ y,e=.returned (.agg (encSet y).toArray)∧O W.heap.size w' y∧r x y∧Below W.heap.size W w') :
  Calls Tryd.prog 34 #[.slice A n c,.func (.func 35) #[] #[]] w fun e w'=>∃ s:FS SetR,e=.returned s.val∧s.own w' w.heap.size 45 5 encSet∧(∀ y∈s.l,O w.heap.size w' y)∧EachR r l s.l∧s.l.Pairwise D∧Below w.heap.size w w':=by
 obtain ⟨i0,hi0,hz0,hz1,hz2⟩:=info_parts Tryd.eachSet_info
 have HN:=Lib.hid hnl
 have HC:=Lib.hid hC
 have HR:=Lib.hid hr
 obtain ⟨g,hg⟩:∃ g,g=w.heap.size:=⟨_,rfl⟩
 have HGG:=Lib.hid hg
 clear hnl hC hr
 go_enter Tryd.func34,Tryd.ntmps34
 go_wp2_with (refine wpList_make_own w rfl (.const (.int .i64 0)) (.tmp 9) 22 rfl w.heap.size 45 i0 _ 5 Tryd.underlying22 hi0 hz0 hz1 .i64 .i64 (n:Int) n rfl rfl rfl (by rw [hz2];omega) (by unfold maxLen;omega) (Nat.le_refl _) ?_;intro w1 hown1 hg1;have HO1:=Lib.hid hown1;have HB1:=Lib.hid (show Below w.heap.size w w1 from ⟨hg1.os,hg1.tape,hg1.output,hg1.size,fun k hk=>hg1.block k hk (by simp)⟩);clear hown1 hg1)
 rw [← hg] at HO1 HB1 ⊢
 clear hg
 go_loopw [5,13] (fun o j wr=>∃ (k:Nat) (ys:List SetR),k≤n∧j=.int .i64 (k:Int)∧o=.slice (some ⟨g,0,none⟩) k n∧Hid (ys.length=k)∧Hid (wr.ownsRow g 45 5 (.slice (some ⟨g,0,none⟩) k n) k (cellsK encSet ys))∧Hid (∀ y∈ys,O (g+1) wr y)∧Hid (EachR r (l.take k) ys)∧Hid (ys.Pairwise D)∧Hid (Below g w wr)) (fun _ j _=>n-(intOf j).toNat)
 case atStart=>exact ⟨0,[],Nat.zero_le _,rfl,rfl,rfl,HO1.out,fun y hy=>absurd hy (by simp),by rw [List.take_zero];exact EachR.nil,List.Pairwise.nil,HB1.out⟩
 case round =>
  clear HO1 HB1
  obtain ⟨k,ys,hk,rfl,rfl,HY,HOW,HE,HEQ,HPW,HB⟩:=hrel
  by_cases hlt:k<n
  ·obtain ⟨ad,rfl,hadB,hel⟩:=Reads.elAll (enc:=encSet) (k:=5) (fun _=>rfl) (HR.out.below (HB.out.mono (by have:=HGG.out;omega))) HN.out hlt
   have hkl:k<l.length:=by have:=HN.out;omega
   have hcx:=HC.out _ (List.getElem_mem hkl)
   have HTK:=Lib.hid (show l.take (k+1)=l.take k++[l[k]'hkl] from by rw [List.take_add_one,List.getElem?_eq_getElem hkl];rfl)
   have hki:(k:Int)<(n:Int):=by omega
   obtain ⟨x,hx⟩:∃ x,x=l[k]'hkl:=⟨_,rfl⟩
   rw [← hx] at hel hcx HTK
   obtain ⟨cs,hcs⟩:∃ cs,cs=encSet x:=⟨_,rfl⟩
   have hcl:cs.length=5:=by rw [hcs];rfl
   have hc1:∀ u∈cs,u.oneCell'=true:=by rw [hcs];intro u hu;simp [encSet] at hu;rcases hu with rfl | rfl | rfl | rfl | rfl <;> rfl
   rw [← hcs] at hel hcx
   have HEL:=Lib.hid hel
   have hSB:Below w.heap.size w (wr.alloc (.cells cs.toArray 45)):=by rw [← HGG.out];exact HB.out.alloc (by have:=HB.out.size;have:=HGG.out;omega) _
   have hcx:=hcx _ hSB
   have hOW2:=own_below HOW.out ((Below.refl wr.heap.size wr).alloc (Nat.le_refl _) (.cells cs.toArray 45))
   have HL7:Hid (∀ j v,cs[j]?=some v→(wr.alloc (.cells cs.toArray 45)).cell? ((⟨wr.heap.size,0,none⟩:Addr).add j)=some v):=by
    show ∀ j v,_→_
    intro j v hv
    have:=(Blk.new wr 45 cs.toArray).cell j
    rw [zF,hv] at this
    rw [addr_add0]
    exact this
   clear hel hadB HR HC hcs hx
   go_wp2_with (first | (refine wpList_load_at rfl 45 (.tmp 15) rfl (ad.add (k*5)) rfl cs _ HEL.out Tryd.underlying45 rfl (by rw [hcl];kernel_rfl) ?_) | (refine wpList_store_new wr rfl 45 (.tmp 7) (.tmp 16) rfl 45 _ cs rfl rfl (by rw [hcl];rfl) (by rw [hcl];kernel_rfl) hc1 ?_) | (refine wpList_load_at rfl 45 (.tmp 7) rfl ⟨wr.heap.size,0,none⟩ rfl cs _ HL7.out Tryd.underlying45 rfl (by rw [hcl];kernel_rfl) ?_))
   clear HEL
   refine hcx.mono ?_
   clear hcx
   rintro e w2 ⟨y,rfl,hoy,hry,hby⟩
   obtain ⟨ds,hds⟩:∃ ds,ds=encSet y:=⟨_,rfl⟩
   have hdl:ds.length=5:=by rw [hds];rfl
   have hd1:∀ u∈ds,u.oneCell'=true:=by rw [hds];intro u hu;simp [encSet] at hu;rcases hu with rfl | rfl | rfl | rfl | rfl <;> rfl
   rw [← hds]
   have hgs:g<wr.heap.size:=(HOW.out.lt g rfl).2
   have hba:Below wr.heap.size wr (w2.alloc (.cells ds.toArray 45)):=((((Below.refl wr.heap.size wr).alloc (Nat.le_refl _) (.cells cs.toArray 45)).trans (hby.mono (by simp))).alloc (by have:=hby.size;simp at this;omega) _)
   have HOW3:=Lib.hid (own_below HOW.out hba)
   have HB3:=Lib.hid (HB.out.trans (hba.mono (by omega)))
   have HE3:Hid (∀ z∈ys++[y],O (g+1) (w2.alloc (.cells ds.toArray 45)) z):=by
    show ∀ z∈_,_
    intro z hz
    rcases List.mem_append.1 hz with hz | hz
    ·exact hO.below _ _ _ _ (HE.out z hz) hba
    ·rw [List.mem_singleton.1 hz]
     exact hO.below _ _ _ _ (hO.mono _ _ _ _ hoy (by simp;omega)) ((Below.refl w2.heap.size w2).alloc (Nat.le_refl _) _)
   have HPW3:Hid ((ys++[y]).Pairwise D):=by
    show List.Pairwise _ _
    rw [List.pairwise_append]
    exact ⟨HPW.out,by simp,fun a ha b hb=>by rw [List.mem_singleton.1 hb];exact hD _ _ _ _ _ _ (HE.out a ha) hoy (by simp)⟩
   have HEQ3:Hid (EachR r (l.take (k+1)) (ys++[y])):=by show EachR _ _ _;rw [HTK.out];exact HEQ.out.snoc hry
   have HY3:=Lib.hid (show (ys++[y]).length=k+1 by rw [List.length_append,HY.out];rfl)
   have hcell:∀ (j:Nat) (u:Value),ds[j]?=some u→(w2.alloc (.cells ds.toArray 45)).cell? ((⟨w2.heap.size,0,none⟩:Addr).add j)=some u:=fun j u hu=>by
    have:=(Blk.new w2 45 ds.toArray).cell j
    rw [zF,hu] at this
    rw [addr_add0]
    exact this
   have HSZ3:=Lib.hid (show g≤(w2.alloc (.cells ds.toArray 45)).heap.size by have:=hba.size;omega)
   have hds':=Lib.hid hds
   clear hba hoy hry hby HOW HE HEQ HPW HY HB HTK hds
   have hi1:i0.size=ds.length:=by rw [hdl];exact hz1
   obtain ⟨W3,hW3⟩:∃ W,W=w2.alloc (.cells ds.toArray 45):=⟨_,rfl⟩
   rw [← hW3] at HOW3 HB3 HE3 hcell HSZ3
   go_wp2_with (first | (refine wpList_build_one rfl 22 45 (.tmp 20) rfl ds rfl i0 _ Tryd.underlying22 hi0 hz0 hi1 (by omega) (by omega) ?_;rw [← hW3];clear hW3) | (at_builtin;refine wpList_append_fits _ rfl (.tmp 17) (.tmp 21) 22 rfl g 45 i0 5 Tryd.underlying22 hi0 hz1 g k n _ rfl HOW3.out ⟨w2.heap.size,0,none⟩ 1 1 ds rfl (by omega) hcell hd1 (by omega) ?_;intro w4 hown4 hg4;have HO4:=Lib.hid hown4;have HG4:=Lib.hid hg4;clear hown4 hg4))
   go_roundw
   case rel =>
    refine ⟨k+1,ys++[y],by omega,by go_num,rfl,HY3.out,?_,fun z hz=>hO.kept _ _ _ _ _ (HE3.out z hz) HG4.out (by omega),HEQ3.out,HPW3.out,HB3.out.grown HG4.out HSZ3.out (fun q hq=>by simp at hq;omega)⟩
    show World.ownsRow _ _ _ _ _ _ _
    rw [cellsK_append,cellsK_one,← hds'.out]
    exact HO4.out
   case measure=>simp [intOf];omega
  ·have hki:¬ (k:Int)<(n:Int):=by omega
   obtain rfl:k=n:=by omega
   go_wp2_with fail
   go_ret
   obtain rfl:=HGG.out
   refine ⟨⟨some ⟨w.heap.size,0,none⟩,k,k,ys⟩,rfl,⟨HY.out.symm,HOW.out⟩,fun y hy=>hO.mono _ _ _ _ (HE.out y hy) (by omega),?_,HPW.out,HB.out⟩
   have:=HEQ.out
   rw [HN.out,List.take_length] at this
   exact this
theorem Tryd.eachStage_info:(Tryd.prog.info? 53).map (fun i=>(i.zero,i.size,i.bytes))=some (some (.agg #[.string ByteArray.empty,.int .i64 0,.string ByteArray.empty,.int .i64 0,.int .i64 0,.slice none 0 0,.int .i64 0,.int .i64 0,.string ByteArray.empty,.int .u64 0,.int .u64 0,.int .u64 0,.int .u64 0,.slice none 0 0,.int .i64 0,.int .i64 0,.int .u64 0,.int .u64 0,.int .u64 0,.int .u64 0,.bool false]),21,224):=by kernel_rfl
set_option maxRecDepth 100000 in
set_option maxHeartbeats 2000000 in
theorem eachStage_any (O:Nat→World→StageR→Prop) (hO:Kept O) (r:StageR→StageR→Prop) (l:List StageR) (n:Nat) (hnl:n=l.length) (A:Option Addr) (c:Nat) (w:World) (B:Nat) (hB:B≤w.heap.size) (hr:Reads w B 21 A n (cellsK encStage l)) (hn:n≤1000000000000)
  (hC:∀ x∈l,∀ W,Below w.heap.size w W→Calls Tryd.prog 38 #[.agg (encStage x).toArray] W fun e w'=>∃ y,e=.returned (.agg (encStage y).toArray)∧O W.heap.size w' y∧r x y∧Below W.heap.size W w') :
  Calls Tryd.prog 37 #[.slice A n c,.func (.func 38) #[] #[]] w fun e w'=>∃ s:FS StageR,e=.returned s.val∧s.own w' w.heap.size 53 21 encStage∧(∀ y∈s.l,O w.heap.size w' y)∧EachR r l s.l∧Below w.heap.size w w':=by
 obtain ⟨i0,hi0,hz0,hz1,hz2⟩:=info_parts Tryd.eachStage_info
 have HN:=Lib.hid hnl
 have HC:=Lib.hid hC
 have HR:=Lib.hid hr
 obtain ⟨g,hg⟩:∃ g,g=w.heap.size:=⟨_,rfl⟩
 have HGG:=Lib.hid hg
 clear hnl hC hr
 go_enter Tryd.func37,Tryd.ntmps37
 go_wp2_with (refine wpList_make_own w rfl (.const (.int .i64 0)) (.tmp 9) 24 rfl w.heap.size 53 i0 _ 21 Tryd.underlying24 hi0 hz0 hz1 .i64 .i64 (n:Int) n rfl rfl rfl (by rw [hz2];omega) (by unfold maxLen;omega) (Nat.le_refl _) ?_;intro w1 hown1 hg1;have HO1:=Lib.hid hown1;have HB1:=Lib.hid (show Below w.heap.size w w1 from ⟨hg1.os,hg1.tape,hg1.output,hg1.size,fun k hk=>hg1.block k hk (by simp)⟩);clear hown1 hg1)
 rw [← hg] at HO1 HB1 ⊢
 clear hg
 go_loopw [5,13] (fun o j wr=>∃ (k:Nat) (ys:List StageR),k≤n∧j=.int .i64 (k:Int)∧o=.slice (some ⟨g,0,none⟩) k n∧Hid (ys.length=k)∧Hid (wr.ownsRow g 53 21 (.slice (some ⟨g,0,none⟩) k n) k (cellsK encStage ys))∧Hid (∀ y∈ys,O (g+1) wr y)∧Hid (EachR r (l.take k) ys)∧Hid (Below g w wr)) (fun _ j _=>n-(intOf j).toNat)
 case atStart=>exact ⟨0,[],Nat.zero_le _,rfl,rfl,rfl,HO1.out,fun y hy=>absurd hy (by simp),by rw [List.take_zero];exact EachR.nil,HB1.out⟩
 case round =>
  clear HO1 HB1
  obtain ⟨k,ys,hk,rfl,rfl,HY,HOW,HE,HEQ,HB⟩:=hrel
  by_cases hlt:k<n
  ·obtain ⟨ad,rfl,hadB,hel⟩:=Reads.elAll (enc:=encStage) (k:=21) (fun _=>rfl) (HR.out.below (HB.out.mono (by have:=HGG.out;omega))) HN.out hlt
   have hkl:k<l.length:=by have:=HN.out;omega
   have hcx:=HC.out _ (List.getElem_mem hkl)
   have HTK:=Lib.hid (show l.take (k+1)=l.take k++[l[k]'hkl] from by rw [List.take_add_one,List.getElem?_eq_getElem hkl];rfl)
   have hki:(k:Int)<(n:Int):=by omega
   obtain ⟨x,hx⟩:∃ x,x=l[k]'hkl:=⟨_,rfl⟩
   rw [← hx] at hel hcx HTK
   obtain ⟨cs,hcs⟩:∃ cs,cs=encStage x:=⟨_,rfl⟩
   have hcl:cs.length=21:=by rw [hcs];rfl
   have hc1:∀ u∈cs,u.oneCell'=true:=by rw [hcs];intro u hu;simp [encStage,smV] at hu;rcases hu with rfl | rfl | rfl | rfl | rfl | rfl | rfl | rfl | rfl | rfl | rfl | rfl | rfl | rfl | rfl | rfl | rfl | rfl | rfl | rfl | rfl <;> rfl
   rw [← hcs] at hel hcx
   have HEL:=Lib.hid hel
   have hSB:Below w.heap.size w (wr.alloc (.cells cs.toArray 53)):=by rw [← HGG.out];exact HB.out.alloc (by have:=HB.out.size;have:=HGG.out;omega) _
   have hcx:=hcx _ hSB
   have hOW2:=own_below HOW.out ((Below.refl wr.heap.size wr).alloc (Nat.le_refl _) (.cells cs.toArray 53))
   have HL7:Hid (∀ j v,cs[j]?=some v→(wr.alloc (.cells cs.toArray 53)).cell? ((⟨wr.heap.size,0,none⟩:Addr).add j)=some v):=by
    show ∀ j v,_→_
    intro j v hv
    have:=(Blk.new wr 53 cs.toArray).cell j
    rw [zF,hv] at this
    rw [addr_add0]
    exact this
   clear hel hadB HR HC hcs hx
   go_wp2_with (first | (refine wpList_load_at rfl 53 (.tmp 15) rfl (ad.add (k*21)) rfl cs _ HEL.out Tryd.underlying53 rfl (by rw [hcl];kernel_rfl) ?_) | (refine wpList_store_new wr rfl 53 (.tmp 7) (.tmp 16) rfl 53 _ cs rfl rfl (by rw [hcl];rfl) (by rw [hcl];kernel_rfl) hc1 ?_) | (refine wpList_load_at rfl 53 (.tmp 7) rfl ⟨wr.heap.size,0,none⟩ rfl cs _ HL7.out Tryd.underlying53 rfl (by rw [hcl];kernel_rfl) ?_))
   clear HEL
   refine hcx.mono ?_
   clear hcx
   rintro e w2 ⟨y,rfl,hoy,hry,hby⟩
   obtain ⟨ds,hds⟩:∃ ds,ds=encStage y:=⟨_,rfl⟩
   have hdl:ds.length=21:=by rw [hds];rfl
   have hd1:∀ u∈ds,u.oneCell'=true:=by rw [hds];intro u hu;simp [encStage,smV] at hu;rcases hu with rfl | rfl | rfl | rfl | rfl | rfl | rfl | rfl | rfl | rfl | rfl | rfl | rfl | rfl | rfl | rfl | rfl | rfl | rfl | rfl | rfl <;> rfl
   rw [← hds]
   have hgs:g<wr.heap.size:=(HOW.out.lt g rfl).2
   have hba:Below wr.heap.size wr (w2.alloc (.cells ds.toArray 53)):=((((Below.refl wr.heap.size wr).alloc (Nat.le_refl _) (.cells cs.toArray 53)).trans (hby.mono (by simp))).alloc (by have:=hby.size;simp at this;omega) _)
   have HOW3:=Lib.hid (own_below HOW.out hba)
   have HB3:=Lib.hid (HB.out.trans (hba.mono (by omega)))
   have HE3:Hid (∀ z∈ys++[y],O (g+1) (w2.alloc (.cells ds.toArray 53)) z):=by
    show ∀ z∈_,_
    intro z hz
    rcases List.mem_append.1 hz with hz | hz
    ·exact hO.below _ _ _ _ (HE.out z hz) hba
    ·rw [List.mem_singleton.1 hz]
     exact hO.below _ _ _ _ (hO.mono _ _ _ _ hoy (by simp;omega)) ((Below.refl w2.heap.size w2).alloc (Nat.le_refl _) _)
   have HEQ3:Hid (EachR r (l.take (k+1)) (ys++[y])):=by show EachR _ _ _;rw [HTK.out];exact HEQ.out.snoc hry
   have HY3:=Lib.hid (show (ys++[y]).length=k+1 by rw [List.length_append,HY.out];rfl)
   have hcell:∀ (j:Nat) (u:Value),ds[j]?=some u→(w2.alloc (.cells ds.toArray 53)).cell? ((⟨w2.heap.size,0,none⟩:Addr).add j)=some u:=fun j u hu=>by
    have:=(Blk.new w2 53 ds.toArray).cell j
    rw [zF,hu] at this
    rw [addr_add0]
    exact this
   have HSZ3:=Lib.hid (show g≤(w2.alloc (.cells ds.toArray 53)).heap.size by have:=hba.size;omega)
   have hds':=Lib.hid hds
   clear hba hoy hry hby HOW HE HEQ HY HB HTK hds
   have hi1:i0.size=ds.length:=by rw [hdl];exact hz1
   obtain ⟨W3,hW3⟩:∃ W,W=w2.alloc (.cells ds.toArray 53):=⟨_,rfl⟩
   rw [← hW3] at HOW3 HB3 HE3 hcell HSZ3
   go_wp2_with (first | (refine wpList_build_one rfl 24 53 (.tmp 20) rfl ds rfl i0 _ Tryd.underlying24 hi0 hz0 hi1 (by omega) (by omega) ?_;rw [← hW3];clear hW3) | (at_builtin;refine wpList_append_fits _ rfl (.tmp 17) (.tmp 21) 24 rfl g 53 i0 21 Tryd.underlying24 hi0 hz1 g k n _ rfl HOW3.out ⟨w2.heap.size,0,none⟩ 1 1 ds rfl (by omega) hcell hd1 (by omega) ?_;intro w4 hown4 hg4;have HO4:=Lib.hid hown4;have HG4:=Lib.hid hg4;clear hown4 hg4))
   go_roundw
   case rel =>
    refine ⟨k+1,ys++[y],by omega,by go_num,rfl,HY3.out,?_,fun z hz=>hO.kept _ _ _ _ _ (HE3.out z hz) HG4.out (by omega),HEQ3.out,HB3.out.grown HG4.out HSZ3.out (fun q hq=>by simp at hq;omega)⟩
    show World.ownsRow _ _ _ _ _ _ _
    rw [cellsK_append,cellsK_one,← hds'.out]
    exact HO4.out
   case measure=>simp [intOf];omega
  ·have hki:¬ (k:Int)<(n:Int):=by omega
   obtain rfl:k=n:=by omega
   go_wp2_with fail
   go_ret
   obtain rfl:=HGG.out
   refine ⟨⟨some ⟨w.heap.size,0,none⟩,k,k,ys⟩,rfl,⟨HY.out.symm,HOW.out⟩,fun y hy=>hO.mono _ _ _ _ (HE.out y hy) (by omega),?_,HB.out⟩
   have:=HEQ.out
   rw [HN.out,List.take_length] at this
   exact this
end Go.Proofs.YtcgclpcocdappaaDoor
