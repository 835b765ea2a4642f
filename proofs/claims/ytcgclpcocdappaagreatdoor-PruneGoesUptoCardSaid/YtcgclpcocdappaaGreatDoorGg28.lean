/-
  tree.each at snapshots, sets and stages, over any contract of what copies one. tree.copySnap, by its contract.
-/
import Derived.WalkKit
import Derived.WalkSpells
import Derived.Below
import Derived.Laws.OwnMore
import Derived.Deep.AppendLies
import Derived.Deep.Draws
import Derived.Laws.Rows
import Derived.Maps.AppendAt
import Derived.RegionTactic
import Derived.OwnWalk
import Derived.Deep.QuietTactic
import Derived.BigQuiet
import Derived.Lib.Hide
import Derived.Laws.CopyOwn
import Derived.IntWalk
import Derived.Test.YtcgclpcocdappaaGreatDoorRows
import Derived.Handy
import Derived.Deep.Quiet
import Derived.Orders
import Derived.Lib.SplitLaws
import Derived.Lib.LastIndexByte
import Derived.Lib.Strings
import Derived.ShutString
import Derived.Sort.Walk0
import Derived.Sort.KeysCollected
import Derived.Shelf.Strings.Search1
import Derived.Shelf.Strings.Search2
import Derived.Shelf.Strings.Search3
import Derived.Shelf.Strings.Cut
import Derived.Shelf.Strings.Count
import Derived.Shelf.LaysM
import Derived.Shelf.Strings.Shaped
import Derived.Shelf.Strings.LastIndex
import Derived.Shelf.Strings.Split
import Derived.Shelf.Strings.SplitShaped
import Derived.Shelf.Unicode.Decode
import Derived.Shelf.Strings.RuneCount
import Derived.Shelf.Strings.Explode
import Derived.Shelf.Unicode.DecodeSlow
import Derived.Test.YtcgclpcocdappaaGreatDoorProg
import Derived.Laws.BytesString
import Derived.Laws.IdiomStrings
import Derived.Lib.ConvBytes
import Derived.Deep.MidRow
import Derived.Great.BuildSlice
import Derived.Deep.DeepCutAuto
import Derived.Test.YtcgclpcocdappaaGreatDoorG0
import Derived.Test.YtcgclpcocdappaaGreatDoorGg1
import Derived.Test.YtcgclpcocdappaaGreatDoorGg5
import Derived.Test.YtcgclpcocdappaaGreatDoorGg7
import Derived.Test.YtcgclpcocdappaaGreatDoorGg9
import Derived.Test.YtcgclpcocdappaaGreatDoorGg11
import Derived.Test.YtcgclpcocdappaaGreatDoorGg13
import Derived.Test.YtcgclpcocdappaaGreatDoorGg19
import Derived.Test.YtcgclpcocdappaaGreatDoorGg20
import Derived.Test.YtcgclpcocdappaaGreatDoorGg22
import Derived.Test.YtcgclpcocdappaaGreatDoorGg27
namespace Go.Proofs.YtcgclpcocdappaaGreatDoor
open Go.RowKit
/-- what a copy is: it stands under all that is done elsewhere -/
structure Kept {α:Type} (O:Nat→World→α→Prop):Prop where
 below:∀ b w w' y,O b w y→Below w.heap.size w w'→O b w' y
 kept:∀ b w w' y g,O b w y→w.grownBy w' (some g)→g<b→O b w' y
 mono:∀ b b' w y,O b w y→b'≤b→O b' w y
theorem Tryz.eachSnap_info:(Tryz.prog.info? 57).map (fun i=>(i.zero,i.size,i.bytes))=some (some (.agg #[.string ByteArray.empty,.int .i64 0,.slice none 0 0,.slice none 0 0,.slice none 0 0]),5,96):=by kernel_rfl
set_option maxRecDepth 100000 in
set_option maxHeartbeats 2000000 in
theorem eachSnap_any (O:Nat→World→SnapR→Prop) (hO:Kept O) (r:SnapR→SnapR→Prop) (D:SnapR→SnapR→Prop) (hD:∀ b b' w w' y z,O b w y→O b' w' z→w.heap.size≤b'→D y z) (l:List SnapR) (n:Nat) (hnl:n=l.length) (A:Option Addr) (c:Nat) (w:World) (B:Nat) (hB:B≤w.heap.size) (hr:Reads w B 5 A n (cellsK encSnap l)) (hn:n≤1000000000000)
  (hC:∀ x∈l,∀ W,Below w.heap.size w W→Calls Tryz.prog 174 #[.agg (encSnap x).toArray] W fun e w'=>∃ y,e=.returned (.agg (encSnap y).toArray)∧O W.heap.size w' y∧r x y∧Below W.heap.size W w') :
  Calls Tryz.prog 173 #[.slice A n c,.func (.func 174) #[] #[]] w fun e w'=>∃ s:FS SnapR,e=.returned s.val∧s.own w' w.heap.size 57 5 encSnap∧(∀ y∈s.l,O w.heap.size w' y)∧EachR r l s.l∧s.l.Pairwise D∧Below w.heap.size w w':=by
 obtain ⟨i0,hi0,hz0,hz1,hz2⟩:=info_parts Tryz.eachSnap_info
 have HN:=Lib.hid hnl
 have HC:=Lib.hid hC
 have HR:=Lib.hid hr
 obtain ⟨g,hg⟩:∃ g,g=w.heap.size:=⟨_,rfl⟩
 have HGG:=Lib.hid hg
 clear hnl hC hr
 go_enter Tryz.func173,Tryz.ntmps173
 go_wp2_with (refine wpList_make_own w rfl (.const (.int .i64 0)) (.tmp 9) 39 rfl w.heap.size 57 i0 _ 5 Tryz.underlying39 hi0 hz0 hz1 .i64 .i64 (n:Int) n rfl rfl rfl (by rw [hz2];omega) (by unfold maxLen;omega) (Nat.le_refl _) ?_;intro w1 hown1 hg1;have HO1:=Lib.hid hown1;have HB1:=Lib.hid (show Below w.heap.size w w1 from ⟨hg1.os,hg1.tape,hg1.output,hg1.size,fun k hk=>hg1.block k hk (by simp)⟩);clear hown1 hg1)
 rw [← hg] at HO1 HB1 ⊢
 clear hg
 go_loopw [5,13] (fun o j wr=>∃ (k:Nat) (ys:List SnapR),k≤n∧j=.int .i64 (k:Int)∧o=.slice (some ⟨g,0,none⟩) k n∧Hid (ys.length=k)∧Hid (wr.ownsRow g 57 5 (.slice (some ⟨g,0,none⟩) k n) k (cellsK encSnap ys))∧Hid (∀ y∈ys,O (g+1) wr y)∧Hid (EachR r (l.take k) ys)∧Hid (ys.Pairwise D)∧Hid (Below g w wr)) (fun _ j _=>n-(intOf j).toNat)
 case atStart=>exact ⟨0,[],Nat.zero_le _,rfl,rfl,rfl,HO1.out,fun y hy=>absurd hy (by simp),by rw [List.take_zero];exact EachR.nil,List.Pairwise.nil,HB1.out⟩
 case round =>
  clear HO1 HB1
  obtain ⟨k,ys,hk,rfl,rfl,HY,HOW,HE,HEQ,HPW,HB⟩:=hrel
  by_cases hlt:k<n
  ·obtain ⟨ad,rfl,hadB,hel⟩:=Reads.elAll (enc:=encSnap) (k:=5) (fun _=>rfl) (HR.out.below (HB.out.mono (by have:=HGG.out;omega))) HN.out hlt
   have hkl:k<l.length:=by have:=HN.out;omega
   have hcx:=HC.out _ (List.getElem_mem hkl)
   have HTK:=Lib.hid (show l.take (k+1)=l.take k++[l[k]'hkl] from by rw [List.take_add_one,List.getElem?_eq_getElem hkl];rfl)
   have hki:(k:Int)<(n:Int):=by omega
   obtain ⟨x,hx⟩:∃ x,x=l[k]'hkl:=⟨_,rfl⟩
   rw [← hx] at hel hcx HTK
   obtain ⟨cs,hcs⟩:∃ cs,cs=encSnap x:=⟨_,rfl⟩
   have hcl:cs.length=5:=by rw [hcs];rfl
   have hc1:∀ u∈cs,u.oneCell'=true:=by rw [hcs];intro u hu;simp [encSnap] at hu;rcases hu with rfl | rfl | rfl | rfl | rfl <;> rfl
   rw [← hcs] at hel hcx
   have HEL:=Lib.hid hel
   have hSB:Below w.heap.size w (wr.alloc (.cells cs.toArray 57)):=by rw [← HGG.out];exact HB.out.alloc (by have:=HB.out.size;have:=HGG.out;omega) _
   have hcx:=hcx _ hSB
   have hOW2:=own_below HOW.out ((Below.refl wr.heap.size wr).alloc (Nat.le_refl _) (.cells cs.toArray 57))
   have HL7:Hid (∀ j v,cs[j]?=some v→(wr.alloc (.cells cs.toArray 57)).cell? ((⟨wr.heap.size,0,none⟩:Addr).add j)=some v):=by
    show ∀ j v,_→_
    intro j v hv
    have:=(Blk.new wr 57 cs.toArray).cell j
    rw [zF,hv] at this
    rw [addr_add0]
    exact this
   clear hel hadB HR HC hcs hx
   go_wp2_with (first | (refine wpList_load_at rfl 57 (.tmp 15) rfl (ad.add (k*5)) rfl cs _ HEL.out Tryz.underlying57 rfl (by rw [hcl];kernel_rfl) ?_) | (refine wpList_store_new wr rfl 57 (.tmp 7) (.tmp 16) rfl 57 _ cs rfl rfl (by rw [hcl];rfl) (by rw [hcl];kernel_rfl) hc1 ?_) | (refine wpList_load_at rfl 57 (.tmp 7) rfl ⟨wr.heap.size,0,none⟩ rfl cs _ HL7.out Tryz.underlying57 rfl (by rw [hcl];kernel_rfl) ?_))
   clear HEL
   refine hcx.mono ?_
   clear hcx
   rintro e w2 ⟨y,rfl,hoy,hry,hby⟩
   obtain ⟨ds,hds⟩:∃ ds,ds=encSnap y:=⟨_,rfl⟩
   have hdl:ds.length=5:=by rw [hds];rfl
   have hd1:∀ u∈ds,u.oneCell'=true:=by rw [hds];intro u hu;simp [encSnap] at hu;rcases hu with rfl | rfl | rfl | rfl | rfl <;> rfl
   rw [← hds]
   have hgs:g<wr.heap.size:=(HOW.out.lt g rfl).2
   have hba:Below wr.heap.size wr (w2.alloc (.cells ds.toArray 57)):=((((Below.refl wr.heap.size wr).alloc (Nat.le_refl _) (.cells cs.toArray 57)).trans (hby.mono (by simp))).alloc (by have:=hby.size;simp at this;omega) _)
   have HOW3:=Lib.hid (own_below HOW.out hba)
   have HB3:=Lib.hid (HB.out.trans (hba.mono (by omega)))
   have HE3:Hid (∀ z∈ys++[y],O (g+1) (w2.alloc (.cells ds.toArray 57)) z):=by
    show ∀ z∈_,_
    intro z hz
    rcases List.mem_append.1 hz with hz | hz
    ·exact hO.below _ _ _ _ (HE.out z hz) hba
    ·rw [List.mem_singleton.1 hz]
     exact hO.below _ _ _ _ (hO.mono _ _ _ _ hoy (by simp;omega)) ((Below.refl w2.heap.size w2).alloc (Nat.le_refl _) _)
   have HPW3:Hid ((ys++[y]).Pairwise D):=by
    show List.Pairwise _ _
    rw [List.pairwise_append]
    exact ⟨HPW.out,by simp,fun a ha b hb=>by rw [List.mem_singleton.1 hb];exact hD _ _ _ _ _ _ (HE.out a ha) hoy (by simp)⟩
   have HEQ3:Hid (EachR r (l.take (k+1)) (ys++[y])):=by show EachR _ _ _;rw [HTK.out];exact HEQ.out.snoc hry
   have HY3:=Lib.hid (show (ys++[y]).length=k+1 by rw [List.length_append,HY.out];rfl)
   have hcell:∀ (j:Nat) (u:Value),ds[j]?=some u→(w2.alloc (.cells ds.toArray 57)).cell? ((⟨w2.heap.size,0,none⟩:Addr).add j)=some u:=fun j u hu=>by
    have:=(Blk.new w2 57 ds.toArray).cell j
    rw [zF,hu] at this
    rw [addr_add0]
    exact this
   have HSZ3:=Lib.hid (show g≤(w2.alloc (.cells ds.toArray 57)).heap.size by have:=hba.size;omega)
   have hds':=Lib.hid hds
   clear hba hoy hry hby HOW HE HEQ HPW HY HB HTK hds
   have hi1:i0.size=ds.length:=by rw [hdl];exact hz1
   obtain ⟨W3,hW3⟩:∃ W,W=w2.alloc (.cells ds.toArray 57):=⟨_,rfl⟩
   rw [← hW3] at HOW3 HB3 HE3 hcell HSZ3
   go_wp2_with (first | (refine wpList_build_one rfl 39 57 (.tmp 20) rfl ds rfl i0 _ Tryz.underlying39 hi0 hz0 hi1 (by omega) (by omega) ?_;rw [← hW3];clear hW3) | (at_builtin;refine wpList_append_fits _ rfl (.tmp 17) (.tmp 21) 39 rfl g 57 i0 5 Tryz.underlying39 hi0 hz1 g k n _ rfl HOW3.out ⟨w2.heap.size,0,none⟩ 1 1 ds rfl (by omega) hcell hd1 (by omega) ?_;intro w4 hown4 hg4;have HO4:=Lib.hid hown4;have HG4:=Lib.hid hg4;clear hown4 hg4))
   go_roundw
   case rel =>
    refine ⟨k+1,ys++[y],by omega,by go_num,rfl,HY3.out,?_,fun z hz=>hO.kept _ _ _ _ _ (HE3.out z hz) HG4.out (by omega),HEQ3.out,HPW3.out,HB3.out.grown HG4.out HSZ3.out (fun q hq=>by simp at hq;omega)⟩
    show World.ownsRow _ _ _ _ _ _ _
    rw [cellsK_append,cellsK_one,← hds'.out]
    exact HO4.out
   case measure=>simp [intOf];omega
  ·have hki:¬ (k:Int)<(n:Int):=by omega
   obtain rfl:k=n:=by omega
   go_wp2_with fail
   go_ret
   obtain rfl:=HGG.out
   refine ⟨⟨some ⟨w.heap.size,0,none⟩,k,k,ys⟩,rfl,⟨HY.out.symm,HOW.out⟩,fun y hy=>hO.mono _ _ _ _ (HE.out y hy) (by omega),?_,HPW.out,HB.out⟩
   have:=HEQ.out
   rw [HN.out,List.take_length] at this
   exact this
theorem Tryz.eachSet_info:(Tryz.prog.info? 42).map (fun i=>(i.zero,i.size,i.bytes))=some (some (.agg #[.string ByteArray.empty,.string ByteArray.empty,.slice none 0 0,.slice none 0 0,.slice none 0 0]),5,104):=by kernel_rfl
set_option maxRecDepth 100000 in
set_option maxHeartbeats 2000000 in
theorem eachSet_any (O:Nat→World→SetR→Prop) (hO:Kept O) (r:SetR→SetR→Prop) (D:SetR→SetR→Prop) (hD:∀ b b' w w' y z,O b w y→O b' w' z→w.heap.size≤b'→D y z) (l:List SetR) (n:Nat) (hnl:n=l.length) (A:Option Addr) (c:Nat) (w:World) (B:Nat) (hB:B≤w.heap.size) (hr:Reads w B 5 A n (cellsK encSet l)) (hn:n≤1000000000000)
  (hC:∀ x∈l,∀ W,Below w.heap.size w W→Calls Tryz.prog 109 #[.agg (encSet x).toArray] W fun e w'=>∃ y,e=.returned (.agg (encSet y).toArray)∧O W.heap.size w' y∧r x y∧Below W.heap.size W w') :
  Calls Tryz.prog 108 #[.slice A n c,.func (.func 109) #[] #[]] w fun e w'=>∃ s:FS SetR,e=.returned s.val∧s.own w' w.heap.size 42 5 encSet∧(∀ y∈s.l,O w.heap.size w' y)∧EachR r l s.l∧s.l.Pairwise D∧Below w.heap.size w w':=by
 obtain ⟨i0,hi0,hz0,hz1,hz2⟩:=info_parts Tryz.eachSet_info
 have HN:=Lib.hid hnl
 have HC:=Lib.hid hC
 have HR:=Lib.hid hr
 obtain ⟨g,hg⟩:∃ g,g=w.heap.size:=⟨_,rfl⟩
 have HGG:=Lib.hid hg
 clear hnl hC hr
 go_enter Tryz.func108,Tryz.ntmps108
 go_wp2_with (refine wpList_make_own w rfl (.const (.int .i64 0)) (.tmp 9) 22 rfl w.heap.size 42 i0 _ 5 Tryz.underlying22 hi0 hz0 hz1 .i64 .i64 (n:Int) n rfl rfl rfl (by rw [hz2];omega) (by unfold maxLen;omega) (Nat.le_refl _) ?_;intro w1 hown1 hg1;have HO1:=Lib.hid hown1;have HB1:=Lib.hid (show Below w.heap.size w w1 from ⟨hg1.os,hg1.tape,hg1.output,hg1.size,fun k hk=>hg1.block k hk (by simp)⟩);clear hown1 hg1)
 rw [← hg] at HO1 HB1 ⊢
 clear hg
 go_loopw [5,13] (fun o j wr=>∃ (k:Nat) (ys:List SetR),k≤n∧j=.int .i64 (k:Int)∧o=.slice (some ⟨g,0,none⟩) k n∧Hid (ys.length=k)∧Hid (wr.ownsRow g 42 5 (.slice (some ⟨g,0,none⟩) k n) k (cellsK encSet ys))∧Hid (∀ y∈ys,O (g+1) wr y)∧Hid (EachR r (l.take k) ys)∧Hid (ys.Pairwise D)∧Hid (Below g w wr)) (fun _ j _=>n-(intOf j).toNat)
 case atStart=>exact ⟨0,[],Nat.zero_le _,rfl,rfl,rfl,HO1.out,fun y hy=>absurd hy (by simp),by rw [List.take_zero];exact EachR.nil,List.Pairwise.nil,HB1.out⟩
 case round =>
  clear HO1 HB1
  obtain ⟨k,ys,hk,rfl,rfl,HY,HOW,HE,HEQ,HPW,HB⟩:=hrel
  by_cases hlt:k<n
  ·obtain ⟨ad,rfl,hadB,hel⟩:=Reads.elAll (enc:=encSet) (k:=5) (fun _=>rfl) (HR.out.below (HB.out.mono (by have:=HGG.out;omega))) HN.out hlt
   have hkl:k<l.length:=by have:=HN.out;omega
   have hcx:=HC.out _ (List.getElem_mem hkl)
   have HTK:=Lib.hid (show l.take (k+1)=l.take k++[l[k]'hkl] from by rw [List.take_add_one,List.getElem?_eq_getElem hkl];rfl)
   have hki:(k:Int)<(n:Int):=by omega
   obtain ⟨x,hx⟩:∃ x,x=l[k]'hkl:=⟨_,rfl⟩
   rw [← hx] at hel hcx HTK
   obtain ⟨cs,hcs⟩:∃ cs,cs=encSet x:=⟨_,rfl⟩
   have hcl:cs.length=5:=by rw [hcs];rfl
   have hc1:∀ u∈cs,u.oneCell'=true:=by rw [hcs];intro u hu;simp [encSet] at hu;rcases hu with rfl | rfl | rfl | rfl | rfl <;> rfl
   rw [← hcs] at hel hcx
   have HEL:=Lib.hid hel
   have hSB:Below w.heap.size w (wr.alloc (.cells cs.toArray 42)):=by rw [← HGG.out];exact HB.out.alloc (by have:=HB.out.size;have:=HGG.out;omega) _
   have hcx:=hcx _ hSB
   have hOW2:=own_below HOW.out ((Below.refl wr.heap.size wr).alloc (Nat.le_refl _) (.cells cs.toArray 42))
   have HL7:Hid (∀ j v,cs[j]?=some v→(wr.alloc (.cells cs.toArray 42)).cell? ((⟨wr.heap.size,0,none⟩:Addr).add j)=some v):=by
    show ∀ j v,_→_
    intro j v hv
    have:=(Blk.new wr 42 cs.toArray).cell j
    rw [zF,hv] at this
    rw [addr_add0]
    exact this
   clear hel hadB HR HC hcs hx
   go_wp2_with (first | (refine wpList_load_at rfl 42 (.tmp 15) rfl (ad.add (k*5)) rfl cs _ HEL.out Tryz.underlying42 rfl (by rw [hcl];kernel_rfl) ?_) | (refine wpList_store_new wr rfl 42 (.tmp 7) (.tmp 16) rfl 42 _ cs rfl rfl (by rw [hcl];rfl) (by rw [hcl];kernel_rfl) hc1 ?_) | (refine wpList_load_at rfl 42 (.tmp 7) rfl ⟨wr.heap.size,0,none⟩ rfl cs _ HL7.out Tryz.underlying42 rfl (by rw [hcl];kernel_rfl) ?_))
   clear HEL
   refine hcx.mono ?_
   clear hcx
   rintro e w2 ⟨y,rfl,hoy,hry,hby⟩
   obtain ⟨ds,hds⟩:∃ ds,ds=encSet y:=⟨_,rfl⟩
   have hdl:ds.length=5:=by rw [hds];rfl
   have hd1:∀ u∈ds,u.oneCell'=true:=by rw [hds];intro u hu;simp [encSet] at hu;rcases hu with rfl | rfl | rfl | rfl | rfl <;> rfl
   rw [← hds]
   have hgs:g<wr.heap.size:=(HOW.out.lt g rfl).2
   have hba:Below wr.heap.size wr (w2.alloc (.cells ds.toArray 42)):=((((Below.refl wr.heap.size wr).alloc (Nat.le_refl _) (.cells cs.toArray 42)).trans (hby.mono (by simp))).alloc (by have:=hby.size;simp at this;omega) _)
   have HOW3:=Lib.hid (own_below HOW.out hba)
   have HB3:=Lib.hid (HB.out.trans (hba.mono (by omega)))
   have HE3:Hid (∀ z∈ys++[y],O (g+1) (w2.alloc (.cells ds.toArray 42)) z):=by
    show ∀ z∈_,_
    intro z hz
    rcases List.mem_append.1 hz with hz | hz
    ·exact hO.below _ _ _ _ (HE.out z hz) hba
    ·rw [List.mem_singleton.1 hz]
     exact hO.below _ _ _ _ (hO.mono _ _ _ _ hoy (by simp;omega)) ((Below.refl w2.heap.size w2).alloc (Nat.le_refl _) _)
   have HPW3:Hid ((ys++[y]).Pairwise D):=by
    show List.Pairwise _ _
    rw [List.pairwise_append]
    exact ⟨HPW.out,by simp,fun a ha b hb=>by rw [List.mem_singleton.1 hb];exact hD _ _ _ _ _ _ (HE.out a ha) hoy (by simp)⟩
   have HEQ3:Hid (EachR r (l.take (k+1)) (ys++[y])):=by show EachR _ _ _;rw [HTK.out];exact HEQ.out.snoc hry
   have HY3:=Lib.hid (show (ys++[y]).length=k+1 by rw [List.length_append,HY.out];rfl)
   have hcell:∀ (j:Nat) (u:Value),ds[j]?=some u→(w2.alloc (.cells ds.toArray 42)).cell? ((⟨w2.heap.size,0,none⟩:Addr).add j)=some u:=fun j u hu=>by
    have:=(Blk.new w2 42 ds.toArray).cell j
    rw [zF,hu] at this
    rw [addr_add0]
    exact this
   have HSZ3:=Lib.hid (show g≤(w2.alloc (.cells ds.toArray 42)).heap.size by have:=hba.size;omega)
   have hds':=Lib.hid hds
   clear hba hoy hry hby HOW HE HEQ HPW HY HB HTK hds
   have hi1:i0.size=ds.length:=by rw [hdl];exact hz1
   obtain ⟨W3,hW3⟩:∃ W,W=w2.alloc (.cells ds.toArray 42):=⟨_,rfl⟩
   rw [← hW3] at HOW3 HB3 HE3 hcell HSZ3
   go_wp2_with (first | (refine wpList_build_one rfl 22 42 (.tmp 20) rfl ds rfl i0 _ Tryz.underlying22 hi0 hz0 hi1 (by omega) (by omega) ?_;rw [← hW3];clear hW3) | (at_builtin;refine wpList_append_fits _ rfl (.tmp 17) (.tmp 21) 22 rfl g 42 i0 5 Tryz.underlying22 hi0 hz1 g k n _ rfl HOW3.out ⟨w2.heap.size,0,none⟩ 1 1 ds rfl (by omega) hcell hd1 (by omega) ?_;intro w4 hown4 hg4;have HO4:=Lib.hid hown4;have HG4:=Lib.hid hg4;clear hown4 hg4))
   go_roundw
   case rel =>
    refine ⟨k+1,ys++[y],by omega,by go_num,rfl,HY3.out,?_,fun z hz=>hO.kept _ _ _ _ _ (HE3.out z hz) HG4.out (by omega),HEQ3.out,HPW3.out,HB3.out.grown HG4.out HSZ3.out (fun q hq=>by simp at hq;omega)⟩
    show World.ownsRow _ _ _ _ _ _ _
    rw [cellsK_append,cellsK_one,← hds'.out]
    exact HO4.out
   case measure=>simp [intOf];omega
  ·have hki:¬ (k:Int)<(n:Int):=by omega
   obtain rfl:k=n:=by omega
   go_wp2_with fail
   go_ret
   obtain rfl:=HGG.out
   refine ⟨⟨some ⟨w.heap.size,0,none⟩,k,k,ys⟩,rfl,⟨HY.out.symm,HOW.out⟩,fun y hy=>hO.mono _ _ _ _ (HE.out y hy) (by omega),?_,HPW.out,HB.out⟩
   have:=HEQ.out
   rw [HN.out,List.take_length] at this
   exact this
theorem Tryz.eachStage_info:(Tryz.prog.info? 103).map (fun i=>(i.zero,i.size,i.bytes))=some (some (.agg #[.string ByteArray.empty,.int .i64 0,.string ByteArray.empty,.int .i64 0,.int .i64 0,.slice none 0 0,.int .i64 0,.int .i64 0,.string ByteArray.empty,.int .u64 0,.int .u64 0,.int .u64 0,.int .u64 0,.slice none 0 0,.int .i64 0,.int .i64 0,.int .u64 0,.int .u64 0,.int .u64 0,.int .u64 0,.bool false]),21,224):=by kernel_rfl
set_option maxRecDepth 100000 in
set_option maxHeartbeats 2000000 in
theorem eachStage_any (O:Nat→World→StageR→Prop) (hO:Kept O) (r:StageR→StageR→Prop) (l:List StageR) (n:Nat) (hnl:n=l.length) (A:Option Addr) (c:Nat) (w:World) (B:Nat) (hB:B≤w.heap.size) (hr:Reads w B 21 A n (cellsK encStage l)) (hn:n≤1000000000000)
  (hC:∀ x∈l,∀ W,Below w.heap.size w W→Calls Tryz.prog 112 #[.agg (encStage x).toArray] W fun e w'=>∃ y,e=.returned (.agg (encStage y).toArray)∧O W.heap.size w' y∧r x y∧Below W.heap.size W w') :
  Calls Tryz.prog 111 #[.slice A n c,.func (.func 112) #[] #[]] w fun e w'=>∃ s:FS StageR,e=.returned s.val∧s.own w' w.heap.size 103 21 encStage∧(∀ y∈s.l,O w.heap.size w' y)∧EachR r l s.l∧Below w.heap.size w w':=by
 obtain ⟨i0,hi0,hz0,hz1,hz2⟩:=info_parts Tryz.eachStage_info
 have HN:=Lib.hid hnl
 have HC:=Lib.hid hC
 have HR:=Lib.hid hr
 obtain ⟨g,hg⟩:∃ g,g=w.heap.size:=⟨_,rfl⟩
 have HGG:=Lib.hid hg
 clear hnl hC hr
 go_enter Tryz.func111,Tryz.ntmps111
 go_wp2_with (refine wpList_make_own w rfl (.const (.int .i64 0)) (.tmp 9) 24 rfl w.heap.size 103 i0 _ 21 Tryz.underlying24 hi0 hz0 hz1 .i64 .i64 (n:Int) n rfl rfl rfl (by rw [hz2];omega) (by unfold maxLen;omega) (Nat.le_refl _) ?_;intro w1 hown1 hg1;have HO1:=Lib.hid hown1;have HB1:=Lib.hid (show Below w.heap.size w w1 from ⟨hg1.os,hg1.tape,hg1.output,hg1.size,fun k hk=>hg1.block k hk (by simp)⟩);clear hown1 hg1)
 rw [← hg] at HO1 HB1 ⊢
 clear hg
 go_loopw [5,13] (fun o j wr=>∃ (k:Nat) (ys:List StageR),k≤n∧j=.int .i64 (k:Int)∧o=.slice (some ⟨g,0,none⟩) k n∧Hid (ys.length=k)∧Hid (wr.ownsRow g 103 21 (.slice (some ⟨g,0,none⟩) k n) k (cellsK encStage ys))∧Hid (∀ y∈ys,O (g+1) wr y)∧Hid (EachR r (l.take k) ys)∧Hid (Below g w wr)) (fun _ j _=>n-(intOf j).toNat)
 case atStart=>exact ⟨0,[],Nat.zero_le _,rfl,rfl,rfl,HO1.out,fun y hy=>absurd hy (by simp),by rw [List.take_zero];exact EachR.nil,HB1.out⟩
 case round =>
  clear HO1 HB1
  obtain ⟨k,ys,hk,rfl,rfl,HY,HOW,HE,HEQ,HB⟩:=hrel
  by_cases hlt:k<n
  ·obtain ⟨ad,rfl,hadB,hel⟩:=Reads.elAll (enc:=encStage) (k:=21) (fun _=>rfl) (HR.out.below (HB.out.mono (by have:=HGG.out;omega))) HN.out hlt
   have hkl:k<l.length:=by have:=HN.out;omega
   have hcx:=HC.out _ (List.getElem_mem hkl)
   have HTK:=Lib.hid (show l.take (k+1)=l.take k++[l[k]'hkl] from by rw [List.take_add_one,List.getElem?_eq_getElem hkl];rfl)
   have hki:(k:Int)<(n:Int):=by omega
   obtain ⟨x,hx⟩:∃ x,x=l[k]'hkl:=⟨_,rfl⟩
   rw [← hx] at hel hcx HTK
   obtain ⟨cs,hcs⟩:∃ cs,cs=encStage x:=⟨_,rfl⟩
   have hcl:cs.length=21:=by rw [hcs];rfl
   have hc1:∀ u∈cs,u.oneCell'=true:=by rw [hcs];intro u hu;simp [encStage,smV] at hu;rcases hu with rfl | rfl | rfl | rfl | rfl | rfl | rfl | rfl | rfl | rfl | rfl | rfl | rfl | rfl | rfl | rfl | rfl | rfl | rfl | rfl | rfl <;> rfl
   rw [← hcs] at hel hcx
   have HEL:=Lib.hid hel
   have hSB:Below w.heap.size w (wr.alloc (.cells cs.toArray 103)):=by rw [← HGG.out];exact HB.out.alloc (by have:=HB.out.size;have:=HGG.out;omega) _
   have hcx:=hcx _ hSB
   have hOW2:=own_below HOW.out ((Below.refl wr.heap.size wr).alloc (Nat.le_refl _) (.cells cs.toArray 103))
   have HL7:Hid (∀ j v,cs[j]?=some v→(wr.alloc (.cells cs.toArray 103)).cell? ((⟨wr.heap.size,0,none⟩:Addr).add j)=some v):=by
    show ∀ j v,_→_
    intro j v hv
    have:=(Blk.new wr 103 cs.toArray).cell j
    rw [zF,hv] at this
    rw [addr_add0]
    exact this
   clear hel hadB HR HC hcs hx
   go_wp2_with (first | (refine wpList_load_at rfl 103 (.tmp 15) rfl (ad.add (k*21)) rfl cs _ HEL.out Tryz.underlying103 rfl (by rw [hcl];kernel_rfl) ?_) | (refine wpList_store_new wr rfl 103 (.tmp 7) (.tmp 16) rfl 103 _ cs rfl rfl (by rw [hcl];rfl) (by rw [hcl];kernel_rfl) hc1 ?_) | (refine wpList_load_at rfl 103 (.tmp 7) rfl ⟨wr.heap.size,0,none⟩ rfl cs _ HL7.out Tryz.underlying103 rfl (by rw [hcl];kernel_rfl) ?_))
   clear HEL
   refine hcx.mono ?_
   clear hcx
   rintro e w2 ⟨y,rfl,hoy,hry,hby⟩
   obtain ⟨ds,hds⟩:∃ ds,ds=encStage y:=⟨_,rfl⟩
   have hdl:ds.length=21:=by rw [hds];rfl
   have hd1:∀ u∈ds,u.oneCell'=true:=by rw [hds];intro u hu;simp [encStage,smV] at hu;rcases hu with rfl | rfl | rfl | rfl | rfl | rfl | rfl | rfl | rfl | rfl | rfl | rfl | rfl | rfl | rfl | rfl | rfl | rfl | rfl | rfl | rfl <;> rfl
   rw [← hds]
   have hgs:g<wr.heap.size:=(HOW.out.lt g rfl).2
   have hba:Below wr.heap.size wr (w2.alloc (.cells ds.toArray 103)):=((((Below.refl wr.heap.size wr).alloc (Nat.le_refl _) (.cells cs.toArray 103)).trans (hby.mono (by simp))).alloc (by have:=hby.size;simp at this;omega) _)
   have HOW3:=Lib.hid (own_below HOW.out hba)
   have HB3:=Lib.hid (HB.out.trans (hba.mono (by omega)))
   have HE3:Hid (∀ z∈ys++[y],O (g+1) (w2.alloc (.cells ds.toArray 103)) z):=by
    show ∀ z∈_,_
    intro z hz
    rcases List.mem_append.1 hz with hz | hz
    ·exact hO.below _ _ _ _ (HE.out z hz) hba
    ·rw [List.mem_singleton.1 hz]
     exact hO.below _ _ _ _ (hO.mono _ _ _ _ hoy (by simp;omega)) ((Below.refl w2.heap.size w2).alloc (Nat.le_refl _) _)
   have HEQ3:Hid (EachR r (l.take (k+1)) (ys++[y])):=by show EachR _ _ _;rw [HTK.out];exact HEQ.out.snoc hry
   have HY3:=Lib.hid (show (ys++[y]).length=k+1 by rw [List.length_append,HY.out];rfl)
   have hcell:∀ (j:Nat) (u:Value),ds[j]?=some u→(w2.alloc (.cells ds.toArray 103)).cell? ((⟨w2.heap.size,0,none⟩:Addr).add j)=some u:=fun j u hu=>by
    have:=(Blk.new w2 103 ds.toArray).cell j
    rw [zF,hu] at this
    rw [addr_add0]
    exact this
   have HSZ3:=Lib.hid (show g≤(w2.alloc (.cells ds.toArray 103)).heap.size by have:=hba.size;omega)
   have hds':=Lib.hid hds
   clear hba hoy hry hby HOW HE HEQ HY HB HTK hds
   have hi1:i0.size=ds.length:=by rw [hdl];exact hz1
   obtain ⟨W3,hW3⟩:∃ W,W=w2.alloc (.cells ds.toArray 103):=⟨_,rfl⟩
   rw [← hW3] at HOW3 HB3 HE3 hcell HSZ3
   go_wp2_with (first | (refine wpList_build_one rfl 24 103 (.tmp 20) rfl ds rfl i0 _ Tryz.underlying24 hi0 hz0 hi1 (by omega) (by omega) ?_;rw [← hW3];clear hW3) | (at_builtin;refine wpList_append_fits _ rfl (.tmp 17) (.tmp 21) 24 rfl g 103 i0 21 Tryz.underlying24 hi0 hz1 g k n _ rfl HOW3.out ⟨w2.heap.size,0,none⟩ 1 1 ds rfl (by omega) hcell hd1 (by omega) ?_;intro w4 hown4 hg4;have HO4:=Lib.hid hown4;have HG4:=Lib.hid hg4;clear hown4 hg4))
   go_roundw
   case rel =>
    refine ⟨k+1,ys++[y],by omega,by go_num,rfl,HY3.out,?_,fun z hz=>hO.kept _ _ _ _ _ (HE3.out z hz) HG4.out (by omega),HEQ3.out,HB3.out.grown HG4.out HSZ3.out (fun q hq=>by simp at hq;omega)⟩
    show World.ownsRow _ _ _ _ _ _ _
    rw [cellsK_append,cellsK_one,← hds'.out]
    exact HO4.out
   case measure=>simp [intOf];omega
  ·have hki:¬ (k:Int)<(n:Int):=by omega
   obtain rfl:k=n:=by omega
   go_wp2_with fail
   go_ret
   obtain rfl:=HGG.out
   refine ⟨⟨some ⟨w.heap.size,0,none⟩,k,k,ys⟩,rfl,⟨HY.out.symm,HOW.out⟩,fun y hy=>hO.mono _ _ _ _ (HE.out y hy) (by omega),?_,HB.out⟩
   have:=HEQ.out
   rw [HN.out,List.take_length] at this
   exact this
end Go.Proofs.YtcgclpcocdappaaGreatDoor
namespace Go.Proofs.YtcgclpcocdappaaGreatDoor
open Go.RowKit
theorem own_setCells_below {base size n:Nat} {t:TypeId} {v:Value} {xs:List Value} {g:Nat} (hg:g<base) (cs:List Value):∀ (w:World) (o:Nat),w.ownsRow base t size v n xs→(w.setCells g o cs).ownsRow base t size v n xs:=by
 induction cs with
 | nil=>intro w o h;exact h
 | cons u cs ih=>intro w o h;exact ih _ _ (own_setCell_below (p:=⟨g,o,none⟩) h hg u)
set_option maxRecDepth 100000 in
set_option maxHeartbeats 8000000 in
theorem copySnap_any (nm:BS) (gd:Int) (b1:Option Addr) (bn b3:Nat) (t1:Option Addr) (tn t3:Nat) (o1:Option Addr) (on o3:Nat) (xb xt xo:List Value) (w:World) (B:Nat) (hB:B≤w.heap.size)
  (hb:Reads w B 2 b1 bn xb) (ht:Reads w B 1 t1 tn xt) (ho:Reads w B 2 o1 on xo) (h1:∀ u∈xb,u.oneCell'=true) (h2:∀ u∈xt,u.oneCell'=true) (h3:∀ u∈xo,u.oneCell'=true) (hbn:bn≤1000000000000) (htn:tn≤1000000000000) (hon:on≤1000000000000) :
  Calls Tryz.prog 174 #[.agg #[.string ⟨nm.toArray⟩,.int .i64 gd,.slice b1 bn b3,.slice t1 tn t3,.slice o1 on o3]] w fun e w'=>∃ Ab cb At ct Ao co,e=.returned (.agg #[.string ⟨nm.toArray⟩,.int .i64 gd,.slice Ab bn cb,.slice At tn ct,.slice Ao on co])∧w'.ownsRow w.heap.size 75 2 (.slice Ab bn cb) bn xb∧w'.ownsRow w.heap.size 9 1 (.slice At tn ct) tn xt∧w'.ownsRow w.heap.size 78 2 (.slice Ao on co) on xo∧Below w.heap.size w w':=by
 have hC1:Hid (∀ W,Below w.heap.size w W→Calls Tryz.prog 45 #[.slice b1 bn b3] W fun e w'=>∃ v,e=.returned v∧w'.ownsRow W.heap.size 75 2 v bn xb∧Below W.heap.size W w'):=fun W h=>cloneBl_any xb bn b1 b3 W B (hb.below (h.mono hB)) (by have:=h.size;omega) h1 (by omega)
 have hC2:Hid (∀ W,Below w.heap.size w W→Calls Tryz.prog 99 #[.slice t1 tn t3] W fun e w'=>∃ v,e=.returned v∧w'.ownsRow W.heap.size 9 1 v tn xt∧Below W.heap.size W w'):=fun W h=>cloneSt_any xt tn t1 t3 W B (ht.below (h.mono hB)) (by have:=h.size;omega) h2 (by omega)
 have hC3:Hid (∀ W,Below w.heap.size w W→Calls Tryz.prog 46 #[.slice o1 on o3] W fun e w'=>∃ v,e=.returned v∧w'.ownsRow W.heap.size 78 2 v on xo∧Below W.heap.size W w'):=fun W h=>clonePr_any xo on o1 o3 W B (ho.below (h.mono hB)) (by have:=h.size;omega) h3 (by omega)
 clear hb ht ho h1 h2 h3
 go_enter Tryz.func174,Tryz.ntmps174
 go_upto_region 1 with (fail)
 have kB:=(Blk.new w 57 #[.string ⟨nm.toArray⟩,.int .i64 gd,.slice b1 bn b3,.slice t1 tn t3,.slice o1 on o3]).alloc (.cells #[.string ⟨#[]⟩,.int .i64 0,.slice none 0 0,.slice none 0 0,.slice none 0 0] 57)
 have kZ:=Blk.new (w.alloc (.cells #[.string ⟨nm.toArray⟩,.int .i64 gd,.slice b1 bn b3,.slice t1 tn t3,.slice o1 on o3] 57)) 57 #[.string ⟨#[]⟩,.int .i64 0,.slice none 0 0,.slice none 0 0,.slice none 0 0]
 rw [show (w.alloc (.cells #[.string ⟨nm.toArray⟩,.int .i64 gd,.slice b1 bn b3,.slice t1 tn t3,.slice o1 on o3] 57)).heap.size=w.heap.size+1 by simp] at kZ
 have hb2:=((Below.refl w.heap.size w).alloc (Nat.le_refl _) (.cells #[.string ⟨nm.toArray⟩,.int .i64 gd,.slice b1 bn b3,.slice t1 tn t3,.slice o1 on o3] 57)).alloc (by simp) (.cells #[.string ⟨#[]⟩,.int .i64 0,.slice none 0 0,.slice none 0 0,.slice none 0 0] 57)
 obtain ⟨W2,hW2⟩:∃ W,W=(w.alloc (.cells #[.string ⟨nm.toArray⟩,.int .i64 gd,.slice b1 bn b3,.slice t1 tn t3,.slice o1 on o3] 57)).alloc (.cells #[.string ⟨#[]⟩,.int .i64 0,.slice none 0 0,.slice none 0 0,.slice none 0 0] 57):=⟨_,rfl⟩
 have hsz:W2.heap.size=w.heap.size+2:=by rw [hW2];simp
 rw [← hW2] at kB kZ hb2 ⊢
 have K:=Lib.hid kB.drew
 have K2:=Lib.hid kZ.drew
 have HB:=Lib.hid hb2.drew
 have HZ:=Lib.hid (show w.heap.size+2≤W2.drew.heap.size by show _≤W2.heap.size;omega)
 have c0:=kB.cell 0
 have c1:=kB.cell 1
 have c2:=kB.cell 2
 have c3:=kB.cell 3
 have c4:=kB.cell 4
 simp only [zF,zD,zE] at c0 c1 c2 c3 c4
 clear hW2 kB kZ hb2 hsz
 go_cut [1,2] from 0 to 14 (fun s1 s2 wx=>s1=.pointer (some ⟨w.heap.size,0,none⟩)∧s2=.pointer (some ⟨w.heap.size+1,0,none⟩)∧∃ Ab cb At ct Ao co,Blk wx w.heap.size 57 #[.string ⟨nm.toArray⟩,.int .i64 gd,.slice Ab bn cb,.slice At tn ct,.slice Ao on co]∧Blk wx (w.heap.size+1) 57 #[.string ⟨#[]⟩,.int .i64 0,.slice none 0 0,.slice none 0 0,.slice none 0 0]∧wx.ownsRow (w.heap.size+2) 75 2 (.slice Ab bn cb) bn xb∧wx.ownsRow (w.heap.size+2) 9 1 (.slice At tn ct) tn xt∧wx.ownsRow (w.heap.size+2) 78 2 (.slice Ao on co) on xo∧Below w.heap.size w wx)
 case first =>
  go_region_law (first | (go_simp;with_reducible refine (hC1.out _ HB.out).mono ?_;rintro e w2 ⟨v,rfl,ho,hb⟩;obtain ⟨Ab,cb,rfl,_,_,_⟩:=own_form ho;have HOb:=Lib.hid (own_mono ho HZ.out);(try have HOt:=Lib.hid (own_below HOt.out hb));(try have HOo:=Lib.hid (own_below HOo.out hb));have HZ:=Lib.hid (Nat.le_trans HZ.out hb.size);have HB:=Lib.hid (HB.out.trans (hb.mono HB.out.size));have K2:=Lib.hid (K2.out.below hb K2.out.lt);have K:=Lib.hid (K.out.below hb K.out.lt);obtain ⟨c0,c1,c2,c3,c4⟩:=(⟨K.out.cell 0,K.out.cell 1,K.out.cell 2,K.out.cell 3,K.out.cell 4⟩:_∧_∧_∧_∧_);simp only [zF,zD,zE] at c0 c1 c2 c3 c4;have f2:=K.out.frozen 2;have f3:=K.out.frozen 3;have f4:=K.out.frozen 4;clear ho hb) | (go_simp;with_reducible refine (hC2.out _ HB.out).mono ?_;rintro e w2 ⟨v,rfl,ho,hb⟩;obtain ⟨At,ct,rfl,_,_,_⟩:=own_form ho;have HOt:=Lib.hid (own_mono ho HZ.out);(try have HOb:=Lib.hid (own_below HOb.out hb));(try have HOo:=Lib.hid (own_below HOo.out hb));have HZ:=Lib.hid (Nat.le_trans HZ.out hb.size);have HB:=Lib.hid (HB.out.trans (hb.mono HB.out.size));have K2:=Lib.hid (K2.out.below hb K2.out.lt);have K:=Lib.hid (K.out.below hb K.out.lt);obtain ⟨c0,c1,c2,c3,c4⟩:=(⟨K.out.cell 0,K.out.cell 1,K.out.cell 2,K.out.cell 3,K.out.cell 4⟩:_∧_∧_∧_∧_);simp only [zF,zD,zE] at c0 c1 c2 c3 c4;have f2:=K.out.frozen 2;have f3:=K.out.frozen 3;have f4:=K.out.frozen 4;clear ho hb) | (go_simp;with_reducible refine (hC3.out _ HB.out).mono ?_;rintro e w2 ⟨v,rfl,ho,hb⟩;obtain ⟨Ao,co,rfl,_,_,_⟩:=own_form ho;have HOo:=Lib.hid (own_mono ho HZ.out);(try have HOb:=Lib.hid (own_below HOb.out hb));(try have HOt:=Lib.hid (own_below HOt.out hb));have HZ:=Lib.hid (Nat.le_trans HZ.out hb.size);have HB:=Lib.hid (HB.out.trans (hb.mono HB.out.size));have K2:=Lib.hid (K2.out.below hb K2.out.lt);have K:=Lib.hid (K.out.below hb K.out.lt);obtain ⟨c0,c1,c2,c3,c4⟩:=(⟨K.out.cell 0,K.out.cell 1,K.out.cell 2,K.out.cell 3,K.out.cell 4⟩:_∧_∧_∧_∧_);simp only [zF,zD,zE] at c0 c1 c2 c3 c4;have f2:=K.out.frozen 2;have f3:=K.out.frozen 3;have f4:=K.out.frozen 4;clear ho hb))
  all_goals
   have k3:=((K.out.set_ 2 (.slice Ab bn cb)).set_ 3 (.slice At tn ct)).set_ 4 (.slice Ao on co)
   have kz:=((K2.out.far (p:=⟨w.heap.size,2,none⟩) (by simp) (.slice Ab bn cb)).far (p:=⟨w.heap.size,3,none⟩) (by simp) (.slice At tn ct)).far (p:=⟨w.heap.size,4,none⟩) (by simp) (.slice Ao on co)
   have q1:=own_setCell_below (p:=⟨w.heap.size,4,none⟩) (own_setCell_below (p:=⟨w.heap.size,3,none⟩) (own_setCell_below (p:=⟨w.heap.size,2,none⟩) HOb.out (by show w.heap.size<_;omega) (.slice Ab bn cb)) (by show w.heap.size<_;omega) (.slice At tn ct)) (by show w.heap.size<_;omega) (.slice Ao on co)
   have q2:=own_setCell_below (p:=⟨w.heap.size,4,none⟩) (own_setCell_below (p:=⟨w.heap.size,3,none⟩) (own_setCell_below (p:=⟨w.heap.size,2,none⟩) HOt.out (by show w.heap.size<_;omega) (.slice Ab bn cb)) (by show w.heap.size<_;omega) (.slice At tn ct)) (by show w.heap.size<_;omega) (.slice Ao on co)
   have q3:=own_setCell_below (p:=⟨w.heap.size,4,none⟩) (own_setCell_below (p:=⟨w.heap.size,3,none⟩) (own_setCell_below (p:=⟨w.heap.size,2,none⟩) HOo.out (by show w.heap.size<_;omega) (.slice Ab bn cb)) (by show w.heap.size<_;omega) (.slice At tn ct)) (by show w.heap.size<_;omega) (.slice Ao on co)
   have hbw:=((HB.out.setCell (p:=⟨w.heap.size,2,none⟩) (Nat.le_refl _) (.slice Ab bn cb)).setCell (p:=⟨w.heap.size,3,none⟩) (Nat.le_refl _) (.slice At tn ct)).setCell (p:=⟨w.heap.size,4,none⟩) (Nat.le_refl _) (.slice Ao on co)
   have HH:=Lib.hid (show _∧_∧_∧_∧_∧_ from ⟨k3,kz,q1,q2,q3,hbw⟩)
   clear k3 kz q1 q2 q3 hbw c0 c1 c2 c3 c4 f2 f3 f4
   go_wp2_with fail
   go_meet
   exact ⟨rfl,rfl,Ab,cb,At,ct,Ao,co,HH.out.1,HH.out.2.1,HH.out.2.2.1,HH.out.2.2.2.1,HH.out.2.2.2.2.1,HH.out.2.2.2.2.2⟩
 case rest =>
 obtain ⟨rfl,rfl,Ab,cb,At,ct,Ao,co,k3,kz,q1,q2,q3,hbw⟩:=hcut
 clear K K2 HB HZ hC1 hC2 hC3 c0 c1 c2 c3 c4
 obtain ⟨c0,c1,c2,c3,c4⟩:=(⟨k3.cell 0,k3.cell 1,k3.cell 2,k3.cell 3,k3.cell 4⟩:_∧_∧_∧_∧_)
 simp at c0 c1 c2 c3 c4
 have hth:=Lib.hid (kz.there 5 (by decide))
 have k4:=Blk.setCells (g:=w.heap.size+1) [.string ⟨nm.toArray⟩,.int .i64 gd,.slice Ab bn cb,.slice At tn ct,.slice Ao on co] wc [] [.string ⟨#[]⟩,.int .i64 0,.slice none 0 0,.slice none 0 0,.slice none 0 0] rfl kz
 simp only [List.length_nil,List.nil_append] at k4
 have q1:=Lib.hid (own_setCells_below (g:=w.heap.size+1) (by omega) [.string ⟨nm.toArray⟩,.int .i64 gd,.slice Ab bn cb,.slice At tn ct,.slice Ao on co] wc 0 q1)
 have q2:=Lib.hid (own_setCells_below (g:=w.heap.size+1) (by omega) [.string ⟨nm.toArray⟩,.int .i64 gd,.slice Ab bn cb,.slice At tn ct,.slice Ao on co] wc 0 q2)
 have q3:=Lib.hid (own_setCells_below (g:=w.heap.size+1) (by omega) [.string ⟨nm.toArray⟩,.int .i64 gd,.slice Ab bn cb,.slice At tn ct,.slice Ao on co] wc 0 q3)
 have hbw:=Lib.hid (below_setCells (g:=w.heap.size+1) (by omega) [.string ⟨nm.toArray⟩,.int .i64 gd,.slice Ab bn cb,.slice At tn ct,.slice Ao on co] wc 0 hbw)
 obtain ⟨W4,hW4⟩:∃ W,W=wc.setCells (w.heap.size+1) 0 (#[.string ⟨nm.toArray⟩,.int .i64 gd,.slice Ab bn cb,.slice At tn ct,.slice Ao on co]:Array Value).toList:=⟨_,rfl⟩
 rw [show ([.string ⟨nm.toArray⟩,.int .i64 gd,.slice Ab bn cb,.slice At tn ct,.slice Ao on co]:List Value)=(#[.string ⟨nm.toArray⟩,.int .i64 gd,.slice Ab bn cb,.slice At tn ct,.slice Ao on co]:Array Value).toList from rfl,← hW4] at k4 q1 q2 q3 hbw
 obtain ⟨d0,d1,d2,d3,d4⟩:=(⟨k4.cell 0,k4.cell 1,k4.cell 2,k4.cell 3,k4.cell 4⟩:_∧_∧_∧_∧_)
 simp at d0 d1 d2 d3 d4
 have HD:=Lib.hid (show _∧_∧_∧_∧_ from ⟨d0,d1,d2,d3,d4⟩)
 clear k3 kz k4 d0 d1 d2 d3 d4
 go_wp2_with (refine wpList_store_mid rfl 57 (.tmp 2) (.tmp 15) rfl (w.heap.size+1) 0 #[.string ⟨nm.toArray⟩,.int .i64 gd,.slice Ab bn cb,.slice At tn ct,.slice Ao on co] rfl rfl hth.out (by kernel_rfl) (by simp [Value.oneCell']) ?_;rw [← hW4];clear hW4)
 obtain ⟨d0,d1,d2,d3,d4⟩:=HD.out
 refine bodyPost_ret (v:=.agg #[.string ⟨nm.toArray⟩,.int .i64 gd,.slice Ab bn cb,.slice At tn ct,.slice Ao on co]) (by simp [results,Tryz.results174,go_sem,d0,d1,d2,d3,d4]) rfl ⟨Ab,cb,At,ct,Ao,co,rfl,own_mono q1.out (by omega),own_mono q2.out (by omega),own_mono q3.out (by omega),hbw.out⟩
end Go.Proofs.YtcgclpcocdappaaGreatDoor
