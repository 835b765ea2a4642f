/-
  tree.each at snapshots, sets and stages, over any contract of what copies one. A tenant's rows that are written over, in themselves: what can be read of them stays good. Tenants by content alone: what they read, wherever they lie. Tenants: sizes hang on the content; what may be read below a bound may be read below a higher one.
-/
import Derived.Test.YtcgclpcocdappaaGreatDoorXM1
import Derived.Test.YtcgclpcocdappaaGreatDoorX0
import Derived.Test.YtcgclpcocdappaaGreatDoorX21
import Derived.Test.YtcgclpcocdappaaGreatDoorX3
import Derived.Test.YtcgclpcocdappaaGreatDoorX5
namespace Go.Proofs.YtcgclpcocdappaaGreatDoor
open Go.RowKit
/-- what a copy is: it stands under all that is done elsewhere -/
structure Kept {α:Type} (O:Nat→World→α→Prop):Prop where
 below:∀ b w w' y,O b w y→Below w.heap.size w w'→O b w' y
 kept:∀ b w w' y g,O b w y→w.grownBy w' (some g)→g<b→O b w' y
 mono:∀ b b' w y,O b w y→b'≤b→O b' w y
theorem Tryz.eachSnap_info:(Tryz.prog.info? 57).map (fun i=>(i.zero,i.size,i.bytes))=some (some (.agg #[.string ByteArray.empty,.int .i64 0,.slice none 0 0,.slice none 0 0,.slice none 0 0]),5,96):=tZ2
set_option maxRecDepth 100000 in
set_option maxHeartbeats 2000000 in
theorem eachSnap_any (O:Nat→World→SnapR→Prop) (hO:Kept O) (r:SnapR→SnapR→Prop) (D:SnapR→SnapR→Prop) (hD:∀ b b' w w' y z,O b w y→O b' w' z→w.heap.size≤b'→D y z) (l:List SnapR) (n:Nat) (hnl:n=l.length) (A:Option Addr) (c:Nat) (w:World) (B:Nat) (hB:B≤w.heap.size) (hr:Reads w B 5 A n (cellsK encSnap l)) (hn:n≤1000000000000)
  (hC:∀ x∈l,∀ W,Below w.heap.size w W→Calls Tryz.prog 174 #[.agg (encSnap x).toArray] W fun e w'=>∃ y,e=.returned (.agg (encSnap y).toArray)∧O W.heap.size w' y∧r x y∧Below W.heap.size W w') :
  Calls Tryz.prog 173 #[.slice A n c,.func (.func 174) #[] #[]] w fun e w'=>∃ s:FS SnapR,e=.returned s.val∧s.own w' w.heap.size 57 5 encSnap∧(∀ y∈s.l,O w.heap.size w' y)∧EachR r l s.l∧s.l.Pairwise D∧Below w.heap.size w w':=by
 obtain ⟨i0,hi0,hz0,hz1,hz2⟩:=info_parts Tryz.eachSnap_info
 have HN:=Lib.hid hnl
 have HC:=Lib.hid hC
 have HR:=Lib.hid hr
 obtain ⟨g,hg⟩:∃ g,g=w.heap.size:=⟨_,rfl⟩
 have HGG:=Lib.hid hg
 clear hnl hC hr
 go_enter Tryz.func173,Tryz.ntmps173
 go_wp2_with (refine wpList_make_own w rfl (.const (.int .i64 0)) (.tmp 9) 39 rfl w.heap.size 57 i0 _ 5 Tryz.underlying39 hi0 hz0 hz1 .i64 .i64 (n:Int) n rfl rfl rfl (by rw [hz2];omega) tZ9 (Nat.le_refl _) ?_;intro w1 hown1 hg1;have HO1:=Lib.hid hown1;have HB1:=Lib.hid (show Below w.heap.size w w1 from ⟨hg1.os,hg1.tape,hg1.output,hg1.size,fun k hk=>hg1.block k hk tZ3⟩);clear hown1 hg1)
 rw [← hg] at HO1 HB1 ⊢
 clear hg
 go_loopw [5,13] (fun o j wr=>∃ (k:Nat) (ys:List SnapR),k≤n∧j=.int .i64 (k:Int)∧o=.slice (some ⟨g,0,none⟩) k n∧Hid (ys.length=k)∧Hid (wr.ownsRow g 57 5 (.slice (some ⟨g,0,none⟩) k n) k (cellsK encSnap ys))∧Hid (∀ y∈ys,O (g+1) wr y)∧Hid (EachR r (l.take k) ys)∧Hid (ys.Pairwise D)∧Hid (Below g w wr)) (fun _ j _=>n-(intOf j).toNat)
 case atStart=>exact ⟨0,[],Nat.zero_le _,rfl,rfl,rfl,HO1.out,fun y hy=>absurd hy tZ3,by rw [List.take_zero];exact EachR.nil,List.Pairwise.nil,HB1.out⟩
 case round =>
  clear HO1 HB1
  obtain ⟨k,ys,hk,rfl,rfl,HY,HOW,HE,HEQ,HPW,HB⟩:=hrel
  by_cases hlt:k<n
  ·obtain ⟨ad,rfl,hadB,hel⟩:=Reads.elAll (enc:=encSnap) (k:=5) (fun _=>rfl) (HR.out.below (HB.out.mono tZ168)) HN.out hlt
   have hkl:k<l.length:=tZ7
   have hcx:=HC.out _ (List.getElem_mem hkl)
   have HTK:=Lib.hid (show l.take (k+1)=l.take k++[l[k]'hkl] from by rw [List.take_add_one,List.getElem?_eq_getElem hkl];rfl)
   have hki:(k:Int)<(n:Int):=tZ1
   obtain ⟨x,hx⟩:∃ x,x=l[k]'hkl:=⟨_,rfl⟩
   rw [← hx] at hel hcx HTK
   obtain ⟨cs,hcs⟩:∃ cs,cs=encSnap x:=⟨_,rfl⟩
   have hcl:cs.length=5:=by rw [hcs];rfl
   have hc1:∀ u∈cs,u.oneCell'=true:=by rw [hcs];intro u hu;simp [encSnap] at hu;rcases hu with rfl | rfl | rfl | rfl | rfl <;> rfl
   rw [← hcs] at hel hcx
   have HEL:=Lib.hid hel
   have hSB:Below w.heap.size w (wr.alloc (.cells cs.toArray 57)):=by rw [← HGG.out];exact HB.out.alloc tZ100 _
   have hcx:=hcx _ hSB
   have hOW2:=own_below HOW.out ((Below.refl wr.heap.size wr).alloc (Nat.le_refl _) (.cells cs.toArray 57))
   have HL7:Hid (∀ j v,cs[j]?=some v→(wr.alloc (.cells cs.toArray 57)).cell? ((⟨wr.heap.size,0,none⟩:Addr).add j)=some v):=by
    show ∀ j v,_→_
    intro j v hv
    have:=(Blk.new wr 57 cs.toArray).cell j
    exact mZ202
   clear hel hadB HR HC hcs hx
   go_wp2_with (first | (refine wpList_load_at rfl 57 (.tmp 15) rfl (ad.add (k*5)) rfl cs _ HEL.out Tryz.underlying57 rfl tZ62 ?_) | (refine wpList_store_new wr rfl 57 (.tmp 7) (.tmp 16) rfl 57 _ cs rfl rfl (by rw [hcl];rfl) tZ62 hc1 ?_) | (refine wpList_load_at rfl 57 (.tmp 7) rfl ⟨wr.heap.size,0,none⟩ rfl cs _ HL7.out Tryz.underlying57 rfl tZ62 ?_))
   clear HEL
   refine hcx.mono ?_
   clear hcx
   rintro e w2 ⟨y,rfl,hoy,hry,hby⟩
   obtain ⟨ds,hds⟩:∃ ds,ds=encSnap y:=⟨_,rfl⟩
   have hdl:ds.length=5:=by rw [hds];rfl
   have hd1:∀ u∈ds,u.oneCell'=true:=by rw [hds];intro u hu;simp [encSnap] at hu;rcases hu with rfl | rfl | rfl | rfl | rfl <;> rfl
   rw [← hds]
   have hgs:g<wr.heap.size:=(HOW.out.lt g rfl).2
   have hba:Below wr.heap.size wr (w2.alloc (.cells ds.toArray 57)):=((((Below.refl wr.heap.size wr).alloc (Nat.le_refl _) (.cells cs.toArray 57)).trans (hby.mono tZ3)).alloc tZ115 _)
   have HOW3:=Lib.hid (own_below HOW.out hba)
   have HB3:=Lib.hid (HB.out.trans (hba.mono tZ1))
   have HE3:Hid (∀ z∈ys++[y],O (g+1) (w2.alloc (.cells ds.toArray 57)) z):=by
    exact mZ201
   have HPW3:Hid ((ys++[y]).Pairwise D):=by
    exact mZ200
   have HEQ3:Hid (EachR r (l.take (k+1)) (ys++[y])):=tZ71
   have HY3:=Lib.hid (show (ys++[y]).length=k+1 by rw [List.length_append,HY.out];rfl)
   have hcell:∀ (j:Nat) (u:Value),ds[j]?=some u→(w2.alloc (.cells ds.toArray 57)).cell? ((⟨w2.heap.size,0,none⟩:Addr).add j)=some u:=fun j u hu=>by
    have:=(Blk.new w2 57 ds.toArray).cell j
    exact mZ199
   have HSZ3:=Lib.hid (show g≤(w2.alloc (.cells ds.toArray 57)).heap.size by have:=hba.size;omega)
   have hds':=Lib.hid hds
   clear hba hoy hry hby HOW HE HEQ HPW HY HB HTK hds
   have hi1:i0.size=ds.length:=by rw [hdl];exact hz1
   obtain ⟨W3,hW3⟩:∃ W,W=w2.alloc (.cells ds.toArray 57):=⟨_,rfl⟩
   rw [← hW3] at HOW3 HB3 HE3 hcell HSZ3
   go_wp2_with (first | (refine wpList_build_one rfl 39 57 (.tmp 20) rfl ds rfl i0 _ Tryz.underlying39 hi0 hz0 hi1 tZ1 tZ1 ?_;rw [← hW3];clear hW3) | (at_builtin;refine wpList_append_fits _ rfl (.tmp 17) (.tmp 21) 39 rfl g 57 i0 5 Tryz.underlying39 hi0 hz1 g k n _ rfl HOW3.out ⟨w2.heap.size,0,none⟩ 1 1 ds rfl tZ1 hcell hd1 tZ1 ?_;intro w4 hown4 hg4;have HO4:=Lib.hid hown4;have HG4:=Lib.hid hg4;clear hown4 hg4))
   go_roundw
   case rel =>
    refine ⟨k+1,ys++[y],by omega,by go_num,rfl,HY3.out,?_,fun z hz=>hO.kept _ _ _ _ _ (HE3.out z hz) HG4.out tZ1,HEQ3.out,HPW3.out,HB3.out.grown HG4.out HSZ3.out (fun q hq=>by simp at hq;omega)⟩
    exact mZ198
   case measure=>simp [intOf];omega
  ·have hki:¬ (k:Int)<(n:Int):=tZ1
   obtain rfl:k=n:=tZ1
   go_wp2_with fail
   go_ret
   obtain rfl:=HGG.out
   refine ⟨⟨some ⟨w.heap.size,0,none⟩,k,k,ys⟩,rfl,⟨HY.out.symm,HOW.out⟩,fun y hy=>hO.mono _ _ _ _ (HE.out y hy) tZ1,?_,HPW.out,HB.out⟩
   have:=HEQ.out
   rw [HN.out,List.take_length] at this
   exact this
theorem Tryz.eachSet_info:(Tryz.prog.info? 42).map (fun i=>(i.zero,i.size,i.bytes))=some (some (.agg #[.string ByteArray.empty,.string ByteArray.empty,.slice none 0 0,.slice none 0 0,.slice none 0 0]),5,104):=tZ2
set_option maxRecDepth 100000 in
set_option maxHeartbeats 2000000 in
theorem eachSet_any (O:Nat→World→SetR→Prop) (hO:Kept O) (r:SetR→SetR→Prop) (D:SetR→SetR→Prop) (hD:∀ b b' w w' y z,O b w y→O b' w' z→w.heap.size≤b'→D y z) (l:List SetR) (n:Nat) (hnl:n=l.length) (A:Option Addr) (c:Nat) (w:World) (B:Nat) (hB:B≤w.heap.size) (hr:Reads w B 5 A n (cellsK encSet l)) (hn:n≤1000000000000)
  (hC:∀ x∈l,∀ W,Below w.heap.size w W→Calls Tryz.prog 109 #[.agg (encSet x).toArray] W fun e w'=>∃ y,e=.returned (.agg (encSet y).toArray)∧O W.heap.size w' y∧r x y∧Below W.heap.size W w') :
  Calls Tryz.prog 108 #[.slice A n c,.func (.func 109) #[] #[]] w fun e w'=>∃ s:FS SetR,e=.returned s.val∧s.own w' w.heap.size 42 5 encSet∧(∀ y∈s.l,O w.heap.size w' y)∧EachR r l s.l∧s.l.Pairwise D∧Below w.heap.size w w':=by
 obtain ⟨i0,hi0,hz0,hz1,hz2⟩:=info_parts Tryz.eachSet_info
 have HN:=Lib.hid hnl
 have HC:=Lib.hid hC
 have HR:=Lib.hid hr
 obtain ⟨g,hg⟩:∃ g,g=w.heap.size:=⟨_,rfl⟩
 have HGG:=Lib.hid hg
 clear hnl hC hr
 go_enter Tryz.func108,Tryz.ntmps108
 go_wp2_with (refine wpList_make_own w rfl (.const (.int .i64 0)) (.tmp 9) 22 rfl w.heap.size 42 i0 _ 5 Tryz.underlying22 hi0 hz0 hz1 .i64 .i64 (n:Int) n rfl rfl rfl (by rw [hz2];omega) tZ9 (Nat.le_refl _) ?_;intro w1 hown1 hg1;have HO1:=Lib.hid hown1;have HB1:=Lib.hid (show Below w.heap.size w w1 from ⟨hg1.os,hg1.tape,hg1.output,hg1.size,fun k hk=>hg1.block k hk tZ3⟩);clear hown1 hg1)
 rw [← hg] at HO1 HB1 ⊢
 clear hg
 go_loopw [5,13] (fun o j wr=>∃ (k:Nat) (ys:List SetR),k≤n∧j=.int .i64 (k:Int)∧o=.slice (some ⟨g,0,none⟩) k n∧Hid (ys.length=k)∧Hid (wr.ownsRow g 42 5 (.slice (some ⟨g,0,none⟩) k n) k (cellsK encSet ys))∧Hid (∀ y∈ys,O (g+1) wr y)∧Hid (EachR r (l.take k) ys)∧Hid (ys.Pairwise D)∧Hid (Below g w wr)) (fun _ j _=>n-(intOf j).toNat)
 case atStart=>exact ⟨0,[],Nat.zero_le _,rfl,rfl,rfl,HO1.out,fun y hy=>absurd hy tZ3,by rw [List.take_zero];exact EachR.nil,List.Pairwise.nil,HB1.out⟩
 case round =>
  clear HO1 HB1
  obtain ⟨k,ys,hk,rfl,rfl,HY,HOW,HE,HEQ,HPW,HB⟩:=hrel
  by_cases hlt:k<n
  ·obtain ⟨ad,rfl,hadB,hel⟩:=Reads.elAll (enc:=encSet) (k:=5) (fun _=>rfl) (HR.out.below (HB.out.mono tZ168)) HN.out hlt
   have hkl:k<l.length:=tZ7
   have hcx:=HC.out _ (List.getElem_mem hkl)
   have HTK:=Lib.hid (show l.take (k+1)=l.take k++[l[k]'hkl] from by rw [List.take_add_one,List.getElem?_eq_getElem hkl];rfl)
   have hki:(k:Int)<(n:Int):=tZ1
   obtain ⟨x,hx⟩:∃ x,x=l[k]'hkl:=⟨_,rfl⟩
   rw [← hx] at hel hcx HTK
   obtain ⟨cs,hcs⟩:∃ cs,cs=encSet x:=⟨_,rfl⟩
   have hcl:cs.length=5:=by rw [hcs];rfl
   have hc1:∀ u∈cs,u.oneCell'=true:=by rw [hcs];intro u hu;simp [encSet] at hu;rcases hu with rfl | rfl | rfl | rfl | rfl <;> rfl
   rw [← hcs] at hel hcx
   have HEL:=Lib.hid hel
   have hSB:Below w.heap.size w (wr.alloc (.cells cs.toArray 42)):=by rw [← HGG.out];exact HB.out.alloc tZ100 _
   have hcx:=hcx _ hSB
   have hOW2:=own_below HOW.out ((Below.refl wr.heap.size wr).alloc (Nat.le_refl _) (.cells cs.toArray 42))
   have HL7:Hid (∀ j v,cs[j]?=some v→(wr.alloc (.cells cs.toArray 42)).cell? ((⟨wr.heap.size,0,none⟩:Addr).add j)=some v):=by
    show ∀ j v,_→_
    intro j v hv
    have:=(Blk.new wr 42 cs.toArray).cell j
    exact mZ202
   clear hel hadB HR HC hcs hx
   go_wp2_with (first | (refine wpList_load_at rfl 42 (.tmp 15) rfl (ad.add (k*5)) rfl cs _ HEL.out Tryz.underlying42 rfl tZ62 ?_) | (refine wpList_store_new wr rfl 42 (.tmp 7) (.tmp 16) rfl 42 _ cs rfl rfl (by rw [hcl];rfl) tZ62 hc1 ?_) | (refine wpList_load_at rfl 42 (.tmp 7) rfl ⟨wr.heap.size,0,none⟩ rfl cs _ HL7.out Tryz.underlying42 rfl tZ62 ?_))
   clear HEL
   refine hcx.mono ?_
   clear hcx
   rintro e w2 ⟨y,rfl,hoy,hry,hby⟩
   obtain ⟨ds,hds⟩:∃ ds,ds=encSet y:=⟨_,rfl⟩
   have hdl:ds.length=5:=by rw [hds];rfl
   have hd1:∀ u∈ds,u.oneCell'=true:=by rw [hds];intro u hu;simp [encSet] at hu;rcases hu with rfl | rfl | rfl | rfl | rfl <;> rfl
   rw [← hds]
   have hgs:g<wr.heap.size:=(HOW.out.lt g rfl).2
   have hba:Below wr.heap.size wr (w2.alloc (.cells ds.toArray 42)):=((((Below.refl wr.heap.size wr).alloc (Nat.le_refl _) (.cells cs.toArray 42)).trans (hby.mono tZ3)).alloc tZ115 _)
   have HOW3:=Lib.hid (own_below HOW.out hba)
   have HB3:=Lib.hid (HB.out.trans (hba.mono tZ1))
   have HE3:Hid (∀ z∈ys++[y],O (g+1) (w2.alloc (.cells ds.toArray 42)) z):=by
    exact mZ201
   have HPW3:Hid ((ys++[y]).Pairwise D):=by
    exact mZ200
   have HEQ3:Hid (EachR r (l.take (k+1)) (ys++[y])):=tZ71
   have HY3:=Lib.hid (show (ys++[y]).length=k+1 by rw [List.length_append,HY.out];rfl)
   have hcell:∀ (j:Nat) (u:Value),ds[j]?=some u→(w2.alloc (.cells ds.toArray 42)).cell? ((⟨w2.heap.size,0,none⟩:Addr).add j)=some u:=fun j u hu=>by
    have:=(Blk.new w2 42 ds.toArray).cell j
    exact mZ199
   have HSZ3:=Lib.hid (show g≤(w2.alloc (.cells ds.toArray 42)).heap.size by have:=hba.size;omega)
   have hds':=Lib.hid hds
   clear hba hoy hry hby HOW HE HEQ HPW HY HB HTK hds
   have hi1:i0.size=ds.length:=by rw [hdl];exact hz1
   obtain ⟨W3,hW3⟩:∃ W,W=w2.alloc (.cells ds.toArray 42):=⟨_,rfl⟩
   rw [← hW3] at HOW3 HB3 HE3 hcell HSZ3
   go_wp2_with (first | (refine wpList_build_one rfl 22 42 (.tmp 20) rfl ds rfl i0 _ Tryz.underlying22 hi0 hz0 hi1 tZ1 tZ1 ?_;rw [← hW3];clear hW3) | (at_builtin;refine wpList_append_fits _ rfl (.tmp 17) (.tmp 21) 22 rfl g 42 i0 5 Tryz.underlying22 hi0 hz1 g k n _ rfl HOW3.out ⟨w2.heap.size,0,none⟩ 1 1 ds rfl tZ1 hcell hd1 tZ1 ?_;intro w4 hown4 hg4;have HO4:=Lib.hid hown4;have HG4:=Lib.hid hg4;clear hown4 hg4))
   go_roundw
   case rel =>
    refine ⟨k+1,ys++[y],by omega,by go_num,rfl,HY3.out,?_,fun z hz=>hO.kept _ _ _ _ _ (HE3.out z hz) HG4.out tZ1,HEQ3.out,HPW3.out,HB3.out.grown HG4.out HSZ3.out (fun q hq=>by simp at hq;omega)⟩
    exact mZ198
   case measure=>simp [intOf];omega
  ·have hki:¬ (k:Int)<(n:Int):=tZ1
   obtain rfl:k=n:=tZ1
   go_wp2_with fail
   go_ret
   obtain rfl:=HGG.out
   refine ⟨⟨some ⟨w.heap.size,0,none⟩,k,k,ys⟩,rfl,⟨HY.out.symm,HOW.out⟩,fun y hy=>hO.mono _ _ _ _ (HE.out y hy) tZ1,?_,HPW.out,HB.out⟩
   have:=HEQ.out
   rw [HN.out,List.take_length] at this
   exact this
theorem Tryz.eachStage_info:(Tryz.prog.info? 103).map (fun i=>(i.zero,i.size,i.bytes))=some (some (.agg #[.string ByteArray.empty,.int .i64 0,.string ByteArray.empty,.int .i64 0,.int .i64 0,.slice none 0 0,.int .i64 0,.int .i64 0,.string ByteArray.empty,.int .u64 0,.int .u64 0,.int .u64 0,.int .u64 0,.slice none 0 0,.int .i64 0,.int .i64 0,.int .u64 0,.int .u64 0,.int .u64 0,.int .u64 0,.bool false]),21,224):=tZ2
set_option maxRecDepth 100000 in
set_option maxHeartbeats 2000000 in
theorem eachStage_any (O:Nat→World→StageR→Prop) (hO:Kept O) (r:StageR→StageR→Prop) (l:List StageR) (n:Nat) (hnl:n=l.length) (A:Option Addr) (c:Nat) (w:World) (B:Nat) (hB:B≤w.heap.size) (hr:Reads w B 21 A n (cellsK encStage l)) (hn:n≤1000000000000)
  (hC:∀ x∈l,∀ W,Below w.heap.size w W→Calls Tryz.prog 112 #[.agg (encStage x).toArray] W fun e w'=>∃ y,e=.returned (.agg (encStage y).toArray)∧O W.heap.size w' y∧r x y∧Below W.heap.size W w') :
  Calls Tryz.prog 111 #[.slice A n c,.func (.func 112) #[] #[]] w fun e w'=>∃ s:FS StageR,e=.returned s.val∧s.own w' w.heap.size 103 21 encStage∧(∀ y∈s.l,O w.heap.size w' y)∧EachR r l s.l∧Below w.heap.size w w':=by
 obtain ⟨i0,hi0,hz0,hz1,hz2⟩:=info_parts Tryz.eachStage_info
 have HN:=Lib.hid hnl
 have HC:=Lib.hid hC
 have HR:=Lib.hid hr
 obtain ⟨g,hg⟩:∃ g,g=w.heap.size:=⟨_,rfl⟩
 have HGG:=Lib.hid hg
 clear hnl hC hr
 go_enter Tryz.func111,Tryz.ntmps111
 go_wp2_with (refine wpList_make_own w rfl (.const (.int .i64 0)) (.tmp 9) 24 rfl w.heap.size 103 i0 _ 21 Tryz.underlying24 hi0 hz0 hz1 .i64 .i64 (n:Int) n rfl rfl rfl (by rw [hz2];omega) tZ9 (Nat.le_refl _) ?_;intro w1 hown1 hg1;have HO1:=Lib.hid hown1;have HB1:=Lib.hid (show Below w.heap.size w w1 from ⟨hg1.os,hg1.tape,hg1.output,hg1.size,fun k hk=>hg1.block k hk tZ3⟩);clear hown1 hg1)
 rw [← hg] at HO1 HB1 ⊢
 clear hg
 go_loopw [5,13] (fun o j wr=>∃ (k:Nat) (ys:List StageR),k≤n∧j=.int .i64 (k:Int)∧o=.slice (some ⟨g,0,none⟩) k n∧Hid (ys.length=k)∧Hid (wr.ownsRow g 103 21 (.slice (some ⟨g,0,none⟩) k n) k (cellsK encStage ys))∧Hid (∀ y∈ys,O (g+1) wr y)∧Hid (EachR r (l.take k) ys)∧Hid (Below g w wr)) (fun _ j _=>n-(intOf j).toNat)
 case atStart=>exact ⟨0,[],Nat.zero_le _,rfl,rfl,rfl,HO1.out,fun y hy=>absurd hy tZ3,by rw [List.take_zero];exact EachR.nil,HB1.out⟩
 case round =>
  clear HO1 HB1
  obtain ⟨k,ys,hk,rfl,rfl,HY,HOW,HE,HEQ,HB⟩:=hrel
  by_cases hlt:k<n
  ·obtain ⟨ad,rfl,hadB,hel⟩:=Reads.elAll (enc:=encStage) (k:=21) (fun _=>rfl) (HR.out.below (HB.out.mono tZ168)) HN.out hlt
   have hkl:k<l.length:=tZ7
   have hcx:=HC.out _ (List.getElem_mem hkl)
   have HTK:=Lib.hid (show l.take (k+1)=l.take k++[l[k]'hkl] from by rw [List.take_add_one,List.getElem?_eq_getElem hkl];rfl)
   have hki:(k:Int)<(n:Int):=tZ1
   obtain ⟨x,hx⟩:∃ x,x=l[k]'hkl:=⟨_,rfl⟩
   rw [← hx] at hel hcx HTK
   obtain ⟨cs,hcs⟩:∃ cs,cs=encStage x:=⟨_,rfl⟩
   have hcl:cs.length=21:=by rw [hcs];rfl
   have hc1:∀ u∈cs,u.oneCell'=true:=by rw [hcs];intro u hu;simp [encStage,smV] at hu;rcases hu with rfl | rfl | rfl | rfl | rfl | rfl | rfl | rfl | rfl | rfl | rfl | rfl | rfl | rfl | rfl | rfl | rfl | rfl | rfl | rfl | rfl <;> rfl
   rw [← hcs] at hel hcx
   have HEL:=Lib.hid hel
   have hSB:Below w.heap.size w (wr.alloc (.cells cs.toArray 103)):=by rw [← HGG.out];exact HB.out.alloc tZ100 _
   have hcx:=hcx _ hSB
   have hOW2:=own_below HOW.out ((Below.refl wr.heap.size wr).alloc (Nat.le_refl _) (.cells cs.toArray 103))
   have HL7:Hid (∀ j v,cs[j]?=some v→(wr.alloc (.cells cs.toArray 103)).cell? ((⟨wr.heap.size,0,none⟩:Addr).add j)=some v):=by
    show ∀ j v,_→_
    intro j v hv
    have:=(Blk.new wr 103 cs.toArray).cell j
    exact mZ202
   clear hel hadB HR HC hcs hx
   go_wp2_with (first | (refine wpList_load_at rfl 103 (.tmp 15) rfl (ad.add (k*21)) rfl cs _ HEL.out Tryz.underlying103 rfl tZ62 ?_) | (refine wpList_store_new wr rfl 103 (.tmp 7) (.tmp 16) rfl 103 _ cs rfl rfl (by rw [hcl];rfl) tZ62 hc1 ?_) | (refine wpList_load_at rfl 103 (.tmp 7) rfl ⟨wr.heap.size,0,none⟩ rfl cs _ HL7.out Tryz.underlying103 rfl tZ62 ?_))
   clear HEL
   refine hcx.mono ?_
   clear hcx
   rintro e w2 ⟨y,rfl,hoy,hry,hby⟩
   obtain ⟨ds,hds⟩:∃ ds,ds=encStage y:=⟨_,rfl⟩
   have hdl:ds.length=21:=by rw [hds];rfl
   have hd1:∀ u∈ds,u.oneCell'=true:=by rw [hds];intro u hu;simp [encStage,smV] at hu;rcases hu with rfl | rfl | rfl | rfl | rfl | rfl | rfl | rfl | rfl | rfl | rfl | rfl | rfl | rfl | rfl | rfl | rfl | rfl | rfl | rfl | rfl <;> rfl
   rw [← hds]
   have hgs:g<wr.heap.size:=(HOW.out.lt g rfl).2
   have hba:Below wr.heap.size wr (w2.alloc (.cells ds.toArray 103)):=((((Below.refl wr.heap.size wr).alloc (Nat.le_refl _) (.cells cs.toArray 103)).trans (hby.mono tZ3)).alloc tZ115 _)
   have HOW3:=Lib.hid (own_below HOW.out hba)
   have HB3:=Lib.hid (HB.out.trans (hba.mono tZ1))
   have HE3:Hid (∀ z∈ys++[y],O (g+1) (w2.alloc (.cells ds.toArray 103)) z):=by
    exact mZ201
   have HEQ3:Hid (EachR r (l.take (k+1)) (ys++[y])):=tZ71
   have HY3:=Lib.hid (show (ys++[y]).length=k+1 by rw [List.length_append,HY.out];rfl)
   have hcell:∀ (j:Nat) (u:Value),ds[j]?=some u→(w2.alloc (.cells ds.toArray 103)).cell? ((⟨w2.heap.size,0,none⟩:Addr).add j)=some u:=fun j u hu=>by
    have:=(Blk.new w2 103 ds.toArray).cell j
    exact mZ199
   have HSZ3:=Lib.hid (show g≤(w2.alloc (.cells ds.toArray 103)).heap.size by have:=hba.size;omega)
   have hds':=Lib.hid hds
   clear hba hoy hry hby HOW HE HEQ HY HB HTK hds
   have hi1:i0.size=ds.length:=by rw [hdl];exact hz1
   obtain ⟨W3,hW3⟩:∃ W,W=w2.alloc (.cells ds.toArray 103):=⟨_,rfl⟩
   rw [← hW3] at HOW3 HB3 HE3 hcell HSZ3
   go_wp2_with (first | (refine wpList_build_one rfl 24 103 (.tmp 20) rfl ds rfl i0 _ Tryz.underlying24 hi0 hz0 hi1 tZ1 tZ1 ?_;rw [← hW3];clear hW3) | (at_builtin;refine wpList_append_fits _ rfl (.tmp 17) (.tmp 21) 24 rfl g 103 i0 21 Tryz.underlying24 hi0 hz1 g k n _ rfl HOW3.out ⟨w2.heap.size,0,none⟩ 1 1 ds rfl tZ1 hcell hd1 tZ1 ?_;intro w4 hown4 hg4;have HO4:=Lib.hid hown4;have HG4:=Lib.hid hg4;clear hown4 hg4))
   go_roundw
   case rel =>
    refine ⟨k+1,ys++[y],by omega,by go_num,rfl,HY3.out,?_,fun z hz=>hO.kept _ _ _ _ _ (HE3.out z hz) HG4.out tZ1,HEQ3.out,HB3.out.grown HG4.out HSZ3.out (fun q hq=>by simp at hq;omega)⟩
    exact mZ198
   case measure=>simp [intOf];omega
  ·have hki:¬ (k:Int)<(n:Int):=tZ1
   obtain rfl:k=n:=tZ1
   go_wp2_with fail
   go_ret
   obtain rfl:=HGG.out
   refine ⟨⟨some ⟨w.heap.size,0,none⟩,k,k,ys⟩,rfl,⟨HY.out.symm,HOW.out⟩,fun y hy=>hO.mono _ _ _ _ (HE.out y hy) tZ1,?_,HB.out⟩
   have:=HEQ.out
   rw [HN.out,List.take_length] at this
   exact this
end Go.Proofs.YtcgclpcocdappaaGreatDoor
namespace Go.Proofs.YtcgclpcocdappaaGreatDoor
open Go.RowKit
def SnapsW (w:World) (lo hi:Nat) (v:Value):Prop:=∃ n xs,RowW w lo hi 57 5 v n xs∧∀ i,i<n→∃ b,xs[i*5+2]?=some b∧RowX w lo hi 75 2 b
def SetsW (w:World) (lo hi:Nat) (v:Value):Prop:=∃ n xs,RowW w lo hi 42 5 v n xs∧∀ i,i<n→∃ b s o,xs[i*5+2]?=some b∧xs[i*5+3]?=some s∧xs[i*5+4]?=some o∧RowX w lo hi 75 2 b∧SnapsW w lo hi s∧RowX w lo hi 78 2 o
theorem SnapsW.nil (w:World) (lo hi:Nat):SnapsW w lo hi (.slice none 0 0):=⟨0,[],⟨World.ownsRow_nil _ _ _ _,fun g h=>by simp [Value.ownBlock] at h⟩,fun i hi=>absurd hi tZ1⟩
section
variable {w w':World} {lo hi base size n cap g:Nat} {e:TypeId} {xs:List Value}
/-- a store into a row that is no snapshots' -/
theorem SnapsW.set (hrow:w.ownsRow base e size (.slice (some ⟨g,0,none⟩) n cap) n xs) (hne:57≠e) {v:Value} (h:SnapsW w lo hi v) (o:Nat) (cs:List Value):SnapsW (w.setCells g o cs) lo hi v:=by
 obtain ⟨m,ys,h,hs⟩:=h
 rcases h.or hrow o cs with h | ⟨he,_,_⟩
 ·exact ⟨m,ys,h,fun i hi=>let ⟨b,h1,h2⟩:=hs i hi;⟨b,h1,h2.set hrow o cs⟩⟩
 ·exact absurd he hne
/-- a store into a row that is neither sets' nor snapshots' -/
theorem SetsW.set (hrow:w.ownsRow base e size (.slice (some ⟨g,0,none⟩) n cap) n xs) (hne:57≠e) (hne2:42≠e) {v:Value} (h:SetsW w lo hi v) (o:Nat) (cs:List Value):SetsW (w.setCells g o cs) lo hi v:=by
 obtain ⟨m,ys,h,hs⟩:=h
 rcases h.or hrow o cs with h | ⟨he,_,_⟩
 ·exact ⟨m,ys,h,fun i hi=>let ⟨b,s,p,h1,h2,h3,h4,h5,h6⟩:=hs i hi;⟨b,s,p,h1,h2,h3,h4.set hrow o cs,h5.set hrow hne o cs,h6.set hrow o cs⟩⟩
 ·exact absurd he hne2
theorem SnapsW.below {v:Value} (h:SnapsW w lo hi v) (hb:Below w.heap.size w w'):SnapsW w' lo hi v:=by
 obtain ⟨n,xs,h,hs⟩:=h
 exact ⟨n,xs,⟨own_below h.1 hb,h.2⟩,fun i hi=>let ⟨b,h1,h2⟩:=hs i hi;⟨b,h1,h2.below hb⟩⟩
theorem SetsW.below {v:Value} (h:SetsW w lo hi v) (hb:Below w.heap.size w w'):SetsW w' lo hi v:=by
 obtain ⟨n,xs,h,hs⟩:=h
 exact ⟨n,xs,⟨own_below h.1 hb,h.2⟩,fun i hi=>let ⟨b,s,p,h1,h2,h3,h4,h5,h6⟩:=hs i hi;⟨b,s,p,h1,h2,h3,h4.below hb,h5.below hb,h6.below hb⟩⟩
end
section
variable {w w':World} {base lo hi:Nat}
theorem SnapO.only {x:SnapR} (h:SnapO w base x) (hb:hi≤base) (ho:OnlyIn lo hi w w'):SnapO w' base x:=⟨h.body.only hb ho,h.tags.only hb ho,h.own.only hb ho⟩
theorem SetO.only {x:SetR} (h:SetO w base x) (hb:hi≤base) (ho:OnlyIn lo hi w w'):SetO w' base x:=⟨h.body.only hb ho,h.snaps.only hb ho,fun y hy=>(h.each y hy).only hb ho,h.own.only hb ho⟩
theorem StageO.only {x:StageR} (h:StageO w base x) (hb:hi≤base) (ho:OnlyIn lo hi w w'):StageO w' base x:=⟨h.own.only hb ho,h.body.only hb ho⟩
theorem TenO.only {x:TenR} (h:TenO w base x) (hb:hi≤base) (ho:OnlyIn lo hi w w'):TenO w' base x:=⟨h.sets.only hb ho,fun y hy=>(h.eachS y hy).only hb ho,h.grants.only hb ho,h.stages.only hb ho,fun y hy=>(h.eachG y hy).only hb ho,h.log.only hb ho⟩
/-! ### a tenant of one's own lies in lo ..< hi, hi the size of the heap -/
theorem FS.own.snaps {s:FS SnapR} (h:s.own w lo 57 5 encSnap) (he:∀ y∈s.l,SnapO w lo y):SnapsW w lo w.heap.size s.val:=by
 refine ⟨_,_,RowW.of_own h.2,fun i hi=>?_⟩
 have hl:i<s.l.length:=by rw [← h.1];exact hi
 refine ⟨(s.l[i]'hl).body.val,?_,(he _ (List.getElem_mem hl)).body.rowx⟩
 rw [show i*5+2=i*5+2 from rfl,cellsK_get (k:=5) (fun x=>by cases x;rfl) s.l i hl 2 tZ1]
 rfl
end
/-- what is known of a tenant's rows while they are written over -/
structure SpI (lo hi:Nat) (S G T L:Value) (W0 w:World):Prop where
 sets:SetsW w lo hi S
 gr:RowX w lo hi 147 3 G
 st:RowX w lo hi 103 21 T
 lg:RowX w lo hi 106 4 L
 only:OnlyIn lo hi W0 w
section
variable {lo hi size n cap g:Nat} {S G T L:Value} {W0 w:World} {e:TypeId} {xs:List Value}
theorem SpI.store (h:SpI lo hi S G T L W0 w) (hrow:w.ownsRow lo e size (.slice (some ⟨g,0,none⟩) n cap) n xs) (hlo:lo≤g) (hhi:g<hi) (hW:lo≤w.heap.size) (hne:57≠e) (hne2:42≠e) (o:Nat) (cs:List Value):SpI lo hi S G T L W0 (w.setCells g o cs) :=
 ⟨h.sets.set hrow hne hne2 o cs,h.gr.set hrow o cs,h.st.set hrow o cs,h.lg.set hrow o cs,h.only.trans (.grown (stored_all cs w xs o hrow).2 hlo hhi hW)⟩
/-- set i, as it can be read now -/
theorem SetsW.at {n c:Nat} {A:Option Addr} (h:SetsW w lo hi (.slice A n c)) {i:Nat} (hi':i<n) :
  ∃ g bA bn bc sA sn sc oA on oc xs,A=some ⟨g,0,none⟩∧lo≤g∧g<hi∧w.cell? ⟨g,i*5+2,none⟩=some (.slice bA bn bc)∧w.cell? ⟨g,i*5+3,none⟩=some (.slice sA sn sc)∧w.cell? ⟨g,i*5+4,none⟩=some (.slice oA on oc) ∧
   w.there g (i*5) 5∧w.ownsRow lo 42 5 (.slice (some ⟨g,0,none⟩) n c) n xs∧(∃ ys,RowW w lo hi 75 2 (.slice bA bn bc) bn ys)∧SnapsW w lo hi (.slice sA sn sc)∧(∃ ys,RowW w lo hi 78 2 (.slice oA on oc) on ys):=by
 obtain ⟨m,xs,hr,hs⟩:=h
 obtain ⟨_,_,e,_⟩:=own_form hr.1
 injection e with _ e1 _
 subst e1
 obtain ⟨g,c',e2,hlo,hhi,_,hc,hth,hown⟩:=hr.el hi'
 injection e2 with e3 _ e4
 subst e3 e4
 obtain ⟨b,s,o,h1,h2,h3,⟨bm,bx,h4⟩,h5,⟨om,ox,h6⟩⟩:=hs i hi'
 obtain ⟨bA,bc,rfl,_⟩:=own_form h4.1
 obtain ⟨oA,oc,rfl,_⟩:=own_form h6.1
 obtain ⟨sm,sx,h7,h8⟩:=h5
 obtain ⟨sA,sc,rfl,_⟩:=own_form h7.1
 exact ⟨g,bA,bm,bc,sA,sm,sc,oA,om,oc,xs,rfl,hlo,hhi,by rw [hc _ tZ1];exact h1,by rw [hc _ tZ1];exact h2,by rw [hc _ tZ1];exact h3,hth,hown,⟨_,h4⟩,⟨_,_,h7,h8⟩,⟨_,h6⟩⟩
theorem SnapsW.at {n c:Nat} {A:Option Addr} (h:SnapsW w lo hi (.slice A n c)) {i:Nat} (hi':i<n) :
  ∃ g bA bn bc xs,A=some ⟨g,0,none⟩∧lo≤g∧g<hi∧n≤maxLen∧w.cell? ⟨g,i*5+2,none⟩=some (.slice bA bn bc)∧w.there g (i*5) 5∧w.ownsRow lo 57 5 (.slice (some ⟨g,0,none⟩) n c) n xs∧(∃ ys,RowW w lo hi 75 2 (.slice bA bn bc) bn ys):=by
 obtain ⟨m,xs,hr,hs⟩:=h
 obtain ⟨_,_,e,_⟩:=own_form hr.1
 injection e with _ e1 _
 subst e1
 obtain ⟨g,c',e2,hlo,hhi,hm,hc,hth,hown⟩:=hr.el hi'
 injection e2 with e3 _ e4
 subst e3 e4
 obtain ⟨b,h1,⟨bm,bx,h4⟩⟩:=hs i hi'
 obtain ⟨bA,bc,rfl,_⟩:=own_form h4.1
 exact ⟨g,bA,bm,bc,xs,rfl,hlo,hhi,hm,by rw [hc _ tZ1];exact h1,hth,hown,⟨_,h4⟩⟩
end
end Go.Proofs.YtcgclpcocdappaaGreatDoor
namespace Go.Proofs.YtcgclpcocdappaaGreatDoor
open Go.RowKit
structure SnapC where
 nm:BS
 gd:Int
 body:List BlkT
 tags:List BS
 own:List (BS×BS)
structure SetC where
 path:BS
 org:BS
 body:List BlkT
 snaps:List SnapC
 own:List (BS×BS)
structure StageC where
 into:BS
 kind:Int
 nm:BS
 frm:Int
 gd:Int
 own:List (BS×BS)
 ix:Int
 ct:Int
 dt:BS
 sm:Sm
 body:List BlkT
 at_:Int
 nx:Int
 sum:Sm
 done:Bool
structure TenC where
 nm:BS
 quota:Int
 next:Int
 sets:List SetC
 grants:List GT
 stages:List StageC
 log:List EntryR
def SnapR.con (x:SnapR):SnapC:=⟨x.nm,x.gd,x.body.l,x.tags.l,x.own.l⟩
def SetR.con (x:SetR):SetC:=⟨x.path,x.org,x.body.l,x.snaps.l.map SnapR.con,x.own.l⟩
def StageR.con (x:StageR):StageC:=⟨x.into,x.kind,x.nm,x.frm,x.gd,x.own.l,x.ix,x.ct,x.dt,x.sm,x.body.l,x.at_,x.nx,x.sum,x.done⟩
def TenR.con (x:TenR):TenC:=⟨x.nm,x.quota,x.next,x.sets.l.map SetR.con,x.grants.l,x.stages.l.map StageR.con,x.log.l⟩
theorem each_map {α β:Type} {f:α→β} {l l':List α}:l.map f=l'.map f↔l.length=l'.length∧∀ i (h:i<l.length) (h':i<l'.length),f (l[i]'h)=f (l'[i]'h'):=by
 constructor
 ·intro h
  have hl:l.length=l'.length:=by simpa using congrArg List.length h
  refine ⟨hl,fun i h1 h2=>?_⟩
  have:=congrArg (fun m:List β=>m[i]?) h
  simpa [h1,h2] using this
 ·rintro ⟨hl,he⟩
  apply List.ext_getElem
  ·simpa using hl
  ·intro i h1 h2
   simp only [List.length_map] at h1 h2
   rw [List.getElem_map,List.getElem_map]
   exact he i h1 h2
theorem SnapR.eqv_iff (x y:SnapR):x.eqv y↔x.con=y.con:=by
 constructor
 ·rintro ⟨h1,h2,h3,h4,h5⟩
  simp only [SnapR.con,h1,h2,h3,h4,h5]
 ·intro h
  simp only [SnapR.con,SnapC.mk.injEq] at h
  exact ⟨h.1,h.2.1,h.2.2.1,h.2.2.2.1,h.2.2.2.2⟩
theorem SetR.eqv_iff (x y:SetR):x.eqv y↔x.con=y.con:=by
 constructor
 ·rintro ⟨h1,h2,h3,h4,h5,h6⟩
  have:=each_map.2 ⟨h4,fun i a b=>(SnapR.eqv_iff _ _).1 (h5 i a b)⟩
  simp only [SetR.con,h1,h2,h3,this,h6]
 ·intro h
  simp only [SetR.con,SetC.mk.injEq] at h
  obtain ⟨h1,h2,h3,h4,h5⟩:=h
  obtain ⟨h6,h7⟩:=each_map.1 h4
  exact ⟨h1,h2,h3,h6,fun i a b=>(SnapR.eqv_iff _ _).2 (h7 i a b),h5⟩
theorem StageR.eqv_iff (x y:StageR):x.eqv y↔x.con=y.con:=by
 constructor
 ·rintro ⟨h1,h2,h3,h4,h5,h6,h7,h8,h9,h10,h11,h12,h13,h14,h15⟩
  simp only [StageR.con,h1,h2,h3,h4,h5,h6,h7,h8,h9,h10,h11,h12,h13,h14,h15]
 ·intro h
  simp only [StageR.con,StageC.mk.injEq] at h
  obtain ⟨h1,h2,h3,h4,h5,h6,h7,h8,h9,h10,h11,h12,h13,h14,h15⟩:=h
  exact ⟨h1,h2,h3,h4,h5,h6,h7,h8,h9,h10,h11,h12,h13,h14,h15⟩
/-- tenants are of one content just if they read alike -/
theorem TenR.eqv_iff (x y:TenR):x.eqv y↔x.con=y.con:=by
 constructor
 ·rintro ⟨h1,h2,h3,h4,h5,h6,h7,h8,h9⟩
  have e1:=each_map.2 ⟨h4,fun i a b=>(SetR.eqv_iff _ _).1 (h5 i a b)⟩
  have e2:=each_map.2 ⟨h7,fun i a b=>(StageR.eqv_iff _ _).1 (h8 i a b)⟩
  simp only [TenR.con,h1,h2,h3,e1,h6,e2,h9]
 ·intro h
  simp only [TenR.con,TenC.mk.injEq] at h
  obtain ⟨h1,h2,h3,h4,h5,h6,h7⟩:=h
  obtain ⟨h8,h9⟩:=each_map.1 h4
  obtain ⟨h10,h11⟩:=each_map.1 h6
  exact ⟨h1,h2,h3,h8,fun i a b=>(SetR.eqv_iff _ _).2 (h9 i a b),h5,h10,fun i a b=>(StageR.eqv_iff _ _).2 (h11 i a b),h7⟩
/-- what a tenant is charged for -/
def SetC.charge (s:SetC):Nat:=1+s.body.length+(s.snaps.map fun x=>1+x.body.length).sum
def TenC.charge (t:TenC):Nat:=(t.sets.map SetC.charge).sum+(t.stages.map fun s=>1+s.body.length).sum
end Go.Proofs.YtcgclpcocdappaaGreatDoor
namespace Go.Proofs.YtcgclpcocdappaaGreatDoor
open Go.RowKit
theorem blk7 {w:World} {g:Nat} {t:TypeId} {a0 a1 a2 a3 a4 a5 a6:Value} (h:Blk w g t #[a0,a1,a2,a3,a4,a5,a6]):w.cell? ⟨g,0,none⟩=some a0∧w.cell? ⟨g,1,none⟩=some a1∧w.cell? ⟨g,2,none⟩=some a2∧w.cell? ⟨g,3,none⟩=some a3∧w.cell? ⟨g,4,none⟩=some a4∧w.cell? ⟨g,5,none⟩=some a5∧w.cell? ⟨g,6,none⟩=some a6 :=
 ⟨h.cell 0,h.cell 1,h.cell 2,h.cell 3,h.cell 4,h.cell 5,h.cell 6⟩
theorem SnapR.eqv.size {x y:SnapR} {w w':World} {B B':Nat} (h:x.eqv y) (hx:x.rd w B) (hy:y.rd w' B') (hz:x.sz):y.sz :=
 h.sz hz (FS.len_eq hx.body.1 hy.body.1 h.body) (FS.len_eq hx.tags.1 hy.tags.1 h.tags) (FS.len_eq hx.own.1 hy.own.1 h.own)
theorem SetR.eqv.size {x y:SetR} {w w':World} {B B':Nat} (h:x.eqv y) (hx:x.rd w B) (hy:y.rd w' B') (hz:x.sz):y.sz:=by
 refine ⟨by rw [← h.path];exact hz.path,by rw [← h.org];exact hz.org,by rw [FS.len_eq hx.body.1 hy.body.1 h.body];exact hz.body,by rw [hy.snaps.1,← h.len,← hx.snaps.1];exact hz.snaps,fun z hm=>?_,by rw [FS.len_eq hx.own.1 hy.own.1 h.own];exact hz.own,by rw [← h.own];exact hz.props⟩
 obtain ⟨i,hi,rfl⟩:=List.getElem_of_mem hm
 have hi':i<x.snaps.l.length:=by rw [h.len];exact hi
 exact (h.each i hi' hi).size (hx.each _ (List.getElem_mem hi')) (hy.each _ hm) (hz.each _ (List.getElem_mem hi'))
theorem StageR.eqv.size {x y:StageR} {w w':World} {B B':Nat} (h:x.eqv y) (hx:x.rd w B) (hy:y.rd w' B') (hz:x.sz):y.sz :=
 ⟨by rw [← h.into];exact hz.into,by rw [← h.nm];exact hz.nm,by rw [← h.dt];exact hz.dt,by rw [FS.len_eq hx.own.1 hy.own.1 h.own];exact hz.own,by rw [← h.own];exact hz.props,by rw [FS.len_eq hx.body.1 hy.body.1 h.body];exact hz.body⟩
theorem TenR.eqv.size {x y:TenR} {w w':World} {B B':Nat} (h:x.eqv y) (hx:x.rd w B) (hy:y.rd w' B') (hz:x.sz):y.sz:=by
 refine ⟨by rw [← h.nm];exact hz.nm,by rw [hy.sets.1,← h.lenS,← hx.sets.1];exact hz.sets,fun z hm=>?_,by rw [FS.len_eq hx.grants.1 hy.grants.1 h.grants];exact hz.grants,by rw [← h.grants];exact hz.eachG,by rw [hy.stages.1,← h.lenT,← hx.stages.1];exact hz.stages,fun z hm=>?_,by rw [FS.len_eq hx.log.1 hy.log.1 h.log];exact hz.log,by rw [← h.log];exact hz.eachL⟩
 ·obtain ⟨i,hi,rfl⟩:=List.getElem_of_mem hm
  have hi':i<x.sets.l.length:=by rw [h.lenS];exact hi
  exact (h.eachS i hi' hi).size (hx.eachS _ (List.getElem_mem hi')) (hy.eachS _ hm) (hz.eachS _ (List.getElem_mem hi'))
 ·obtain ⟨i,hi,rfl⟩:=List.getElem_of_mem hm
  have hi':i<x.stages.l.length:=by rw [h.lenT];exact hi
  exact (h.eachT i hi' hi).size (hx.eachG _ (List.getElem_mem hi')) (hy.eachG _ hm) (hz.eachT _ (List.getElem_mem hi'))
theorem SnapR.rd.more {x:SnapR} {w:World} {B B':Nat} (h:x.rd w B) (hb:B≤B'):x.rd w B':=⟨h.body.more hb,h.tags.more hb,h.own.more hb⟩
theorem SetR.rd.more {x:SetR} {w:World} {B B':Nat} (h:x.rd w B) (hb:B≤B'):x.rd w B':=⟨h.body.more hb,h.snaps.more hb,fun y hy=>(h.each y hy).more hb,h.own.more hb⟩
theorem TenR.rd.more {x:TenR} {w:World} {B B':Nat} (h:x.rd w B) (hb:B≤B'):x.rd w B':=⟨h.sets.more hb,fun y hy=>(h.eachS y hy).more hb,h.grants.more hb,h.stages.more hb,fun y hy=>⟨(h.eachG y hy).own.more hb,(h.eachG y hy).body.more hb⟩,h.log.more hb⟩
end Go.Proofs.YtcgclpcocdappaaGreatDoor
