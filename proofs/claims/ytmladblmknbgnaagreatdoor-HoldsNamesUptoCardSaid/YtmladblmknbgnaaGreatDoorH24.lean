/-
  HoldsNames: each of all that are held is a snapshot's path and name: the law's walk.
-/
import Derived.Test.YtmladblmknbgnaaGreatDoorH0
import Derived.Test.YtmladblmknbgnaaGreatDoorH23
import Derived.Test.YtmladblmknbgnaaGreatDoorH16
namespace Go.Proofs.YtmladblmknbgnaaGreatDoor
open Go.RowKit
set_option maxRecDepth 100000 in
set_option maxHeartbeats 8000000 in
theorem holdsNames_any (t:TenR) (w:World) (hr:t.rd w w.heap.size) (hz:t.sz) (hmx:HasMax w) :
  Calls Tryz.prog 9 #[t.val] w fun e w'=>e=.returned (.bool true)∧Below w.heap.size w w':=by
 obtain ⟨nm,qu,nx,⟨s1,sn,s3,sl⟩,⟨u1,un,u3,ul⟩,⟨t1,tn,t3,tl⟩,⟨l1,ln,l3,ll⟩⟩:=t
 show Calls Tryz.prog 9 #[.agg #[.string ⟨nm.toArray⟩,.int .i64 qu,.int .i64 nx,.slice s1 sn s3,.slice u1 un u3,.slice t1 tn t3,.slice l1 ln l3]] w _
 have hb:=((Below.refl w.heap.size w).alloc (Nat.le_refl _) (.cells #[.string ⟨nm.toArray⟩,.int .i64 qu,.int .i64 nx,.slice s1 sn s3,.slice u1 un u3,.slice t1 tn t3,.slice l1 ln l3] 27))
 have kt:=Blk.new w 27 #[.string ⟨nm.toArray⟩,.int .i64 qu,.int .i64 nx,.slice s1 sn s3,.slice u1 un u3,.slice t1 tn t3,.slice l1 ln l3]
 have hsz:(w.alloc (.cells #[.string ⟨nm.toArray⟩,.int .i64 qu,.int .i64 nx,.slice s1 sn s3,.slice u1 un u3,.slice t1 tn t3,.slice l1 ln l3] 27)).heap.size=w.heap.size+1:=by simp
 obtain ⟨W1,hW1⟩:∃ W,W=(w.alloc (.cells #[.string ⟨nm.toArray⟩,.int .i64 qu,.int .i64 nx,.slice s1 sn s3,.slice u1 un u3,.slice t1 tn t3,.slice l1 ln l3] 27)):=⟨_,rfl⟩
 rw [← hW1] at hb hsz kt
 have hKt:Hid (∀ W,Below W1.heap.size W1 W→Blk W w.heap.size 27 #[.string ⟨nm.toArray⟩,.int .i64 qu,.int .i64 nx,.slice s1 sn s3,.slice u1 un u3,.slice t1 tn t3,.slice l1 ln l3]):=fun W h=>kt.below h (by omega)
 have hBW:Hid (∀ W,Below W1.heap.size W1 W→Below w.heap.size w W):=fun W h=>hb.trans (h.mono (by omega))
 have hSZ:Hid (∀ W,Below W1.heap.size W1 W→w.heap.size+1≤W.heap.size):=fun W h=>by have:=h.size;omega
 have hW0:Hid (Below W1.heap.size W1 W1):=Below.refl _ _
 have hrw:Hid (∀ W,Below W1.heap.size W1 W→TenR.rd W w.heap.size ⟨nm,qu,nx,⟨s1,sn,s3,sl⟩,⟨u1,un,u3,ul⟩,⟨t1,tn,t3,tl⟩,⟨l1,ln,l3,ll⟩⟩∧w.heap.size≤W.heap.size∧HasMax W):=fun W h =>
  ⟨TenR.rd.below hr (hBW.out W h),by have:=hSZ.out W h;omega,hmx.below (hBW.out W h)⟩
 obtain ⟨C,hC⟩:∃ C,C=TenR.con ⟨nm,qu,nx,⟨s1,sn,s3,sl⟩,⟨u1,un,u3,ul⟩,⟨t1,tn,t3,tl⟩,⟨l1,ln,l3,ll⟩⟩:=⟨_,rfl⟩
 obtain ⟨E,hE⟩:∃ E,E=C.E:=⟨_,rfl⟩
 obtain ⟨L,hL⟩:∃ L,L=C.allC:=⟨_,rfl⟩
 obtain ⟨m,hm⟩:∃ m,m=L.length:=⟨_,rfl⟩
 have hAL:Hid (∀ W,Below W1.heap.size W1 W→Calls Tryz.prog 50 #[] W fun e w'=>e=.returned (.bool true)∧Below W.heap.size W w'):=fun W h=>alive18_any W (hrw.out W h).2.2
 have hCK:Hid (∀ W,Below W1.heap.size W1 W→Calls Tryz.prog 23 #[.agg #[.string ⟨nm.toArray⟩,.int .i64 qu,.int .i64 nx,.slice s1 sn s3,.slice u1 un u3,.slice t1 tn t3,.slice l1 ln l3]] W fun e w'=>e=.returned (.int .i64 E)∧Below W.heap.size W w'):=fun W h=>by
  rw [hE,hC,← tenE_con]
  exact rcheck14_any ⟨nm,qu,nx,⟨s1,sn,s3,sl⟩,⟨u1,un,u3,ul⟩,⟨t1,tn,t3,tl⟩,⟨l1,ln,l3,ll⟩⟩ W w.heap.size (hrw.out W h).1 (hrw.out W h).2.1 hz
 have hHD:Hid (∀ W,Below W1.heap.size W1 W→∀ p n,C.heldC p n=true→Calls Tryz.prog 52 #[.agg #[.string ⟨nm.toArray⟩,.int .i64 qu,.int .i64 nx,.slice s1 sn s3,.slice u1 un u3,.slice t1 tn t3,.slice l1 ln l3],.string ⟨p.toArray⟩,.string ⟨n.toArray⟩] W fun e w'=>e=.returned (.bool true)∧Below W.heap.size W w'):=fun W h p n hh=>by
  rw [← hh,hC,← held_con ⟨nm,qu,nx,⟨s1,sn,s3,sl⟩,⟨u1,un,u3,ul⟩,⟨t1,tn,t3,tl⟩,⟨l1,ln,l3,ll⟩⟩ W w.heap.size (hrw.out W h).1]
  exact held_any ⟨nm,qu,nx,⟨s1,sn,s3,sl⟩,⟨u1,un,u3,ul⟩,⟨t1,tn,t3,tl⟩,⟨l1,ln,l3,ll⟩⟩ p n W w.heap.size (hrw.out W h).2.1 (hrw.out W h).1 hz
 have hALL:Hid (E=0→∀ W,Below W1.heap.size W1 W→Calls Tryz.prog 30 #[.agg #[.string ⟨nm.toArray⟩,.int .i64 qu,.int .i64 nx,.slice s1 sn s3,.slice u1 un u3,.slice t1 tn t3,.slice l1 ln l3]] W fun e w'=>∃ A c,e=.returned (.slice A m c)∧w'.ownsRow W.heap.size 9 1 (.slice A m c) m (scells L)∧Below W.heap.size W w'):=fun h0 W h=>by
  have h1:=allC_len C (hE.symm.trans h0)
  have h2:=all_any ⟨nm,qu,nx,⟨s1,sn,s3,sl⟩,⟨u1,un,u3,ul⟩,⟨t1,tn,t3,tl⟩,⟨l1,ln,l3,ll⟩⟩ W w.heap.size (hrw.out W h).2.1 (hrw.out W h).1 hz (by rw [all_con ⟨nm,qu,nx,⟨s1,sn,s3,sl⟩,⟨u1,un,u3,ul⟩,⟨t1,tn,t3,tl⟩,⟨l1,ln,l3,ll⟩⟩ W w.heap.size (hrw.out W h).1,← hC];omega)
  rw [all_con ⟨nm,qu,nx,⟨s1,sn,s3,sl⟩,⟨u1,un,u3,ul⟩,⟨t1,tn,t3,tl⟩,⟨l1,ln,l3,ll⟩⟩ W w.heap.size (hrw.out W h).1,← hC,← hL,← hm] at h2
  exact h2
 have hMM:Hid (E=0→∀ s∈L,∃ p n,splitV s=.tuple #[.string ⟨p.toArray⟩,.string ⟨n.toArray⟩,.int .i64 0]∧C.heldC p n=true∧s.length≤84):=fun h0 s hs=>allC_mem C (hE.symm.trans h0) s (by rw [← hL];exact hs)
 have hMB:Hid (E=0→m≤512):=fun h0=>by rw [hm,hL];exact allC_len C (hE.symm.trans h0)
 have hE2:E=0∨E=9:=by rw [hE];exact C.E_two
 have HM:=Lib.hid hm
 clear hb hsz kt hr hz hmx hC hE hL hm
 go_enter Tryz.func9,Tryz.ntmps9
 have hc:=hAL.out  W1 hW0.out
 go_wp2_with fail
 rw [← hW1]
 clear hW1
 refine hc.mono ?_
 clear hc 
 rintro e w2 ⟨rfl,hb⟩
 have HW2:=Lib.hid (hW0.out.trans (hb.mono hW0.out.size))
 clear hb
 have hc:=hCK.out  w2 HW2.out
 have kk:=hKt.out w2 HW2.out
 obtain ⟨c0,c1,c2,c3,c4,c5,c6⟩:=(⟨kk.cell 0,kk.cell 1,kk.cell 2,kk.cell 3,kk.cell 4,kk.cell 5,kk.cell 6⟩:_∧_∧_∧_∧_∧_∧_)
 simp only [zF,zD,zE] at c0 c1 c2 c3 c4 c5 c6
 clear kk
 go_wp2_with fail
 refine hc.mono ?_
 clear hc c0 c1 c2 c3 c4 c5 c6
 rintro e w3 ⟨rfl,hb⟩
 have HW3:=Lib.hid (HW2.out.trans (hb.mono HW2.out.size))
 clear hb
 rcases hE2 with rfl | rfl
 rotate_left
 ·go_wp2_with fail
  go_ret
  exact ⟨rfl,hBW.out w3 HW3.out⟩
 have hALW:=Lib.hid (hALL.out rfl)
 have hm5:m≤512:=hMB.out rfl
 clear hALL hMB
 have hc:=hALW.out  w3 HW3.out
 have kk:=hKt.out w3 HW3.out
 obtain ⟨c0,c1,c2,c3,c4,c5,c6⟩:=(⟨kk.cell 0,kk.cell 1,kk.cell 2,kk.cell 3,kk.cell 4,kk.cell 5,kk.cell 6⟩:_∧_∧_∧_∧_∧_∧_)
 simp only [zF,zD,zE] at c0 c1 c2 c3 c4 c5 c6
 clear kk
 go_wp2_with fail
 refine hc.mono ?_
 clear hc c0 c1 c2 c3 c4 c5 c6
 rintro e w4 ⟨A,c,rfl,ho,hb⟩
 have HW4:=Lib.hid (HW3.out.trans (hb.mono HW3.out.size))
 have HO4:=Lib.hid ho
 clear hb ho
 clear hALW hCK hAL
 go_wp2_with fail
 go_loopw [4] (fun i wr=>∃ j:Nat,j≤m∧i=.int .i64 (j:Int)∧Below w4.heap.size w4 wr) (fun i _=>m-(intOf i).toNat)
 case atStart=>exact ⟨0,Nat.zero_le _,rfl,Below.refl _ _⟩
 case round =>
  obtain ⟨j,hj,rfl,hbw⟩:=hrel
  have HWR:=Lib.hid (HW4.out.trans (hbw.mono HW4.out.size))
  by_cases hlt:j<m
  ·have hji:(j:Int)<(m:Int):=by omega
   obtain ⟨ad,rfl,-,e0⟩:=strs_at (Reads.of_own (own_below HO4.out hbw)) HM.out hlt
   obtain ⟨x,hx⟩:∃ x,x=L[j]'(by have:=HM.out;omega):=⟨_,rfl⟩
   have hxm:x∈L:=by rw [hx];exact List.getElem_mem _
   rw [← hx] at e0
   simp only [strV] at e0
   obtain ⟨p,n,hsp,hhl,hlen⟩:=hMM.out (by trivial) x hxm
   have hc:=refSplit_any ⟨x.toArray⟩ wr (by show x.toArray.size≤_;simp;omega)
   rw [show (⟨x.toArray⟩:ByteArray).data.toList=x from rfl,hsp] at hc
   have HHL:=Lib.hid hhl
   clear hx hxm hsp hhl hlen
   go_wp2_with fail
   refine hc.mono ?_
   clear hc e0
   rintro e w5 ⟨rfl,hb5⟩
   have hbw5:=hbw.trans (hb5.mono hbw.size)
   have HW5:=Lib.hid (HWR.out.trans (hb5.mono HWR.out.size))
   have HB5:=Lib.hid hbw5
   clear hb5 hbw5
   have hc:=hHD.out w5 HW5.out p n HHL.out
   obtain ⟨c0,c1,c2,c3,c4,c5,c6⟩:=blk7 (hKt.out w5 HW5.out)
   go_wp2_with fail
   refine hc.mono ?_
   clear hc c0 c1 c2 c3 c4 c5 c6
   rintro e w6 ⟨rfl,hb6⟩
   have hbw6:=HB5.out.trans (hb6.mono HB5.out.size)
   clear hb6
   go_wp2_with fail
   go_roundw
   case rel=>exact ⟨j+1,by omega,by go_num,hbw6⟩
   case measure=>simp [intOf];omega
  ·obtain rfl:m=j:=by omega
   go_wp2_with fail
   go_ret
   exact ⟨rfl,hBW.out wr HWR.out⟩
end Go.Proofs.YtmladblmknbgnaaGreatDoor
