/-
  SnapsMay: what comes of a tenant that may be may be: the law's walk.
-/
import Derived.Test.YtpbejobgickffaaGreatDoorU0
import Derived.Test.YtpbejobgickffaaGreatDoorU27
import Derived.Test.YtpbejobgickffaaGreatDoorU25
import Derived.Test.YtpbejobgickffaaGreatDoorU26
import Derived.Test.YtpbejobgickffaaGreatDoorU22
namespace Go.Proofs.YtpbejobgickffaaGreatDoor
open Go.RowKit
theorem TenPost3.one {w w':World} {g:Int} {c:Int×TenC} {e:Ending} (h:TenPost3 w g c e w'):∃ (y:TenR) (gi:Int),e=.returned (.tuple #[y.val,.int .i64 gi,.int .i64 c.1])∧Below w.heap.size w w'∧(c.1=0→TenO w' w.heap.size y∧y.con=c.2):=by
 obtain ⟨v,gi,rfl,hb,h⟩:=h
 rcases h with ⟨h1,rfl,rfl⟩ | ⟨h1,rfl,y,rfl,h2,h3⟩
 ·exact ⟨ten0R,0,rfl,hb,fun h=>absurd h h1⟩
 ·exact ⟨y,gi,rfl,hb,fun _=>⟨h2,h3⟩⟩
set_option maxRecDepth 100000 in
set_option maxHeartbeats 16000000 in
theorem snapsMay_any (t:TenR) (p n tq:BS) (w:World) (hr:t.rd w w.heap.size) (hz:t.sz) (hp:p.length≤500000000) (hn:n.length≤500000000) (htq:tq.length≤500000000) (hmx:HasMax w) :
  Calls Tryz.prog 6 #[t.val,.string ⟨p.toArray⟩,.string ⟨n.toArray⟩,.string ⟨tq.toArray⟩] w fun e w'=>e=.returned (.bool true)∧Below w.heap.size w w':=by
 have hcz:=TenC.sz_of hr hz
 obtain ⟨nm,qu,nx,⟨s1,sn,s3,sl⟩,⟨gA,gN,gC,gL⟩,⟨t1,tn,t3,tl⟩,⟨l1,ln,l3,ll⟩⟩:=t
 show Calls Tryz.prog 6 #[.agg #[.string ⟨nm.toArray⟩,.int .i64 qu,.int .i64 nx,.slice s1 sn s3,.slice gA gN gC,.slice t1 tn t3,.slice l1 ln l3],.string ⟨p.toArray⟩,.string ⟨n.toArray⟩,.string ⟨tq.toArray⟩] w _
 have hb:=((Below.refl w.heap.size w).alloc (Nat.le_refl _) (.cells #[.string ⟨nm.toArray⟩,.int .i64 qu,.int .i64 nx,.slice s1 sn s3,.slice gA gN gC,.slice t1 tn t3,.slice l1 ln l3] 27))
 have kt:=Blk.new w 27 #[.string ⟨nm.toArray⟩,.int .i64 qu,.int .i64 nx,.slice s1 sn s3,.slice gA gN gC,.slice t1 tn t3,.slice l1 ln l3]
 have hsz:(w.alloc (.cells #[.string ⟨nm.toArray⟩,.int .i64 qu,.int .i64 nx,.slice s1 sn s3,.slice gA gN gC,.slice t1 tn t3,.slice l1 ln l3] 27)).heap.size=w.heap.size+1:=by simp
 obtain ⟨W1,hW1⟩:∃ W,W=(w.alloc (.cells #[.string ⟨nm.toArray⟩,.int .i64 qu,.int .i64 nx,.slice s1 sn s3,.slice gA gN gC,.slice t1 tn t3,.slice l1 ln l3] 27)):=⟨_,rfl⟩
 rw [← hW1] at hb hsz kt
 have hKt:Hid (∀ W,Below W1.heap.size W1 W→Blk W w.heap.size 27 #[.string ⟨nm.toArray⟩,.int .i64 qu,.int .i64 nx,.slice s1 sn s3,.slice gA gN gC,.slice t1 tn t3,.slice l1 ln l3]):=fun W h=>kt.below h (by omega)
 have hBW:Hid (∀ W,Below W1.heap.size W1 W→Below w.heap.size w W):=fun W h=>hb.trans (h.mono (by omega))
 have hSZ:Hid (∀ W,Below W1.heap.size W1 W→w.heap.size+1≤W.heap.size):=fun W h=>by have:=h.size;omega
 have hW0:Hid (Below W1.heap.size W1 W1):=Below.refl _ _
 have hrw:Hid (∀ W,Below W1.heap.size W1 W→TenR.rd W w.heap.size ⟨nm,qu,nx,⟨s1,sn,s3,sl⟩,⟨gA,gN,gC,gL⟩,⟨t1,tn,t3,tl⟩,⟨l1,ln,l3,ll⟩⟩∧w.heap.size≤W.heap.size∧HasMax W):=fun W h =>
  ⟨TenR.rd.below hr (hBW.out W h),by have:=hSZ.out W h;omega,hmx.below (hBW.out W h)⟩
 obtain ⟨C,hC⟩:∃ C,C=TenR.con ⟨nm,qu,nx,⟨s1,sn,s3,sl⟩,⟨gA,gN,gC,gL⟩,⟨t1,tn,t3,tl⟩,⟨l1,ln,l3,ll⟩⟩:=⟨_,rfl⟩
 rw [← hC] at hcz
 have hAL:Hid (∀ W,Below W1.heap.size W1 W→Calls Tryz.prog 10 #[] W fun e w'=>e=.returned (.bool true)∧Below W.heap.size W w'):=fun W h=>alive17_any W (hrw.out W h).2.2
 obtain ⟨⟨Ea,Ca⟩,hVa⟩:∃ V:Int×TenC,V=C.snapshot p n:=⟨_,rfl⟩
 have hMa:Hid (Ea=0→Ca.sz∧Ca.E=0):=fun h0=>by
  subst h0
  have h:=hVa
  exact ⟨snapshot_sz hcz p n (by omega) _ h,(by obtain ⟨_,_,_,h2,_⟩:=snapshot_form C p n _ h;exact h2)⟩
 have hCa:Hid (∀ W,Below W1.heap.size W1 W→Calls Tryz.prog 11 #[.agg #[.string ⟨nm.toArray⟩,.int .i64 qu,.int .i64 nx,.slice s1 sn s3,.slice gA gN gC,.slice t1 tn t3,.slice l1 ln l3],.string ⟨p.toArray⟩,.string ⟨n.toArray⟩] W (TenPost3 W (C.guidAt p) (Ea,Ca))):=fun W h=>by
  rw [hVa,hC]
  exact snapshot_any ⟨nm,qu,nx,⟨s1,sn,s3,sl⟩,⟨gA,gN,gC,gL⟩,⟨t1,tn,t3,tl⟩,⟨l1,ln,l3,ll⟩⟩ p n W w.heap.size (hrw.out W h).2.1 (hrw.out W h).1 hz (by omega) hn (hrw.out W h).2.2
 obtain ⟨⟨Eb,Cb⟩,hVb⟩:∃ V:Int×TenC,V=C.cloneS p n tq:=⟨_,rfl⟩
 have hMb:Hid (Eb=0→Cb.sz∧Cb.E=0):=fun h0=>by
  subst h0
  have h:=hVb
  exact ⟨cloneS_sz hcz p n tq (by omega) (by omega) _ h,(by obtain ⟨_,_,_,_,_,_,_,_,h2⟩:=cloneS_form C p n tq _ h;exact h2)⟩
 have hCb:Hid (∀ W,Below W1.heap.size W1 W→Calls Tryz.prog 28 #[.agg #[.string ⟨nm.toArray⟩,.int .i64 qu,.int .i64 nx,.slice s1 sn s3,.slice gA gN gC,.slice t1 tn t3,.slice l1 ln l3],.string ⟨p.toArray⟩,.string ⟨n.toArray⟩,.string ⟨tq.toArray⟩] W (TenPost W (Eb,Cb))):=fun W h=>by
  rw [hVb,hC]
  exact cloneS_any ⟨nm,qu,nx,⟨s1,sn,s3,sl⟩,⟨gA,gN,gC,gL⟩,⟨t1,tn,t3,tl⟩,⟨l1,ln,l3,ll⟩⟩ p n tq W w.heap.size (hrw.out W h).2.1 (hrw.out W h).1 hz (by omega) hn htq (hrw.out W h).2.2
 obtain ⟨⟨Ec,Cc⟩,hVc⟩:∃ V:Int×TenC,V=C.rename p n tq:=⟨_,rfl⟩
 have hMc:Hid (Ec=0→Cc.sz∧Cc.E=0):=fun h0=>by
  subst h0
  have h:=hVc
  exact ⟨rename_sz hcz p n tq (by omega) _ h,rename_ok C p n tq _ h⟩
 have hCc:Hid (∀ W,Below W1.heap.size W1 W→Calls Tryz.prog 34 #[.agg #[.string ⟨nm.toArray⟩,.int .i64 qu,.int .i64 nx,.slice s1 sn s3,.slice gA gN gC,.slice t1 tn t3,.slice l1 ln l3],.string ⟨p.toArray⟩,.string ⟨n.toArray⟩,.string ⟨tq.toArray⟩] W (TenPost W (Ec,Cc))):=fun W h=>by
  rw [hVc,hC]
  exact rename_any ⟨nm,qu,nx,⟨s1,sn,s3,sl⟩,⟨gA,gN,gC,gL⟩,⟨t1,tn,t3,tl⟩,⟨l1,ln,l3,ll⟩⟩ p n tq W w.heap.size (hrw.out W h).2.1 (hrw.out W h).1 hz (by omega) hn htq (hrw.out W h).2.2
 obtain ⟨⟨Ed,Cd⟩,hVd⟩:∃ V:Int×TenC,V=C.unsnap p n:=⟨_,rfl⟩
 have hMd:Hid (Ed=0→Cd.sz∧Cd.E=0):=fun h0=>by
  subst h0
  have h:=hVd
  exact ⟨unsnap_sz hcz p n _ h,unsnap_ok C p n _ h⟩
 have hCd:Hid (∀ W,Below W1.heap.size W1 W→Calls Tryz.prog 35 #[.agg #[.string ⟨nm.toArray⟩,.int .i64 qu,.int .i64 nx,.slice s1 sn s3,.slice gA gN gC,.slice t1 tn t3,.slice l1 ln l3],.string ⟨p.toArray⟩,.string ⟨n.toArray⟩] W (TenPost W (Ed,Cd))):=fun W h=>by
  rw [hVd,hC]
  exact unsnap_any ⟨nm,qu,nx,⟨s1,sn,s3,sl⟩,⟨gA,gN,gC,gL⟩,⟨t1,tn,t3,tl⟩,⟨l1,ln,l3,ll⟩⟩ p n W w.heap.size (hrw.out W h).2.1 (hrw.out W h).1 hz (by omega) (hrw.out W h).2.2
 clear hb hsz kt hr hz hp hmx hC hcz hn htq hVa hVb hVc hVd
 go_enter Tryz.func6,Tryz.ntmps6
 have hc:=hAL.out W1 hW0.out
 go_wp2_with fail
 rw [← hW1]
 clear hW1
 refine hc.mono ?_
 clear hc 
 rintro e w2 ⟨rfl,hb⟩
 have H1_2:=Lib.hid (hW0.out.trans (hb.mono hW0.out.size))
 clear hb
 have hc:=hCa.out w2 H1_2.out
 have kk:=hKt.out _ H1_2.out
 obtain ⟨c0,c1,c2,c3,c4,c5,c6⟩:=(⟨kk.cell 0,kk.cell 1,kk.cell 2,kk.cell 3,kk.cell 4,kk.cell 5,kk.cell 6⟩:_∧_∧_∧_∧_∧_∧_)
 simp only [zF,zD,zE] at c0 c1 c2 c3 c4 c5 c6
 clear kk
 go_wp2_with fail
 refine hc.mono ?_
 clear hc c0 c1 c2 c3 c4 c5 c6
 rintro e w3 hone
 obtain ⟨y,gi,rfl,hb,hyo⟩:=hone.one
 have H1_3:=Lib.hid (H1_2.out.trans (hb.mono H1_2.out.size))
 clear hb
 have HY:=Lib.hid hyo
 clear hyo hone
 obtain ⟨av0,av1,av2,⟨av3,av4,av5,al0⟩,⟨av6,av7,av8,al1⟩,⟨av9,av10,av11,al2⟩,⟨av12,av13,av14,al3⟩⟩:=y
 simp only [TenR.val,TenR.cells,FS.val,strV]
 have hn1:=(H1_3.out).alloc H1_3.out.size (.cells #[.string ⟨av0.toArray⟩,.int .i64 av1,.int .i64 av2,.slice av3 av4 av5,.slice av6 av7 av8,.slice av9 av10 av11,.slice av12 av13 av14] 27)
 have kbn:=Blk.new w3 27 #[.string ⟨av0.toArray⟩,.int .i64 av1,.int .i64 av2,.slice av3 av4 av5,.slice av6 av7 av8,.slice av9 av10 av11,.slice av12 av13 av14]
 have hsn:(w3.alloc (.cells #[.string ⟨av0.toArray⟩,.int .i64 av1,.int .i64 av2,.slice av3 av4 av5,.slice av6 av7 av8,.slice av9 av10 av11,.slice av12 av13 av14] 27)).heap.size=w3.heap.size+1:=by simp
 have hbo:=((Below.refl w3.heap.size w3).alloc (Nat.le_refl _) (.cells #[.string ⟨av0.toArray⟩,.int .i64 av1,.int .i64 av2,.slice av3 av4 av5,.slice av6 av7 av8,.slice av9 av10 av11,.slice av12 av13 av14] 27))
 obtain ⟨Ba,hBa⟩:∃ g,g=w3.heap.size:=⟨_,rfl⟩
 obtain ⟨w4,hWn⟩:∃ W,W=(w3.alloc (.cells #[.string ⟨av0.toArray⟩,.int .i64 av1,.int .i64 av2,.slice av3 av4 av5,.slice av6 av7 av8,.slice av9 av10 av11,.slice av12 av13 av14] 27)):=⟨_,rfl⟩
 rw [← hWn] at kbn hsn hbo hn1
 rw [← hBa] at kbn
 have hSa:Hid (∀ W,Below w4.heap.size w4 W→W.cell? ⟨Ba,0,none⟩=some (.string ⟨av0.toArray⟩)∧W.cell? ⟨Ba,1,none⟩=some (.int .i64 av1)∧W.cell? ⟨Ba,2,none⟩=some (.int .i64 av2)∧W.cell? ⟨Ba,3,none⟩=some (.slice av3 av4 av5)∧W.cell? ⟨Ba,4,none⟩=some (.slice av6 av7 av8)∧W.cell? ⟨Ba,5,none⟩=some (.slice av9 av10 av11)∧W.cell? ⟨Ba,6,none⟩=some (.slice av12 av13 av14)):=fun W h=>blk7 (kbn.below h (by omega))
 have H1_4:=Lib.hid hn1
 have H4_4:Hid (Below w4.heap.size w4 w4):=Below.refl _ _
 have hOa:Hid (∀ W,Below w4.heap.size w4 W→Ea=0→Calls Tryz.prog 36 #[.agg #[.string ⟨av0.toArray⟩,.int .i64 av1,.int .i64 av2,.slice av3 av4 av5,.slice av6 av7 av8,.slice av9 av10 av11,.slice av12 av13 av14]] W fun e w'=>e=.returned (.int .i64 0)∧Below W.heap.size W w'):=fun W h h0=>check_said (y:=⟨av0,av1,av2,⟨av3,av4,av5,al0⟩,⟨av6,av7,av8,al1⟩,⟨av9,av10,av11,al2⟩,⟨av12,av13,av14,al3⟩⟩) (((HY.out h0).1.below hbo).below (h.mono (by omega))).rd (HY.out h0).2 (hMa.out h0).1 (hMa.out h0).2
 clear HY
 clear kbn hsn hbo hn1
 have hc:=hCb.out w4 H1_4.out
 have kk:=hKt.out _ H1_4.out
 obtain ⟨c0,c1,c2,c3,c4,c5,c6⟩:=(⟨kk.cell 0,kk.cell 1,kk.cell 2,kk.cell 3,kk.cell 4,kk.cell 5,kk.cell 6⟩:_∧_∧_∧_∧_∧_∧_)
 simp only [zF,zD,zE] at c0 c1 c2 c3 c4 c5 c6
 clear kk
 go_wp2_with (refine wpList_store_new w3 rfl 27 (.tmp 9) (.tmp 25) rfl 27 [.string ⟨#[]⟩,.int .i64 0,.int .i64 0,.slice none 0 0,.slice none 0 0,.slice none 0 0,.slice none 0 0] [.string ⟨av0.toArray⟩,.int .i64 av1,.int .i64 av2,.slice av3 av4 av5,.slice av6 av7 av8,.slice av9 av10 av11,.slice av12 av13 av14] rfl rfl rfl (by kernel_rfl) (by simp [Value.oneCell']) ?_;rw [show ([.string ⟨av0.toArray⟩,.int .i64 av1,.int .i64 av2,.slice av3 av4 av5,.slice av6 av7 av8,.slice av9 av10 av11,.slice av12 av13 av14]:List Value).toArray=#[.string ⟨av0.toArray⟩,.int .i64 av1,.int .i64 av2,.slice av3 av4 av5,.slice av6 av7 av8,.slice av9 av10 av11,.slice av12 av13 av14] from rfl,← hWn,← hBa];clear hWn hBa)
 refine hc.mono ?_
 clear hc c0 c1 c2 c3 c4 c5 c6
 rintro e w5 hone
 obtain ⟨y,rfl,hb,hyo⟩:=hone.one
 have H1_5:=Lib.hid (H1_4.out.trans (hb.mono H1_4.out.size))
 have H4_5:=Lib.hid (H4_4.out.trans (hb.mono H4_4.out.size))
 clear hb
 have HY:=Lib.hid hyo
 clear hyo hone
 obtain ⟨bv0,bv1,bv2,⟨bv3,bv4,bv5,bl0⟩,⟨bv6,bv7,bv8,bl1⟩,⟨bv9,bv10,bv11,bl2⟩,⟨bv12,bv13,bv14,bl3⟩⟩:=y
 simp only [TenR.val,TenR.cells,FS.val,strV]
 have hn1:=(H1_5.out).alloc H1_5.out.size (.cells #[.string ⟨bv0.toArray⟩,.int .i64 bv1,.int .i64 bv2,.slice bv3 bv4 bv5,.slice bv6 bv7 bv8,.slice bv9 bv10 bv11,.slice bv12 bv13 bv14] 27)
 have hn4:=(H4_5.out).alloc H4_5.out.size (.cells #[.string ⟨bv0.toArray⟩,.int .i64 bv1,.int .i64 bv2,.slice bv3 bv4 bv5,.slice bv6 bv7 bv8,.slice bv9 bv10 bv11,.slice bv12 bv13 bv14] 27)
 have kbn:=Blk.new w5 27 #[.string ⟨bv0.toArray⟩,.int .i64 bv1,.int .i64 bv2,.slice bv3 bv4 bv5,.slice bv6 bv7 bv8,.slice bv9 bv10 bv11,.slice bv12 bv13 bv14]
 have hsn:(w5.alloc (.cells #[.string ⟨bv0.toArray⟩,.int .i64 bv1,.int .i64 bv2,.slice bv3 bv4 bv5,.slice bv6 bv7 bv8,.slice bv9 bv10 bv11,.slice bv12 bv13 bv14] 27)).heap.size=w5.heap.size+1:=by simp
 have hbo:=((Below.refl w5.heap.size w5).alloc (Nat.le_refl _) (.cells #[.string ⟨bv0.toArray⟩,.int .i64 bv1,.int .i64 bv2,.slice bv3 bv4 bv5,.slice bv6 bv7 bv8,.slice bv9 bv10 bv11,.slice bv12 bv13 bv14] 27))
 obtain ⟨Bb,hBb⟩:∃ g,g=w5.heap.size:=⟨_,rfl⟩
 obtain ⟨w6,hWn⟩:∃ W,W=(w5.alloc (.cells #[.string ⟨bv0.toArray⟩,.int .i64 bv1,.int .i64 bv2,.slice bv3 bv4 bv5,.slice bv6 bv7 bv8,.slice bv9 bv10 bv11,.slice bv12 bv13 bv14] 27)):=⟨_,rfl⟩
 rw [← hWn] at kbn hsn hbo hn1 hn4
 rw [← hBb] at kbn
 have hSb:Hid (∀ W,Below w6.heap.size w6 W→W.cell? ⟨Bb,0,none⟩=some (.string ⟨bv0.toArray⟩)∧W.cell? ⟨Bb,1,none⟩=some (.int .i64 bv1)∧W.cell? ⟨Bb,2,none⟩=some (.int .i64 bv2)∧W.cell? ⟨Bb,3,none⟩=some (.slice bv3 bv4 bv5)∧W.cell? ⟨Bb,4,none⟩=some (.slice bv6 bv7 bv8)∧W.cell? ⟨Bb,5,none⟩=some (.slice bv9 bv10 bv11)∧W.cell? ⟨Bb,6,none⟩=some (.slice bv12 bv13 bv14)):=fun W h=>blk7 (kbn.below h (by omega))
 have H1_6:=Lib.hid hn1
 have H4_6:=Lib.hid hn4
 have H6_6:Hid (Below w6.heap.size w6 w6):=Below.refl _ _
 have hOb:Hid (∀ W,Below w6.heap.size w6 W→Eb=0→Calls Tryz.prog 36 #[.agg #[.string ⟨bv0.toArray⟩,.int .i64 bv1,.int .i64 bv2,.slice bv3 bv4 bv5,.slice bv6 bv7 bv8,.slice bv9 bv10 bv11,.slice bv12 bv13 bv14]] W fun e w'=>e=.returned (.int .i64 0)∧Below W.heap.size W w'):=fun W h h0=>check_said (y:=⟨bv0,bv1,bv2,⟨bv3,bv4,bv5,bl0⟩,⟨bv6,bv7,bv8,bl1⟩,⟨bv9,bv10,bv11,bl2⟩,⟨bv12,bv13,bv14,bl3⟩⟩) (((HY.out h0).1.below hbo).below (h.mono (by omega))).rd (HY.out h0).2 (hMb.out h0).1 (hMb.out h0).2
 clear HY
 clear kbn hsn hbo hn1 hn4
 have hc:=hCc.out w6 H1_6.out
 have kk:=hKt.out _ H1_6.out
 obtain ⟨c0,c1,c2,c3,c4,c5,c6⟩:=(⟨kk.cell 0,kk.cell 1,kk.cell 2,kk.cell 3,kk.cell 4,kk.cell 5,kk.cell 6⟩:_∧_∧_∧_∧_∧_∧_)
 simp only [zF,zD,zE] at c0 c1 c2 c3 c4 c5 c6
 clear kk
 go_wp2_with (refine wpList_store_new w5 rfl 27 (.tmp 12) (.tmp 34) rfl 27 [.string ⟨#[]⟩,.int .i64 0,.int .i64 0,.slice none 0 0,.slice none 0 0,.slice none 0 0,.slice none 0 0] [.string ⟨bv0.toArray⟩,.int .i64 bv1,.int .i64 bv2,.slice bv3 bv4 bv5,.slice bv6 bv7 bv8,.slice bv9 bv10 bv11,.slice bv12 bv13 bv14] rfl rfl rfl (by kernel_rfl) (by simp [Value.oneCell']) ?_;rw [show ([.string ⟨bv0.toArray⟩,.int .i64 bv1,.int .i64 bv2,.slice bv3 bv4 bv5,.slice bv6 bv7 bv8,.slice bv9 bv10 bv11,.slice bv12 bv13 bv14]:List Value).toArray=#[.string ⟨bv0.toArray⟩,.int .i64 bv1,.int .i64 bv2,.slice bv3 bv4 bv5,.slice bv6 bv7 bv8,.slice bv9 bv10 bv11,.slice bv12 bv13 bv14] from rfl,← hWn,← hBb];clear hWn hBb)
 refine hc.mono ?_
 clear hc c0 c1 c2 c3 c4 c5 c6
 rintro e w7 hone
 obtain ⟨y,rfl,hb,hyo⟩:=hone.one
 have H1_7:=Lib.hid (H1_6.out.trans (hb.mono H1_6.out.size))
 have H4_7:=Lib.hid (H4_6.out.trans (hb.mono H4_6.out.size))
 have H6_7:=Lib.hid (H6_6.out.trans (hb.mono H6_6.out.size))
 clear hb
 have HY:=Lib.hid hyo
 clear hyo hone
 obtain ⟨cv0,cv1,cv2,⟨cv3,cv4,cv5,cl0⟩,⟨cv6,cv7,cv8,cl1⟩,⟨cv9,cv10,cv11,cl2⟩,⟨cv12,cv13,cv14,cl3⟩⟩:=y
 simp only [TenR.val,TenR.cells,FS.val,strV]
 have hn1:=(H1_7.out).alloc H1_7.out.size (.cells #[.string ⟨cv0.toArray⟩,.int .i64 cv1,.int .i64 cv2,.slice cv3 cv4 cv5,.slice cv6 cv7 cv8,.slice cv9 cv10 cv11,.slice cv12 cv13 cv14] 27)
 have hn4:=(H4_7.out).alloc H4_7.out.size (.cells #[.string ⟨cv0.toArray⟩,.int .i64 cv1,.int .i64 cv2,.slice cv3 cv4 cv5,.slice cv6 cv7 cv8,.slice cv9 cv10 cv11,.slice cv12 cv13 cv14] 27)
 have hn6:=(H6_7.out).alloc H6_7.out.size (.cells #[.string ⟨cv0.toArray⟩,.int .i64 cv1,.int .i64 cv2,.slice cv3 cv4 cv5,.slice cv6 cv7 cv8,.slice cv9 cv10 cv11,.slice cv12 cv13 cv14] 27)
 have kbn:=Blk.new w7 27 #[.string ⟨cv0.toArray⟩,.int .i64 cv1,.int .i64 cv2,.slice cv3 cv4 cv5,.slice cv6 cv7 cv8,.slice cv9 cv10 cv11,.slice cv12 cv13 cv14]
 have hsn:(w7.alloc (.cells #[.string ⟨cv0.toArray⟩,.int .i64 cv1,.int .i64 cv2,.slice cv3 cv4 cv5,.slice cv6 cv7 cv8,.slice cv9 cv10 cv11,.slice cv12 cv13 cv14] 27)).heap.size=w7.heap.size+1:=by simp
 have hbo:=((Below.refl w7.heap.size w7).alloc (Nat.le_refl _) (.cells #[.string ⟨cv0.toArray⟩,.int .i64 cv1,.int .i64 cv2,.slice cv3 cv4 cv5,.slice cv6 cv7 cv8,.slice cv9 cv10 cv11,.slice cv12 cv13 cv14] 27))
 obtain ⟨Bc,hBc⟩:∃ g,g=w7.heap.size:=⟨_,rfl⟩
 obtain ⟨w8,hWn⟩:∃ W,W=(w7.alloc (.cells #[.string ⟨cv0.toArray⟩,.int .i64 cv1,.int .i64 cv2,.slice cv3 cv4 cv5,.slice cv6 cv7 cv8,.slice cv9 cv10 cv11,.slice cv12 cv13 cv14] 27)):=⟨_,rfl⟩
 rw [← hWn] at kbn hsn hbo hn1 hn4 hn6
 rw [← hBc] at kbn
 have hSc:Hid (∀ W,Below w8.heap.size w8 W→W.cell? ⟨Bc,0,none⟩=some (.string ⟨cv0.toArray⟩)∧W.cell? ⟨Bc,1,none⟩=some (.int .i64 cv1)∧W.cell? ⟨Bc,2,none⟩=some (.int .i64 cv2)∧W.cell? ⟨Bc,3,none⟩=some (.slice cv3 cv4 cv5)∧W.cell? ⟨Bc,4,none⟩=some (.slice cv6 cv7 cv8)∧W.cell? ⟨Bc,5,none⟩=some (.slice cv9 cv10 cv11)∧W.cell? ⟨Bc,6,none⟩=some (.slice cv12 cv13 cv14)):=fun W h=>blk7 (kbn.below h (by omega))
 have H1_8:=Lib.hid hn1
 have H4_8:=Lib.hid hn4
 have H6_8:=Lib.hid hn6
 have H8_8:Hid (Below w8.heap.size w8 w8):=Below.refl _ _
 have hOc:Hid (∀ W,Below w8.heap.size w8 W→Ec=0→Calls Tryz.prog 36 #[.agg #[.string ⟨cv0.toArray⟩,.int .i64 cv1,.int .i64 cv2,.slice cv3 cv4 cv5,.slice cv6 cv7 cv8,.slice cv9 cv10 cv11,.slice cv12 cv13 cv14]] W fun e w'=>e=.returned (.int .i64 0)∧Below W.heap.size W w'):=fun W h h0=>check_said (y:=⟨cv0,cv1,cv2,⟨cv3,cv4,cv5,cl0⟩,⟨cv6,cv7,cv8,cl1⟩,⟨cv9,cv10,cv11,cl2⟩,⟨cv12,cv13,cv14,cl3⟩⟩) (((HY.out h0).1.below hbo).below (h.mono (by omega))).rd (HY.out h0).2 (hMc.out h0).1 (hMc.out h0).2
 clear HY
 clear kbn hsn hbo hn1 hn4 hn6
 have hc:=hCd.out w8 H1_8.out
 have kk:=hKt.out _ H1_8.out
 obtain ⟨c0,c1,c2,c3,c4,c5,c6⟩:=(⟨kk.cell 0,kk.cell 1,kk.cell 2,kk.cell 3,kk.cell 4,kk.cell 5,kk.cell 6⟩:_∧_∧_∧_∧_∧_∧_)
 simp only [zF,zD,zE] at c0 c1 c2 c3 c4 c5 c6
 clear kk
 go_wp2_with (refine wpList_store_new w7 rfl 27 (.tmp 14) (.tmp 42) rfl 27 [.string ⟨#[]⟩,.int .i64 0,.int .i64 0,.slice none 0 0,.slice none 0 0,.slice none 0 0,.slice none 0 0] [.string ⟨cv0.toArray⟩,.int .i64 cv1,.int .i64 cv2,.slice cv3 cv4 cv5,.slice cv6 cv7 cv8,.slice cv9 cv10 cv11,.slice cv12 cv13 cv14] rfl rfl rfl (by kernel_rfl) (by simp [Value.oneCell']) ?_;rw [show ([.string ⟨cv0.toArray⟩,.int .i64 cv1,.int .i64 cv2,.slice cv3 cv4 cv5,.slice cv6 cv7 cv8,.slice cv9 cv10 cv11,.slice cv12 cv13 cv14]:List Value).toArray=#[.string ⟨cv0.toArray⟩,.int .i64 cv1,.int .i64 cv2,.slice cv3 cv4 cv5,.slice cv6 cv7 cv8,.slice cv9 cv10 cv11,.slice cv12 cv13 cv14] from rfl,← hWn,← hBc];clear hWn hBc)
 refine hc.mono ?_
 clear hc c0 c1 c2 c3 c4 c5 c6
 rintro e w9 hone
 obtain ⟨y,rfl,hb,hyo⟩:=hone.one
 have H1_9:=Lib.hid (H1_8.out.trans (hb.mono H1_8.out.size))
 have H4_9:=Lib.hid (H4_8.out.trans (hb.mono H4_8.out.size))
 have H6_9:=Lib.hid (H6_8.out.trans (hb.mono H6_8.out.size))
 have H8_9:=Lib.hid (H8_8.out.trans (hb.mono H8_8.out.size))
 clear hb
 have HY:=Lib.hid hyo
 clear hyo hone
 obtain ⟨dv0,dv1,dv2,⟨dv3,dv4,dv5,dl0⟩,⟨dv6,dv7,dv8,dl1⟩,⟨dv9,dv10,dv11,dl2⟩,⟨dv12,dv13,dv14,dl3⟩⟩:=y
 simp only [TenR.val,TenR.cells,FS.val,strV]
 have hn1:=(H1_9.out).alloc H1_9.out.size (.cells #[.string ⟨dv0.toArray⟩,.int .i64 dv1,.int .i64 dv2,.slice dv3 dv4 dv5,.slice dv6 dv7 dv8,.slice dv9 dv10 dv11,.slice dv12 dv13 dv14] 27)
 have hn4:=(H4_9.out).alloc H4_9.out.size (.cells #[.string ⟨dv0.toArray⟩,.int .i64 dv1,.int .i64 dv2,.slice dv3 dv4 dv5,.slice dv6 dv7 dv8,.slice dv9 dv10 dv11,.slice dv12 dv13 dv14] 27)
 have hn6:=(H6_9.out).alloc H6_9.out.size (.cells #[.string ⟨dv0.toArray⟩,.int .i64 dv1,.int .i64 dv2,.slice dv3 dv4 dv5,.slice dv6 dv7 dv8,.slice dv9 dv10 dv11,.slice dv12 dv13 dv14] 27)
 have hn8:=(H8_9.out).alloc H8_9.out.size (.cells #[.string ⟨dv0.toArray⟩,.int .i64 dv1,.int .i64 dv2,.slice dv3 dv4 dv5,.slice dv6 dv7 dv8,.slice dv9 dv10 dv11,.slice dv12 dv13 dv14] 27)
 have kbn:=Blk.new w9 27 #[.string ⟨dv0.toArray⟩,.int .i64 dv1,.int .i64 dv2,.slice dv3 dv4 dv5,.slice dv6 dv7 dv8,.slice dv9 dv10 dv11,.slice dv12 dv13 dv14]
 have hsn:(w9.alloc (.cells #[.string ⟨dv0.toArray⟩,.int .i64 dv1,.int .i64 dv2,.slice dv3 dv4 dv5,.slice dv6 dv7 dv8,.slice dv9 dv10 dv11,.slice dv12 dv13 dv14] 27)).heap.size=w9.heap.size+1:=by simp
 have hbo:=((Below.refl w9.heap.size w9).alloc (Nat.le_refl _) (.cells #[.string ⟨dv0.toArray⟩,.int .i64 dv1,.int .i64 dv2,.slice dv3 dv4 dv5,.slice dv6 dv7 dv8,.slice dv9 dv10 dv11,.slice dv12 dv13 dv14] 27))
 obtain ⟨Bd,hBd⟩:∃ g,g=w9.heap.size:=⟨_,rfl⟩
 obtain ⟨w10,hWn⟩:∃ W,W=(w9.alloc (.cells #[.string ⟨dv0.toArray⟩,.int .i64 dv1,.int .i64 dv2,.slice dv3 dv4 dv5,.slice dv6 dv7 dv8,.slice dv9 dv10 dv11,.slice dv12 dv13 dv14] 27)):=⟨_,rfl⟩
 rw [← hWn] at kbn hsn hbo hn1 hn4 hn6 hn8
 rw [← hBd] at kbn
 have hSd:Hid (∀ W,Below w10.heap.size w10 W→W.cell? ⟨Bd,0,none⟩=some (.string ⟨dv0.toArray⟩)∧W.cell? ⟨Bd,1,none⟩=some (.int .i64 dv1)∧W.cell? ⟨Bd,2,none⟩=some (.int .i64 dv2)∧W.cell? ⟨Bd,3,none⟩=some (.slice dv3 dv4 dv5)∧W.cell? ⟨Bd,4,none⟩=some (.slice dv6 dv7 dv8)∧W.cell? ⟨Bd,5,none⟩=some (.slice dv9 dv10 dv11)∧W.cell? ⟨Bd,6,none⟩=some (.slice dv12 dv13 dv14)):=fun W h=>blk7 (kbn.below h (by omega))
 have H1_10:=Lib.hid hn1
 have H4_10:=Lib.hid hn4
 have H6_10:=Lib.hid hn6
 have H8_10:=Lib.hid hn8
 have H10_10:Hid (Below w10.heap.size w10 w10):=Below.refl _ _
 have hOd:Hid (∀ W,Below w10.heap.size w10 W→Ed=0→Calls Tryz.prog 36 #[.agg #[.string ⟨dv0.toArray⟩,.int .i64 dv1,.int .i64 dv2,.slice dv3 dv4 dv5,.slice dv6 dv7 dv8,.slice dv9 dv10 dv11,.slice dv12 dv13 dv14]] W fun e w'=>e=.returned (.int .i64 0)∧Below W.heap.size W w'):=fun W h h0=>check_said (y:=⟨dv0,dv1,dv2,⟨dv3,dv4,dv5,dl0⟩,⟨dv6,dv7,dv8,dl1⟩,⟨dv9,dv10,dv11,dl2⟩,⟨dv12,dv13,dv14,dl3⟩⟩) (((HY.out h0).1.below hbo).below (h.mono (by omega))).rd (HY.out h0).2 (hMd.out h0).1 (hMd.out h0).2
 clear HY
 clear kbn hsn hbo hn1 hn4 hn6 hn8
 go_upto_region 7 with (refine wpList_store_new w9 rfl 27 (.tmp 16) (.tmp 49) rfl 27 [.string ⟨#[]⟩,.int .i64 0,.int .i64 0,.slice none 0 0,.slice none 0 0,.slice none 0 0,.slice none 0 0] [.string ⟨dv0.toArray⟩,.int .i64 dv1,.int .i64 dv2,.slice dv3 dv4 dv5,.slice dv6 dv7 dv8,.slice dv9 dv10 dv11,.slice dv12 dv13 dv14] rfl rfl rfl (by kernel_rfl) (by simp [Value.oneCell']) ?_;rw [show ([.string ⟨dv0.toArray⟩,.int .i64 dv1,.int .i64 dv2,.slice dv3 dv4 dv5,.slice dv6 dv7 dv8,.slice dv9 dv10 dv11,.slice dv12 dv13 dv14]:List Value).toArray=#[.string ⟨dv0.toArray⟩,.int .i64 dv1,.int .i64 dv2,.slice dv3 dv4 dv5,.slice dv6 dv7 dv8,.slice dv9 dv10 dv11,.slice dv12 dv13 dv14] from rfl,← hWn,← hBd];clear hWn hBd)
 have hXa:=H4_10
 have hXb:=H6_10
 have hXc:=H8_10
 have hXd:=H10_10
 have hX1:=H1_10
 have G0:Hid (Below w10.heap.size w10 w10):=Below.refl _ _
 by_cases hEa:Ea=0
 ·have hEba:(Ea == 0)=true:=by simpa using hEa
  have hbw:=hXa.out.trans (G0.out.mono hXa.out.size)
  obtain ⟨c0,c1,c2,c3,c4,c5,c6⟩:=hSa.out w10 hbw
  have hc:=hOa.out w10 hbw hEa
  clear hbw
  go_wp2_with fail
  refine hc.mono ?_
  clear hc c0 c1 c2 c3 c4 c5 c6 hEa hEba
  rintro e v1 ⟨rfl,hb⟩
  have G1:=Lib.hid (G0.out.trans (hb.mono G0.out.size))
  clear hb
  by_cases hEb:Eb=0
  ·have hEbb:(Eb == 0)=true:=by simpa using hEb
   have hbw:=hXb.out.trans (G1.out.mono hXb.out.size)
   obtain ⟨c0,c1,c2,c3,c4,c5,c6⟩:=hSb.out v1 hbw
   have hc:=hOb.out v1 hbw hEb
   clear hbw
   go_wp2_with fail
   refine hc.mono ?_
   clear hc c0 c1 c2 c3 c4 c5 c6 hEb hEbb
   rintro e v2 ⟨rfl,hb⟩
   have G2:=Lib.hid (G1.out.trans (hb.mono G1.out.size))
   clear hb
   by_cases hEc:Ec=0
   ·have hEbc:(Ec == 0)=true:=by simpa using hEc
    have hbw:=hXc.out.trans (G2.out.mono hXc.out.size)
    obtain ⟨c0,c1,c2,c3,c4,c5,c6⟩:=hSc.out v2 hbw
    have hc:=hOc.out v2 hbw hEc
    clear hbw
    go_wp2_with fail
    refine hc.mono ?_
    clear hc c0 c1 c2 c3 c4 c5 c6 hEc hEbc
    rintro e v3 ⟨rfl,hb⟩
    have G3:=Lib.hid (G2.out.trans (hb.mono G2.out.size))
    clear hb
    by_cases hEd:Ed=0
    ·have hEbd:(Ed == 0)=true:=by simpa using hEd
     have hbw:=hXd.out.trans (G3.out.mono hXd.out.size)
     obtain ⟨c0,c1,c2,c3,c4,c5,c6⟩:=hSd.out v3 hbw
     have hc:=hOd.out v3 hbw hEd
     clear hbw
     go_wp2_with fail
     refine hc.mono ?_
     clear hc c0 c1 c2 c3 c4 c5 c6 hEd hEbd
     rintro e v4 ⟨rfl,hb⟩
     have G4:=Lib.hid (G3.out.trans (hb.mono G3.out.size))
     clear hb
     go_wp2_with fail
     go_ret
     exact ⟨rfl,hBW.out _ (hX1.out.trans (G4.out.mono hX1.out.size))⟩
    ·have hEbd:(Ed == 0)=false:=by simpa using hEd
     go_wp2_with fail
     go_ret
     exact ⟨rfl,hBW.out _ (hX1.out.trans (G3.out.mono hX1.out.size))⟩
   ·have hEbc:(Ec == 0)=false:=by simpa using hEc
    by_cases hEd:Ed=0
    ·have hEbd:(Ed == 0)=true:=by simpa using hEd
     have hbw:=hXd.out.trans (G2.out.mono hXd.out.size)
     obtain ⟨c0,c1,c2,c3,c4,c5,c6⟩:=hSd.out v2 hbw
     have hc:=hOd.out v2 hbw hEd
     clear hbw
     go_wp2_with fail
     refine hc.mono ?_
     clear hc c0 c1 c2 c3 c4 c5 c6 hEd hEbd
     rintro e v3 ⟨rfl,hb⟩
     have G3:=Lib.hid (G2.out.trans (hb.mono G2.out.size))
     clear hb
     go_wp2_with fail
     go_ret
     exact ⟨rfl,hBW.out _ (hX1.out.trans (G3.out.mono hX1.out.size))⟩
    ·have hEbd:(Ed == 0)=false:=by simpa using hEd
     go_wp2_with fail
     go_ret
     exact ⟨rfl,hBW.out _ (hX1.out.trans (G2.out.mono hX1.out.size))⟩
  ·have hEbb:(Eb == 0)=false:=by simpa using hEb
   by_cases hEc:Ec=0
   ·have hEbc:(Ec == 0)=true:=by simpa using hEc
    have hbw:=hXc.out.trans (G1.out.mono hXc.out.size)
    obtain ⟨c0,c1,c2,c3,c4,c5,c6⟩:=hSc.out v1 hbw
    have hc:=hOc.out v1 hbw hEc
    clear hbw
    go_wp2_with fail
    refine hc.mono ?_
    clear hc c0 c1 c2 c3 c4 c5 c6 hEc hEbc
    rintro e v2 ⟨rfl,hb⟩
    have G2:=Lib.hid (G1.out.trans (hb.mono G1.out.size))
    clear hb
    by_cases hEd:Ed=0
    ·have hEbd:(Ed == 0)=true:=by simpa using hEd
     have hbw:=hXd.out.trans (G2.out.mono hXd.out.size)
     obtain ⟨c0,c1,c2,c3,c4,c5,c6⟩:=hSd.out v2 hbw
     have hc:=hOd.out v2 hbw hEd
     clear hbw
     go_wp2_with fail
     refine hc.mono ?_
     clear hc c0 c1 c2 c3 c4 c5 c6 hEd hEbd
     rintro e v3 ⟨rfl,hb⟩
     have G3:=Lib.hid (G2.out.trans (hb.mono G2.out.size))
     clear hb
     go_wp2_with fail
     go_ret
     exact ⟨rfl,hBW.out _ (hX1.out.trans (G3.out.mono hX1.out.size))⟩
    ·have hEbd:(Ed == 0)=false:=by simpa using hEd
     go_wp2_with fail
     go_ret
     exact ⟨rfl,hBW.out _ (hX1.out.trans (G2.out.mono hX1.out.size))⟩
   ·have hEbc:(Ec == 0)=false:=by simpa using hEc
    by_cases hEd:Ed=0
    ·have hEbd:(Ed == 0)=true:=by simpa using hEd
     have hbw:=hXd.out.trans (G1.out.mono hXd.out.size)
     obtain ⟨c0,c1,c2,c3,c4,c5,c6⟩:=hSd.out v1 hbw
     have hc:=hOd.out v1 hbw hEd
     clear hbw
     go_wp2_with fail
     refine hc.mono ?_
     clear hc c0 c1 c2 c3 c4 c5 c6 hEd hEbd
     rintro e v2 ⟨rfl,hb⟩
     have G2:=Lib.hid (G1.out.trans (hb.mono G1.out.size))
     clear hb
     go_wp2_with fail
     go_ret
     exact ⟨rfl,hBW.out _ (hX1.out.trans (G2.out.mono hX1.out.size))⟩
    ·have hEbd:(Ed == 0)=false:=by simpa using hEd
     go_wp2_with fail
     go_ret
     exact ⟨rfl,hBW.out _ (hX1.out.trans (G1.out.mono hX1.out.size))⟩
 ·have hEba:(Ea == 0)=false:=by simpa using hEa
  by_cases hEb:Eb=0
  ·have hEbb:(Eb == 0)=true:=by simpa using hEb
   have hbw:=hXb.out.trans (G0.out.mono hXb.out.size)
   obtain ⟨c0,c1,c2,c3,c4,c5,c6⟩:=hSb.out w10 hbw
   have hc:=hOb.out w10 hbw hEb
   clear hbw
   go_wp2_with fail
   refine hc.mono ?_
   clear hc c0 c1 c2 c3 c4 c5 c6 hEb hEbb
   rintro e v1 ⟨rfl,hb⟩
   have G1:=Lib.hid (G0.out.trans (hb.mono G0.out.size))
   clear hb
   by_cases hEc:Ec=0
   ·have hEbc:(Ec == 0)=true:=by simpa using hEc
    have hbw:=hXc.out.trans (G1.out.mono hXc.out.size)
    obtain ⟨c0,c1,c2,c3,c4,c5,c6⟩:=hSc.out v1 hbw
    have hc:=hOc.out v1 hbw hEc
    clear hbw
    go_wp2_with fail
    refine hc.mono ?_
    clear hc c0 c1 c2 c3 c4 c5 c6 hEc hEbc
    rintro e v2 ⟨rfl,hb⟩
    have G2:=Lib.hid (G1.out.trans (hb.mono G1.out.size))
    clear hb
    by_cases hEd:Ed=0
    ·have hEbd:(Ed == 0)=true:=by simpa using hEd
     have hbw:=hXd.out.trans (G2.out.mono hXd.out.size)
     obtain ⟨c0,c1,c2,c3,c4,c5,c6⟩:=hSd.out v2 hbw
     have hc:=hOd.out v2 hbw hEd
     clear hbw
     go_wp2_with fail
     refine hc.mono ?_
     clear hc c0 c1 c2 c3 c4 c5 c6 hEd hEbd
     rintro e v3 ⟨rfl,hb⟩
     have G3:=Lib.hid (G2.out.trans (hb.mono G2.out.size))
     clear hb
     go_wp2_with fail
     go_ret
     exact ⟨rfl,hBW.out _ (hX1.out.trans (G3.out.mono hX1.out.size))⟩
    ·have hEbd:(Ed == 0)=false:=by simpa using hEd
     go_wp2_with fail
     go_ret
     exact ⟨rfl,hBW.out _ (hX1.out.trans (G2.out.mono hX1.out.size))⟩
   ·have hEbc:(Ec == 0)=false:=by simpa using hEc
    by_cases hEd:Ed=0
    ·have hEbd:(Ed == 0)=true:=by simpa using hEd
     have hbw:=hXd.out.trans (G1.out.mono hXd.out.size)
     obtain ⟨c0,c1,c2,c3,c4,c5,c6⟩:=hSd.out v1 hbw
     have hc:=hOd.out v1 hbw hEd
     clear hbw
     go_wp2_with fail
     refine hc.mono ?_
     clear hc c0 c1 c2 c3 c4 c5 c6 hEd hEbd
     rintro e v2 ⟨rfl,hb⟩
     have G2:=Lib.hid (G1.out.trans (hb.mono G1.out.size))
     clear hb
     go_wp2_with fail
     go_ret
     exact ⟨rfl,hBW.out _ (hX1.out.trans (G2.out.mono hX1.out.size))⟩
    ·have hEbd:(Ed == 0)=false:=by simpa using hEd
     go_wp2_with fail
     go_ret
     exact ⟨rfl,hBW.out _ (hX1.out.trans (G1.out.mono hX1.out.size))⟩
  ·have hEbb:(Eb == 0)=false:=by simpa using hEb
   by_cases hEc:Ec=0
   ·have hEbc:(Ec == 0)=true:=by simpa using hEc
    have hbw:=hXc.out.trans (G0.out.mono hXc.out.size)
    obtain ⟨c0,c1,c2,c3,c4,c5,c6⟩:=hSc.out w10 hbw
    have hc:=hOc.out w10 hbw hEc
    clear hbw
    go_wp2_with fail
    refine hc.mono ?_
    clear hc c0 c1 c2 c3 c4 c5 c6 hEc hEbc
    rintro e v1 ⟨rfl,hb⟩
    have G1:=Lib.hid (G0.out.trans (hb.mono G0.out.size))
    clear hb
    by_cases hEd:Ed=0
    ·have hEbd:(Ed == 0)=true:=by simpa using hEd
     have hbw:=hXd.out.trans (G1.out.mono hXd.out.size)
     obtain ⟨c0,c1,c2,c3,c4,c5,c6⟩:=hSd.out v1 hbw
     have hc:=hOd.out v1 hbw hEd
     clear hbw
     go_wp2_with fail
     refine hc.mono ?_
     clear hc c0 c1 c2 c3 c4 c5 c6 hEd hEbd
     rintro e v2 ⟨rfl,hb⟩
     have G2:=Lib.hid (G1.out.trans (hb.mono G1.out.size))
     clear hb
     go_wp2_with fail
     go_ret
     exact ⟨rfl,hBW.out _ (hX1.out.trans (G2.out.mono hX1.out.size))⟩
    ·have hEbd:(Ed == 0)=false:=by simpa using hEd
     go_wp2_with fail
     go_ret
     exact ⟨rfl,hBW.out _ (hX1.out.trans (G1.out.mono hX1.out.size))⟩
   ·have hEbc:(Ec == 0)=false:=by simpa using hEc
    by_cases hEd:Ed=0
    ·have hEbd:(Ed == 0)=true:=by simpa using hEd
     have hbw:=hXd.out.trans (G0.out.mono hXd.out.size)
     obtain ⟨c0,c1,c2,c3,c4,c5,c6⟩:=hSd.out w10 hbw
     have hc:=hOd.out w10 hbw hEd
     clear hbw
     go_wp2_with fail
     refine hc.mono ?_
     clear hc c0 c1 c2 c3 c4 c5 c6 hEd hEbd
     rintro e v1 ⟨rfl,hb⟩
     have G1:=Lib.hid (G0.out.trans (hb.mono G0.out.size))
     clear hb
     go_wp2_with fail
     go_ret
     exact ⟨rfl,hBW.out _ (hX1.out.trans (G1.out.mono hX1.out.size))⟩
    ·have hEbd:(Ed == 0)=false:=by simpa using hEd
     go_wp2_with fail
     go_ret
     exact ⟨rfl,hBW.out _ (hX1.out.trans (G0.out.mono hX1.out.size))⟩
end Go.Proofs.YtpbejobgickffaaGreatDoor
