/-
  The page's asked, settled and Settle. The example of chapter 16: the page's New, and a set made. shape.Destroy: a set is gone.
-/
import Derived.Test.YtcgclpcocdappaaGreatDoorXM1
import Derived.Test.YtcgclpcocdappaaGreatDoorX0
import Derived.Test.YtcgclpcocdappaaGreatDoorX26
import Derived.Test.YtcgclpcocdappaaGreatDoorX25
import Derived.Test.YtcgclpcocdappaaGreatDoorX21
import Derived.Test.YtcgclpcocdappaaGreatDoorX10
import Derived.Test.YtcgclpcocdappaaGreatDoorX24
import Derived.Test.YtcgclpcocdappaaGreatDoorX22
import Derived.Test.YtcgclpcocdappaaGreatDoorX5
import Derived.Test.YtcgclpcocdappaaGreatDoorX6
import Derived.Test.YtcgclpcocdappaaGreatDoorRows
import Derived.Handy
import Derived.Lib.Hide
import Derived.Deep.RegionLaw
import Derived.Test.YtcgclpcocdappaaGreatDoorX12
import Derived.Test.YtcgclpcocdappaaGreatDoorX2
import Derived.Test.YtcgclpcocdappaaGreatDoorX19
namespace Go.Proofs.YtcgclpcocdappaaGreatDoor
open Go.RowKit
set_option maxRecDepth 100000 in
set_option maxHeartbeats 2000000 in
theorem rasked_any (t:TenR) (p:BS) (w:World) (B:Nat) (hB:B≤w.heap.size) (hr:t.rd w B) (hz:t.sz) (hp:p.length≤4000000000) :
  Calls Tryz.prog 48 #[t.val,.string ⟨p.toArray⟩] w fun e w'=>e=.returned (.int .i64 (t.con.ask p))∧Below w.heap.size w w':=by
 have h2:=t.con.E_two
 obtain ⟨V,hV⟩:∃ V,V=t.con.ask p:=⟨_,rfl⟩
 have hVe:V=if t.con.E=9 then 9 else if pathB p=false then 31 else 0:=hV
 have hCe:=tenE_con t
 rw [← hV]
 obtain ⟨nm,qu,nx,⟨s1,sn,s3,sl⟩,⟨u1,un,u3,ul⟩,⟨t1,tn,t3,tl⟩,⟨l1,ln,l3,ll⟩⟩:=t
 show Calls Tryz.prog 48 #[.agg #[.string ⟨nm.toArray⟩,.int .i64 qu,.int .i64 nx,.slice s1 sn s3,.slice u1 un u3,.slice t1 tn t3,.slice l1 ln l3],.string ⟨p.toArray⟩] w _
 have hb:=((Below.refl w.heap.size w).alloc (Nat.le_refl _) (.cells #[.string ⟨nm.toArray⟩,.int .i64 qu,.int .i64 nx,.slice s1 sn s3,.slice u1 un u3,.slice t1 tn t3,.slice l1 ln l3] 27))
 have kt:=Blk.new w 27 #[.string ⟨nm.toArray⟩,.int .i64 qu,.int .i64 nx,.slice s1 sn s3,.slice u1 un u3,.slice t1 tn t3,.slice l1 ln l3]
 have hsz:(w.alloc (.cells #[.string ⟨nm.toArray⟩,.int .i64 qu,.int .i64 nx,.slice s1 sn s3,.slice u1 un u3,.slice t1 tn t3,.slice l1 ln l3] 27)).heap.size=w.heap.size+1:=tZ3
 obtain ⟨W1,hW1⟩:∃ W,W=(w.alloc (.cells #[.string ⟨nm.toArray⟩,.int .i64 qu,.int .i64 nx,.slice s1 sn s3,.slice u1 un u3,.slice t1 tn t3,.slice l1 ln l3] 27)):=⟨_,rfl⟩
 rw [← hW1] at hb hsz kt
 have hKt:Hid (∀ W,Below W1.heap.size W1 W→Blk W w.heap.size 27 #[.string ⟨nm.toArray⟩,.int .i64 qu,.int .i64 nx,.slice s1 sn s3,.slice u1 un u3,.slice t1 tn t3,.slice l1 ln l3]):=fun W h=>kt.below h tZ1
 have hBW:Hid (∀ W,Below W1.heap.size W1 W→Below w.heap.size w W):=fun W h=>hb.trans (h.mono tZ1)
 have hSZ:Hid (∀ W,Below W1.heap.size W1 W→w.heap.size+1≤W.heap.size):=fun W h=>by have:=h.size;omega
 have hW0:Hid (Below W1.heap.size W1 W1):=Below.refl _ _
 have hCK:Hid (∀ W,Below W1.heap.size W1 W→Calls Tryz.prog 18 #[.agg #[.string ⟨nm.toArray⟩,.int .i64 qu,.int .i64 nx,.slice s1 sn s3,.slice u1 un u3,.slice t1 tn t3,.slice l1 ln l3]] W fun e w'=>e=.returned (.int .i64 (TenR.con ⟨nm,qu,nx,⟨s1,sn,s3,sl⟩,⟨u1,un,u3,ul⟩,⟨t1,tn,t3,tl⟩,⟨l1,ln,l3,ll⟩⟩).E)∧Below W.heap.size W w'):=fun W h=>by
  rw [← hCe]
  exact rcheck14_any ⟨nm,qu,nx,⟨s1,sn,s3,sl⟩,⟨u1,un,u3,ul⟩,⟨t1,tn,t3,tl⟩,⟨l1,ln,l3,ll⟩⟩ W B (TenR.rd.below hr ((hBW.out W h).mono hB)) (by have:=hSZ.out W h;omega) hz
 have hPA:Hid (∀ W,Below W1.heap.size W1 W→Calls Tryz.prog 115 #[.string ⟨p.toArray⟩] W fun e w'=>e=.returned (.bool (pathB p))∧Below W.heap.size W w'):=fun W h =>
  refPath_any ⟨p.toArray⟩ W tZ123
 obtain ⟨E,hE⟩:∃ E,E=(TenR.con ⟨nm,qu,nx,⟨s1,sn,s3,sl⟩,⟨u1,un,u3,ul⟩,⟨t1,tn,t3,tl⟩,⟨l1,ln,l3,ll⟩⟩).E:=⟨_,rfl⟩
 obtain ⟨b,hb0⟩:∃ b,b=pathB p:=⟨_,rfl⟩
 rw [← hE] at h2 hVe hCK
 rw [← hb0] at hVe hPA
 have HV:=Lib.hid hVe
 clear hb hsz kt hr hz hp hV hVe hCe hE hb0
 go_enter Tryz.func48,Tryz.ntmps48
 have hc:=hCK.out  W1 hW0.out
 have kk:=hKt.out W1 hW0.out
 obtain ⟨c0,c1,c2,c3,c4,c5,c6⟩:=(⟨kk.cell 0,kk.cell 1,kk.cell 2,kk.cell 3,kk.cell 4,kk.cell 5,kk.cell 6⟩:_∧_∧_∧_∧_∧_∧_)
 simp only [zF,zD,zE] at c0 c1 c2 c3 c4 c5 c6
 clear kk
 go_wp2_with fail
 rw [← hW1]
 clear hW1
 refine hc.mono ?_
 clear hc c0 c1 c2 c3 c4 c5 c6
 rintro e w2 ⟨rfl,hb⟩
 have HW2:=Lib.hid (hW0.out.trans (hb.mono hW0.out.size))
 clear hb
 rcases h2 with rfl | rfl
 ·have hc:=hPA.out  w2 HW2.out
  go_wp2_with fail
  refine hc.mono ?_
  clear hc
  rintro e w3 ⟨rfl,hb⟩
  have HW3:=Lib.hid (HW2.out.trans (hb.mono HW2.out.size))
  clear hb
  cases b with
  | false =>
   go_wp2_with fail
   go_ret
   exact ⟨by rw [HV.out];rfl,hBW.out _ HW3.out⟩
  | true =>
   go_wp2_with fail
   go_ret
   exact ⟨by rw [HV.out];rfl,hBW.out _ HW3.out⟩
 ·go_wp2_with fail
  go_ret
  exact ⟨by rw [HV.out];rfl,hBW.out _ HW2.out⟩
/-- what fits, in place -/
def TenC.settled (c:TenC):Int×TenC:=if c.quota<(c.charge:Int) then (42,c) else (0,c)
def SettledPost (q U:Int) (v:Value) (w:World) (e:Ending) (w':World):Prop:=Below w.heap.size w w'∧((q<U∧e=.returned (.tuple #[ZEROT,.int .i64 42]))∨(¬ q<U∧e=.returned (.tuple #[v,.int .i64 0])))
set_option maxRecDepth 100000 in
set_option maxHeartbeats 2000000 in
theorem rsettled_any (t:TenR) (w:World) (base:Nat) (ho:TenO w base t) (hz:t.sz) (hE:tenE t=0) :
  Calls Tryz.prog 54 #[t.val] w (SettledPost t.con.quota (t.con.charge:Int) t.val w):=by
 have hr:=ho.rd
 have hsm:=tenSum_small t hz hE
 have hsc:=tenSum_con t w _ hr
 obtain ⟨U,hU⟩:∃ U:Int,U=(t.con.charge:Int):=⟨_,rfl⟩
 rw [← hU] at hsc ⊢
 obtain ⟨nm,qu,nx,⟨s1,sn,s3,sl⟩,⟨u1,un,u3,ul⟩,⟨t1,tn,t3,tl⟩,⟨l1,ln,l3,ll⟩⟩:=t
 show Calls Tryz.prog 54 #[.agg #[.string ⟨nm.toArray⟩,.int .i64 qu,.int .i64 nx,.slice s1 sn s3,.slice u1 un u3,.slice t1 tn t3,.slice l1 ln l3]] w (SettledPost qu U (.agg #[.string ⟨nm.toArray⟩,.int .i64 qu,.int .i64 nx,.slice s1 sn s3,.slice u1 un u3,.slice t1 tn t3,.slice l1 ln l3]) w)
 have hb:=(((Below.refl w.heap.size w).alloc (Nat.le_refl _) (.cells #[.string ⟨nm.toArray⟩,.int .i64 qu,.int .i64 nx,.slice s1 sn s3,.slice u1 un u3,.slice t1 tn t3,.slice l1 ln l3] 27)).alloc tZ3 (.cells #[.string ⟨#[]⟩,.int .i64 0,.int .i64 0,.slice none 0 0,.slice none 0 0,.slice none 0 0,.slice none 0 0] 27))
 have kt:=Blk.new w 27 #[.string ⟨nm.toArray⟩,.int .i64 qu,.int .i64 nx,.slice s1 sn s3,.slice u1 un u3,.slice t1 tn t3,.slice l1 ln l3]
 replace kt:=kt.alloc (.cells #[.string ⟨#[]⟩,.int .i64 0,.int .i64 0,.slice none 0 0,.slice none 0 0,.slice none 0 0,.slice none 0 0] 27)
 have kz:=Blk.new (w.alloc (.cells #[.string ⟨nm.toArray⟩,.int .i64 qu,.int .i64 nx,.slice s1 sn s3,.slice u1 un u3,.slice t1 tn t3,.slice l1 ln l3] 27)) 27 #[.string ⟨#[]⟩,.int .i64 0,.int .i64 0,.slice none 0 0,.slice none 0 0,.slice none 0 0,.slice none 0 0]
 rw [show (w.alloc (.cells #[.string ⟨nm.toArray⟩,.int .i64 qu,.int .i64 nx,.slice s1 sn s3,.slice u1 un u3,.slice t1 tn t3,.slice l1 ln l3] 27)).heap.size=w.heap.size+1 by simp] at kz
 have hsz:((w.alloc (.cells #[.string ⟨nm.toArray⟩,.int .i64 qu,.int .i64 nx,.slice s1 sn s3,.slice u1 un u3,.slice t1 tn t3,.slice l1 ln l3] 27)).alloc (.cells #[.string ⟨#[]⟩,.int .i64 0,.int .i64 0,.slice none 0 0,.slice none 0 0,.slice none 0 0,.slice none 0 0] 27)).heap.size=w.heap.size+2:=tZ3
 obtain ⟨W1,hW1⟩:∃ W,W=((w.alloc (.cells #[.string ⟨nm.toArray⟩,.int .i64 qu,.int .i64 nx,.slice s1 sn s3,.slice u1 un u3,.slice t1 tn t3,.slice l1 ln l3] 27)).alloc (.cells #[.string ⟨#[]⟩,.int .i64 0,.int .i64 0,.slice none 0 0,.slice none 0 0,.slice none 0 0,.slice none 0 0] 27)):=⟨_,rfl⟩
 rw [← hW1] at hb hsz kt kz
 have hKt:Hid (∀ W,Below W1.heap.size W1 W→Blk W w.heap.size 27 #[.string ⟨nm.toArray⟩,.int .i64 qu,.int .i64 nx,.slice s1 sn s3,.slice u1 un u3,.slice t1 tn t3,.slice l1 ln l3]):=fun W h=>kt.below h tZ1
 have hKz:Hid (∀ W,Below W1.heap.size W1 W→Blk W (w.heap.size+1) 27 #[.string ⟨#[]⟩,.int .i64 0,.int .i64 0,.slice none 0 0,.slice none 0 0,.slice none 0 0,.slice none 0 0]):=fun W h=>kz.below h tZ1
 have hBW:Hid (∀ W,Below W1.heap.size W1 W→Below w.heap.size w W):=fun W h=>hb.trans (h.mono tZ1)
 have hSZ:Hid (∀ W,Below W1.heap.size W1 W→w.heap.size+2≤W.heap.size):=fun W h=>by have:=h.size;omega
 have hW0:Hid (Below W1.heap.size W1 W1):=Below.refl _ _
 have hCG:Hid (∀ W,Below W1.heap.size W1 W→Calls Tryz.prog 22 #[.agg #[.string ⟨nm.toArray⟩,.int .i64 qu,.int .i64 nx,.slice s1 sn s3,.slice u1 un u3,.slice t1 tn t3,.slice l1 ln l3]] W fun e w'=>e=.returned (.int .i64 U)∧Below W.heap.size W w'):=fun W h=>by
  rw [← hsc]
  exact rcharge_any ⟨nm,qu,nx,⟨s1,sn,s3,sl⟩,⟨u1,un,u3,ul⟩,⟨t1,tn,t3,tl⟩,⟨l1,ln,l3,ll⟩⟩ W w.heap.size (by have:=hSZ.out W h;omega) (TenR.rd.below hr (hBW.out W h)) hz hsm
 have hS:Hid (∀ W,Below W1.heap.size W1 W→W.cell? ⟨w.heap.size,0,none⟩=some (.string ⟨nm.toArray⟩)∧W.cell? ⟨w.heap.size,1,none⟩=some (.int .i64 qu)∧W.cell? ⟨w.heap.size,2,none⟩=some (.int .i64 nx)∧W.cell? ⟨w.heap.size,3,none⟩=some (.slice s1 sn s3)∧W.cell? ⟨w.heap.size,4,none⟩=some (.slice u1 un u3)∧W.cell? ⟨w.heap.size,5,none⟩=some (.slice t1 tn t3)∧W.cell? ⟨w.heap.size,6,none⟩=some (.slice l1 ln l3)):=fun W h=>by
  have k1:=hKt.out W h
  exact ⟨k1.cell 0,k1.cell 1,k1.cell 2,k1.cell 3,k1.cell 4,k1.cell 5,k1.cell 6⟩
 clear hb hsz kt kz hr hz ho hE hsm hsc hU
 go_enter Tryz.func54,Tryz.ntmps54
 go_upto_region 1 with (fail)
 rw [← hW1]
 clear hW1
 by_cases hq:qu<U
 ·have HQ:=Lib.hid hq
  refine wp_region_good2 tZ2 tZ2 [(fun v _=>v=.agg #[.string ⟨nm.toArray⟩,.int .i64 qu,.int .i64 nx,.slice s1 sn s3,.slice u1 un u3,.slice t1 tn t3,.slice l1 ln l3]),
   (fun v _=>v=.int .i64 U),
   (fun v _=>v=.pointer (some ⟨w.heap.size,1,none⟩)),
   (fun v _=>v=.int .i64 qu),
   (fun v _=>v=.bool true)] ?_ ?_ ?_
  ·repeat' (first | exact stays_nil | refine stays_cons ?_ ?_ | exact Stays.pure)
  ·exact mZ221
  ·intro m W hbx hall
   have m0:=dV (hall 0 tZ3)
   have m1:=dV (hall 1 tZ3)
   have m2:=dV (hall 2 tZ3)
   have m3:=dV (hall 3 tZ3)
   have m4:=dV (hall 4 tZ3)
   rw [frameM_all tZ2 [.agg #[.string ⟨nm.toArray⟩,.int .i64 qu,.int .i64 nx,.slice s1 sn s3,.slice u1 un u3,.slice t1 tn t3,.slice l1 ln l3],.int .i64 U,.pointer (some ⟨w.heap.size,1,none⟩),.int .i64 qu,.bool true] rfl (fun i hi=>by rcases i with _ | _ | _ | _ | _ | i <;> first | assumption | (simp at hi;omega))]
   clear hall m0 m1 m2 m3 m4
   simp only [putAll,Act.put,zA,zC,zB]
   obtain ⟨w4,hw4⟩:∃ w4,w4=W:=⟨_,rfl⟩
   subst hw4
   have HW4:=Lib.hid hbx
   clear hbx
   clear hq
   have KZ:=Lib.hid (hKz.out w4 HW4.out)
   have HB:=Lib.hid (hBW.out w4 HW4.out)
   have hq:=HQ.out
   obtain ⟨WR,hW4,hth,HL,HBW,hgw⟩:=res7 (g:=(w.heap.size+1)) [.string ⟨#[]⟩,.int .i64 0,.int .i64 0,.slice none 0 0,.slice none 0 0,.slice none 0 0,.slice none 0 0] KZ.out HB.out tZ1
   clear hgw
   go_wp2_with (refine wpList_store_mid rfl 27 (.tmp 2) (.tmp 9) rfl ((w.heap.size+1)) 0 #[.string ⟨#[]⟩,.int .i64 0,.int .i64 0,.slice none 0 0,.slice none 0 0,.slice none 0 0,.slice none 0 0] rfl rfl hth.out tZ2 tZ5 ?_;rw [← hW4];clear hW4)
   exact bodyPost_ret (v:=.tuple #[.agg #[.string ⟨#[]⟩,.int .i64 0,.int .i64 0,.slice none 0 0,.slice none 0 0,.slice none 0 0,.slice none 0 0],.int .i64 42]) (results_cell_tmp rfl rfl HL.out) rfl (And.intro HBW.out (Or.inl (And.intro HQ.out rfl)))
 ·have HQ:=Lib.hid hq
  refine wp_region_good2 tZ2 tZ2 [(fun v _=>v=.agg #[.string ⟨nm.toArray⟩,.int .i64 qu,.int .i64 nx,.slice s1 sn s3,.slice u1 un u3,.slice t1 tn t3,.slice l1 ln l3]),
   (fun v _=>v=.int .i64 U),
   (fun v _=>v=.pointer (some ⟨w.heap.size,1,none⟩)),
   (fun v _=>v=.int .i64 qu),
   (fun v _=>v=.bool false)] ?_ ?_ ?_
  ·repeat' (first | exact stays_nil | refine stays_cons ?_ ?_ | exact Stays.pure)
  ·exact mZ221
  ·intro m W hbx hall
   have m0:=dV (hall 0 tZ3)
   have m1:=dV (hall 1 tZ3)
   have m2:=dV (hall 2 tZ3)
   have m3:=dV (hall 3 tZ3)
   have m4:=dV (hall 4 tZ3)
   rw [frameM_all tZ2 [.agg #[.string ⟨nm.toArray⟩,.int .i64 qu,.int .i64 nx,.slice s1 sn s3,.slice u1 un u3,.slice t1 tn t3,.slice l1 ln l3],.int .i64 U,.pointer (some ⟨w.heap.size,1,none⟩),.int .i64 qu,.bool false] rfl (fun i hi=>by rcases i with _ | _ | _ | _ | _ | i <;> first | assumption | (simp at hi;omega))]
   clear hall m0 m1 m2 m3 m4
   simp only [putAll,Act.put,zA,zC,zB]
   obtain ⟨w4,hw4⟩:∃ w4,w4=W:=⟨_,rfl⟩
   subst hw4
   have HW4:=Lib.hid hbx
   clear hbx
   clear hq
   have kk:=hKt.out w4 HW4.out
   obtain ⟨c0,c1,c2,c3,c4,c5,c6⟩:=(⟨kk.cell 0,kk.cell 1,kk.cell 2,kk.cell 3,kk.cell 4,kk.cell 5,kk.cell 6⟩:_∧_∧_∧_∧_∧_∧_)
   simp only [zF,zD,zE] at c0 c1 c2 c3 c4 c5 c6
   clear kk
   have KZ:=Lib.hid (hKz.out w4 HW4.out)
   have HB:=Lib.hid (hBW.out w4 HW4.out)
   have hq:=HQ.out
   obtain ⟨WR,hW4,hth,HL,HBW,hgw⟩:=res7 (g:=(w.heap.size+1)) [.string ⟨nm.toArray⟩,.int .i64 qu,.int .i64 nx,.slice s1 sn s3,.slice u1 un u3,.slice t1 tn t3,.slice l1 ln l3] KZ.out HB.out tZ1
   clear hgw
   go_wp2_with (refine wpList_store_mid rfl 27 (.tmp 2) (.tmp 10) rfl ((w.heap.size+1)) 0 #[.string ⟨nm.toArray⟩,.int .i64 qu,.int .i64 nx,.slice s1 sn s3,.slice u1 un u3,.slice t1 tn t3,.slice l1 ln l3] rfl rfl hth.out tZ2 tZ5 ?_;rw [← hW4];clear hW4)
   exact bodyPost_ret (v:=.tuple #[.agg #[.string ⟨nm.toArray⟩,.int .i64 qu,.int .i64 nx,.slice s1 sn s3,.slice u1 un u3,.slice t1 tn t3,.slice l1 ln l3],.int .i64 0]) (results_cell_tmp rfl rfl HL.out) rfl (And.intro HBW.out (Or.inr (And.intro (by have:=HQ.out;omega) rfl)))
end Go.Proofs.YtcgclpcocdappaaGreatDoor
namespace Go.Proofs.YtcgclpcocdappaaGreatDoor
open Go.RowKit
theorem num16_any (n:Int) (w:World):Calls Tryz.prog 33 #[.int .i64 n] w fun e w'=>e=.returned (.int .i64 n)∧w'=w:=by
 go_enter Tryz.func33,Tryz.ntmps33
 go_wp2_with fail
 go_ret
 exact ⟨rfl,rfl⟩
theorem new0C_sz (q:Int):(new0C q).sz where
 nm:=by show (1:Nat)≤4000000000;decide
 sets:=by show (1:Nat)≤1000000000000;decide
 eachS:=by
  intro y hy
  rw [show (new0C q).sets=[set0C []] from rfl,List.mem_singleton] at hy
  subst hy
  exact set0C_sz [] tZ4
 grants:=tZ106
 eachG:=fun y hy=>by cases hy
 stages:=tZ106
 eachT:=fun y hy=>by cases hy
 log:=tZ106
 eachL:=fun y hy=>by cases hy
theorem new0_create:(new0C 9).create [97]=(0,⟨[116],9,1,[set0C [],set0C [97]],[],[],[]⟩):=by
 unfold TenC.create
 rw [show (new0C 9).ask [97]=0 by decide +kernel,if_neg tZ4,show (new0C 9).find [97]=-1 by decide +kernel,if_neg tZ4,show (new0C 9).find (upL [97])=0 by decide +kernel,if_neg tZ4,if_neg tZ4]
 rw [show (new0C 9).withS (set0C [97])=⟨[116],9,1,[set0C [],set0C [97]],[],[],[]⟩ by kernel_rfl]
 unfold TenC.settle
 rw [if_neg (by decide +kernel),if_neg tZ4]
set_option maxRecDepth 100000 in
set_option maxHeartbeats 4000000 in
theorem alive16_any (w:World) (hmx:HasMax w):Calls Tryz.prog 34 #[] w fun e w'=>e=.returned (.bool true)∧Below w.heap.size w w':=by
 go_enter Tryz.func34,Tryz.ntmps34
 go_wp2_with fail
 refine (rnew_any 9 tZ4 tZ4 _).mono ?_
 rintro e w1 ⟨y,rfl,ho,hy,hb⟩
 have HW1:=Lib.hid hb
 have HO:=Lib.hid ho
 have HY:=Lib.hid hy
 clear hb ho hy
 obtain ⟨mm,mq,mx,⟨m1,m2,m3,ml⟩,⟨n1,n2,n3,nl⟩,⟨p1,p2,p3,pl⟩,⟨q1,q2,q3,ql⟩⟩:=y
 simp only [TenR.val,TenR.cells,FS.val,strV]
 have hbn:=(HW1.out).alloc HW1.out.size (.cells #[.string ⟨mm.toArray⟩,.int .i64 mq,.int .i64 mx,.slice m1 m2 m3,.slice n1 n2 n3,.slice p1 p2 p3,.slice q1 q2 q3] 27)
 have kbn:=Blk.new w1 27 #[.string ⟨mm.toArray⟩,.int .i64 mq,.int .i64 mx,.slice m1 m2 m3,.slice n1 n2 n3,.slice p1 p2 p3,.slice q1 q2 q3]
 have hsn:(w1.alloc (.cells #[.string ⟨mm.toArray⟩,.int .i64 mq,.int .i64 mx,.slice m1 m2 m3,.slice n1 n2 n3,.slice p1 p2 p3,.slice q1 q2 q3] 27)).heap.size=w1.heap.size+1:=tZ3
 have HOn:=HO.out.below ((Below.refl w1.heap.size w1).alloc (Nat.le_refl _) (.cells #[.string ⟨mm.toArray⟩,.int .i64 mq,.int .i64 mx,.slice m1 m2 m3,.slice n1 n2 n3,.slice p1 p2 p3,.slice q1 q2 q3] 27))
 obtain ⟨By,hBy⟩:∃ g,g=w1.heap.size:=⟨_,rfl⟩
 obtain ⟨w2,hWn⟩:∃ W,W=(w1.alloc (.cells #[.string ⟨mm.toArray⟩,.int .i64 mq,.int .i64 mx,.slice m1 m2 m3,.slice n1 n2 n3,.slice p1 p2 p3,.slice q1 q2 q3] 27)):=⟨_,rfl⟩
 rw [← hWn] at hbn kbn hsn HOn
 have HW2:=Lib.hid hbn
 rw [← hBy] at kbn
 have hKy:Hid (∀ W,Below w2.heap.size w2 W→Blk W By 27 #[.string ⟨mm.toArray⟩,.int .i64 mq,.int .i64 mx,.slice m1 m2 m3,.slice n1 n2 n3,.slice p1 p2 p3,.slice q1 q2 q3]):=fun W h=>kbn.below h tZ1
 have HZy:=Lib.hid (show By=w1.heap.size∧w2.heap.size=w1.heap.size+1 from ⟨hBy,hsn⟩)
 have HO:=Lib.hid HOn
 clear hbn kbn hsn HOn
 have hCR:=create_any ⟨mm,mq,mx,⟨m1,m2,m3,ml⟩,⟨n1,n2,n3,nl⟩,⟨p1,p2,p3,pl⟩,⟨q1,q2,q3,ql⟩⟩ [97] w2 w2.heap.size (Nat.le_refl _) HO.out.rd (TenR.sz_of HO.out.rd (by rw [HY.out];exact new0C_sz 9)) tZ4 (hmx.below HW2.out)
 rw [HY.out,new0_create] at hCR
 have HCR:=Lib.hid hCR
 clear hCR
 have kk:=hKy.out w2 (Below.refl _ _)
 obtain ⟨c0,c1,c2,c3,c4,c5,c6⟩:=(⟨kk.cell 0,kk.cell 1,kk.cell 2,kk.cell 3,kk.cell 4,kk.cell 5,kk.cell 6⟩:_∧_∧_∧_∧_∧_∧_)
 simp only [zF,zD,zE] at c0 c1 c2 c3 c4 c5 c6
 clear kk
 go_wp2_with (refine wpList_store_new w1 rfl 27 (.tmp 1) (.tmp 7) rfl 27 [.string ⟨#[]⟩,.int .i64 0,.int .i64 0,.slice none 0 0,.slice none 0 0,.slice none 0 0,.slice none 0 0] [.string ⟨mm.toArray⟩,.int .i64 mq,.int .i64 mx,.slice m1 m2 m3,.slice n1 n2 n3,.slice p1 p2 p3,.slice q1 q2 q3] rfl rfl rfl tZ2 tZ5 ?_;rw [show ([.string ⟨mm.toArray⟩,.int .i64 mq,.int .i64 mx,.slice m1 m2 m3,.slice n1 n2 n3,.slice p1 p2 p3,.slice q1 q2 q3]:List Value).toArray=#[.string ⟨mm.toArray⟩,.int .i64 mq,.int .i64 mx,.slice m1 m2 m3,.slice n1 n2 n3,.slice p1 p2 p3,.slice q1 q2 q3] from rfl,← hWn,← hBy];clear hWn hBy)
 refine HCR.out.mono ?_
 clear HCR c0 c1 c2 c3 c4 c5 c6
 rintro e w3 ⟨v,rfl,hb,⟨h1,-⟩ | ⟨-,u,rfl,hou,hu⟩⟩
 ·exact absurd (show (0:Int)=0 from rfl) h1
 have HW3:=Lib.hid (HW2.out.trans (hb.mono HW2.out.size))
 have HOU:=Lib.hid hou
 have HU:=Lib.hid hu
 clear hb hou hu
 obtain ⟨am,aq,ax,⟨a1,a2,a3,al⟩,⟨f1,f2,f3,fl⟩,⟨i1,i2,i3,il⟩,⟨j1,j2,j3,jl⟩⟩:=u
 simp only [TenR.val,TenR.cells,FS.val,strV]
 have hbn:=(HW3.out).alloc HW3.out.size (.cells #[.string ⟨am.toArray⟩,.int .i64 aq,.int .i64 ax,.slice a1 a2 a3,.slice f1 f2 f3,.slice i1 i2 i3,.slice j1 j2 j3] 27)
 have kbn:=Blk.new w3 27 #[.string ⟨am.toArray⟩,.int .i64 aq,.int .i64 ax,.slice a1 a2 a3,.slice f1 f2 f3,.slice i1 i2 i3,.slice j1 j2 j3]
 have hsn:(w3.alloc (.cells #[.string ⟨am.toArray⟩,.int .i64 aq,.int .i64 ax,.slice a1 a2 a3,.slice f1 f2 f3,.slice i1 i2 i3,.slice j1 j2 j3] 27)).heap.size=w3.heap.size+1:=tZ3
 have HOUn:=HOU.out.below ((Below.refl w3.heap.size w3).alloc (Nat.le_refl _) (.cells #[.string ⟨am.toArray⟩,.int .i64 aq,.int .i64 ax,.slice a1 a2 a3,.slice f1 f2 f3,.slice i1 i2 i3,.slice j1 j2 j3] 27))
 obtain ⟨Ba,hBa⟩:∃ g,g=w3.heap.size:=⟨_,rfl⟩
 obtain ⟨w4,hWn⟩:∃ W,W=(w3.alloc (.cells #[.string ⟨am.toArray⟩,.int .i64 aq,.int .i64 ax,.slice a1 a2 a3,.slice f1 f2 f3,.slice i1 i2 i3,.slice j1 j2 j3] 27)):=⟨_,rfl⟩
 rw [← hWn] at hbn kbn hsn HOUn
 have HW4:=Lib.hid hbn
 rw [← hBa] at kbn
 have hKa:Hid (∀ W,Below w4.heap.size w4 W→Blk W Ba 27 #[.string ⟨am.toArray⟩,.int .i64 aq,.int .i64 ax,.slice a1 a2 a3,.slice f1 f2 f3,.slice i1 i2 i3,.slice j1 j2 j3]):=fun W h=>kbn.below h tZ1
 have HZa:=Lib.hid (show Ba=w3.heap.size∧w4.heap.size=w3.heap.size+1 from ⟨hBa,hsn⟩)
 have HOU:=Lib.hid HOUn
 clear hbn kbn hsn HOUn
 have hlen:al.length=2:=by
  have h:=congrArg (fun c:TenC=>c.sets.length) HU.out
  simpa [TenR.con] using h
 have hpath:(al[1]'tZ1).path=[97]:=by
  have h:=congrArg (fun c:TenC=>(c.sets[1]?).map SetC.path) HU.out
  simp only [TenR.con,List.getElem?_map] at h
  rw [List.getElem?_eq_getElem tZ1] at h
  simpa [SetR.con,set0C] using h
 have ha2:a2=2:=by have h:=HOU.out.sets.1;simp only at h;omega
 obtain ⟨ad,rfl,-,q0,-,-,-,-⟩:=set_at HOU.out.rd.sets.2.2 HOU.out.sets.1 (i:=1) (show 1<a2 by omega)
 simp only [hpath] at q0
 replace q0:w4.cell? ⟨ad.block,ad.off+5,none⟩=some (.string ⟨#[97]⟩):=by simpa [Addr.add] using q0
 have kk:=hKa.out w4 (Below.refl _ _)
 have d3:=kk.cell 3
 simp only [zF,zD,zE] at d3
 have hn1:((a2:Int) == 2)=true:=by rw [ha2];rfl
 have hn2:(1:Int)<(a2:Int):=tZ1
 clear kk hlen hpath ha2 HOU HU HO HY hKy
 go_wp2_with (refine wpList_store_new w3 rfl 27 (.tmp 3) (.tmp 12) rfl 27 [.string ⟨#[]⟩,.int .i64 0,.int .i64 0,.slice none 0 0,.slice none 0 0,.slice none 0 0,.slice none 0 0] [.string ⟨am.toArray⟩,.int .i64 aq,.int .i64 ax,.slice (some ad) a2 a3,.slice f1 f2 f3,.slice i1 i2 i3,.slice j1 j2 j3] rfl rfl rfl tZ2 tZ5 ?_;rw [show ([.string ⟨am.toArray⟩,.int .i64 aq,.int .i64 ax,.slice (some ad) a2 a3,.slice f1 f2 f3,.slice i1 i2 i3,.slice j1 j2 j3]:List Value).toArray=#[.string ⟨am.toArray⟩,.int .i64 aq,.int .i64 ax,.slice (some ad) a2 a3,.slice f1 f2 f3,.slice i1 i2 i3,.slice j1 j2 j3] from rfl,← hWn,← hBa];clear hWn hBa)
 refine (num16_any _ _).mono ?_
 rintro e w5 ⟨rfl,hw5⟩
 rw [hw5]
 clear hw5 w5
 go_wp2_with fail
 exact bodyPost_ret (v:=.bool true) (by simp [results,Tryz.results34,go_sem]) rfl ⟨rfl,HW4.out⟩
end Go.Proofs.YtcgclpcocdappaaGreatDoor
namespace Go.Proofs.YtcgclpcocdappaaGreatDoor
open Go.RowKit
theorem placeP_con (t:TenR) (p:BS):placeP t p=if t.con.ask p≠0 then (0,t.con.ask p) else if t.con.find p<0 then (0,71) else (t.con.find p,0):=by
 unfold placeP
 rw [askP_con,← findS_con]
 by_cases h:t.con.ask p≠0
 ·rw [if_pos h,if_pos h]
 ·rw [if_neg h,if_neg h]
  rcases firstI_cases (fun s:SetR=>s.path == p) t.sets.l with ⟨h1,h2⟩ | ⟨k,hk,h1,h2⟩
  ·have h1:findS t.sets.l p=-1:=h1
   simp only [h2,h1]
   rfl
  ·have h1:findS t.sets.l p=(k:Int):=h1
   simp only [h2,h1]
   rw [if_neg tZ1]
end Go.Proofs.YtcgclpcocdappaaGreatDoor
