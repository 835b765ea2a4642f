/-
  The page's asked, settled and Settle.
-/
import Derived.Test.YtiojfffgiejibaaGreatDoorQsM1
import Derived.WalkKit
import Derived.WalkSpells
import Derived.Below
import Derived.Laws.OwnMore
import Derived.Deep.AppendLies
import Derived.Deep.Draws
import Derived.Laws.Rows
import Derived.Maps.AppendAt
import Derived.RegionTactic
import Derived.OwnWalk
import Derived.Deep.QuietTactic
import Derived.BigQuiet
import Derived.Lib.Hide
import Derived.Laws.CopyOwn
import Derived.IntWalk
import Derived.Test.YtiojfffgiejibaaGreatDoorRows
import Derived.Handy
import Derived.Deep.Quiet
import Derived.ProofKit
import Derived.OpenShut
import Derived.ShutString
import Derived.ChangeOld
import Derived.Carry
import Derived.SizedLaws
import Derived.JoinedCond
import Derived.Deep.CondSized
import Derived.Deep.Slices
import Derived.Deep.Fields
import Derived.Lib.SmallJoins
import Derived.Orders
import Derived.Lib.SplitLaws
import Derived.Lib.LastIndexByte
import Derived.Lib.Strings
import Derived.Sort.Walk0
import Derived.Sort.KeysCollected
import Derived.Deep.MidRow
import Derived.Lib.AppendZeros
import Derived.Shelf.Strings.Search1
import Derived.Shelf.Strings.Search2
import Derived.Shelf.Strings.Search3
import Derived.Shelf.Strings.Cut
import Derived.Shelf.Strings.Count
import Derived.Shelf.LaysM
import Derived.Shelf.Strings.Shaped
import Derived.Shelf.Strings.LastIndex
import Derived.Shelf.Strings.Split
import Derived.Shelf.Strings.SplitShaped
import Derived.Shelf.Unicode.Decode
import Derived.Shelf.Strings.RuneCount
import Derived.Shelf.Strings.Explode
import Derived.Shelf.Unicode.DecodeSlow
import Derived.Shelf.Slices.Turned
import Derived.Test.YtiojfffgiejibaaGreatDoorProg
import Derived.Lib.Overlaps
import Derived.Lib.AppendZerosOnto
import Derived.Deep.RegionLaw
import Derived.Laws.BytesString
import Derived.Laws.IdiomStrings
import Derived.Lib.ConvBytes
import Derived.Deep.DeepCutAuto
import Derived.Great.BuildSlice
import Derived.Test.YtiojfffgiejibaaGreatDoorQ0
import Derived.Test.YtiojfffgiejibaaGreatDoorQs1
import Derived.Test.YtiojfffgiejibaaGreatDoorQs2
import Derived.Test.YtiojfffgiejibaaGreatDoorQs5
import Derived.Test.YtiojfffgiejibaaGreatDoorQs7
import Derived.Test.YtiojfffgiejibaaGreatDoorQs10
import Derived.Test.YtiojfffgiejibaaGreatDoorQs16
import Derived.Test.YtiojfffgiejibaaGreatDoorQs17
import Derived.Test.YtiojfffgiejibaaGreatDoorQs19
import Derived.Test.YtiojfffgiejibaaGreatDoorQs20
import Derived.Test.YtiojfffgiejibaaGreatDoorQs21
import Derived.Test.YtiojfffgiejibaaGreatDoorQs22
import Derived.Test.YtiojfffgiejibaaGreatDoorQs25
import Derived.Test.YtiojfffgiejibaaGreatDoorQs26
import Derived.Test.YtiojfffgiejibaaGreatDoorQs27
import Derived.Test.YtiojfffgiejibaaGreatDoorQs29
import Derived.Test.YtiojfffgiejibaaGreatDoorQs30
import Derived.Test.YtiojfffgiejibaaGreatDoorQs33
import Derived.Test.YtiojfffgiejibaaGreatDoorQs35
import Derived.Test.YtiojfffgiejibaaGreatDoorQs36
namespace Go.Proofs.YtiojfffgiejibaaGreatDoor
open Go.RowKit
set_option maxRecDepth 100000 in
set_option maxHeartbeats 2000000 in
theorem rasked_any (t:TenR) (p:BS) (w:World) (B:Nat) (hB:B≤w.heap.size) (hr:t.rd w B) (hz:t.sz) (hp:p.length≤4000000000) :
  Calls Tryz.prog 44 #[t.val,.string ⟨p.toArray⟩] w fun e w'=>e=.returned (.int .i64 (t.con.ask p))∧Below w.heap.size w w':=by
 have h2:=t.con.E_two
 obtain ⟨V,hV⟩:∃ V,V=t.con.ask p:=⟨_,rfl⟩
 have hVe:V=if t.con.E=9 then 9 else if pathB p=false then 31 else 0:=hV
 have hCe:=tenE_con t
 rw [← hV]
 obtain ⟨nm,qu,nx,⟨s1,sn,s3,sl⟩,⟨u1,un,u3,ul⟩,⟨t1,tn,t3,tl⟩,⟨l1,ln,l3,ll⟩⟩:=t
 show Calls Tryz.prog 44 #[.agg #[.string ⟨nm.toArray⟩,.int .i64 qu,.int .i64 nx,.slice s1 sn s3,.slice u1 un u3,.slice t1 tn t3,.slice l1 ln l3],.string ⟨p.toArray⟩] w _
 have hb:=((Below.refl w.heap.size w).alloc (Nat.le_refl _) (.cells #[.string ⟨nm.toArray⟩,.int .i64 qu,.int .i64 nx,.slice s1 sn s3,.slice u1 un u3,.slice t1 tn t3,.slice l1 ln l3] 27))
 have kt:=Blk.new w 27 #[.string ⟨nm.toArray⟩,.int .i64 qu,.int .i64 nx,.slice s1 sn s3,.slice u1 un u3,.slice t1 tn t3,.slice l1 ln l3]
 have hsz:(w.alloc (.cells #[.string ⟨nm.toArray⟩,.int .i64 qu,.int .i64 nx,.slice s1 sn s3,.slice u1 un u3,.slice t1 tn t3,.slice l1 ln l3] 27)).heap.size=w.heap.size+1:=tZ3
 obtain ⟨W1,hW1⟩:∃ W,W=(w.alloc (.cells #[.string ⟨nm.toArray⟩,.int .i64 qu,.int .i64 nx,.slice s1 sn s3,.slice u1 un u3,.slice t1 tn t3,.slice l1 ln l3] 27)):=⟨_,rfl⟩
 rw [← hW1] at hb hsz kt
 have hKt:Hid (∀ W,Below W1.heap.size W1 W→Blk W w.heap.size 27 #[.string ⟨nm.toArray⟩,.int .i64 qu,.int .i64 nx,.slice s1 sn s3,.slice u1 un u3,.slice t1 tn t3,.slice l1 ln l3]):=fun W h=>kt.below h tZ1
 have hBW:Hid (∀ W,Below W1.heap.size W1 W→Below w.heap.size w W):=fun W h=>hb.trans (h.mono tZ1)
 have hSZ:Hid (∀ W,Below W1.heap.size W1 W→w.heap.size+1≤W.heap.size):=fun W h=>by have:=h.size;omega
 have hW0:Hid (Below W1.heap.size W1 W1):=Below.refl _ _
 have hCK:Hid (∀ W,Below W1.heap.size W1 W→Calls Tryz.prog 60 #[.agg #[.string ⟨nm.toArray⟩,.int .i64 qu,.int .i64 nx,.slice s1 sn s3,.slice u1 un u3,.slice t1 tn t3,.slice l1 ln l3]] W fun e w'=>e=.returned (.int .i64 (TenR.con ⟨nm,qu,nx,⟨s1,sn,s3,sl⟩,⟨u1,un,u3,ul⟩,⟨t1,tn,t3,tl⟩,⟨l1,ln,l3,ll⟩⟩).E)∧Below W.heap.size W w'):=fun W h=>by
  rw [← hCe]
  exact rcheck14_any ⟨nm,qu,nx,⟨s1,sn,s3,sl⟩,⟨u1,un,u3,ul⟩,⟨t1,tn,t3,tl⟩,⟨l1,ln,l3,ll⟩⟩ W B (TenR.rd.below hr ((hBW.out W h).mono hB)) (by have:=hSZ.out W h;omega) hz
 have hPA:Hid (∀ W,Below W1.heap.size W1 W→Calls Tryz.prog 75 #[.string ⟨p.toArray⟩] W fun e w'=>e=.returned (.bool (pathB p))∧Below W.heap.size W w'):=fun W h =>
  refPath_any ⟨p.toArray⟩ W tZ59
 obtain ⟨E,hE⟩:∃ E,E=(TenR.con ⟨nm,qu,nx,⟨s1,sn,s3,sl⟩,⟨u1,un,u3,ul⟩,⟨t1,tn,t3,tl⟩,⟨l1,ln,l3,ll⟩⟩).E:=⟨_,rfl⟩
 obtain ⟨b,hb0⟩:∃ b,b=pathB p:=⟨_,rfl⟩
 rw [← hE] at h2 hVe hCK
 rw [← hb0] at hVe hPA
 have HV:=Lib.hid hVe
 clear hb hsz kt hr hz hp hV hVe hCe hE hb0
 go_enter Tryz.func44,Tryz.ntmps44
 have hc:=hCK.out  W1 hW0.out
 have kk:=hKt.out W1 hW0.out
 obtain ⟨c0,c1,c2,c3,c4,c5,c6⟩:=(⟨kk.cell 0,kk.cell 1,kk.cell 2,kk.cell 3,kk.cell 4,kk.cell 5,kk.cell 6⟩:_∧_∧_∧_∧_∧_∧_)
 simp only [zF,zD,zE] at c0 c1 c2 c3 c4 c5 c6
 clear kk
 go_wp2_with fail
 rw [← hW1]
 clear hW1
 refine hc.mono ?_
 clear hc c0 c1 c2 c3 c4 c5 c6
 rintro e w2 ⟨rfl,hb⟩
 have HW2:=Lib.hid (hW0.out.trans (hb.mono hW0.out.size))
 clear hb
 rcases h2 with rfl | rfl
 ·have hc:=hPA.out  w2 HW2.out
  go_wp2_with fail
  refine hc.mono ?_
  clear hc
  rintro e w3 ⟨rfl,hb⟩
  have HW3:=Lib.hid (HW2.out.trans (hb.mono HW2.out.size))
  clear hb
  cases b with
  | false =>
   go_wp2_with fail
   go_ret
   exact ⟨by rw [HV.out];rfl,hBW.out _ HW3.out⟩
  | true =>
   go_wp2_with fail
   go_ret
   exact ⟨by rw [HV.out];rfl,hBW.out _ HW3.out⟩
 ·go_wp2_with fail
  go_ret
  exact ⟨by rw [HV.out];rfl,hBW.out _ HW2.out⟩
def SettledPost (q U:Int) (v:Value) (w:World) (e:Ending) (w':World):Prop:=Below w.heap.size w w'∧((q<U∧e=.returned (.tuple #[ZEROT,.int .i64 42]))∨(¬ q<U∧e=.returned (.tuple #[v,.int .i64 0])))
set_option maxRecDepth 100000 in
set_option maxHeartbeats 2000000 in
theorem rsettled_any (t:TenR) (w:World) (base:Nat) (ho:TenO w base t) (hz:t.sz) (hE:tenE t=0) :
  Calls Tryz.prog 46 #[t.val] w (SettledPost t.con.quota (t.con.charge:Int) t.val w):=by
 have hr:=ho.rd
 have hsm:=tenSum_small t hz hE
 have hsc:=tenSum_con t w _ hr
 obtain ⟨U,hU⟩:∃ U:Int,U=(t.con.charge:Int):=⟨_,rfl⟩
 rw [← hU] at hsc ⊢
 obtain ⟨nm,qu,nx,⟨s1,sn,s3,sl⟩,⟨u1,un,u3,ul⟩,⟨t1,tn,t3,tl⟩,⟨l1,ln,l3,ll⟩⟩:=t
 show Calls Tryz.prog 46 #[.agg #[.string ⟨nm.toArray⟩,.int .i64 qu,.int .i64 nx,.slice s1 sn s3,.slice u1 un u3,.slice t1 tn t3,.slice l1 ln l3]] w (SettledPost qu U (.agg #[.string ⟨nm.toArray⟩,.int .i64 qu,.int .i64 nx,.slice s1 sn s3,.slice u1 un u3,.slice t1 tn t3,.slice l1 ln l3]) w)
 have hb:=(((Below.refl w.heap.size w).alloc (Nat.le_refl _) (.cells #[.string ⟨nm.toArray⟩,.int .i64 qu,.int .i64 nx,.slice s1 sn s3,.slice u1 un u3,.slice t1 tn t3,.slice l1 ln l3] 27)).alloc tZ3 (.cells #[.string ⟨#[]⟩,.int .i64 0,.int .i64 0,.slice none 0 0,.slice none 0 0,.slice none 0 0,.slice none 0 0] 27))
 have kt:=Blk.new w 27 #[.string ⟨nm.toArray⟩,.int .i64 qu,.int .i64 nx,.slice s1 sn s3,.slice u1 un u3,.slice t1 tn t3,.slice l1 ln l3]
 replace kt:=kt.alloc (.cells #[.string ⟨#[]⟩,.int .i64 0,.int .i64 0,.slice none 0 0,.slice none 0 0,.slice none 0 0,.slice none 0 0] 27)
 have kz:=Blk.new (w.alloc (.cells #[.string ⟨nm.toArray⟩,.int .i64 qu,.int .i64 nx,.slice s1 sn s3,.slice u1 un u3,.slice t1 tn t3,.slice l1 ln l3] 27)) 27 #[.string ⟨#[]⟩,.int .i64 0,.int .i64 0,.slice none 0 0,.slice none 0 0,.slice none 0 0,.slice none 0 0]
 rw [show (w.alloc (.cells #[.string ⟨nm.toArray⟩,.int .i64 qu,.int .i64 nx,.slice s1 sn s3,.slice u1 un u3,.slice t1 tn t3,.slice l1 ln l3] 27)).heap.size=w.heap.size+1 by simp] at kz
 have hsz:((w.alloc (.cells #[.string ⟨nm.toArray⟩,.int .i64 qu,.int .i64 nx,.slice s1 sn s3,.slice u1 un u3,.slice t1 tn t3,.slice l1 ln l3] 27)).alloc (.cells #[.string ⟨#[]⟩,.int .i64 0,.int .i64 0,.slice none 0 0,.slice none 0 0,.slice none 0 0,.slice none 0 0] 27)).heap.size=w.heap.size+2:=tZ3
 obtain ⟨W1,hW1⟩:∃ W,W=((w.alloc (.cells #[.string ⟨nm.toArray⟩,.int .i64 qu,.int .i64 nx,.slice s1 sn s3,.slice u1 un u3,.slice t1 tn t3,.slice l1 ln l3] 27)).alloc (.cells #[.string ⟨#[]⟩,.int .i64 0,.int .i64 0,.slice none 0 0,.slice none 0 0,.slice none 0 0,.slice none 0 0] 27)):=⟨_,rfl⟩
 rw [← hW1] at hb hsz kt kz
 have hKt:Hid (∀ W,Below W1.heap.size W1 W→Blk W w.heap.size 27 #[.string ⟨nm.toArray⟩,.int .i64 qu,.int .i64 nx,.slice s1 sn s3,.slice u1 un u3,.slice t1 tn t3,.slice l1 ln l3]):=fun W h=>kt.below h tZ1
 have hKz:Hid (∀ W,Below W1.heap.size W1 W→Blk W (w.heap.size+1) 27 #[.string ⟨#[]⟩,.int .i64 0,.int .i64 0,.slice none 0 0,.slice none 0 0,.slice none 0 0,.slice none 0 0]):=fun W h=>kz.below h tZ1
 have hBW:Hid (∀ W,Below W1.heap.size W1 W→Below w.heap.size w W):=fun W h=>hb.trans (h.mono tZ1)
 have hSZ:Hid (∀ W,Below W1.heap.size W1 W→w.heap.size+2≤W.heap.size):=fun W h=>by have:=h.size;omega
 have hW0:Hid (Below W1.heap.size W1 W1):=Below.refl _ _
 have hCG:Hid (∀ W,Below W1.heap.size W1 W→Calls Tryz.prog 93 #[.agg #[.string ⟨nm.toArray⟩,.int .i64 qu,.int .i64 nx,.slice s1 sn s3,.slice u1 un u3,.slice t1 tn t3,.slice l1 ln l3]] W fun e w'=>e=.returned (.int .i64 U)∧Below W.heap.size W w'):=fun W h=>by
  rw [← hsc]
  exact rcharge_any ⟨nm,qu,nx,⟨s1,sn,s3,sl⟩,⟨u1,un,u3,ul⟩,⟨t1,tn,t3,tl⟩,⟨l1,ln,l3,ll⟩⟩ W w.heap.size (by have:=hSZ.out W h;omega) (TenR.rd.below hr (hBW.out W h)) hz hsm
 have hS:Hid (∀ W,Below W1.heap.size W1 W→W.cell? ⟨w.heap.size,0,none⟩=some (.string ⟨nm.toArray⟩)∧W.cell? ⟨w.heap.size,1,none⟩=some (.int .i64 qu)∧W.cell? ⟨w.heap.size,2,none⟩=some (.int .i64 nx)∧W.cell? ⟨w.heap.size,3,none⟩=some (.slice s1 sn s3)∧W.cell? ⟨w.heap.size,4,none⟩=some (.slice u1 un u3)∧W.cell? ⟨w.heap.size,5,none⟩=some (.slice t1 tn t3)∧W.cell? ⟨w.heap.size,6,none⟩=some (.slice l1 ln l3)):=fun W h=>by
  have k1:=hKt.out W h
  exact ⟨k1.cell 0,k1.cell 1,k1.cell 2,k1.cell 3,k1.cell 4,k1.cell 5,k1.cell 6⟩
 clear hb hsz kt kz hr hz ho hE hsm hsc hU
 go_enter Tryz.func46,Tryz.ntmps46
 go_upto_region 1 with (fail)
 rw [← hW1]
 clear hW1
 by_cases hq:qu<U
 ·have HQ:=Lib.hid hq
  refine wp_region_good2 tZ2 tZ2 [(fun v _=>v=.agg #[.string ⟨nm.toArray⟩,.int .i64 qu,.int .i64 nx,.slice s1 sn s3,.slice u1 un u3,.slice t1 tn t3,.slice l1 ln l3]),
   (fun v _=>v=.int .i64 U),
   (fun v _=>v=.pointer (some ⟨w.heap.size,1,none⟩)),
   (fun v _=>v=.int .i64 qu),
   (fun v _=>v=.bool true)] ?_ ?_ ?_
  ·exact mZ181
  ·exact mZ210
  ·intro m W hbx hall
   have m0:=dV (hall 0 tZ3)
   have m1:=dV (hall 1 tZ3)
   have m2:=dV (hall 2 tZ3)
   have m3:=dV (hall 3 tZ3)
   have m4:=dV (hall 4 tZ3)
   rw [frameM_all tZ2 [.agg #[.string ⟨nm.toArray⟩,.int .i64 qu,.int .i64 nx,.slice s1 sn s3,.slice u1 un u3,.slice t1 tn t3,.slice l1 ln l3],.int .i64 U,.pointer (some ⟨w.heap.size,1,none⟩),.int .i64 qu,.bool true] rfl (fun i hi=>by rcases i with _ | _ | _ | _ | _ | i <;> first | assumption | (simp at hi;omega))]
   clear hall m0 m1 m2 m3 m4
   simp only [putAll,Act.put,zA,zC,zB]
   obtain ⟨w4,hw4⟩:∃ w4,w4=W:=⟨_,rfl⟩
   subst hw4
   have HW4:=Lib.hid hbx
   clear hbx
   clear hq
   have KZ:=Lib.hid (hKz.out w4 HW4.out)
   have HB:=Lib.hid (hBW.out w4 HW4.out)
   have hq:=HQ.out
   obtain ⟨WR,hW4,hth,HL,HBW,hgw⟩:=res7 (g:=(w.heap.size+1)) [.string ⟨#[]⟩,.int .i64 0,.int .i64 0,.slice none 0 0,.slice none 0 0,.slice none 0 0,.slice none 0 0] KZ.out HB.out tZ1
   clear hgw
   go_wp2_with (refine wpList_store_mid rfl 27 (.tmp 2) (.tmp 9) rfl ((w.heap.size+1)) 0 #[.string ⟨#[]⟩,.int .i64 0,.int .i64 0,.slice none 0 0,.slice none 0 0,.slice none 0 0,.slice none 0 0] rfl rfl hth.out tZ2 tZ5 ?_;rw [← hW4];clear hW4)
   exact bodyPost_ret (v:=.tuple #[.agg #[.string ⟨#[]⟩,.int .i64 0,.int .i64 0,.slice none 0 0,.slice none 0 0,.slice none 0 0,.slice none 0 0],.int .i64 42]) (results_cell_tmp rfl rfl HL.out) rfl (And.intro HBW.out (Or.inl (And.intro HQ.out rfl)))
 ·have HQ:=Lib.hid hq
  refine wp_region_good2 tZ2 tZ2 [(fun v _=>v=.agg #[.string ⟨nm.toArray⟩,.int .i64 qu,.int .i64 nx,.slice s1 sn s3,.slice u1 un u3,.slice t1 tn t3,.slice l1 ln l3]),
   (fun v _=>v=.int .i64 U),
   (fun v _=>v=.pointer (some ⟨w.heap.size,1,none⟩)),
   (fun v _=>v=.int .i64 qu),
   (fun v _=>v=.bool false)] ?_ ?_ ?_
  ·exact mZ181
  ·exact mZ210
  ·intro m W hbx hall
   have m0:=dV (hall 0 tZ3)
   have m1:=dV (hall 1 tZ3)
   have m2:=dV (hall 2 tZ3)
   have m3:=dV (hall 3 tZ3)
   have m4:=dV (hall 4 tZ3)
   rw [frameM_all tZ2 [.agg #[.string ⟨nm.toArray⟩,.int .i64 qu,.int .i64 nx,.slice s1 sn s3,.slice u1 un u3,.slice t1 tn t3,.slice l1 ln l3],.int .i64 U,.pointer (some ⟨w.heap.size,1,none⟩),.int .i64 qu,.bool false] rfl (fun i hi=>by rcases i with _ | _ | _ | _ | _ | i <;> first | assumption | (simp at hi;omega))]
   clear hall m0 m1 m2 m3 m4
   simp only [putAll,Act.put,zA,zC,zB]
   obtain ⟨w4,hw4⟩:∃ w4,w4=W:=⟨_,rfl⟩
   subst hw4
   have HW4:=Lib.hid hbx
   clear hbx
   clear hq
   have kk:=hKt.out w4 HW4.out
   obtain ⟨c0,c1,c2,c3,c4,c5,c6⟩:=(⟨kk.cell 0,kk.cell 1,kk.cell 2,kk.cell 3,kk.cell 4,kk.cell 5,kk.cell 6⟩:_∧_∧_∧_∧_∧_∧_)
   simp only [zF,zD,zE] at c0 c1 c2 c3 c4 c5 c6
   clear kk
   have KZ:=Lib.hid (hKz.out w4 HW4.out)
   have HB:=Lib.hid (hBW.out w4 HW4.out)
   have hq:=HQ.out
   obtain ⟨WR,hW4,hth,HL,HBW,hgw⟩:=res7 (g:=(w.heap.size+1)) [.string ⟨nm.toArray⟩,.int .i64 qu,.int .i64 nx,.slice s1 sn s3,.slice u1 un u3,.slice t1 tn t3,.slice l1 ln l3] KZ.out HB.out tZ1
   clear hgw
   go_wp2_with (refine wpList_store_mid rfl 27 (.tmp 2) (.tmp 10) rfl ((w.heap.size+1)) 0 #[.string ⟨nm.toArray⟩,.int .i64 qu,.int .i64 nx,.slice s1 sn s3,.slice u1 un u3,.slice t1 tn t3,.slice l1 ln l3] rfl rfl hth.out tZ2 tZ5 ?_;rw [← hW4];clear hW4)
   exact bodyPost_ret (v:=.tuple #[.agg #[.string ⟨nm.toArray⟩,.int .i64 qu,.int .i64 nx,.slice s1 sn s3,.slice u1 un u3,.slice t1 tn t3,.slice l1 ln l3],.int .i64 0]) (results_cell_tmp rfl rfl HL.out) rfl (And.intro HBW.out (Or.inr (And.intro (by have:=HQ.out;omega) rfl)))
end Go.Proofs.YtiojfffgiejibaaGreatDoor
