/-
  The page's asked, settled and Settle. shape.changed: a tenant with a set turned by something. What may be, by content: sets one by one; a set more, a set less, a set turned. shape.Write, Free, Set, Unset: a set's body or its properties turned. Snapshots by content: what is asked, found, made, and gone. What snapshots, clones and rollbacks that are told are; sizes; the plain law of clones. The plain law of contents' changes: going along two contents, and asking index by index, make the same records. The plain law of applying a change: what is changed from one content to another one makes it that. What is found, as the walks of chapter 17 need it; what is told then.
-/
import Derived.WalkKit
import Derived.WalkSpells
import Derived.Below
import Derived.Laws.OwnMore
import Derived.Deep.AppendLies
import Derived.Deep.Draws
import Derived.Laws.Rows
import Derived.Maps.AppendAt
import Derived.RegionTactic
import Derived.OwnWalk
import Derived.Deep.QuietTactic
import Derived.BigQuiet
import Derived.Lib.Hide
import Derived.Laws.CopyOwn
import Derived.IntWalk
import Derived.Test.YtcgclpcocdappaaGreatDoorRows
import Derived.Handy
import Derived.Deep.Quiet
import Derived.ProofKit
import Derived.OpenShut
import Derived.ShutString
import Derived.ChangeOld
import Derived.Carry
import Derived.SizedLaws
import Derived.JoinedCond
import Derived.Deep.CondSized
import Derived.Deep.Slices
import Derived.Deep.Fields
import Derived.Lib.SmallJoins
import Derived.Orders
import Derived.Lib.SplitLaws
import Derived.Lib.LastIndexByte
import Derived.Lib.Strings
import Derived.Sort.Walk0
import Derived.Sort.KeysCollected
import Derived.Deep.MidRow
import Derived.Lib.AppendZeros
import Derived.Shelf.Strings.Search1
import Derived.Shelf.Strings.Search2
import Derived.Shelf.Strings.Search3
import Derived.Shelf.Strings.Cut
import Derived.Shelf.Strings.Count
import Derived.Shelf.LaysM
import Derived.Shelf.Strings.Shaped
import Derived.Shelf.Strings.LastIndex
import Derived.Shelf.Strings.Split
import Derived.Shelf.Strings.SplitShaped
import Derived.Shelf.Unicode.Decode
import Derived.Shelf.Strings.RuneCount
import Derived.Shelf.Strings.Explode
import Derived.Shelf.Unicode.DecodeSlow
import Derived.Test.YtcgclpcocdappaaGreatDoorProg
import Derived.Lib.Overlaps
import Derived.Lib.AppendZerosOnto
import Derived.Deep.RegionLaw
import Derived.Laws.BytesString
import Derived.Laws.IdiomStrings
import Derived.Lib.ConvBytes
import Derived.Deep.DeepCutAuto
import Derived.Great.BuildSlice
import Derived.Shelf.SlIter.Nil
import Derived.Shelf.SortM.Plain
import Derived.Shelf.SortM.SortNone
import Derived.Maps.OwnSet
import Derived.Maps.StringElems
import Derived.Test.YtcgclpcocdappaaGreatDoorJ0
import Derived.Test.YtcgclpcocdappaaGreatDoorJbkv1
import Derived.Test.YtcgclpcocdappaaGreatDoorJbkv2
import Derived.Test.YtcgclpcocdappaaGreatDoorJbkv3
import Derived.Test.YtcgclpcocdappaaGreatDoorJbkv4
import Derived.Test.YtcgclpcocdappaaGreatDoorJbkv5
import Derived.Test.YtcgclpcocdappaaGreatDoorJbkv7
import Derived.Test.YtcgclpcocdappaaGreatDoorJbkv8
import Derived.Test.YtcgclpcocdappaaGreatDoorJbkv10
import Derived.Test.YtcgclpcocdappaaGreatDoorJbkv14
import Derived.Test.YtcgclpcocdappaaGreatDoorJbkv15
import Derived.Test.YtcgclpcocdappaaGreatDoorJbkv16
import Derived.Test.YtcgclpcocdappaaGreatDoorJbkv17
import Derived.Test.YtcgclpcocdappaaGreatDoorJbkv19
import Derived.Test.YtcgclpcocdappaaGreatDoorJbkv20
import Derived.Test.YtcgclpcocdappaaGreatDoorJbkv21
import Derived.Test.YtcgclpcocdappaaGreatDoorJbkv22
import Derived.Test.YtcgclpcocdappaaGreatDoorJbkv24
import Derived.Test.YtcgclpcocdappaaGreatDoorJbkv29
import Derived.Test.YtcgclpcocdappaaGreatDoorJbk1
import Derived.Test.YtcgclpcocdappaaGreatDoorJbk2
import Derived.Test.YtcgclpcocdappaaGreatDoorJbv1
import Derived.Test.YtcgclpcocdappaaGreatDoorJb4
namespace Go.Proofs.YtcgclpcocdappaaGreatDoor
open Go.RowKit
set_option maxRecDepth 100000 in
set_option maxHeartbeats 2000000 in
theorem rasked_any (t:TenR) (p:BS) (w:World) (B:Nat) (hB:B≤w.heap.size) (hr:t.rd w B) (hz:t.sz) (hp:p.length≤4000000000) :
  Calls Tryz.prog 48 #[t.val,.string ⟨p.toArray⟩] w fun e w'=>e=.returned (.int .i64 (t.con.ask p))∧Below w.heap.size w w':=by
 have h2:=t.con.E_two
 obtain ⟨V,hV⟩:∃ V,V=t.con.ask p:=⟨_,rfl⟩
 have hVe:V=if t.con.E=9 then 9 else if pathB p=false then 31 else 0:=hV
 have hCe:=tenE_con t
 rw [← hV]
 obtain ⟨nm,qu,nx,⟨s1,sn,s3,sl⟩,⟨u1,un,u3,ul⟩,⟨t1,tn,t3,tl⟩,⟨l1,ln,l3,ll⟩⟩:=t
 show Calls Tryz.prog 48 #[.agg #[.string ⟨nm.toArray⟩,.int .i64 qu,.int .i64 nx,.slice s1 sn s3,.slice u1 un u3,.slice t1 tn t3,.slice l1 ln l3],.string ⟨p.toArray⟩] w _
 have hb:=((Below.refl w.heap.size w).alloc (Nat.le_refl _) (.cells #[.string ⟨nm.toArray⟩,.int .i64 qu,.int .i64 nx,.slice s1 sn s3,.slice u1 un u3,.slice t1 tn t3,.slice l1 ln l3] 27))
 have kt:=Blk.new w 27 #[.string ⟨nm.toArray⟩,.int .i64 qu,.int .i64 nx,.slice s1 sn s3,.slice u1 un u3,.slice t1 tn t3,.slice l1 ln l3]
 have hsz:(w.alloc (.cells #[.string ⟨nm.toArray⟩,.int .i64 qu,.int .i64 nx,.slice s1 sn s3,.slice u1 un u3,.slice t1 tn t3,.slice l1 ln l3] 27)).heap.size=w.heap.size+1:=by simp
 obtain ⟨W1,hW1⟩:∃ W,W=(w.alloc (.cells #[.string ⟨nm.toArray⟩,.int .i64 qu,.int .i64 nx,.slice s1 sn s3,.slice u1 un u3,.slice t1 tn t3,.slice l1 ln l3] 27)):=⟨_,rfl⟩
 rw [← hW1] at hb hsz kt
 have hKt:Hid (∀ W,Below W1.heap.size W1 W→Blk W w.heap.size 27 #[.string ⟨nm.toArray⟩,.int .i64 qu,.int .i64 nx,.slice s1 sn s3,.slice u1 un u3,.slice t1 tn t3,.slice l1 ln l3]):=fun W h=>kt.below h (by omega)
 have hBW:Hid (∀ W,Below W1.heap.size W1 W→Below w.heap.size w W):=fun W h=>hb.trans (h.mono (by omega))
 have hSZ:Hid (∀ W,Below W1.heap.size W1 W→w.heap.size+1≤W.heap.size):=fun W h=>by have:=h.size;omega
 have hW0:Hid (Below W1.heap.size W1 W1):=Below.refl _ _
 have hCK:Hid (∀ W,Below W1.heap.size W1 W→Calls Tryz.prog 18 #[.agg #[.string ⟨nm.toArray⟩,.int .i64 qu,.int .i64 nx,.slice s1 sn s3,.slice u1 un u3,.slice t1 tn t3,.slice l1 ln l3]] W fun e w'=>e=.returned (.int .i64 (TenR.con ⟨nm,qu,nx,⟨s1,sn,s3,sl⟩,⟨u1,un,u3,ul⟩,⟨t1,tn,t3,tl⟩,⟨l1,ln,l3,ll⟩⟩).E)∧Below W.heap.size W w'):=fun W h=>by
  rw [← hCe]
  exact rcheck14_any ⟨nm,qu,nx,⟨s1,sn,s3,sl⟩,⟨u1,un,u3,ul⟩,⟨t1,tn,t3,tl⟩,⟨l1,ln,l3,ll⟩⟩ W B (TenR.rd.below hr ((hBW.out W h).mono hB)) (by have:=hSZ.out W h;omega) hz
 have hPA:Hid (∀ W,Below W1.heap.size W1 W→Calls Tryz.prog 115 #[.string ⟨p.toArray⟩] W fun e w'=>e=.returned (.bool (pathB p))∧Below W.heap.size W w'):=fun W h =>
  refPath_any ⟨p.toArray⟩ W (by simpa [ByteArray.size] using hp)
 obtain ⟨E,hE⟩:∃ E,E=(TenR.con ⟨nm,qu,nx,⟨s1,sn,s3,sl⟩,⟨u1,un,u3,ul⟩,⟨t1,tn,t3,tl⟩,⟨l1,ln,l3,ll⟩⟩).E:=⟨_,rfl⟩
 obtain ⟨b,hb0⟩:∃ b,b=pathB p:=⟨_,rfl⟩
 rw [← hE] at h2 hVe hCK
 rw [← hb0] at hVe hPA
 have HV:=Lib.hid hVe
 clear hb hsz kt hr hz hp hV hVe hCe hE hb0
 go_enter Tryz.func48,Tryz.ntmps48
 have hc:=hCK.out  W1 hW0.out
 have kk:=hKt.out W1 hW0.out
 obtain ⟨c0,c1,c2,c3,c4,c5,c6⟩:=(⟨kk.cell 0,kk.cell 1,kk.cell 2,kk.cell 3,kk.cell 4,kk.cell 5,kk.cell 6⟩:_∧_∧_∧_∧_∧_∧_)
 simp only [zF,zD,zE] at c0 c1 c2 c3 c4 c5 c6
 clear kk
 go_wp2_with fail
 rw [← hW1]
 clear hW1
 refine hc.mono ?_
 clear hc c0 c1 c2 c3 c4 c5 c6
 rintro e w2 ⟨rfl,hb⟩
 have HW2:=Lib.hid (hW0.out.trans (hb.mono hW0.out.size))
 clear hb
 rcases h2 with rfl | rfl
 ·have hc:=hPA.out  w2 HW2.out
  go_wp2_with fail
  refine hc.mono ?_
  clear hc 
  rintro e w3 ⟨rfl,hb⟩
  have HW3:=Lib.hid (HW2.out.trans (hb.mono HW2.out.size))
  clear hb
  cases b with
  | false =>
   go_wp2_with fail
   go_ret
   exact ⟨by rw [HV.out];rfl,hBW.out _ HW3.out⟩
  | true =>
   go_wp2_with fail
   go_ret
   exact ⟨by rw [HV.out];rfl,hBW.out _ HW3.out⟩
 ·go_wp2_with fail
  go_ret
  exact ⟨by rw [HV.out];rfl,hBW.out _ HW2.out⟩
/-- what fits, in place -/
def TenC.settled (c:TenC):Int×TenC:=if c.quota<(c.charge:Int) then (42,c) else (0,c)
def SettledPost (q U:Int) (v:Value) (w:World) (e:Ending) (w':World):Prop:=Below w.heap.size w w'∧((q<U∧e=.returned (.tuple #[ZEROT,.int .i64 42]))∨(¬ q<U∧e=.returned (.tuple #[v,.int .i64 0])))
set_option maxRecDepth 100000 in
set_option maxHeartbeats 2000000 in
theorem rsettled_any (t:TenR) (w:World) (base:Nat) (ho:TenO w base t) (hz:t.sz) (hE:tenE t=0) :
  Calls Tryz.prog 54 #[t.val] w (SettledPost t.con.quota (t.con.charge:Int) t.val w):=by
 have hr:=ho.rd
 have hsm:=tenSum_small t hz hE
 have hsc:=tenSum_con t w _ hr
 obtain ⟨U,hU⟩:∃ U:Int,U=(t.con.charge:Int):=⟨_,rfl⟩
 rw [← hU] at hsc ⊢
 obtain ⟨nm,qu,nx,⟨s1,sn,s3,sl⟩,⟨u1,un,u3,ul⟩,⟨t1,tn,t3,tl⟩,⟨l1,ln,l3,ll⟩⟩:=t
 show Calls Tryz.prog 54 #[.agg #[.string ⟨nm.toArray⟩,.int .i64 qu,.int .i64 nx,.slice s1 sn s3,.slice u1 un u3,.slice t1 tn t3,.slice l1 ln l3]] w (SettledPost qu U (.agg #[.string ⟨nm.toArray⟩,.int .i64 qu,.int .i64 nx,.slice s1 sn s3,.slice u1 un u3,.slice t1 tn t3,.slice l1 ln l3]) w)
 have hb:=(((Below.refl w.heap.size w).alloc (Nat.le_refl _) (.cells #[.string ⟨nm.toArray⟩,.int .i64 qu,.int .i64 nx,.slice s1 sn s3,.slice u1 un u3,.slice t1 tn t3,.slice l1 ln l3] 27)).alloc (by simp) (.cells #[.string ⟨#[]⟩,.int .i64 0,.int .i64 0,.slice none 0 0,.slice none 0 0,.slice none 0 0,.slice none 0 0] 27))
 have kt:=Blk.new w 27 #[.string ⟨nm.toArray⟩,.int .i64 qu,.int .i64 nx,.slice s1 sn s3,.slice u1 un u3,.slice t1 tn t3,.slice l1 ln l3]
 replace kt:=kt.alloc (.cells #[.string ⟨#[]⟩,.int .i64 0,.int .i64 0,.slice none 0 0,.slice none 0 0,.slice none 0 0,.slice none 0 0] 27)
 have kz:=Blk.new (w.alloc (.cells #[.string ⟨nm.toArray⟩,.int .i64 qu,.int .i64 nx,.slice s1 sn s3,.slice u1 un u3,.slice t1 tn t3,.slice l1 ln l3] 27)) 27 #[.string ⟨#[]⟩,.int .i64 0,.int .i64 0,.slice none 0 0,.slice none 0 0,.slice none 0 0,.slice none 0 0]
 rw [show (w.alloc (.cells #[.string ⟨nm.toArray⟩,.int .i64 qu,.int .i64 nx,.slice s1 sn s3,.slice u1 un u3,.slice t1 tn t3,.slice l1 ln l3] 27)).heap.size=w.heap.size+1 by simp] at kz
 have hsz:((w.alloc (.cells #[.string ⟨nm.toArray⟩,.int .i64 qu,.int .i64 nx,.slice s1 sn s3,.slice u1 un u3,.slice t1 tn t3,.slice l1 ln l3] 27)).alloc (.cells #[.string ⟨#[]⟩,.int .i64 0,.int .i64 0,.slice none 0 0,.slice none 0 0,.slice none 0 0,.slice none 0 0] 27)).heap.size=w.heap.size+2:=by simp
 obtain ⟨W1,hW1⟩:∃ W,W=((w.alloc (.cells #[.string ⟨nm.toArray⟩,.int .i64 qu,.int .i64 nx,.slice s1 sn s3,.slice u1 un u3,.slice t1 tn t3,.slice l1 ln l3] 27)).alloc (.cells #[.string ⟨#[]⟩,.int .i64 0,.int .i64 0,.slice none 0 0,.slice none 0 0,.slice none 0 0,.slice none 0 0] 27)):=⟨_,rfl⟩
 rw [← hW1] at hb hsz kt kz
 have hKt:Hid (∀ W,Below W1.heap.size W1 W→Blk W w.heap.size 27 #[.string ⟨nm.toArray⟩,.int .i64 qu,.int .i64 nx,.slice s1 sn s3,.slice u1 un u3,.slice t1 tn t3,.slice l1 ln l3]):=fun W h=>kt.below h (by omega)
 have hKz:Hid (∀ W,Below W1.heap.size W1 W→Blk W (w.heap.size+1) 27 #[.string ⟨#[]⟩,.int .i64 0,.int .i64 0,.slice none 0 0,.slice none 0 0,.slice none 0 0,.slice none 0 0]):=fun W h=>kz.below h (by omega)
 have hBW:Hid (∀ W,Below W1.heap.size W1 W→Below w.heap.size w W):=fun W h=>hb.trans (h.mono (by omega))
 have hSZ:Hid (∀ W,Below W1.heap.size W1 W→w.heap.size+2≤W.heap.size):=fun W h=>by have:=h.size;omega
 have hW0:Hid (Below W1.heap.size W1 W1):=Below.refl _ _
 have hCG:Hid (∀ W,Below W1.heap.size W1 W→Calls Tryz.prog 22 #[.agg #[.string ⟨nm.toArray⟩,.int .i64 qu,.int .i64 nx,.slice s1 sn s3,.slice u1 un u3,.slice t1 tn t3,.slice l1 ln l3]] W fun e w'=>e=.returned (.int .i64 U)∧Below W.heap.size W w'):=fun W h=>by
  rw [← hsc]
  exact rcharge_any ⟨nm,qu,nx,⟨s1,sn,s3,sl⟩,⟨u1,un,u3,ul⟩,⟨t1,tn,t3,tl⟩,⟨l1,ln,l3,ll⟩⟩ W w.heap.size (by have:=hSZ.out W h;omega) (TenR.rd.below hr (hBW.out W h)) hz hsm
 have hS:Hid (∀ W,Below W1.heap.size W1 W→W.cell? ⟨w.heap.size,0,none⟩=some (.string ⟨nm.toArray⟩)∧W.cell? ⟨w.heap.size,1,none⟩=some (.int .i64 qu)∧W.cell? ⟨w.heap.size,2,none⟩=some (.int .i64 nx)∧W.cell? ⟨w.heap.size,3,none⟩=some (.slice s1 sn s3)∧W.cell? ⟨w.heap.size,4,none⟩=some (.slice u1 un u3)∧W.cell? ⟨w.heap.size,5,none⟩=some (.slice t1 tn t3)∧W.cell? ⟨w.heap.size,6,none⟩=some (.slice l1 ln l3)):=fun W h=>by
  have k1:=hKt.out W h
  exact ⟨k1.cell 0,k1.cell 1,k1.cell 2,k1.cell 3,k1.cell 4,k1.cell 5,k1.cell 6⟩
 clear hb hsz kt kz hr hz ho hE hsm hsc hU
 go_enter Tryz.func54,Tryz.ntmps54
 go_upto_region 1 with (fail)
 rw [← hW1]
 clear hW1
 by_cases hq:qu<U
 ·have HQ:=Lib.hid hq
  refine wp_region_good2 (by kernel_rfl) (by kernel_rfl) [(fun v _=>v=.agg #[.string ⟨nm.toArray⟩,.int .i64 qu,.int .i64 nx,.slice s1 sn s3,.slice u1 un u3,.slice t1 tn t3,.slice l1 ln l3]),
   (fun v _=>v=.int .i64 U),
   (fun v _=>v=.pointer (some ⟨w.heap.size,1,none⟩)),
   (fun v _=>v=.int .i64 qu),
   (fun v _=>v=.bool true)] ?_ ?_ ?_
  ·repeat' (first | exact stays_nil | refine stays_cons ?_ ?_ | exact Stays.pure)
  ·intro i oo ho m2 W hb0 hmi hcl hdeps AA KK hA hK
   rcases i with _ | _ | _ | _ | _ | i
   ·injection ho with ho;subst ho
    have ef1:AA.tmps[1]?.getD undef=.pointer (some ⟨w.heap.size,0,none⟩):=tF hA
    obtain ⟨c0,c1,c2,c3,c4,c5,c6⟩:=hS.out W hb0
    exact zP
   ·injection ho with ho;subst ho
    have e0:=eD hdeps hA 0 4
    clear hA hdeps hcl hmi
    have hKK:=hK
    clear hK
    go_simp
    refine (hCG.out W hb0).mono ?_
    rintro e w5 ⟨rfl,hbn⟩
    exact hKK _ _ hbn (Eq.refl _)
   ·injection ho with ho;subst ho
    have ef1:AA.tmps[1]?.getD undef=.pointer (some ⟨w.heap.size,0,none⟩):=tF hA
    exact zP
   ·injection ho with ho;subst ho
    have e2:=eD hdeps hA 2 6
    obtain ⟨c0,c1,c2,c3,c4,c5,c6⟩:=hS.out W hb0
    exact zP
   ·injection ho with ho;subst ho
    have e1:=eD hdeps hA 1 5
    have e3:=eD hdeps hA 3 7
    exact zP
   ·simp at ho
  ·intro m W hbx hall
   have m0:=dV (hall 0 (by simp))
   have m1:=dV (hall 1 (by simp))
   have m2:=dV (hall 2 (by simp))
   have m3:=dV (hall 3 (by simp))
   have m4:=dV (hall 4 (by simp))
   rw [frameM_all (by kernel_rfl) [.agg #[.string ⟨nm.toArray⟩,.int .i64 qu,.int .i64 nx,.slice s1 sn s3,.slice u1 un u3,.slice t1 tn t3,.slice l1 ln l3],.int .i64 U,.pointer (some ⟨w.heap.size,1,none⟩),.int .i64 qu,.bool true] rfl (fun i hi=>by rcases i with _ | _ | _ | _ | _ | i <;> first | assumption | (simp at hi;omega))]
   clear hall m0 m1 m2 m3 m4
   simp only [putAll,Act.put,zA,zC,zB]
   obtain ⟨w4,hw4⟩:∃ w4,w4=W:=⟨_,rfl⟩
   subst hw4
   have HW4:=Lib.hid hbx
   clear hbx
   clear hq
   have KZ:=Lib.hid (hKz.out w4 HW4.out)
   have HB:=Lib.hid (hBW.out w4 HW4.out)
   have hq:=HQ.out
   obtain ⟨WR,hW4,hth,HL,HBW,hgw⟩:=res7 (g:=(w.heap.size+1)) [.string ⟨#[]⟩,.int .i64 0,.int .i64 0,.slice none 0 0,.slice none 0 0,.slice none 0 0,.slice none 0 0] KZ.out HB.out (by omega)
   clear hgw
   go_wp2_with (refine wpList_store_mid rfl 27 (.tmp 2) (.tmp 9) rfl ((w.heap.size+1)) 0 #[.string ⟨#[]⟩,.int .i64 0,.int .i64 0,.slice none 0 0,.slice none 0 0,.slice none 0 0,.slice none 0 0] rfl rfl hth.out (by kernel_rfl) (by simp [Value.oneCell']) ?_;rw [← hW4];clear hW4)
   exact bodyPost_ret (v:=.tuple #[.agg #[.string ⟨#[]⟩,.int .i64 0,.int .i64 0,.slice none 0 0,.slice none 0 0,.slice none 0 0,.slice none 0 0],.int .i64 42]) (results_cell_tmp rfl rfl HL.out) rfl (And.intro HBW.out (Or.inl (And.intro HQ.out rfl)))
 ·have HQ:=Lib.hid hq
  refine wp_region_good2 (by kernel_rfl) (by kernel_rfl) [(fun v _=>v=.agg #[.string ⟨nm.toArray⟩,.int .i64 qu,.int .i64 nx,.slice s1 sn s3,.slice u1 un u3,.slice t1 tn t3,.slice l1 ln l3]),
   (fun v _=>v=.int .i64 U),
   (fun v _=>v=.pointer (some ⟨w.heap.size,1,none⟩)),
   (fun v _=>v=.int .i64 qu),
   (fun v _=>v=.bool false)] ?_ ?_ ?_
  ·repeat' (first | exact stays_nil | refine stays_cons ?_ ?_ | exact Stays.pure)
  ·intro i oo ho m2 W hb0 hmi hcl hdeps AA KK hA hK
   rcases i with _ | _ | _ | _ | _ | i
   ·injection ho with ho;subst ho
    have ef1:AA.tmps[1]?.getD undef=.pointer (some ⟨w.heap.size,0,none⟩):=tF hA
    obtain ⟨c0,c1,c2,c3,c4,c5,c6⟩:=hS.out W hb0
    exact zP
   ·injection ho with ho;subst ho
    have e0:=eD hdeps hA 0 4
    clear hA hdeps hcl hmi
    have hKK:=hK
    clear hK
    go_simp
    refine (hCG.out W hb0).mono ?_
    rintro e w5 ⟨rfl,hbn⟩
    exact hKK _ _ hbn (Eq.refl _)
   ·injection ho with ho;subst ho
    have ef1:AA.tmps[1]?.getD undef=.pointer (some ⟨w.heap.size,0,none⟩):=tF hA
    exact zP
   ·injection ho with ho;subst ho
    have e2:=eD hdeps hA 2 6
    obtain ⟨c0,c1,c2,c3,c4,c5,c6⟩:=hS.out W hb0
    exact zP
   ·injection ho with ho;subst ho
    have e1:=eD hdeps hA 1 5
    have e3:=eD hdeps hA 3 7
    exact zP
   ·simp at ho
  ·intro m W hbx hall
   have m0:=dV (hall 0 (by simp))
   have m1:=dV (hall 1 (by simp))
   have m2:=dV (hall 2 (by simp))
   have m3:=dV (hall 3 (by simp))
   have m4:=dV (hall 4 (by simp))
   rw [frameM_all (by kernel_rfl) [.agg #[.string ⟨nm.toArray⟩,.int .i64 qu,.int .i64 nx,.slice s1 sn s3,.slice u1 un u3,.slice t1 tn t3,.slice l1 ln l3],.int .i64 U,.pointer (some ⟨w.heap.size,1,none⟩),.int .i64 qu,.bool false] rfl (fun i hi=>by rcases i with _ | _ | _ | _ | _ | i <;> first | assumption | (simp at hi;omega))]
   clear hall m0 m1 m2 m3 m4
   simp only [putAll,Act.put,zA,zC,zB]
   obtain ⟨w4,hw4⟩:∃ w4,w4=W:=⟨_,rfl⟩
   subst hw4
   have HW4:=Lib.hid hbx
   clear hbx
   clear hq
   have kk:=hKt.out w4 HW4.out
   obtain ⟨c0,c1,c2,c3,c4,c5,c6⟩:=(⟨kk.cell 0,kk.cell 1,kk.cell 2,kk.cell 3,kk.cell 4,kk.cell 5,kk.cell 6⟩:_∧_∧_∧_∧_∧_∧_)
   simp only [zF,zD,zE] at c0 c1 c2 c3 c4 c5 c6
   clear kk
   have KZ:=Lib.hid (hKz.out w4 HW4.out)
   have HB:=Lib.hid (hBW.out w4 HW4.out)
   have hq:=HQ.out
   obtain ⟨WR,hW4,hth,HL,HBW,hgw⟩:=res7 (g:=(w.heap.size+1)) [.string ⟨nm.toArray⟩,.int .i64 qu,.int .i64 nx,.slice s1 sn s3,.slice u1 un u3,.slice t1 tn t3,.slice l1 ln l3] KZ.out HB.out (by omega)
   clear hgw
   go_wp2_with (refine wpList_store_mid rfl 27 (.tmp 2) (.tmp 10) rfl ((w.heap.size+1)) 0 #[.string ⟨nm.toArray⟩,.int .i64 qu,.int .i64 nx,.slice s1 sn s3,.slice u1 un u3,.slice t1 tn t3,.slice l1 ln l3] rfl rfl hth.out (by kernel_rfl) (by simp [Value.oneCell']) ?_;rw [← hW4];clear hW4)
   exact bodyPost_ret (v:=.tuple #[.agg #[.string ⟨nm.toArray⟩,.int .i64 qu,.int .i64 nx,.slice s1 sn s3,.slice u1 un u3,.slice t1 tn t3,.slice l1 ln l3],.int .i64 0]) (results_cell_tmp rfl rfl HL.out) rfl (And.intro HBW.out (Or.inr (And.intro (by have:=HQ.out;omega) rfl)))
end Go.Proofs.YtcgclpcocdappaaGreatDoor
namespace Go.Proofs.YtcgclpcocdappaaGreatDoor
open Go.RowKit
/-- a set is turned by something -/
def TenC.changed (c:TenC) (p:BS) (F:SetC→Int×SetC):Int×TenC:=if c.ask p≠0 then (c.ask p,c) else if c.find p<0 then (71,c) else match c.sets[(c.find p).toNat]? with
 | none=>(71,c)
 | some s=>if (F s).1≠0 then ((F s).1,c) else (0,c.putS (c.find p).toNat (F s).2)
end Go.Proofs.YtcgclpcocdappaaGreatDoor
namespace Go.Proofs.YtcgclpcocdappaaGreatDoor
open Go.RowKit
/-! ### a set less -/
/-! ### a set turned -/
theorem SetOk.congr {l l':List SetC} {s:SetC} (h:SetOk l s) (hp:∀ x∈l,∃ y∈l',y.path=x.path) (hf:∀ a x,l.find? (fun x=>x.path == a)=some x→∃ y,l'.find? (fun x=>x.path == a)=some y∧y.snaps=x.snaps):SetOk l' s:=by
 refine ⟨h.path,fun u hu=>?_,h.own,h.body,h.snaps,?_⟩
 ·obtain ⟨x,hx,e⟩:=h.par u hu
  obtain ⟨y,hy,e2⟩:=hp x hx
  exact ⟨y,hy,e2.trans e⟩
 ·rcases h.org with h | ⟨a,b,h1,h2,x,hx,y,hy,e⟩
  ·exact .inl h
  ·obtain ⟨z,hz,e2⟩:=hf a x hx
   exact .inr ⟨a,b,h1,h2,z,hz,y,by rw [e2];exact hy,e⟩
theorem putS_ok (c:TenC) (k:Nat) (hk:k<c.sets.length) (s:SetC) (h:c.Ok) (h1:s.path=(c.sets[k]'hk).path) (h2:s.org=(c.sets[k]'hk).org) (h3:s.snaps=(c.sets[k]'hk).snaps) (hb:okL s.body=true) (ho:propsB s.own=true):(c.putS k s).Ok:=by
 obtain ⟨g1,g2,g3,g4,g5,g6,g7⟩:=h
 refine ⟨g1,g2,g3,?_,g5,g6,g7⟩
 show SetsOk (c.sets.set k s)
 have hpath:(c.sets.set k s).map SetC.path=c.sets.map SetC.path:=by
  rw [List.map_set,h1,← List.getElem_map SetC.path (h:=by rw [List.length_map];exact hk),List.set_getElem_self]
 have hasc:(c.sets.set k s).Pairwise fun a b=>Op.bytesLess a.path b.path=true:=by
  have:=List.pairwise_map (f:=SetC.path) (l:=c.sets) (R:=fun a b=>Op.bytesLess a b=true)
  have h4:=this.2 g4.asc
  rw [← hpath] at h4
  exact List.pairwise_map.1 h4
 have hmem:∀ x∈c.sets,∃ y∈c.sets.set k s,y.path=x.path∧y.snaps=x.snaps:=by
  intro x hx
  obtain ⟨j,hj,rfl⟩:=List.mem_iff_getElem.1 hx
  by_cases hjk:k=j
  ·subst hjk
   exact ⟨s,List.mem_iff_getElem.2 ⟨k,by rw [List.length_set];exact hj,by rw [List.getElem_set_self]⟩,h1,h3⟩
  ·exact ⟨c.sets[j],List.mem_iff_getElem.2 ⟨j,by rw [List.length_set];exact hj,by rw [List.getElem_set_ne hjk]⟩,rfl,rfl⟩
 have hcg:∀ z,SetOk c.sets z→SetOk (c.sets.set k s) z:=fun z hz=>hz.congr (fun x hx=>by
  obtain ⟨y,hy,e,_⟩:=hmem x hx
  exact ⟨y,hy,e⟩) (fun a x hx=>by
  obtain ⟨y,hy,e1,e2⟩:=hmem x (List.mem_of_find?_eq_some hx)
  have hxa:x.path=a:=by simpa using List.find?_some hx
  refine ⟨y,?_,e2⟩
  rw [← hxa,← e1]
  exact find_of_mem hasc hy)
 refine ⟨by rw [List.length_set];exact g4.len,?_,fun z hz=>?_,hasc⟩
 ·obtain ⟨x,hx,e⟩:=g4.root
  obtain ⟨y,hy,e1,_⟩:=hmem x hx
  exact ⟨y,hy,e1.trans e⟩
 ·rcases List.mem_or_eq_of_mem_set hz with hz | rfl
  ·exact hcg z (g4.each z hz)
  ·have h5:=hcg _ (g4.each _ (List.getElem_mem hk))
   exact ⟨by rw [h1];exact h5.path,by rw [h1];exact h5.par,ho,hb,by rw [h3];exact h5.snaps,by rw [h1,h2];exact h5.org⟩
end Go.Proofs.YtcgclpcocdappaaGreatDoor
namespace Go.Proofs.YtcgclpcocdappaaGreatDoor
open Go.RowKit
def bodyF (E:List BlkT→Int) (L:List BlkT→List BlkT) (s:SetC):Int×SetC:=(E s.body,⟨s.path,s.org,L s.body,s.snaps,s.own⟩)
def writeF (i:Int) (d:BS):SetC→Int×SetC:=bodyF (fun l=>putE l i d) (fun l=>putL11 l i d)
/-- the cells of a set in a row of one's own -/
theorem set_cells {W:World} {base:Nat} {y:TenR} {k gS:Nat} (ho:TenO W base y) (hk:k<y.sets.l.length) (hA:y.sets.A=some ⟨gS,0,none⟩) :
  gS<W.heap.size∧(∀ o,W.frozen? ⟨gS,o,none⟩=false)∧W.cell? ⟨gS,k*5+2,none⟩=some (.slice (y.sets.l[k]'hk).body.A (y.sets.l[k]'hk).body.n (y.sets.l[k]'hk).body.c)∧W.cell? ⟨gS,k*5+4,none⟩=some (.slice (y.sets.l[k]'hk).own.A (y.sets.l[k]'hk).own.n (y.sets.l[k]'hk).own.c):=by
 have hn:=ho.sets.1
 obtain ⟨g,cs,hA2,-,hb⟩:=ho.sets.blk (by omega)
 rw [hA] at hA2
 injection hA2 with hA2
 injection hA2 with hA2
 subst hA2
 obtain ⟨ad,hsa,-,-,-,q2,-,q4⟩:=set_at ho.rd.sets.2.2 hn (i:=k) (by omega)
 rw [hA] at hsa
 injection hsa with hsa
 subst hsa
 refine ⟨hb.lt,hb.frozen,?_,?_⟩
 ·rw [addr_add0] at q2
  exact q2
 ·rw [addr_add0] at q4
  exact q4
theorem changed_sz {c c2:TenC} {p:BS} {F:SetC→Int×SetC} (hc:c.sz) (h:(0,c2)=c.changed p F) (hF:∀ s:SetC,s.sz→(F s).1=0→(F s).2.sz):c2.sz:=by
 unfold TenC.changed at h
 by_cases h1:c.ask p≠0
 ·rw [if_pos h1] at h
  injection h with h _
  exact absurd h.symm h1
 rw [if_neg h1] at h
 by_cases h2:c.find p<0
 ·rw [if_pos h2] at h
  injection h with h _
  cases h
 rw [if_neg h2] at h
 cases hs:c.sets[(c.find p).toNat]? with
 | none=>rw [hs] at h;injection h with h _;cases h
 | some s =>
  rw [hs] at h
  simp only at h
  by_cases h3:(F s).1≠0
  ·rw [if_pos h3] at h
   injection h with h _
   exact absurd h.symm h3
  rw [if_neg h3] at h
  injection h with _ h
  subst h
  exact hc.putS (hF s (hc.eachS s (List.mem_of_getElem? hs)) (by omega))
theorem bodyF_sz (E:List BlkT→Int) (L:List BlkT→List BlkT) (h:∀ l,(L l).length≤l.length+1∧(E l=0→l.length≤100000)):∀ s:SetC,s.sz→(bodyF E L s).1=0→(bodyF E L s).2.sz:=fun s hs h0 =>
 ⟨hs.path,hs.org,by have h1:=h s.body;have h2:=h1.2 h0;show (L s.body).length≤_;omega,hs.snaps,hs.each,hs.own,hs.props⟩
theorem writeF_sz (i:Int) (d:BS):∀ s:SetC,s.sz→(writeF i d s).1=0→(writeF i d s).2.sz:=bodyF_sz _ _ fun l=>⟨by
 unfold putL11
 simp only [List.length_append,List.length_take,List.length_drop,List.length_cons,List.length_nil]
 split <;> omega,fun h=>by
 unfold putE at h
 split at h
 ·rename_i h1;have:=okL_small l h1;omega
 ·cases h⟩
end Go.Proofs.YtcgclpcocdappaaGreatDoor
namespace Go.Proofs.YtcgclpcocdappaaGreatDoor
open Go.RowKit
/-! ### what is made -/
def SetC.back (s:SetC) (x:SnapC):SetC:=⟨s.path,s.org,x.body,s.snaps,x.own⟩
def TenC.rollback (c:TenC) (p n:BS):Int×TenC :=
 if (c.foundS p n false).2.2≠0 then ((c.foundS p n false).2.2,c) else match c.sets[(c.foundS p n false).1.toNat]? with
 | none=>(71,c)
 | some s=>if (c.foundS p n false).2.1≠(s.snaps.length:Int)-1 then (44,c) else match s.snaps[(c.foundS p n false).2.1.toNat]? with
  | none=>(71,c)
  | some x=>(c.putS (c.foundS p n false).1.toNat (s.back x)).settle
/-! ### what may be -/
/-! ### another name -/
end Go.Proofs.YtcgclpcocdappaaGreatDoor
namespace Go.Proofs.YtcgclpcocdappaaGreatDoor
open Go.RowKit
theorem snapshot_form (c:TenC) (p n:BS) (c2:TenC) (h:(0,c2)=c.snapshot p n):∃ k,∃ ha:AtS c p n false k,c2=c.snapped k (c.sets[k]'ha.lt) n (guidC c.next (c.sets[k]'ha.lt).snaps)∧c2.E=0∧(c2.charge:Int)≤c2.quota∧∀ x∈(c.sets[k]'ha.lt).snaps,x.nm≠n:=by
 unfold TenC.snapshot at h
 rcases c.askS_cases p n false with ⟨E,hE,e⟩ | ⟨k,ha,e⟩
 ·rw [e] at h
  rw [if_pos (show E≠0 by rcases hE with rfl | rfl | rfl <;> decide)] at h
  injection h with h _
  rcases hE with rfl | rfl | rfl <;> cases h
 ·rw [e] at h
  simp only [Int.toNat_natCast] at h
  rw [if_neg (by decide),List.getElem?_eq_getElem ha.lt] at h
  simp only at h
  by_cases h1:0≤(c.sets[k]'ha.lt).findN n
  ·rw [if_pos h1] at h
   injection h with h _
   cases h
  rw [if_neg h1] at h
  by_cases h2:(c.sets[k]'ha.lt).snaps.length=16
  ·rw [if_pos h2] at h
   injection h with h _
   cases h
  rw [if_neg h2] at h
  by_cases h3:1099511627776≤guidC c.next (c.sets[k]'ha.lt).snaps
  ·rw [if_pos h3] at h
   injection h with h _
   cases h
  rw [if_neg h3] at h
  obtain ⟨e1,e2,e3⟩:=settle_ok _ _ h
  refine ⟨k,ha,e1,by rw [e1];exact e2,by rw [e1];exact e3,?_⟩
  rcases findN_cases (c.sets[k]'ha.lt) n with ⟨_,h4⟩ | ⟨j,_,h4,_⟩
  ·exact h4
  ·omega
theorem snapshot_sz {c:TenC} (h:c.sz) (p n:BS) (hn:n.length≤4000000000) (c2:TenC) (h2:(0,c2)=c.snapshot p n):c2.sz:=by
 obtain ⟨k,ha,e,-,-,-⟩:=snapshot_form c p n c2 h2
 rw [e]
 exact snapped_sz h k _ (h.eachS _ (List.getElem_mem ha.lt)) ha.snaps.len n hn _
theorem back_sz {c:TenC} (h:c.sz) (k:Nat) (s:SetC) (hs:s.sz) (x:SnapC) (hx:x.sz):(c.putS k (s.back x)).sz :=
 h.putS ⟨hs.path,hs.org,hx.body,hs.snaps,hs.each,hx.own,hx.props⟩
/-! ### clones -/
end Go.Proofs.YtcgclpcocdappaaGreatDoor
namespace Go.Proofs.YtcgclpcocdappaaGreatDoor
open Go.RowKit
theorem okFrom_bounds (p:Option Int) (l:BL) (h:okFrom p l=true):∀ x∈l,0≤x.1∧x.1<1024∧x.2.length=16:=by
 induction l generalizing p with
 | nil=>intro x hx;cases hx
 | cons z r ih =>
  simp only [okFrom,Bool.and_eq_true,decide_eq_true_eq] at h
  intro x hx
  rcases List.mem_cons.1 hx with rfl | hx
  ·exact ⟨h.1.1.1.1,h.1.1.1.2,h.1.1.2⟩
  ·exact ih _ h.2 x hx
end Go.Proofs.YtcgclpcocdappaaGreatDoor
namespace Go.Proofs.YtcgclpcocdappaaGreatDoor
open Go.RowKit
theorem okL_of (l:BL) (h:OkP l):okL l=true:=by
 unfold okL
 have key:∀ (l:BL) (p:Option Int),OkP l→(∀ q,p=some q→∀ x∈l,q<x.1)→okFrom p l=true:=by
  intro l
  induction l with
  | nil=>intro p _ _;rfl
  | cons x r ih =>
   intro p h hp
   have hb:=h.bd x (by simp)
   have hpw:=List.pairwise_cons.1 h.pw
   simp only [okFrom,Bool.and_eq_true,decide_eq_true_eq]
   refine ⟨⟨⟨⟨hb.1,hb.2.1⟩,hb.2.2⟩,?_⟩,ih _ ⟨hpw.2,fun y hy=>h.bd y (List.mem_cons_of_mem _ hy)⟩ (fun q hq y hy=>by cases hq;exact hpw.1 y hy)⟩
   cases p with
   | none=>rfl
   | some q=>simpa using hp q rfl x (by simp)
 exact key l none h (fun q hq=>by cases hq)
theorem OkP.of (l:BL) (h:okL l=true):OkP l:=by
 refine ⟨?_,okFrom_bounds none l h⟩
 have ha:=okL_asc l h
 rw [List.pairwise_iff_getElem]
 intro i j hi hj hij
 exact ha i j _ _ hij (List.getElem?_eq_getElem hi) (List.getElem?_eq_getElem hj)
/-! ### put, free -/
/-! ### applying -/
end Go.Proofs.YtcgclpcocdappaaGreatDoor
namespace Go.Proofs.YtcgclpcocdappaaGreatDoor
open Go.RowKit
section
variable {c:TenC} {p n tq:BS} {a k' E:Int} {k i:Nat} {s:SetC} {y:SnapC}
theorem rollback_bad (h:c.foundS p n false=(a,k',E)) (hE:E≠0):c.rollback p n=(E,c):=by
 unfold TenC.rollback
 rw [h,if_pos hE]
theorem rollback_at (h:c.foundS p n false=((k:Int),(i:Int),0)) (hs:c.sets[k]?=some s) (hy:s.snaps[i]?=some y):c.rollback p n=if (i:Int)≠(s.snaps.length:Int)-1 then (44,c) else (c.putS k (s.back y)).settle:=by
 unfold TenC.rollback
 rw [h]
 simp only [Int.toNat_natCast,hs,hy]
 rw [if_neg (by decide)]
end
/-! ### rows of sets -/
end Go.Proofs.YtcgclpcocdappaaGreatDoor
