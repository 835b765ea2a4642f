/-
  The page's SameGrants, SameLog, SameRecord, SameStage at equal contents: they answer true.
-/
import Derived.WalkKit
import Derived.WalkSpells
import Derived.Below
import Derived.Laws.OwnMore
import Derived.Deep.AppendLies
import Derived.Deep.Draws
import Derived.Laws.Rows
import Derived.Maps.AppendAt
import Derived.RegionTactic
import Derived.OwnWalk
import Derived.Deep.QuietTactic
import Derived.BigQuiet
import Derived.Lib.Hide
import Derived.Laws.CopyOwn
import Derived.IntWalk
import Derived.Test.YtcgclpcocdappaaGreatDoorRows
import Derived.Handy
import Derived.Deep.Quiet
import Derived.Orders
import Derived.Lib.SplitLaws
import Derived.Lib.LastIndexByte
import Derived.Lib.Strings
import Derived.ShutString
import Derived.Sort.Walk0
import Derived.Sort.KeysCollected
import Derived.Shelf.Strings.Search1
import Derived.Shelf.Strings.Search2
import Derived.Shelf.Strings.Search3
import Derived.Shelf.Strings.Cut
import Derived.Shelf.Strings.Count
import Derived.Shelf.LaysM
import Derived.Shelf.Strings.Shaped
import Derived.Shelf.Strings.LastIndex
import Derived.Shelf.Strings.Split
import Derived.Shelf.Strings.SplitShaped
import Derived.Shelf.Unicode.Decode
import Derived.Shelf.Strings.RuneCount
import Derived.Shelf.Strings.Explode
import Derived.Shelf.Unicode.DecodeSlow
import Derived.Test.YtcgclpcocdappaaGreatDoorProg
import Derived.Laws.BytesString
import Derived.Laws.IdiomStrings
import Derived.Lib.ConvBytes
import Derived.Test.YtcgclpcocdappaaGreatDoorG0
import Derived.Test.YtcgclpcocdappaaGreatDoorGg1
import Derived.Test.YtcgclpcocdappaaGreatDoorGg5
import Derived.Test.YtcgclpcocdappaaGreatDoorGg6
import Derived.Test.YtcgclpcocdappaaGreatDoorGg7
import Derived.Test.YtcgclpcocdappaaGreatDoorGg9
import Derived.Test.YtcgclpcocdappaaGreatDoorGg16
import Derived.Test.YtcgclpcocdappaaGreatDoorGg17
namespace Go.Proofs.YtcgclpcocdappaaGreatDoor
open Go.RowKit
set_option maxRecDepth 100000 in
set_option maxHeartbeats 1000000 in
theorem sameG_any (a b:GL) (n m:Nat) (hna:n=a.length) (hmb:m=b.length) (A1 A2:Option Addr) (c1 c2:Nat) (w:World) (B1 B2:Nat) (hr1:Reads w B1 3 A1 n (gcells a)) (hr2:Reads w B2 3 A2 m (gcells b)) (hn:n≤5000000000000) (hm:m≤5000000000000) :
  Calls Tryz.prog 72 #[.slice A1 n c1,.slice A2 m c2] w fun e w'=>e=.returned (.bool (decide (a=b)))∧∃ q,w'=w.drewN q:=by
 have HN:=Lib.hid hna
 have HM:=Lib.hid hmb
 clear hna hmb
 by_cases hnm:n=m
 ·subst hnm
  go_enter Tryz.func72,Tryz.ntmps72
  go_wp2_with fail
  go_loopw [5] (fun i wr=>∃ k:Nat,k≤n∧i=.int .i64 (k:Int)∧Hid (a.take k=b.take k)∧∃ q,wr=w.drewN q) (fun i _=>n-(intOf i).toNat)
  case atStart=>exact ⟨0,Nat.zero_le _,rfl,(show a.take 0=b.take 0 by simp),0,rfl⟩
  case round =>
   obtain ⟨k,hk,rfl,hok,q,rfl⟩:=hrel
   by_cases hlt:k<n
   ·have hki:(k:Int)<(n:Int):=by omega
    have hka:k<a.length:=by have:=HN.out;omega
    have hkb:k<b.length:=by have:=HM.out;omega
    obtain ⟨ad1,rfl,_,hc1,hc1',hc1''⟩:=hr1.el3 HN.out hlt
    obtain ⟨ad2,rfl,_,hc2,hc2',hc2''⟩:=hr2.el3 HM.out hlt
    obtain ⟨x,hx⟩:∃ x,x=a[k]'hka:=⟨_,rfl⟩
    obtain ⟨y,hy⟩:∃ y,y=b[k]'hkb:=⟨_,rfl⟩
    rw [← hx] at hc1 hc1' hc1''
    rw [← hy] at hc2 hc2' hc2''
    have t1:=List.take_succ_eq_append_getElem hka
    have t2:=List.take_succ_eq_append_getElem hkb
    rw [← hx] at t1
    rw [← hy] at t2
    have T1:=Lib.hid t1
    have T2:=Lib.hid t2
    have X1:=Lib.hid hx
    have X2:=Lib.hid hy
    obtain ⟨xu,xp,xz⟩:=x
    obtain ⟨yu,yp,yz⟩:=y
    simp only at hc1 hc1' hc1'' hc2 hc2' hc2''
    clear hx hy t1 t2 hr1 hr2
    have HD:Hid (¬ (xu=yu∧xp=yp∧xz=yz)→decide (a=b)=false):=by
     show _→_
     intro hxy
     refine decide_eq_false (fun e=>hxy ?_)
     have:(xu,xp,xz)=(yu,yp,yz):=by rw [X1.out,X2.out];simp only [e]
     injection this with e1 e2
     injection e2 with e2 e3
     exact ⟨e1,e2,e3⟩
    by_cases e1:xu=yu
    ·subst e1
     by_cases e2:xp=yp
     ·subst e2
      by_cases e3:xz=yz
      ·subst e3
       go_wp2_with fail
       go_region
       go_wp2_with fail
       go_roundw
       case rel =>
        refine ⟨k+1,by omega,by go_num,?_,q+1,rfl⟩
        show a.take (k+1)=b.take (k+1)
        rw [T1.out,T2.out,hok.out]
       case measure=>simp [intOf];omega
      ·replace HD:=Lib.hid (HD.out (fun h=>e3 h.2.2))
       go_wp2_with fail
       go_region
       go_wp2_with fail
       go_ret
       exact ⟨by rw [HD.out];rfl,q+1,rfl⟩
     ·replace HD:=Lib.hid (HD.out (fun h=>e2 h.2.1))
      go_wp2_with fail
      go_region
      go_wp2_with fail
      go_ret
      exact ⟨by rw [HD.out];rfl,q+1,rfl⟩
    ·replace HD:=Lib.hid (HD.out (fun h=>e1 h.1))
     go_wp2_with fail
     go_region
     go_wp2_with fail
     go_ret
     exact ⟨by rw [HD.out];rfl,q+1,rfl⟩
   ·have HD:Hid (decide (a=b)=true):=by
     show _=_
     refine decide_eq_true ?_
     have:=hok.out
     rwa [List.take_of_length_le (by have:=HN.out;omega),List.take_of_length_le (by have:=HM.out;omega)] at this
    clear hr1 hr2
    go_wp2_with fail
    go_ret
    exact ⟨by rw [HD.out];rfl,q,rfl⟩
 ·have hd:((n:Int) != (m:Int))=true:=by simp;omega
  have HD:Hid (decide (a=b)=false):=by
   show _=_
   refine decide_eq_false (fun e=>hnm ?_)
   rw [HN.out,HM.out,e]
  clear hnm hr1 hr2
  go_enter Tryz.func72,Tryz.ntmps72
  go_wp2_with fail
  go_ret
  exact ⟨by rw [HD.out];rfl,0,rfl⟩
theorem sameGT_any (l:GL) (n:Nat) (hn:n=l.length) (A A':Option Addr) (c c':Nat) (w:World) (B:Nat) (hr:Reads w B 3 A n (gcells l)) (hr':Reads w B 3 A' n (gcells l)) (hm:n≤1000000000000) :
  Calls Tryz.prog 72 #[.slice A n c,.slice A' n c'] w fun e w'=>e=.returned (.bool true)∧Below w.heap.size w w':=by
 refine (sameG_any l l n n hn hn A A' c c' w B B hr hr' (by omega) (by omega)).mono ?_
 rintro e w1 ⟨rfl,q,rfl⟩
 exact ⟨by simp,below_drewN (Below.refl _ _) q⟩
set_option maxRecDepth 100000 in
set_option maxHeartbeats 1000000 in
theorem sameLogT_any (l:List EntryR) (n:Nat) (hnl:n=l.length) (A A':Option Addr) (c c':Nat) (w:World) (B:Nat) (hr:Reads w B 4 A n (cellsK encEntry l)) (hr':Reads w B 4 A' n (cellsK encEntry l)) (hn:n≤1000000000000) :
  Calls Tryz.prog 73 #[.slice A n c,.slice A' n c'] w fun e w'=>e=.returned (.bool true)∧Below w.heap.size w w':=by
 have HN:=Lib.hid hnl
 clear hnl
 go_enter Tryz.func73,Tryz.ntmps73
 go_wp2_with fail
 go_loopw [5] (fun j wr=>∃ k:Nat,k≤n∧j=.int .i64 (k:Int)∧∃ q,wr=w.drewN q) (fun j _=>n-(intOf j).toNat)
 case atStart=>exact ⟨0,Nat.zero_le _,rfl,0,rfl⟩
 case round =>
  obtain ⟨k,hk,rfl,q,rfl⟩:=hrel
  by_cases hlt:k<n
  ·have hki:(k:Int)<(n:Int):=by omega
   obtain ⟨ad,rfl,-,c0,c1,c2,c3⟩:=Reads.el4 (f0:=fun x:EntryR=>.string ⟨x.user.toArray⟩) (f1:=fun x=>.int .i64 x.kind) (f2:=fun x=>.string ⟨x.path.toArray⟩) (f3:=fun x=>.int .i64 x.err) hr HN.out hlt
   obtain ⟨ad2,rfl,-,d0,d1,d2,d3⟩:=Reads.el4 (f0:=fun x:EntryR=>.string ⟨x.user.toArray⟩) (f1:=fun x=>.int .i64 x.kind) (f2:=fun x=>.string ⟨x.path.toArray⟩) (f3:=fun x=>.int .i64 x.err) hr' HN.out hlt
   obtain ⟨x,hx⟩:∃ x,x=l[k]'(by have:=HN.out;omega):=⟨_,rfl⟩
   rw [← hx] at c0 c1 c2 c3 d0 d1 d2 d3
   obtain ⟨xu,xk,xp,xe⟩:=x
   simp only at c0 c1 c2 c3 d0 d1 d2 d3
   clear hx hr hr'
   go_wp2_with fail
   go_region
   go_wp2_with fail
   go_roundw
   case rel=>exact ⟨k+1,by omega,by go_num,q+1,rfl⟩
   case measure=>simp [intOf];omega
  ·clear hr hr'
   go_wp2_with fail
   go_ret
   exact ⟨rfl,below_drewN (Below.refl _ _) q⟩
set_option maxRecDepth 100000 in
set_option maxHeartbeats 4000000 in
theorem sameRecT_any (kind:Int) (nm:BS) (frm gd:Int) (ol:List (BS×BS)) (o1 o1':Option Addr) (on o3 o3':Nat) (ix ct:Int) (dt:BS) (sa sb sc sd:Int) (w:World) (B:Nat) (hB:B≤w.heap.size) (hon:on=ol.length) (ho:Reads w B 2 o1 on (pcells ol)) (ho':Reads w B 2 o1' on (pcells ol)) (hom:on≤1000000000000) :
  Calls Tryz.prog 139 #[.agg #[.int .i64 kind,.string ⟨nm.toArray⟩,.int .i64 frm,.int .i64 gd,.slice o1 on o3,.int .i64 ix,.int .i64 ct,.string ⟨dt.toArray⟩,.int .u64 sa,.int .u64 sb,.int .u64 sc,.int .u64 sd],.agg #[.int .i64 kind,.string ⟨nm.toArray⟩,.int .i64 frm,.int .i64 gd,.slice o1' on o3',.int .i64 ix,.int .i64 ct,.string ⟨dt.toArray⟩,.int .u64 sa,.int .u64 sb,.int .u64 sc,.int .u64 sd]] w fun e w'=>e=.returned (.bool true)∧Below w.heap.size w w':=by
 have hb1:=(Below.refl w.heap.size w).alloc (Nat.le_refl _) (.cells #[.int .i64 kind,.string ⟨nm.toArray⟩,.int .i64 frm,.int .i64 gd,.slice o1 on o3,.int .i64 ix,.int .i64 ct,.string ⟨dt.toArray⟩,.int .u64 sa,.int .u64 sb,.int .u64 sc,.int .u64 sd] 101)
 have hb2:=hb1.alloc hb1.size (.cells #[.int .i64 kind,.string ⟨nm.toArray⟩,.int .i64 frm,.int .i64 gd,.slice o1' on o3',.int .i64 ix,.int .i64 ct,.string ⟨dt.toArray⟩,.int .u64 sa,.int .u64 sb,.int .u64 sc,.int .u64 sd] 101)
 have k1:=(Blk.new w 101 #[.int .i64 kind,.string ⟨nm.toArray⟩,.int .i64 frm,.int .i64 gd,.slice o1 on o3,.int .i64 ix,.int .i64 ct,.string ⟨dt.toArray⟩,.int .u64 sa,.int .u64 sb,.int .u64 sc,.int .u64 sd]).alloc (.cells #[.int .i64 kind,.string ⟨nm.toArray⟩,.int .i64 frm,.int .i64 gd,.slice o1' on o3',.int .i64 ix,.int .i64 ct,.string ⟨dt.toArray⟩,.int .u64 sa,.int .u64 sb,.int .u64 sc,.int .u64 sd] 101)
 have k2:=Blk.new (w.alloc (.cells #[.int .i64 kind,.string ⟨nm.toArray⟩,.int .i64 frm,.int .i64 gd,.slice o1 on o3,.int .i64 ix,.int .i64 ct,.string ⟨dt.toArray⟩,.int .u64 sa,.int .u64 sb,.int .u64 sc,.int .u64 sd] 101)) 101 #[.int .i64 kind,.string ⟨nm.toArray⟩,.int .i64 frm,.int .i64 gd,.slice o1' on o3',.int .i64 ix,.int .i64 ct,.string ⟨dt.toArray⟩,.int .u64 sa,.int .u64 sb,.int .u64 sc,.int .u64 sd]
 rw [show (w.alloc (.cells #[.int .i64 kind,.string ⟨nm.toArray⟩,.int .i64 frm,.int .i64 gd,.slice o1 on o3,.int .i64 ix,.int .i64 ct,.string ⟨dt.toArray⟩,.int .u64 sa,.int .u64 sb,.int .u64 sc,.int .u64 sd] 101)).heap.size=w.heap.size+1 by simp] at k2
 obtain ⟨W2,hW2⟩:∃ W,W=(w.alloc (.cells #[.int .i64 kind,.string ⟨nm.toArray⟩,.int .i64 frm,.int .i64 gd,.slice o1 on o3,.int .i64 ix,.int .i64 ct,.string ⟨dt.toArray⟩,.int .u64 sa,.int .u64 sb,.int .u64 sc,.int .u64 sd] 101)).alloc (.cells #[.int .i64 kind,.string ⟨nm.toArray⟩,.int .i64 frm,.int .i64 gd,.slice o1' on o3',.int .i64 ix,.int .i64 ct,.string ⟨dt.toArray⟩,.int .u64 sa,.int .u64 sb,.int .u64 sc,.int .u64 sd] 101):=⟨_,rfl⟩
 have hsz:W2.heap.size=w.heap.size+2:=by rw [hW2];simp
 rw [← hW2] at hb2 k1 k2
 have hS:=Lib.hid (fun (W':World) (hB':Below W2.heap.size W2 W')=>(⟨(k1.below hB' (by omega)).cell 0,(k1.below hB' (by omega)).cell 1,(k1.below hB' (by omega)).cell 2,(k1.below hB' (by omega)).cell 3,(k1.below hB' (by omega)).cell 4,(k1.below hB' (by omega)).cell 5,(k1.below hB' (by omega)).cell 6,(k1.below hB' (by omega)).cell 7,(k1.below hB' (by omega)).cell 8,(k1.below hB' (by omega)).cell 9,(k1.below hB' (by omega)).cell 10,(k1.below hB' (by omega)).cell 11,(k2.below hB' (by omega)).cell 0,(k2.below hB' (by omega)).cell 1,(k2.below hB' (by omega)).cell 2,(k2.below hB' (by omega)).cell 3,(k2.below hB' (by omega)).cell 4,(k2.below hB' (by omega)).cell 5,(k2.below hB' (by omega)).cell 6,(k2.below hB' (by omega)).cell 7,(k2.below hB' (by omega)).cell 8,(k2.below hB' (by omega)).cell 9,(k2.below hB' (by omega)).cell 10,(k2.below hB' (by omega)).cell 11⟩:W'.cell? ⟨w.heap.size,0,none⟩=some (.int .i64 kind)∧W'.cell? ⟨w.heap.size,1,none⟩=some (.string ⟨nm.toArray⟩)∧W'.cell? ⟨w.heap.size,2,none⟩=some (.int .i64 frm)∧W'.cell? ⟨w.heap.size,3,none⟩=some (.int .i64 gd)∧W'.cell? ⟨w.heap.size,4,none⟩=some (.slice o1 on o3)∧W'.cell? ⟨w.heap.size,5,none⟩=some (.int .i64 ix)∧W'.cell? ⟨w.heap.size,6,none⟩=some (.int .i64 ct)∧W'.cell? ⟨w.heap.size,7,none⟩=some (.string ⟨dt.toArray⟩)∧W'.cell? ⟨w.heap.size,8,none⟩=some (.int .u64 sa)∧W'.cell? ⟨w.heap.size,9,none⟩=some (.int .u64 sb)∧W'.cell? ⟨w.heap.size,10,none⟩=some (.int .u64 sc)∧W'.cell? ⟨w.heap.size,11,none⟩=some (.int .u64 sd)∧W'.cell? ⟨w.heap.size+1,0,none⟩=some (.int .i64 kind)∧W'.cell? ⟨w.heap.size+1,1,none⟩=some (.string ⟨nm.toArray⟩)∧W'.cell? ⟨w.heap.size+1,2,none⟩=some (.int .i64 frm)∧W'.cell? ⟨w.heap.size+1,3,none⟩=some (.int .i64 gd)∧W'.cell? ⟨w.heap.size+1,4,none⟩=some (.slice o1' on o3')∧W'.cell? ⟨w.heap.size+1,5,none⟩=some (.int .i64 ix)∧W'.cell? ⟨w.heap.size+1,6,none⟩=some (.int .i64 ct)∧W'.cell? ⟨w.heap.size+1,7,none⟩=some (.string ⟨dt.toArray⟩)∧W'.cell? ⟨w.heap.size+1,8,none⟩=some (.int .u64 sa)∧W'.cell? ⟨w.heap.size+1,9,none⟩=some (.int .u64 sb)∧W'.cell? ⟨w.heap.size+1,10,none⟩=some (.int .u64 sc)∧W'.cell? ⟨w.heap.size+1,11,none⟩=some (.int .u64 sd)))
 have HSZ:=Lib.hid hsz
 have HB2:=Lib.hid hb2
 have hmv:∀ W',Below W2.heap.size W2 W'→Below B w W':=fun W' hB'=>(hb2.trans (hB'.mono (by omega))).mono hB
 have hPr:Hid (∀ W,Below W2.heap.size W2 W→Calls Tryz.prog 14 #[.slice o1 on o3,.slice o1' on o3'] W fun e W'=>e=.returned (.bool true)∧Below W.heap.size W W'):=fun W h=>samePropsT_any ol on hon o1 o1' o3 o3' W B (ho.below (hmv W h)) (ho'.below (hmv W h)) hom
 clear hb1 hb2 k1 k2 hsz hmv ho ho' hon
 have hW0:=Below.refl W2.heap.size W2
 go_enter Tryz.func139,Tryz.ntmps139
 go_wp2_with fail
 rw [← hW2]
 clear hW2
 refine (hPr.out _ hW0).mono ?_
 rintro e w3 ⟨rfl,hb3⟩
 go_wp2_with fail
 go_ret
 exact ⟨rfl,HB2.out.trans (hb3.mono (by have:=HSZ.out;omega))⟩
set_option maxRecDepth 100000 in
set_option maxHeartbeats 4000000 in
theorem sameStageT_any (into:BS) (kind:Int) (nm:BS) (frm gd:Int) (ol:List (BS×BS)) (o1 o1':Option Addr) (on o3 o3':Nat) (ix ct:Int) (dt:BS) (sa sb sc sd:Int) (bl:List BlkT) (b1 b1':Option Addr) (bn b3 b3':Nat) (at_ nx ua ub uc ud:Int) (done:Bool) (w:World) (B:Nat) (hB:B≤w.heap.size) (hon:on=ol.length) (ho:Reads w B 2 o1 on (pcells ol)) (ho':Reads w B 2 o1' on (pcells ol)) (hom:on≤1000000000000)
  (hbn:bn=bl.length) (hb:Reads w B 2 b1 bn (bcells bl)) (hb':Reads w B 2 b1' bn (bcells bl)) (hbm:bn≤1000000000000) :
  Calls Tryz.prog 75 #[.agg #[.string ⟨into.toArray⟩,.int .i64 kind,.string ⟨nm.toArray⟩,.int .i64 frm,.int .i64 gd,.slice o1 on o3,.int .i64 ix,.int .i64 ct,.string ⟨dt.toArray⟩,.int .u64 sa,.int .u64 sb,.int .u64 sc,.int .u64 sd,.slice b1 bn b3,.int .i64 at_,.int .i64 nx,.int .u64 ua,.int .u64 ub,.int .u64 uc,.int .u64 ud,.bool done],.agg #[.string ⟨into.toArray⟩,.int .i64 kind,.string ⟨nm.toArray⟩,.int .i64 frm,.int .i64 gd,.slice o1' on o3',.int .i64 ix,.int .i64 ct,.string ⟨dt.toArray⟩,.int .u64 sa,.int .u64 sb,.int .u64 sc,.int .u64 sd,.slice b1' bn b3',.int .i64 at_,.int .i64 nx,.int .u64 ua,.int .u64 ub,.int .u64 uc,.int .u64 ud,.bool done]] w fun e w'=>e=.returned (.bool true)∧Below w.heap.size w w':=by
 have hb1:=(Below.refl w.heap.size w).alloc (Nat.le_refl _) (.cells #[.string ⟨into.toArray⟩,.int .i64 kind,.string ⟨nm.toArray⟩,.int .i64 frm,.int .i64 gd,.slice o1 on o3,.int .i64 ix,.int .i64 ct,.string ⟨dt.toArray⟩,.int .u64 sa,.int .u64 sb,.int .u64 sc,.int .u64 sd,.slice b1 bn b3,.int .i64 at_,.int .i64 nx,.int .u64 ua,.int .u64 ub,.int .u64 uc,.int .u64 ud,.bool done] 103)
 have hb2:=hb1.alloc hb1.size (.cells #[.string ⟨into.toArray⟩,.int .i64 kind,.string ⟨nm.toArray⟩,.int .i64 frm,.int .i64 gd,.slice o1' on o3',.int .i64 ix,.int .i64 ct,.string ⟨dt.toArray⟩,.int .u64 sa,.int .u64 sb,.int .u64 sc,.int .u64 sd,.slice b1' bn b3',.int .i64 at_,.int .i64 nx,.int .u64 ua,.int .u64 ub,.int .u64 uc,.int .u64 ud,.bool done] 103)
 have k1:=(Blk.new w 103 #[.string ⟨into.toArray⟩,.int .i64 kind,.string ⟨nm.toArray⟩,.int .i64 frm,.int .i64 gd,.slice o1 on o3,.int .i64 ix,.int .i64 ct,.string ⟨dt.toArray⟩,.int .u64 sa,.int .u64 sb,.int .u64 sc,.int .u64 sd,.slice b1 bn b3,.int .i64 at_,.int .i64 nx,.int .u64 ua,.int .u64 ub,.int .u64 uc,.int .u64 ud,.bool done]).alloc (.cells #[.string ⟨into.toArray⟩,.int .i64 kind,.string ⟨nm.toArray⟩,.int .i64 frm,.int .i64 gd,.slice o1' on o3',.int .i64 ix,.int .i64 ct,.string ⟨dt.toArray⟩,.int .u64 sa,.int .u64 sb,.int .u64 sc,.int .u64 sd,.slice b1' bn b3',.int .i64 at_,.int .i64 nx,.int .u64 ua,.int .u64 ub,.int .u64 uc,.int .u64 ud,.bool done] 103)
 have k2:=Blk.new (w.alloc (.cells #[.string ⟨into.toArray⟩,.int .i64 kind,.string ⟨nm.toArray⟩,.int .i64 frm,.int .i64 gd,.slice o1 on o3,.int .i64 ix,.int .i64 ct,.string ⟨dt.toArray⟩,.int .u64 sa,.int .u64 sb,.int .u64 sc,.int .u64 sd,.slice b1 bn b3,.int .i64 at_,.int .i64 nx,.int .u64 ua,.int .u64 ub,.int .u64 uc,.int .u64 ud,.bool done] 103)) 103 #[.string ⟨into.toArray⟩,.int .i64 kind,.string ⟨nm.toArray⟩,.int .i64 frm,.int .i64 gd,.slice o1' on o3',.int .i64 ix,.int .i64 ct,.string ⟨dt.toArray⟩,.int .u64 sa,.int .u64 sb,.int .u64 sc,.int .u64 sd,.slice b1' bn b3',.int .i64 at_,.int .i64 nx,.int .u64 ua,.int .u64 ub,.int .u64 uc,.int .u64 ud,.bool done]
 rw [show (w.alloc (.cells #[.string ⟨into.toArray⟩,.int .i64 kind,.string ⟨nm.toArray⟩,.int .i64 frm,.int .i64 gd,.slice o1 on o3,.int .i64 ix,.int .i64 ct,.string ⟨dt.toArray⟩,.int .u64 sa,.int .u64 sb,.int .u64 sc,.int .u64 sd,.slice b1 bn b3,.int .i64 at_,.int .i64 nx,.int .u64 ua,.int .u64 ub,.int .u64 uc,.int .u64 ud,.bool done] 103)).heap.size=w.heap.size+1 by simp] at k2
 obtain ⟨W2,hW2⟩:∃ W,W=(w.alloc (.cells #[.string ⟨into.toArray⟩,.int .i64 kind,.string ⟨nm.toArray⟩,.int .i64 frm,.int .i64 gd,.slice o1 on o3,.int .i64 ix,.int .i64 ct,.string ⟨dt.toArray⟩,.int .u64 sa,.int .u64 sb,.int .u64 sc,.int .u64 sd,.slice b1 bn b3,.int .i64 at_,.int .i64 nx,.int .u64 ua,.int .u64 ub,.int .u64 uc,.int .u64 ud,.bool done] 103)).alloc (.cells #[.string ⟨into.toArray⟩,.int .i64 kind,.string ⟨nm.toArray⟩,.int .i64 frm,.int .i64 gd,.slice o1' on o3',.int .i64 ix,.int .i64 ct,.string ⟨dt.toArray⟩,.int .u64 sa,.int .u64 sb,.int .u64 sc,.int .u64 sd,.slice b1' bn b3',.int .i64 at_,.int .i64 nx,.int .u64 ua,.int .u64 ub,.int .u64 uc,.int .u64 ud,.bool done] 103):=⟨_,rfl⟩
 have hsz:W2.heap.size=w.heap.size+2:=by rw [hW2];simp
 rw [← hW2] at hb2 k1 k2
 have hS:=Lib.hid (fun (W':World) (hB':Below W2.heap.size W2 W')=>(⟨(k1.below hB' (by omega)).cell 0,(k1.below hB' (by omega)).cell 1,(k1.below hB' (by omega)).cell 2,(k1.below hB' (by omega)).cell 3,(k1.below hB' (by omega)).cell 4,(k1.below hB' (by omega)).cell 5,(k1.below hB' (by omega)).cell 6,(k1.below hB' (by omega)).cell 7,(k1.below hB' (by omega)).cell 8,(k1.below hB' (by omega)).cell 9,(k1.below hB' (by omega)).cell 10,(k1.below hB' (by omega)).cell 11,(k1.below hB' (by omega)).cell 12,(k1.below hB' (by omega)).cell 13,(k1.below hB' (by omega)).cell 14,(k1.below hB' (by omega)).cell 15,(k1.below hB' (by omega)).cell 16,(k1.below hB' (by omega)).cell 17,(k1.below hB' (by omega)).cell 18,(k1.below hB' (by omega)).cell 19,(k1.below hB' (by omega)).cell 20,(k2.below hB' (by omega)).cell 0,(k2.below hB' (by omega)).cell 1,(k2.below hB' (by omega)).cell 2,(k2.below hB' (by omega)).cell 3,(k2.below hB' (by omega)).cell 4,(k2.below hB' (by omega)).cell 5,(k2.below hB' (by omega)).cell 6,(k2.below hB' (by omega)).cell 7,(k2.below hB' (by omega)).cell 8,(k2.below hB' (by omega)).cell 9,(k2.below hB' (by omega)).cell 10,(k2.below hB' (by omega)).cell 11,(k2.below hB' (by omega)).cell 12,(k2.below hB' (by omega)).cell 13,(k2.below hB' (by omega)).cell 14,(k2.below hB' (by omega)).cell 15,(k2.below hB' (by omega)).cell 16,(k2.below hB' (by omega)).cell 17,(k2.below hB' (by omega)).cell 18,(k2.below hB' (by omega)).cell 19,(k2.below hB' (by omega)).cell 20⟩:W'.cell? ⟨w.heap.size,0,none⟩=some (.string ⟨into.toArray⟩)∧W'.cell? ⟨w.heap.size,1,none⟩=some (.int .i64 kind)∧W'.cell? ⟨w.heap.size,2,none⟩=some (.string ⟨nm.toArray⟩)∧W'.cell? ⟨w.heap.size,3,none⟩=some (.int .i64 frm)∧W'.cell? ⟨w.heap.size,4,none⟩=some (.int .i64 gd)∧W'.cell? ⟨w.heap.size,5,none⟩=some (.slice o1 on o3)∧W'.cell? ⟨w.heap.size,6,none⟩=some (.int .i64 ix)∧W'.cell? ⟨w.heap.size,7,none⟩=some (.int .i64 ct)∧W'.cell? ⟨w.heap.size,8,none⟩=some (.string ⟨dt.toArray⟩)∧W'.cell? ⟨w.heap.size,9,none⟩=some (.int .u64 sa)∧W'.cell? ⟨w.heap.size,10,none⟩=some (.int .u64 sb)∧W'.cell? ⟨w.heap.size,11,none⟩=some (.int .u64 sc)∧W'.cell? ⟨w.heap.size,12,none⟩=some (.int .u64 sd)∧W'.cell? ⟨w.heap.size,13,none⟩=some (.slice b1 bn b3)∧W'.cell? ⟨w.heap.size,14,none⟩=some (.int .i64 at_)∧W'.cell? ⟨w.heap.size,15,none⟩=some (.int .i64 nx)∧W'.cell? ⟨w.heap.size,16,none⟩=some (.int .u64 ua)∧W'.cell? ⟨w.heap.size,17,none⟩=some (.int .u64 ub)∧W'.cell? ⟨w.heap.size,18,none⟩=some (.int .u64 uc)∧W'.cell? ⟨w.heap.size,19,none⟩=some (.int .u64 ud)∧W'.cell? ⟨w.heap.size,20,none⟩=some (.bool done)∧W'.cell? ⟨w.heap.size+1,0,none⟩=some (.string ⟨into.toArray⟩)∧W'.cell? ⟨w.heap.size+1,1,none⟩=some (.int .i64 kind)∧W'.cell? ⟨w.heap.size+1,2,none⟩=some (.string ⟨nm.toArray⟩)∧W'.cell? ⟨w.heap.size+1,3,none⟩=some (.int .i64 frm)∧W'.cell? ⟨w.heap.size+1,4,none⟩=some (.int .i64 gd)∧W'.cell? ⟨w.heap.size+1,5,none⟩=some (.slice o1' on o3')∧W'.cell? ⟨w.heap.size+1,6,none⟩=some (.int .i64 ix)∧W'.cell? ⟨w.heap.size+1,7,none⟩=some (.int .i64 ct)∧W'.cell? ⟨w.heap.size+1,8,none⟩=some (.string ⟨dt.toArray⟩)∧W'.cell? ⟨w.heap.size+1,9,none⟩=some (.int .u64 sa)∧W'.cell? ⟨w.heap.size+1,10,none⟩=some (.int .u64 sb)∧W'.cell? ⟨w.heap.size+1,11,none⟩=some (.int .u64 sc)∧W'.cell? ⟨w.heap.size+1,12,none⟩=some (.int .u64 sd)∧W'.cell? ⟨w.heap.size+1,13,none⟩=some (.slice b1' bn b3')∧W'.cell? ⟨w.heap.size+1,14,none⟩=some (.int .i64 at_)∧W'.cell? ⟨w.heap.size+1,15,none⟩=some (.int .i64 nx)∧W'.cell? ⟨w.heap.size+1,16,none⟩=some (.int .u64 ua)∧W'.cell? ⟨w.heap.size+1,17,none⟩=some (.int .u64 ub)∧W'.cell? ⟨w.heap.size+1,18,none⟩=some (.int .u64 uc)∧W'.cell? ⟨w.heap.size+1,19,none⟩=some (.int .u64 ud)∧W'.cell? ⟨w.heap.size+1,20,none⟩=some (.bool done)))
 have HSZ:=Lib.hid hsz
 have HB2:=Lib.hid hb2
 have hmv:∀ W',Below W2.heap.size W2 W'→Below B w W':=fun W' hB'=>(hb2.trans (hB'.mono (by omega))).mono hB
 have hBd:Hid (∀ W,Below W2.heap.size W2 W→Calls Tryz.prog 13 #[.slice b1 bn b3,.slice b1' bn b3'] W fun e W'=>e=.returned (.bool true)∧Below W.heap.size W W'):=fun W h=>rsameT_any bl bn hbn b1 b1' b3 b3' W B (hb.below (hmv W h)) (hb'.below (hmv W h)) hbm
 have hRc:Hid (∀ W,Below W2.heap.size W2 W→Calls Tryz.prog 139 #[.agg #[.int .i64 kind,.string ⟨nm.toArray⟩,.int .i64 frm,.int .i64 gd,.slice o1 on o3,.int .i64 ix,.int .i64 ct,.string ⟨dt.toArray⟩,.int .u64 sa,.int .u64 sb,.int .u64 sc,.int .u64 sd],.agg #[.int .i64 kind,.string ⟨nm.toArray⟩,.int .i64 frm,.int .i64 gd,.slice o1' on o3',.int .i64 ix,.int .i64 ct,.string ⟨dt.toArray⟩,.int .u64 sa,.int .u64 sb,.int .u64 sc,.int .u64 sd]] W fun e W'=>e=.returned (.bool true)∧Below W.heap.size W W'):=fun W h=>sameRecT_any kind nm frm gd ol o1 o1' on o3 o3' ix ct dt sa sb sc sd W B (by have:=h.size;omega) hon (ho.below (hmv W h)) (ho'.below (hmv W h)) hom
 clear hb1 hb2 k1 k2 hsz hmv ho ho' hon hb hb' hbn
 have hW0:=Below.refl W2.heap.size W2
 obtain ⟨p0,p1,p2,p3,p4,p5,p6,p7,p8,p9,p10,p11,p12,p13,p14,p15,p16,p17,p18,p19,p20,q0,q1,q2,q3,q4,q5,q6,q7,q8,q9,q10,q11,q12,q13,q14,q15,q16,q17,q18,q19,q20⟩:=hS.out _ hW0
 go_enter Tryz.func75,Tryz.ntmps75
 go_wp2_with fail
 rw [← hW2]
 clear hW2 p0 p1 p2 p3 p4 p5 p6 p7 p8 p9 p10 p11 p12 p13 p14 p15 p16 p17 p18 p19 p20 q0 q1 q2 q3 q4 q5 q6 q7 q8 q9 q10 q11 q12 q13 q14 q15 q16 q17 q18 q19 q20
 refine (hRc.out _ hW0).mono ?_
 rintro e w3 ⟨rfl,hb3⟩
 have hW3:=hW0.trans (hb3.mono hW0.size)
 clear hb3 hRc
 obtain ⟨p0,p1,p2,p3,p4,p5,p6,p7,p8,p9,p10,p11,p12,p13,p14,p15,p16,p17,p18,p19,p20,q0,q1,q2,q3,q4,q5,q6,q7,q8,q9,q10,q11,q12,q13,q14,q15,q16,q17,q18,q19,q20⟩:=hS.out _ hW3
 go_wp2_with fail
 refine (hBd.out _ hW3).mono ?_
 rintro e w4 ⟨rfl,hb4⟩
 have hW4:=hW3.trans (hb4.mono hW3.size)
 clear hb4 hBd p0 p1 p2 p3 p4 p5 p6 p7 p8 p9 p10 p11 p12 p13 p14 p15 p16 p17 p18 p19 p20 q0 q1 q2 q3 q4 q5 q6 q7 q8 q9 q10 q11 q12 q13 q14 q15 q16 q17 q18 q19 q20
 obtain ⟨p0,p1,p2,p3,p4,p5,p6,p7,p8,p9,p10,p11,p12,p13,p14,p15,p16,p17,p18,p19,p20,q0,q1,q2,q3,q4,q5,q6,q7,q8,q9,q10,q11,q12,q13,q14,q15,q16,q17,q18,q19,q20⟩:=hS.out _ hW4
 go_wp2_with fail
 clear p0 p1 p2 p3 p4 p5 p6 p7 p8 p9 p10 p11 p12 p13 p14 p15 p16 p17 p18 p19 p20 q0 q1 q2 q3 q4 q5 q6 q7 q8 q9 q10 q11 q12 q13 q14 q15 q16 q17 q18 q19 q20
 go_ret
 exact ⟨rfl,HB2.out.trans (hW4.mono (by have:=HSZ.out;omega))⟩
end Go.Proofs.YtcgclpcocdappaaGreatDoor
