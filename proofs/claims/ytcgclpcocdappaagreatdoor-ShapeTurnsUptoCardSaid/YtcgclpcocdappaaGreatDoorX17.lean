/-
  The page's SameGrants, SameLog, SameRecord, SameStage at equal contents: they answer true. tree.odd; slices.IndexFunc and ContainsFunc at entries: by their contracts.
-/
import Derived.Test.YtcgclpcocdappaaGreatDoorXM1
import Derived.Test.YtcgclpcocdappaaGreatDoorX0
import Derived.Test.YtcgclpcocdappaaGreatDoorX16
import Derived.Test.YtcgclpcocdappaaGreatDoorX10
import Derived.Test.YtcgclpcocdappaaGreatDoorX14
namespace Go.Proofs.YtcgclpcocdappaaGreatDoor
open Go.RowKit
set_option maxRecDepth 100000 in
set_option maxHeartbeats 1000000 in
theorem sameG_any (a b:GL) (n m:Nat) (hna:n=a.length) (hmb:m=b.length) (A1 A2:Option Addr) (c1 c2:Nat) (w:World) (B1 B2:Nat) (hr1:Reads w B1 3 A1 n (gcells a)) (hr2:Reads w B2 3 A2 m (gcells b)) (hn:n≤5000000000000) (hm:m≤5000000000000) :
  Calls Tryz.prog 72 #[.slice A1 n c1,.slice A2 m c2] w fun e w'=>e=.returned (.bool (decide (a=b)))∧∃ q,w'=w.drewN q:=by
 have HN:=Lib.hid hna
 have HM:=Lib.hid hmb
 clear hna hmb
 by_cases hnm:n=m
 ·subst hnm
  go_enter Tryz.func72,Tryz.ntmps72
  go_wp2_with fail
  go_loopw [5] (fun i wr=>∃ k:Nat,k≤n∧i=.int .i64 (k:Int)∧Hid (a.take k=b.take k)∧∃ q,wr=w.drewN q) (fun i _=>n-(intOf i).toNat)
  case atStart=>exact ⟨0,Nat.zero_le _,rfl,(show a.take 0=b.take 0 by simp),0,rfl⟩
  case round =>
   obtain ⟨k,hk,rfl,hok,q,rfl⟩:=hrel
   by_cases hlt:k<n
   ·have hki:(k:Int)<(n:Int):=tZ1
    have hka:k<a.length:=tZ7
    have hkb:k<b.length:=tZ140
    obtain ⟨ad1,rfl,_,hc1,hc1',hc1''⟩:=hr1.el3 HN.out hlt
    obtain ⟨ad2,rfl,_,hc2,hc2',hc2''⟩:=hr2.el3 HM.out hlt
    obtain ⟨x,hx⟩:∃ x,x=a[k]'hka:=⟨_,rfl⟩
    obtain ⟨y,hy⟩:∃ y,y=b[k]'hkb:=⟨_,rfl⟩
    rw [← hx] at hc1 hc1' hc1''
    rw [← hy] at hc2 hc2' hc2''
    have t1:=List.take_succ_eq_append_getElem hka
    have t2:=List.take_succ_eq_append_getElem hkb
    rw [← hx] at t1
    rw [← hy] at t2
    have T1:=Lib.hid t1
    have T2:=Lib.hid t2
    have X1:=Lib.hid hx
    have X2:=Lib.hid hy
    obtain ⟨xu,xp,xz⟩:=x
    obtain ⟨yu,yp,yz⟩:=y
    simp only at hc1 hc1' hc1'' hc2 hc2' hc2''
    clear hx hy t1 t2 hr1 hr2
    have HD:Hid (¬ (xu=yu∧xp=yp∧xz=yz)→decide (a=b)=false):=by
     show _→_
     intro hxy
     refine decide_eq_false (fun e=>hxy ?_)
     have:(xu,xp,xz)=(yu,yp,yz):=tZ161
     injection this with e1 e2
     injection e2 with e2 e3
     exact ⟨e1,e2,e3⟩
    by_cases e1:xu=yu
    ·subst e1
     by_cases e2:xp=yp
     ·subst e2
      by_cases e3:xz=yz
      ·subst e3
       exact mZ106
      ·replace HD:=Lib.hid (HD.out (fun h=>e3 h.2.2))
       exact mZ105
     ·replace HD:=Lib.hid (HD.out (fun h=>e2 h.2.1))
      exact mZ105
    ·replace HD:=Lib.hid (HD.out (fun h=>e1 h.1))
     exact mZ105
   ·have HD:Hid (decide (a=b)=true):=by
     show _=_
     refine decide_eq_true ?_
     have:=hok.out
     rwa [List.take_of_length_le tZ7,List.take_of_length_le tZ140] at this
    clear hr1 hr2
    go_wp2_with fail
    go_ret
    exact ⟨by rw [HD.out];rfl,q,rfl⟩
 ·have hd:((n:Int) != (m:Int))=true:=tZ6
  have HD:Hid (decide (a=b)=false):=by
   show _=_
   refine decide_eq_false (fun e=>hnm ?_)
   rw [HN.out,HM.out,e]
  clear hnm hr1 hr2
  go_enter Tryz.func72,Tryz.ntmps72
  go_wp2_with fail
  go_ret
  exact ⟨by rw [HD.out];rfl,0,rfl⟩
theorem sameGT_any (l:GL) (n:Nat) (hn:n=l.length) (A A':Option Addr) (c c':Nat) (w:World) (B:Nat) (hr:Reads w B 3 A n (gcells l)) (hr':Reads w B 3 A' n (gcells l)) (hm:n≤1000000000000) :
  Calls Tryz.prog 72 #[.slice A n c,.slice A' n c'] w fun e w'=>e=.returned (.bool true)∧Below w.heap.size w w':=by
 refine (sameG_any l l n n hn hn A A' c c' w B B hr hr' tZ1 tZ1).mono ?_
 exact mZ164
set_option maxRecDepth 100000 in
set_option maxHeartbeats 1000000 in
theorem sameLogT_any (l:List EntryR) (n:Nat) (hnl:n=l.length) (A A':Option Addr) (c c':Nat) (w:World) (B:Nat) (hr:Reads w B 4 A n (cellsK encEntry l)) (hr':Reads w B 4 A' n (cellsK encEntry l)) (hn:n≤1000000000000) :
  Calls Tryz.prog 73 #[.slice A n c,.slice A' n c'] w fun e w'=>e=.returned (.bool true)∧Below w.heap.size w w':=by
 have HN:=Lib.hid hnl
 clear hnl
 go_enter Tryz.func73,Tryz.ntmps73
 go_wp2_with fail
 go_loopw [5] (fun j wr=>∃ k:Nat,k≤n∧j=.int .i64 (k:Int)∧∃ q,wr=w.drewN q) (fun j _=>n-(intOf j).toNat)
 case atStart=>exact ⟨0,Nat.zero_le _,rfl,0,rfl⟩
 case round =>
  obtain ⟨k,hk,rfl,q,rfl⟩:=hrel
  by_cases hlt:k<n
  ·have hki:(k:Int)<(n:Int):=tZ1
   obtain ⟨ad,rfl,-,c0,c1,c2,c3⟩:=Reads.el4 (f0:=fun x:EntryR=>.string ⟨x.user.toArray⟩) (f1:=fun x=>.int .i64 x.kind) (f2:=fun x=>.string ⟨x.path.toArray⟩) (f3:=fun x=>.int .i64 x.err) hr HN.out hlt
   obtain ⟨ad2,rfl,-,d0,d1,d2,d3⟩:=Reads.el4 (f0:=fun x:EntryR=>.string ⟨x.user.toArray⟩) (f1:=fun x=>.int .i64 x.kind) (f2:=fun x=>.string ⟨x.path.toArray⟩) (f3:=fun x=>.int .i64 x.err) hr' HN.out hlt
   obtain ⟨x,hx⟩:∃ x,x=l[k]'tZ7:=⟨_,rfl⟩
   rw [← hx] at c0 c1 c2 c3 d0 d1 d2 d3
   obtain ⟨xu,xk,xp,xe⟩:=x
   simp only at c0 c1 c2 c3 d0 d1 d2 d3
   clear hx hr hr'
   go_wp2_with fail
   go_region
   go_wp2_with fail
   go_roundw
   case rel=>exact ⟨k+1,by omega,by go_num,q+1,rfl⟩
   case measure=>simp [intOf];omega
  ·clear hr hr'
   go_wp2_with fail
   go_ret
   exact ⟨rfl,below_drewN (Below.refl _ _) q⟩
set_option maxRecDepth 100000 in
set_option maxHeartbeats 4000000 in
theorem sameRecT_any (kind:Int) (nm:BS) (frm gd:Int) (ol:List (BS×BS)) (o1 o1':Option Addr) (on o3 o3':Nat) (ix ct:Int) (dt:BS) (sa sb sc sd:Int) (w:World) (B:Nat) (hB:B≤w.heap.size) (hon:on=ol.length) (ho:Reads w B 2 o1 on (pcells ol)) (ho':Reads w B 2 o1' on (pcells ol)) (hom:on≤1000000000000) :
  Calls Tryz.prog 139 #[.agg #[.int .i64 kind,.string ⟨nm.toArray⟩,.int .i64 frm,.int .i64 gd,.slice o1 on o3,.int .i64 ix,.int .i64 ct,.string ⟨dt.toArray⟩,.int .u64 sa,.int .u64 sb,.int .u64 sc,.int .u64 sd],.agg #[.int .i64 kind,.string ⟨nm.toArray⟩,.int .i64 frm,.int .i64 gd,.slice o1' on o3',.int .i64 ix,.int .i64 ct,.string ⟨dt.toArray⟩,.int .u64 sa,.int .u64 sb,.int .u64 sc,.int .u64 sd]] w fun e w'=>e=.returned (.bool true)∧Below w.heap.size w w':=by
 have hb1:=(Below.refl w.heap.size w).alloc (Nat.le_refl _) (.cells #[.int .i64 kind,.string ⟨nm.toArray⟩,.int .i64 frm,.int .i64 gd,.slice o1 on o3,.int .i64 ix,.int .i64 ct,.string ⟨dt.toArray⟩,.int .u64 sa,.int .u64 sb,.int .u64 sc,.int .u64 sd] 101)
 have hb2:=hb1.alloc hb1.size (.cells #[.int .i64 kind,.string ⟨nm.toArray⟩,.int .i64 frm,.int .i64 gd,.slice o1' on o3',.int .i64 ix,.int .i64 ct,.string ⟨dt.toArray⟩,.int .u64 sa,.int .u64 sb,.int .u64 sc,.int .u64 sd] 101)
 have k1:=(Blk.new w 101 #[.int .i64 kind,.string ⟨nm.toArray⟩,.int .i64 frm,.int .i64 gd,.slice o1 on o3,.int .i64 ix,.int .i64 ct,.string ⟨dt.toArray⟩,.int .u64 sa,.int .u64 sb,.int .u64 sc,.int .u64 sd]).alloc (.cells #[.int .i64 kind,.string ⟨nm.toArray⟩,.int .i64 frm,.int .i64 gd,.slice o1' on o3',.int .i64 ix,.int .i64 ct,.string ⟨dt.toArray⟩,.int .u64 sa,.int .u64 sb,.int .u64 sc,.int .u64 sd] 101)
 have k2:=Blk.new (w.alloc (.cells #[.int .i64 kind,.string ⟨nm.toArray⟩,.int .i64 frm,.int .i64 gd,.slice o1 on o3,.int .i64 ix,.int .i64 ct,.string ⟨dt.toArray⟩,.int .u64 sa,.int .u64 sb,.int .u64 sc,.int .u64 sd] 101)) 101 #[.int .i64 kind,.string ⟨nm.toArray⟩,.int .i64 frm,.int .i64 gd,.slice o1' on o3',.int .i64 ix,.int .i64 ct,.string ⟨dt.toArray⟩,.int .u64 sa,.int .u64 sb,.int .u64 sc,.int .u64 sd]
 rw [show (w.alloc (.cells #[.int .i64 kind,.string ⟨nm.toArray⟩,.int .i64 frm,.int .i64 gd,.slice o1 on o3,.int .i64 ix,.int .i64 ct,.string ⟨dt.toArray⟩,.int .u64 sa,.int .u64 sb,.int .u64 sc,.int .u64 sd] 101)).heap.size=w.heap.size+1 by simp] at k2
 obtain ⟨W2,hW2⟩:∃ W,W=(w.alloc (.cells #[.int .i64 kind,.string ⟨nm.toArray⟩,.int .i64 frm,.int .i64 gd,.slice o1 on o3,.int .i64 ix,.int .i64 ct,.string ⟨dt.toArray⟩,.int .u64 sa,.int .u64 sb,.int .u64 sc,.int .u64 sd] 101)).alloc (.cells #[.int .i64 kind,.string ⟨nm.toArray⟩,.int .i64 frm,.int .i64 gd,.slice o1' on o3',.int .i64 ix,.int .i64 ct,.string ⟨dt.toArray⟩,.int .u64 sa,.int .u64 sb,.int .u64 sc,.int .u64 sd] 101):=⟨_,rfl⟩
 have hsz:W2.heap.size=w.heap.size+2:=tZ53
 rw [← hW2] at hb2 k1 k2
 have hS:=Lib.hid (fun (W':World) (hB':Below W2.heap.size W2 W')=>(⟨(k1.below hB' tZ1).cell 0,(k1.below hB' tZ1).cell 1,(k1.below hB' tZ1).cell 2,(k1.below hB' tZ1).cell 3,(k1.below hB' tZ1).cell 4,(k1.below hB' tZ1).cell 5,(k1.below hB' tZ1).cell 6,(k1.below hB' tZ1).cell 7,(k1.below hB' tZ1).cell 8,(k1.below hB' tZ1).cell 9,(k1.below hB' tZ1).cell 10,(k1.below hB' tZ1).cell 11,(k2.below hB' tZ1).cell 0,(k2.below hB' tZ1).cell 1,(k2.below hB' tZ1).cell 2,(k2.below hB' tZ1).cell 3,(k2.below hB' tZ1).cell 4,(k2.below hB' tZ1).cell 5,(k2.below hB' tZ1).cell 6,(k2.below hB' tZ1).cell 7,(k2.below hB' tZ1).cell 8,(k2.below hB' tZ1).cell 9,(k2.below hB' tZ1).cell 10,(k2.below hB' tZ1).cell 11⟩:W'.cell? ⟨w.heap.size,0,none⟩=some (.int .i64 kind)∧W'.cell? ⟨w.heap.size,1,none⟩=some (.string ⟨nm.toArray⟩)∧W'.cell? ⟨w.heap.size,2,none⟩=some (.int .i64 frm)∧W'.cell? ⟨w.heap.size,3,none⟩=some (.int .i64 gd)∧W'.cell? ⟨w.heap.size,4,none⟩=some (.slice o1 on o3)∧W'.cell? ⟨w.heap.size,5,none⟩=some (.int .i64 ix)∧W'.cell? ⟨w.heap.size,6,none⟩=some (.int .i64 ct)∧W'.cell? ⟨w.heap.size,7,none⟩=some (.string ⟨dt.toArray⟩)∧W'.cell? ⟨w.heap.size,8,none⟩=some (.int .u64 sa)∧W'.cell? ⟨w.heap.size,9,none⟩=some (.int .u64 sb)∧W'.cell? ⟨w.heap.size,10,none⟩=some (.int .u64 sc)∧W'.cell? ⟨w.heap.size,11,none⟩=some (.int .u64 sd)∧W'.cell? ⟨w.heap.size+1,0,none⟩=some (.int .i64 kind)∧W'.cell? ⟨w.heap.size+1,1,none⟩=some (.string ⟨nm.toArray⟩)∧W'.cell? ⟨w.heap.size+1,2,none⟩=some (.int .i64 frm)∧W'.cell? ⟨w.heap.size+1,3,none⟩=some (.int .i64 gd)∧W'.cell? ⟨w.heap.size+1,4,none⟩=some (.slice o1' on o3')∧W'.cell? ⟨w.heap.size+1,5,none⟩=some (.int .i64 ix)∧W'.cell? ⟨w.heap.size+1,6,none⟩=some (.int .i64 ct)∧W'.cell? ⟨w.heap.size+1,7,none⟩=some (.string ⟨dt.toArray⟩)∧W'.cell? ⟨w.heap.size+1,8,none⟩=some (.int .u64 sa)∧W'.cell? ⟨w.heap.size+1,9,none⟩=some (.int .u64 sb)∧W'.cell? ⟨w.heap.size+1,10,none⟩=some (.int .u64 sc)∧W'.cell? ⟨w.heap.size+1,11,none⟩=some (.int .u64 sd)))
 have HSZ:=Lib.hid hsz
 have HB2:=Lib.hid hb2
 have hmv:∀ W',Below W2.heap.size W2 W'→Below B w W':=fun W' hB'=>(hb2.trans (hB'.mono tZ1)).mono hB
 have hPr:Hid (∀ W,Below W2.heap.size W2 W→Calls Tryz.prog 14 #[.slice o1 on o3,.slice o1' on o3'] W fun e W'=>e=.returned (.bool true)∧Below W.heap.size W W'):=fun W h=>samePropsT_any ol on hon o1 o1' o3 o3' W B (ho.below (hmv W h)) (ho'.below (hmv W h)) hom
 clear hb1 hb2 k1 k2 hsz hmv ho ho' hon
 have hW0:=Below.refl W2.heap.size W2
 go_enter Tryz.func139,Tryz.ntmps139
 go_wp2_with fail
 rw [← hW2]
 clear hW2
 refine (hPr.out _ hW0).mono ?_
 rintro e w3 ⟨rfl,hb3⟩
 go_wp2_with fail
 go_ret
 exact ⟨rfl,HB2.out.trans (hb3.mono tZ8)⟩
set_option maxRecDepth 100000 in
set_option maxHeartbeats 4000000 in
theorem sameStageT_any (into:BS) (kind:Int) (nm:BS) (frm gd:Int) (ol:List (BS×BS)) (o1 o1':Option Addr) (on o3 o3':Nat) (ix ct:Int) (dt:BS) (sa sb sc sd:Int) (bl:List BlkT) (b1 b1':Option Addr) (bn b3 b3':Nat) (at_ nx ua ub uc ud:Int) (done:Bool) (w:World) (B:Nat) (hB:B≤w.heap.size) (hon:on=ol.length) (ho:Reads w B 2 o1 on (pcells ol)) (ho':Reads w B 2 o1' on (pcells ol)) (hom:on≤1000000000000)
  (hbn:bn=bl.length) (hb:Reads w B 2 b1 bn (bcells bl)) (hb':Reads w B 2 b1' bn (bcells bl)) (hbm:bn≤1000000000000) :
  Calls Tryz.prog 75 #[.agg #[.string ⟨into.toArray⟩,.int .i64 kind,.string ⟨nm.toArray⟩,.int .i64 frm,.int .i64 gd,.slice o1 on o3,.int .i64 ix,.int .i64 ct,.string ⟨dt.toArray⟩,.int .u64 sa,.int .u64 sb,.int .u64 sc,.int .u64 sd,.slice b1 bn b3,.int .i64 at_,.int .i64 nx,.int .u64 ua,.int .u64 ub,.int .u64 uc,.int .u64 ud,.bool done],.agg #[.string ⟨into.toArray⟩,.int .i64 kind,.string ⟨nm.toArray⟩,.int .i64 frm,.int .i64 gd,.slice o1' on o3',.int .i64 ix,.int .i64 ct,.string ⟨dt.toArray⟩,.int .u64 sa,.int .u64 sb,.int .u64 sc,.int .u64 sd,.slice b1' bn b3',.int .i64 at_,.int .i64 nx,.int .u64 ua,.int .u64 ub,.int .u64 uc,.int .u64 ud,.bool done]] w fun e w'=>e=.returned (.bool true)∧Below w.heap.size w w':=by
 have hb1:=(Below.refl w.heap.size w).alloc (Nat.le_refl _) (.cells #[.string ⟨into.toArray⟩,.int .i64 kind,.string ⟨nm.toArray⟩,.int .i64 frm,.int .i64 gd,.slice o1 on o3,.int .i64 ix,.int .i64 ct,.string ⟨dt.toArray⟩,.int .u64 sa,.int .u64 sb,.int .u64 sc,.int .u64 sd,.slice b1 bn b3,.int .i64 at_,.int .i64 nx,.int .u64 ua,.int .u64 ub,.int .u64 uc,.int .u64 ud,.bool done] 103)
 have hb2:=hb1.alloc hb1.size (.cells #[.string ⟨into.toArray⟩,.int .i64 kind,.string ⟨nm.toArray⟩,.int .i64 frm,.int .i64 gd,.slice o1' on o3',.int .i64 ix,.int .i64 ct,.string ⟨dt.toArray⟩,.int .u64 sa,.int .u64 sb,.int .u64 sc,.int .u64 sd,.slice b1' bn b3',.int .i64 at_,.int .i64 nx,.int .u64 ua,.int .u64 ub,.int .u64 uc,.int .u64 ud,.bool done] 103)
 have k1:=(Blk.new w 103 #[.string ⟨into.toArray⟩,.int .i64 kind,.string ⟨nm.toArray⟩,.int .i64 frm,.int .i64 gd,.slice o1 on o3,.int .i64 ix,.int .i64 ct,.string ⟨dt.toArray⟩,.int .u64 sa,.int .u64 sb,.int .u64 sc,.int .u64 sd,.slice b1 bn b3,.int .i64 at_,.int .i64 nx,.int .u64 ua,.int .u64 ub,.int .u64 uc,.int .u64 ud,.bool done]).alloc (.cells #[.string ⟨into.toArray⟩,.int .i64 kind,.string ⟨nm.toArray⟩,.int .i64 frm,.int .i64 gd,.slice o1' on o3',.int .i64 ix,.int .i64 ct,.string ⟨dt.toArray⟩,.int .u64 sa,.int .u64 sb,.int .u64 sc,.int .u64 sd,.slice b1' bn b3',.int .i64 at_,.int .i64 nx,.int .u64 ua,.int .u64 ub,.int .u64 uc,.int .u64 ud,.bool done] 103)
 have k2:=Blk.new (w.alloc (.cells #[.string ⟨into.toArray⟩,.int .i64 kind,.string ⟨nm.toArray⟩,.int .i64 frm,.int .i64 gd,.slice o1 on o3,.int .i64 ix,.int .i64 ct,.string ⟨dt.toArray⟩,.int .u64 sa,.int .u64 sb,.int .u64 sc,.int .u64 sd,.slice b1 bn b3,.int .i64 at_,.int .i64 nx,.int .u64 ua,.int .u64 ub,.int .u64 uc,.int .u64 ud,.bool done] 103)) 103 #[.string ⟨into.toArray⟩,.int .i64 kind,.string ⟨nm.toArray⟩,.int .i64 frm,.int .i64 gd,.slice o1' on o3',.int .i64 ix,.int .i64 ct,.string ⟨dt.toArray⟩,.int .u64 sa,.int .u64 sb,.int .u64 sc,.int .u64 sd,.slice b1' bn b3',.int .i64 at_,.int .i64 nx,.int .u64 ua,.int .u64 ub,.int .u64 uc,.int .u64 ud,.bool done]
 rw [show (w.alloc (.cells #[.string ⟨into.toArray⟩,.int .i64 kind,.string ⟨nm.toArray⟩,.int .i64 frm,.int .i64 gd,.slice o1 on o3,.int .i64 ix,.int .i64 ct,.string ⟨dt.toArray⟩,.int .u64 sa,.int .u64 sb,.int .u64 sc,.int .u64 sd,.slice b1 bn b3,.int .i64 at_,.int .i64 nx,.int .u64 ua,.int .u64 ub,.int .u64 uc,.int .u64 ud,.bool done] 103)).heap.size=w.heap.size+1 by simp] at k2
 obtain ⟨W2,hW2⟩:∃ W,W=(w.alloc (.cells #[.string ⟨into.toArray⟩,.int .i64 kind,.string ⟨nm.toArray⟩,.int .i64 frm,.int .i64 gd,.slice o1 on o3,.int .i64 ix,.int .i64 ct,.string ⟨dt.toArray⟩,.int .u64 sa,.int .u64 sb,.int .u64 sc,.int .u64 sd,.slice b1 bn b3,.int .i64 at_,.int .i64 nx,.int .u64 ua,.int .u64 ub,.int .u64 uc,.int .u64 ud,.bool done] 103)).alloc (.cells #[.string ⟨into.toArray⟩,.int .i64 kind,.string ⟨nm.toArray⟩,.int .i64 frm,.int .i64 gd,.slice o1' on o3',.int .i64 ix,.int .i64 ct,.string ⟨dt.toArray⟩,.int .u64 sa,.int .u64 sb,.int .u64 sc,.int .u64 sd,.slice b1' bn b3',.int .i64 at_,.int .i64 nx,.int .u64 ua,.int .u64 ub,.int .u64 uc,.int .u64 ud,.bool done] 103):=⟨_,rfl⟩
 have hsz:W2.heap.size=w.heap.size+2:=tZ53
 rw [← hW2] at hb2 k1 k2
 have hS:=Lib.hid (fun (W':World) (hB':Below W2.heap.size W2 W')=>(⟨(k1.below hB' tZ1).cell 0,(k1.below hB' tZ1).cell 1,(k1.below hB' tZ1).cell 2,(k1.below hB' tZ1).cell 3,(k1.below hB' tZ1).cell 4,(k1.below hB' tZ1).cell 5,(k1.below hB' tZ1).cell 6,(k1.below hB' tZ1).cell 7,(k1.below hB' tZ1).cell 8,(k1.below hB' tZ1).cell 9,(k1.below hB' tZ1).cell 10,(k1.below hB' tZ1).cell 11,(k1.below hB' tZ1).cell 12,(k1.below hB' tZ1).cell 13,(k1.below hB' tZ1).cell 14,(k1.below hB' tZ1).cell 15,(k1.below hB' tZ1).cell 16,(k1.below hB' tZ1).cell 17,(k1.below hB' tZ1).cell 18,(k1.below hB' tZ1).cell 19,(k1.below hB' tZ1).cell 20,(k2.below hB' tZ1).cell 0,(k2.below hB' tZ1).cell 1,(k2.below hB' tZ1).cell 2,(k2.below hB' tZ1).cell 3,(k2.below hB' tZ1).cell 4,(k2.below hB' tZ1).cell 5,(k2.below hB' tZ1).cell 6,(k2.below hB' tZ1).cell 7,(k2.below hB' tZ1).cell 8,(k2.below hB' tZ1).cell 9,(k2.below hB' tZ1).cell 10,(k2.below hB' tZ1).cell 11,(k2.below hB' tZ1).cell 12,(k2.below hB' tZ1).cell 13,(k2.below hB' tZ1).cell 14,(k2.below hB' tZ1).cell 15,(k2.below hB' tZ1).cell 16,(k2.below hB' tZ1).cell 17,(k2.below hB' tZ1).cell 18,(k2.below hB' tZ1).cell 19,(k2.below hB' tZ1).cell 20⟩:W'.cell? ⟨w.heap.size,0,none⟩=some (.string ⟨into.toArray⟩)∧W'.cell? ⟨w.heap.size,1,none⟩=some (.int .i64 kind)∧W'.cell? ⟨w.heap.size,2,none⟩=some (.string ⟨nm.toArray⟩)∧W'.cell? ⟨w.heap.size,3,none⟩=some (.int .i64 frm)∧W'.cell? ⟨w.heap.size,4,none⟩=some (.int .i64 gd)∧W'.cell? ⟨w.heap.size,5,none⟩=some (.slice o1 on o3)∧W'.cell? ⟨w.heap.size,6,none⟩=some (.int .i64 ix)∧W'.cell? ⟨w.heap.size,7,none⟩=some (.int .i64 ct)∧W'.cell? ⟨w.heap.size,8,none⟩=some (.string ⟨dt.toArray⟩)∧W'.cell? ⟨w.heap.size,9,none⟩=some (.int .u64 sa)∧W'.cell? ⟨w.heap.size,10,none⟩=some (.int .u64 sb)∧W'.cell? ⟨w.heap.size,11,none⟩=some (.int .u64 sc)∧W'.cell? ⟨w.heap.size,12,none⟩=some (.int .u64 sd)∧W'.cell? ⟨w.heap.size,13,none⟩=some (.slice b1 bn b3)∧W'.cell? ⟨w.heap.size,14,none⟩=some (.int .i64 at_)∧W'.cell? ⟨w.heap.size,15,none⟩=some (.int .i64 nx)∧W'.cell? ⟨w.heap.size,16,none⟩=some (.int .u64 ua)∧W'.cell? ⟨w.heap.size,17,none⟩=some (.int .u64 ub)∧W'.cell? ⟨w.heap.size,18,none⟩=some (.int .u64 uc)∧W'.cell? ⟨w.heap.size,19,none⟩=some (.int .u64 ud)∧W'.cell? ⟨w.heap.size,20,none⟩=some (.bool done)∧W'.cell? ⟨w.heap.size+1,0,none⟩=some (.string ⟨into.toArray⟩)∧W'.cell? ⟨w.heap.size+1,1,none⟩=some (.int .i64 kind)∧W'.cell? ⟨w.heap.size+1,2,none⟩=some (.string ⟨nm.toArray⟩)∧W'.cell? ⟨w.heap.size+1,3,none⟩=some (.int .i64 frm)∧W'.cell? ⟨w.heap.size+1,4,none⟩=some (.int .i64 gd)∧W'.cell? ⟨w.heap.size+1,5,none⟩=some (.slice o1' on o3')∧W'.cell? ⟨w.heap.size+1,6,none⟩=some (.int .i64 ix)∧W'.cell? ⟨w.heap.size+1,7,none⟩=some (.int .i64 ct)∧W'.cell? ⟨w.heap.size+1,8,none⟩=some (.string ⟨dt.toArray⟩)∧W'.cell? ⟨w.heap.size+1,9,none⟩=some (.int .u64 sa)∧W'.cell? ⟨w.heap.size+1,10,none⟩=some (.int .u64 sb)∧W'.cell? ⟨w.heap.size+1,11,none⟩=some (.int .u64 sc)∧W'.cell? ⟨w.heap.size+1,12,none⟩=some (.int .u64 sd)∧W'.cell? ⟨w.heap.size+1,13,none⟩=some (.slice b1' bn b3')∧W'.cell? ⟨w.heap.size+1,14,none⟩=some (.int .i64 at_)∧W'.cell? ⟨w.heap.size+1,15,none⟩=some (.int .i64 nx)∧W'.cell? ⟨w.heap.size+1,16,none⟩=some (.int .u64 ua)∧W'.cell? ⟨w.heap.size+1,17,none⟩=some (.int .u64 ub)∧W'.cell? ⟨w.heap.size+1,18,none⟩=some (.int .u64 uc)∧W'.cell? ⟨w.heap.size+1,19,none⟩=some (.int .u64 ud)∧W'.cell? ⟨w.heap.size+1,20,none⟩=some (.bool done)))
 have HSZ:=Lib.hid hsz
 have HB2:=Lib.hid hb2
 have hmv:∀ W',Below W2.heap.size W2 W'→Below B w W':=fun W' hB'=>(hb2.trans (hB'.mono tZ1)).mono hB
 have hBd:Hid (∀ W,Below W2.heap.size W2 W→Calls Tryz.prog 13 #[.slice b1 bn b3,.slice b1' bn b3'] W fun e W'=>e=.returned (.bool true)∧Below W.heap.size W W'):=fun W h=>rsameT_any bl bn hbn b1 b1' b3 b3' W B (hb.below (hmv W h)) (hb'.below (hmv W h)) hbm
 have hRc:Hid (∀ W,Below W2.heap.size W2 W→Calls Tryz.prog 139 #[.agg #[.int .i64 kind,.string ⟨nm.toArray⟩,.int .i64 frm,.int .i64 gd,.slice o1 on o3,.int .i64 ix,.int .i64 ct,.string ⟨dt.toArray⟩,.int .u64 sa,.int .u64 sb,.int .u64 sc,.int .u64 sd],.agg #[.int .i64 kind,.string ⟨nm.toArray⟩,.int .i64 frm,.int .i64 gd,.slice o1' on o3',.int .i64 ix,.int .i64 ct,.string ⟨dt.toArray⟩,.int .u64 sa,.int .u64 sb,.int .u64 sc,.int .u64 sd]] W fun e W'=>e=.returned (.bool true)∧Below W.heap.size W W'):=fun W h=>sameRecT_any kind nm frm gd ol o1 o1' on o3 o3' ix ct dt sa sb sc sd W B tZ141 hon (ho.below (hmv W h)) (ho'.below (hmv W h)) hom
 clear hb1 hb2 k1 k2 hsz hmv ho ho' hon hb hb' hbn
 have hW0:=Below.refl W2.heap.size W2
 obtain ⟨p0,p1,p2,p3,p4,p5,p6,p7,p8,p9,p10,p11,p12,p13,p14,p15,p16,p17,p18,p19,p20,q0,q1,q2,q3,q4,q5,q6,q7,q8,q9,q10,q11,q12,q13,q14,q15,q16,q17,q18,q19,q20⟩:=hS.out _ hW0
 go_enter Tryz.func75,Tryz.ntmps75
 go_wp2_with fail
 rw [← hW2]
 clear hW2 p0 p1 p2 p3 p4 p5 p6 p7 p8 p9 p10 p11 p12 p13 p14 p15 p16 p17 p18 p19 p20 q0 q1 q2 q3 q4 q5 q6 q7 q8 q9 q10 q11 q12 q13 q14 q15 q16 q17 q18 q19 q20
 refine (hRc.out _ hW0).mono ?_
 rintro e w3 ⟨rfl,hb3⟩
 have hW3:=hW0.trans (hb3.mono hW0.size)
 clear hb3 hRc
 obtain ⟨p0,p1,p2,p3,p4,p5,p6,p7,p8,p9,p10,p11,p12,p13,p14,p15,p16,p17,p18,p19,p20,q0,q1,q2,q3,q4,q5,q6,q7,q8,q9,q10,q11,q12,q13,q14,q15,q16,q17,q18,q19,q20⟩:=hS.out _ hW3
 go_wp2_with fail
 refine (hBd.out _ hW3).mono ?_
 rintro e w4 ⟨rfl,hb4⟩
 have hW4:=hW3.trans (hb4.mono hW3.size)
 clear hb4 hBd p0 p1 p2 p3 p4 p5 p6 p7 p8 p9 p10 p11 p12 p13 p14 p15 p16 p17 p18 p19 p20 q0 q1 q2 q3 q4 q5 q6 q7 q8 q9 q10 q11 q12 q13 q14 q15 q16 q17 q18 q19 q20
 obtain ⟨p0,p1,p2,p3,p4,p5,p6,p7,p8,p9,p10,p11,p12,p13,p14,p15,p16,p17,p18,p19,p20,q0,q1,q2,q3,q4,q5,q6,q7,q8,q9,q10,q11,q12,q13,q14,q15,q16,q17,q18,q19,q20⟩:=hS.out _ hW4
 go_wp2_with fail
 clear p0 p1 p2 p3 p4 p5 p6 p7 p8 p9 p10 p11 p12 p13 p14 p15 p16 p17 p18 p19 p20 q0 q1 q2 q3 q4 q5 q6 q7 q8 q9 q10 q11 q12 q13 q14 q15 q16 q17 q18 q19 q20
 go_ret
 exact ⟨rfl,HB2.out.trans (hW4.mono tZ8)⟩
end Go.Proofs.YtcgclpcocdappaaGreatDoor
namespace Go.Proofs.YtcgclpcocdappaaGreatDoor
open Go.RowKit
def entryP (us:BS) (kd:Int) (pa:BS) (er:Int):Bool:=(us == [] || nameB us) && pathB pa && amt kd 0 && amt er 0
theorem entryB_P (x:EntryR):entryB x=entryP x.user x.kind x.path x.err:=rfl
set_option maxRecDepth 100000 in
set_option maxHeartbeats 2000000 in
theorem odd14_any (us:BS) (kd:Int) (pa:BS) (er:Int) (w:World) (hpa:pa.length≤4000000000) (hmx:HasMax w) :
  Calls Tryz.prog 129 #[.agg #[.string ⟨us.toArray⟩,.int .i64 kd,.string ⟨pa.toArray⟩,.int .i64 er]] w fun e w'=>e=.returned (.bool (!(entryP us kd pa er)))∧Below w.heap.size w w':=by
 have hb1:=(Below.refl w.heap.size w).alloc (Nat.le_refl _) (.cells #[.string ⟨us.toArray⟩,.int .i64 kd,.string ⟨pa.toArray⟩,.int .i64 er] 106)
 have kT:=Blk.new w 106 #[.string ⟨us.toArray⟩,.int .i64 kd,.string ⟨pa.toArray⟩,.int .i64 er]
 obtain ⟨W1,hW1⟩:∃ W,W=w.alloc (.cells #[.string ⟨us.toArray⟩,.int .i64 kd,.string ⟨pa.toArray⟩,.int .i64 er] 106):=⟨_,rfl⟩
 have hsz1:W1.heap.size=w.heap.size+1:=tZ55
 rw [← hW1] at hb1 kT
 have hT:=Lib.hid (fun (W':World) (hB':Below W1.heap.size W1 W')=>(⟨(kT.below hB' tZ1).cell 0,(kT.below hB' tZ1).cell 1,(kT.below hB' tZ1).cell 2,(kT.below hB' tZ1).cell 3⟩:W'.cell? ⟨w.heap.size,0,none⟩=some (.string ⟨us.toArray⟩)∧W'.cell? ⟨w.heap.size,1,none⟩=some (.int .i64 kd)∧W'.cell? ⟨w.heap.size,2,none⟩=some (.string ⟨pa.toArray⟩)∧W'.cell? ⟨w.heap.size,3,none⟩=some (.int .i64 er)))
 have hN:Hid (∀ W,Below W1.heap.size W1 W→Calls Tryz.prog 83 #[.string ⟨us.toArray⟩] W fun e W'=>e=.returned (.bool (nameB us))∧Below W.heap.size W W'):=fun W _=>name_any ⟨us.toArray⟩ W
 have hP:Hid (∀ W,Below W1.heap.size W1 W→Calls Tryz.prog 80 #[.string ⟨pa.toArray⟩] W fun e W'=>e=.returned (.bool (pathB pa))∧Below W.heap.size W W'):=fun W hb=>path_any ⟨pa.toArray⟩ W tZ177 (hmx.below (hb1.trans (hb.mono tZ1)))
 have hA0:Hid (∀ W,Below W1.heap.size W1 W→Calls Tryz.prog 124 #[.int .i64 kd,.int .i64 0] W fun e W'=>e=.returned (.bool (amt kd 0))∧Below W.heap.size W W'):=fun W _=>amountB_any kd 0 W
 have hA1:Hid (∀ W,Below W1.heap.size W1 W→Calls Tryz.prog 124 #[.int .i64 er,.int .i64 0] W fun e W'=>e=.returned (.bool (amt er 0))∧Below W.heap.size W W'):=fun W _=>amountB_any er 0 W
 have HV:Hid ((!(entryP us kd pa er))=!((us == [] || nameB us) && (pathB pa && (amt kd 0 && amt er 0)))):=by
  show _=_
  unfold entryP
  simp only [Bool.and_assoc]
 obtain ⟨V,hV⟩:∃ V,V=(!(entryP us kd pa er)):=⟨_,rfl⟩
 obtain ⟨bN,hbN⟩:∃ V,V=nameB us:=⟨_,rfl⟩
 obtain ⟨bP,hbP⟩:∃ V,V=pathB pa:=⟨_,rfl⟩
 obtain ⟨bA,hbA⟩:∃ V,V=amt kd 0:=⟨_,rfl⟩
 obtain ⟨bX,hbX⟩:∃ V,V=amt er 0:=⟨_,rfl⟩
 rw [← hV] at HV ⊢
 rw [← hbN] at HV hN
 rw [← hbP] at HV hP
 rw [← hbA] at HV hA0
 rw [← hbX] at HV hA1
 have HB1:=Lib.hid hb1
 have HSZ1:=Lib.hid hsz1
 clear hV hbN hbA hbP hbX hb1 hsz1 kT
 have hW0:=Below.refl W1.heap.size W1
 by_cases hu:us=[]
 ·subst hu
  have HV:Hid (V=!(true && (bP && (bA && bX)))):=tZ11
  go_enter Tryz.func129,Tryz.ntmps129
  have hc:=hP.out _ hW0
  cases bP with
  | false =>
   exact mZ167
  | true =>
   go_wp2_with fail
   rw [← hW1]
   refine hc.mono ?_
   clear hc
   rintro e w11 ⟨rfl,hbw11⟩
   have hWw11:=hW0.trans (hbw11.mono hW0.size)
   clear hbw11
   obtain ⟨t0,t1,t2,t3⟩:=hT.out _ hWw11
   have hc:=hA0.out _ hWw11
   cases bA with
   | false =>
    exact mZ168
   | true =>
    go_wp2_with fail
    refine hc.mono ?_
    clear hc
    rintro e w12 ⟨rfl,hbw12⟩
    have hWw12:=hWw11.trans (hbw12.mono hWw11.size)
    clear hbw12
    obtain ⟨t0,t1,t2,t3⟩:=hT.out _ hWw12
    have hc:=hA1.out _ hWw12
    cases bX with
    | false =>
     exact mZ169
    | true =>
     exact mZ172
 ·have hu1:(us == [])=false:=by simpa using hu
  have hu2:us.isEmpty=false:=by cases us <;> simp_all
  have HV:Hid (V=!(bN && (bP && (bA && bX)))):=tZ181
  clear hu
  go_enter Tryz.func129,Tryz.ntmps129
  have hc:=hN.out _ hW0
  cases bN with
  | false =>
   exact mZ167
  | true =>
   go_wp2_with fail
   rw [← hW1]
   refine hc.mono ?_
   clear hc
   rintro e w11 ⟨rfl,hbw11⟩
   have hWw11:=hW0.trans (hbw11.mono hW0.size)
   clear hbw11
   obtain ⟨t0,t1,t2,t3⟩:=hT.out _ hWw11
   have hc:=hP.out _ hWw11
   cases bP with
   | false =>
    exact mZ168
   | true =>
    go_wp2_with fail
    refine hc.mono ?_
    clear hc
    rintro e w12 ⟨rfl,hbw12⟩
    have hWw12:=hWw11.trans (hbw12.mono hWw11.size)
    clear hbw12
    obtain ⟨t0,t1,t2,t3⟩:=hT.out _ hWw12
    have hc:=hA0.out _ hWw12
    cases bA with
    | false =>
     exact mZ169
    | true =>
     go_wp2_with fail
     refine hc.mono ?_
     clear hc
     rintro e w13 ⟨rfl,hbw13⟩
     have hWw13:=hWw12.trans (hbw13.mono hWw12.size)
     clear hbw13
     obtain ⟨t0,t1,t2,t3⟩:=hT.out _ hWw13
     have hc:=hA1.out _ hWw13
     cases bX with
     | false =>
      exact mZ170
     | true =>
      exact mZ171
set_option maxRecDepth 100000 in
set_option maxHeartbeats 1000000 in
theorem fiEnt_index {α:Type} (f0 f1 f2 f3:α→Value) (p:α→Bool) (l:List α) (n:Nat) (hnl:n=l.length) (A:Option Addr) (c:Nat) (Keep:World→Prop) (w:World) (B:Nat)
  (hr:Reads w B 4 A n (cellsK (fun x=>[f0 x,f1 x,f2 x,f3 x]) l)) (hB:B≤w.heap.size) (hn:n≤5000000000000) (hp:PredK Tryz.prog 129 #[] (fun x=>#[f0 x,f1 x,f2 x,f3 x]) (·∈l) p Keep) (hk0:Keep w) :
  Calls Tryz.prog 182 #[.slice A n c,.func (.func 129) #[] #[]] w fun e w'=>e=.returned (.int .i64 (firstI p l))∧Below w.heap.size w w':=by
 have HN:=Lib.hid hnl
 have HP:=Lib.hid hp
 clear hnl hp
 go_enter Tryz.func182,Tryz.ntmps182
 go_wp2_with fail
 go_loopw [8] (fun j wr=>∃ k:Nat,k≤n∧j=.int .i64 (k:Int)∧Hid (∀ y∈l.take k,p y=false)∧Below w.heap.size w wr∧Keep wr) (fun j _=>n-(intOf j).toNat)
 case atStart=>exact ⟨0,Nat.zero_le _,rfl,(show ∀ y∈_,_ by simp),Below.refl _ _,hk0⟩
 case round =>
  obtain ⟨k,hk,rfl,hno,hbw,hkw⟩:=hrel
  by_cases hlt:k<n
  ·have hki:(k:Int)<(n:Int):=tZ1
   have hkl:k<l.length:=tZ7
   obtain ⟨ad,rfl,_,c0,c1,c2,c3⟩:=(hr.below (hbw.mono hB)).el4 HN.out hlt
   obtain ⟨x,hx⟩:∃ x,x=l[k]'hkl:=⟨_,rfl⟩
   rw [← hx] at c0 c1 c2 c3
   exact mZ117
  ·have hkn:k=n:=tZ1
   have HF:Hid (firstI p l=-1):=by
    exact mZ24
   clear hr hkn
   exact mZ4
set_option maxRecDepth 100000 in
theorem oddLog_any (l:List EntryR) (n:Nat) (hnl:n=l.length) (A:Option Addr) (c:Nat) (w:World) (B:Nat) (hr:Reads w B 4 A n (cellsK encEntry l)) (hB:B≤w.heap.size) (hn:n≤1000000000000) (hv:∀ y∈l,y.sz) (hmx:HasMax w) :
  Calls Tryz.prog 128 #[.slice A n c,.func (.func 129) #[] #[]] w fun e w'=>e=.returned (.bool (!(l.all entryB)))∧Below w.heap.size w w':=by
 have HC:=Lib.hid (fiEnt_index (fun x:EntryR=>.string ⟨x.user.toArray⟩) (fun x=>.int .i64 x.kind) (fun x=>.string ⟨x.path.toArray⟩) (fun x=>.int .i64 x.err) (fun x=>!(entryB x)) l n hnl A c HasMax w B hr hB tZ1
  ⟨fun x W hx hm=>odd14_any x.user x.kind x.path x.err W (hv x hx).path hm,fun W W' hm hb=>hm.below hb⟩ hmx)
 have HA:Hid (decide ((0:Int)≤firstI (fun x=>!(entryB x)) l)=!(l.all entryB)):=by
  show _=_
  rw [firstI_any,List.all_eq_not_any_not,Bool.not_not]
 clear hnl hr hv
 go_enter Tryz.func128,Tryz.ntmps128
 go_wp2_with fail
 refine HC.out.mono ?_
 exact mZ29
end Go.Proofs.YtcgclpcocdappaaGreatDoor
