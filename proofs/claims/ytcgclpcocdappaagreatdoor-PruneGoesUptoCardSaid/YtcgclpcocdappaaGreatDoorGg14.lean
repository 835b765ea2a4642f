/-
  tree.begin, tree.stages: by their contracts.
-/
import Derived.WalkKit
import Derived.WalkSpells
import Derived.Below
import Derived.Laws.OwnMore
import Derived.Deep.AppendLies
import Derived.Deep.Draws
import Derived.Laws.Rows
import Derived.Maps.AppendAt
import Derived.RegionTactic
import Derived.OwnWalk
import Derived.Deep.QuietTactic
import Derived.BigQuiet
import Derived.Lib.Hide
import Derived.Laws.CopyOwn
import Derived.IntWalk
import Derived.Test.YtcgclpcocdappaaGreatDoorRows
import Derived.Handy
import Derived.Deep.Quiet
import Derived.Orders
import Derived.Lib.SplitLaws
import Derived.Lib.LastIndexByte
import Derived.Lib.Strings
import Derived.ShutString
import Derived.Sort.Walk0
import Derived.Sort.KeysCollected
import Derived.Shelf.Strings.Search1
import Derived.Shelf.Strings.Search2
import Derived.Shelf.Strings.Search3
import Derived.Shelf.Strings.Cut
import Derived.Shelf.Strings.Count
import Derived.Shelf.LaysM
import Derived.Shelf.Strings.Shaped
import Derived.Shelf.Strings.LastIndex
import Derived.Shelf.Strings.Split
import Derived.Shelf.Strings.SplitShaped
import Derived.Shelf.Unicode.Decode
import Derived.Shelf.Strings.RuneCount
import Derived.Shelf.Strings.Explode
import Derived.Shelf.Unicode.DecodeSlow
import Derived.Test.YtcgclpcocdappaaGreatDoorProg
import Derived.Laws.BytesString
import Derived.Laws.IdiomStrings
import Derived.Lib.ConvBytes
import Derived.Deep.MidRow
import Derived.Test.YtcgclpcocdappaaGreatDoorG0
import Derived.Test.YtcgclpcocdappaaGreatDoorGg1
import Derived.Test.YtcgclpcocdappaaGreatDoorGg3
import Derived.Test.YtcgclpcocdappaaGreatDoorGg4
import Derived.Test.YtcgclpcocdappaaGreatDoorGg5
import Derived.Test.YtcgclpcocdappaaGreatDoorGg6
import Derived.Test.YtcgclpcocdappaaGreatDoorGg7
import Derived.Test.YtcgclpcocdappaaGreatDoorGg9
import Derived.Test.YtcgclpcocdappaaGreatDoorGg11
namespace Go.Proofs.YtcgclpcocdappaaGreatDoor
open Go.RowKit
def beginP (kind:Int) (nm:BS) (frm gd:Int) (own:List (BS×BS)) (ix ct:Int) (dt:BS) (sm:Sm):Bool:=decide (kind=1) && nameB nm && amt frm 0 && amt gd 1 && propsB own && decide (ix=0) && decide (ct=0) && decide (dt=[]) && smZ sm
theorem amountB_any (n k:Int) (w:World):Calls Tryz.prog 124 #[.int .i64 n,.int .i64 k] w fun e w'=>e=.returned (.bool (amt n k))∧Below w.heap.size w w':=by
 refine (amount_any n k w).mono ?_
 rintro e w1 ⟨rfl,rfl⟩
 exact ⟨rfl,Below.refl _ _⟩
set_option maxRecDepth 100000 in
set_option maxHeartbeats 4000000 in
theorem begin_any (kind:Int) (nm:BS) (frm gd:Int) (ol:List (BS×BS)) (n:Nat) (hnl:n=ol.length) (A:Option Addr) (c:Nat) (ix ct:Int) (dt:BS) (sa sb sc sd:Int) (w:World) (B:Nat) (hr:Reads w B 2 A n (pcells ol)) (hB:B≤w.heap.size) (hn:n≤1000000000000) (hp:∀ p∈ol,p.1.length≤4000000000∧p.2.length≤4000000000) :
  Calls Tryz.prog 181 #[.agg #[.int .i64 kind,.string ⟨nm.toArray⟩,.int .i64 frm,.int .i64 gd,.slice A n c,.int .i64 ix,.int .i64 ct,.string ⟨dt.toArray⟩,.int .u64 sa,.int .u64 sb,.int .u64 sc,.int .u64 sd]] w fun e w'=>e=.returned (.bool (beginP kind nm frm gd ol ix ct dt ⟨sa,sb,sc,sd⟩))∧Below w.heap.size w w':=by
 have hb1:=(Below.refl w.heap.size w).alloc (Nat.le_refl _) (.cells #[.int .i64 kind,.string ⟨nm.toArray⟩,.int .i64 frm,.int .i64 gd,.slice A n c,.int .i64 ix,.int .i64 ct,.string ⟨dt.toArray⟩,.int .u64 sa,.int .u64 sb,.int .u64 sc,.int .u64 sd] 101)
 have kT:=Blk.new w 101 #[.int .i64 kind,.string ⟨nm.toArray⟩,.int .i64 frm,.int .i64 gd,.slice A n c,.int .i64 ix,.int .i64 ct,.string ⟨dt.toArray⟩,.int .u64 sa,.int .u64 sb,.int .u64 sc,.int .u64 sd]
 obtain ⟨W1,hW1⟩:∃ W,W=w.alloc (.cells #[.int .i64 kind,.string ⟨nm.toArray⟩,.int .i64 frm,.int .i64 gd,.slice A n c,.int .i64 ix,.int .i64 ct,.string ⟨dt.toArray⟩,.int .u64 sa,.int .u64 sb,.int .u64 sc,.int .u64 sd] 101):=⟨_,rfl⟩
 have hsz1:W1.heap.size=w.heap.size+1:=by rw [hW1];simp
 rw [← hW1] at hb1 kT
 have hT:=Lib.hid (fun (W':World) (hB':Below W1.heap.size W1 W')=>(⟨(kT.below hB' (by omega)).cell 0,(kT.below hB' (by omega)).cell 1,(kT.below hB' (by omega)).cell 2,(kT.below hB' (by omega)).cell 3,(kT.below hB' (by omega)).cell 4,(kT.below hB' (by omega)).cell 5,(kT.below hB' (by omega)).cell 6,(kT.below hB' (by omega)).cell 7,(kT.below hB' (by omega)).cell 8,(kT.below hB' (by omega)).cell 9,(kT.below hB' (by omega)).cell 10,(kT.below hB' (by omega)).cell 11⟩:W'.cell? ⟨w.heap.size,0,none⟩=some (.int .i64 kind)∧W'.cell? ⟨w.heap.size,1,none⟩=some (.string ⟨nm.toArray⟩)∧W'.cell? ⟨w.heap.size,2,none⟩=some (.int .i64 frm)∧W'.cell? ⟨w.heap.size,3,none⟩=some (.int .i64 gd)∧W'.cell? ⟨w.heap.size,4,none⟩=some (.slice A n c)∧W'.cell? ⟨w.heap.size,5,none⟩=some (.int .i64 ix)∧W'.cell? ⟨w.heap.size,6,none⟩=some (.int .i64 ct)∧W'.cell? ⟨w.heap.size,7,none⟩=some (.string ⟨dt.toArray⟩)∧W'.cell? ⟨w.heap.size,8,none⟩=some (.int .u64 sa)∧W'.cell? ⟨w.heap.size,9,none⟩=some (.int .u64 sb)∧W'.cell? ⟨w.heap.size,10,none⟩=some (.int .u64 sc)∧W'.cell? ⟨w.heap.size,11,none⟩=some (.int .u64 sd)))
 have hrw:∀ W',Below W1.heap.size W1 W'→Reads W' B 2 A n (pcells ol):=fun W' hb=>hr.below ((hb1.trans (hb.mono (by omega))).mono hB)
 have hN:Hid (∀ W,Below W1.heap.size W1 W→Calls Tryz.prog 83 #[.string ⟨nm.toArray⟩] W fun e W'=>e=.returned (.bool (nameB nm))∧Below W.heap.size W W'):=fun W _=>name_any ⟨nm.toArray⟩ W
 have hA0:Hid (∀ W,Below W1.heap.size W1 W→Calls Tryz.prog 124 #[.int .i64 frm,.int .i64 0] W fun e W'=>e=.returned (.bool (amt frm 0))∧Below W.heap.size W W'):=fun W _=>amountB_any frm 0 W
 have hA1:Hid (∀ W,Below W1.heap.size W1 W→Calls Tryz.prog 124 #[.int .i64 gd,.int .i64 1] W fun e W'=>e=.returned (.bool (amt gd 1))∧Below W.heap.size W W'):=fun W _=>amountB_any gd 1 W
 have hPr:Hid (∀ W,Below W1.heap.size W1 W→Calls Tryz.prog 158 #[.slice A n c] W fun e W'=>e=.returned (.int .i64 (if propsB ol=true then 0 else 9))∧Below W.heap.size W W'):=fun W hb=>checkP_any ol n hnl A c W B (hrw W hb) (by have:=hb.size;omega) (by omega) (fun p hp'=>by have:=hp p hp';omega)
 have HV:Hid (beginP kind nm frm gd ol ix ct dt ⟨sa,sb,sc,sd⟩=(decide (kind=1) && (nameB nm && (amt frm 0 && (amt gd 1 && (propsB ol && (decide (ix=0) && (decide (ct=0) && (decide (dt=[]) && decide (sa=0∧sb=0∧sc=0∧sd=0)))))))))):=by
  show _=_
  unfold beginP smZ
  simp only [Bool.and_assoc]
 obtain ⟨V,hV⟩:∃ V,V=beginP kind nm frm gd ol ix ct dt ⟨sa,sb,sc,sd⟩:=⟨_,rfl⟩
 obtain ⟨bN,hbN⟩:∃ V,V=nameB nm:=⟨_,rfl⟩
 obtain ⟨bA,hbA⟩:∃ V,V=amt frm 0:=⟨_,rfl⟩
 obtain ⟨bG,hbG⟩:∃ V,V=amt gd 1:=⟨_,rfl⟩
 obtain ⟨bP,hbP⟩:∃ V,V=propsB ol:=⟨_,rfl⟩
 rw [← hV] at HV ⊢
 rw [← hbN] at HV hN
 rw [← hbA] at HV hA0
 rw [← hbG] at HV hA1
 rw [← hbP] at HV hPr
 have HB1:=Lib.hid hb1
 have HSZ1:=Lib.hid hsz1
 clear hV hbN hbA hbG hbP hr hrw hnl hb1 hsz1 kT hp
 have hW0:=Below.refl W1.heap.size W1
 by_cases hk:kind=1
 ·subst hk
  go_enter Tryz.func181,Tryz.ntmps181
  have hc:=hN.out _ hW0
  cases bN with
  | false =>
   go_wp2_with fail
   rw [← hW1]
   refine hc.mono ?_
   clear hc
   rintro e w11 ⟨rfl,hbw11⟩
   have hWw11:=hW0.trans (hbw11.mono hW0.size)
   clear hbw11 
   obtain ⟨t0,t1,t2,t3,t4,t5,t6,t7,t8,t9,t10,t11⟩:=hT.out _ hWw11
   have HB:Hid (V=false):=by show _=_;rw [HV.out];rfl
   go_wp2_with fail
   go_ret
   exact ⟨by rw [HB.out];rfl,HB1.out.trans (hWw11.mono (by have:=HSZ1.out;omega))⟩
  | true =>
   go_wp2_with fail
   rw [← hW1]
   refine hc.mono ?_
   clear hc
   rintro e w11 ⟨rfl,hbw11⟩
   have hWw11:=hW0.trans (hbw11.mono hW0.size)
   clear hbw11 
   obtain ⟨t0,t1,t2,t3,t4,t5,t6,t7,t8,t9,t10,t11⟩:=hT.out _ hWw11
   have hc:=hA0.out _ hWw11
   cases bA with
   | false =>
    go_wp2_with fail
    refine hc.mono ?_
    clear hc
    rintro e w12 ⟨rfl,hbw12⟩
    have hWw12:=hWw11.trans (hbw12.mono hWw11.size)
    clear hbw12 
    obtain ⟨t0,t1,t2,t3,t4,t5,t6,t7,t8,t9,t10,t11⟩:=hT.out _ hWw12
    have HB:Hid (V=false):=by show _=_;rw [HV.out];rfl
    go_wp2_with fail
    go_ret
    exact ⟨by rw [HB.out];rfl,HB1.out.trans (hWw12.mono (by have:=HSZ1.out;omega))⟩
   | true =>
    go_wp2_with fail
    refine hc.mono ?_
    clear hc
    rintro e w12 ⟨rfl,hbw12⟩
    have hWw12:=hWw11.trans (hbw12.mono hWw11.size)
    clear hbw12 
    obtain ⟨t0,t1,t2,t3,t4,t5,t6,t7,t8,t9,t10,t11⟩:=hT.out _ hWw12
    have hc:=hA1.out _ hWw12
    cases bG with
    | false =>
     go_wp2_with fail
     refine hc.mono ?_
     clear hc
     rintro e w13 ⟨rfl,hbw13⟩
     have hWw13:=hWw12.trans (hbw13.mono hWw12.size)
     clear hbw13 
     obtain ⟨t0,t1,t2,t3,t4,t5,t6,t7,t8,t9,t10,t11⟩:=hT.out _ hWw13
     have HB:Hid (V=false):=by show _=_;rw [HV.out];rfl
     go_wp2_with fail
     go_ret
     exact ⟨by rw [HB.out];rfl,HB1.out.trans (hWw13.mono (by have:=HSZ1.out;omega))⟩
    | true =>
     go_wp2_with fail
     refine hc.mono ?_
     clear hc
     rintro e w13 ⟨rfl,hbw13⟩
     have hWw13:=hWw12.trans (hbw13.mono hWw12.size)
     clear hbw13 
     obtain ⟨t0,t1,t2,t3,t4,t5,t6,t7,t8,t9,t10,t11⟩:=hT.out _ hWw13
     have hc:=hPr.out _ hWw13
     cases bP with
     | false =>
      rw [if_neg (by decide)] at hc
      go_wp2_with fail
      refine hc.mono ?_
      clear hc
      rintro e w14 ⟨rfl,hbw14⟩
      have hWw14:=hWw13.trans (hbw14.mono hWw13.size)
      clear hbw14 
      obtain ⟨t0,t1,t2,t3,t4,t5,t6,t7,t8,t9,t10,t11⟩:=hT.out _ hWw14
      have HB:Hid (V=false):=by show _=_;rw [HV.out];rfl
      go_wp2_with fail
      go_ret
      exact ⟨by rw [HB.out];rfl,HB1.out.trans (hWw14.mono (by have:=HSZ1.out;omega))⟩
     | true =>
      rw [if_pos rfl] at hc
      go_wp2_with fail
      refine hc.mono ?_
      clear hc
      rintro e w14 ⟨rfl,hbw14⟩
      have hWw14:=hWw13.trans (hbw14.mono hWw13.size)
      clear hbw14 
      obtain ⟨t0,t1,t2,t3,t4,t5,t6,t7,t8,t9,t10,t11⟩:=hT.out _ hWw14
      have HR:Hid (V=(decide (ix=0) && (decide (ct=0) && (decide (dt=[]) && decide (sa=0∧sb=0∧sc=0∧sd=0))))):=by show _=_;rw [HV.out];rfl
      have HBF:=Lib.hid (HB1.out.trans (hWw14.mono (by have:=HSZ1.out;omega)))
      by_cases z1:ix=0
      ·by_cases z2:ct=0
       ·by_cases z3:dt=[]
        ·by_cases z4:sa=0
         ·by_cases z5:sb=0
          ·by_cases z6:sc=0
           ·by_cases z7:sd=0
            ·subst z1 z2 z3 z4 z5 z6 z7
             go_wp2_with fail
             go_ret
             exact ⟨by rw [HR.out];rfl,HBF.out⟩
            ·subst z1 z2 z3 z4 z5 z6
             have HB:Hid (V=false):=by show _=_;rw [HR.out];simp [z7]
             go_wp2_with fail
             go_ret
             exact ⟨by rw [HB.out];simp,HBF.out⟩
           ·subst z1 z2 z3 z4 z5
            have HB:Hid (V=false):=by show _=_;rw [HR.out];simp [z6]
            go_wp2_with fail
            go_ret
            exact ⟨by rw [HB.out];simp,HBF.out⟩
          ·subst z1 z2 z3 z4
           have HB:Hid (V=false):=by show _=_;rw [HR.out];simp [z5]
           go_wp2_with fail
           go_ret
           exact ⟨by rw [HB.out];simp,HBF.out⟩
         ·subst z1 z2 z3
          have HB:Hid (V=false):=by show _=_;rw [HR.out];simp [z4]
          go_wp2_with fail
          go_ret
          exact ⟨by rw [HB.out];simp,HBF.out⟩
        ·subst z1 z2
         have HB:Hid (V=false):=by show _=_;rw [HR.out];simp [z3]
         have z3b:(dt == [])=false:=by simpa using z3
         have z3c:dt.isEmpty=false:=by cases dt <;> simp_all
         go_wp2_with fail
         go_ret
         exact ⟨by rw [HB.out];rfl,HBF.out⟩
       ·subst z1
        have z2b:(ct == 0)=false:=by simpa using z2
        have HB:Hid (V=false):=by show _=_;rw [HR.out];simp [z2]
        go_wp2_with fail
        go_ret
        exact ⟨by rw [HB.out];rfl,HBF.out⟩
      ·have z1b:(ix == 0)=false:=by simpa using z1
       have HB:Hid (V=false):=by show _=_;rw [HR.out];simp [z1]
       go_wp2_with fail
       go_ret
       exact ⟨by rw [HB.out];rfl,HBF.out⟩
 ·have hkb:(kind == 1)=false:=by simpa using hk
  have HB:Hid (V=false):=by show _=_;rw [HV.out,decide_eq_false hk];rfl
  go_enter Tryz.func181,Tryz.ntmps181
  go_wp2_with fail
  rw [← hW1]
  go_ret
  exact ⟨by rw [HB.out];rfl,HB1.out⟩
theorem Reads.el21 {α:Type} {f0 f1 f2 f3 f4 f5 f6 f7 f8 f9 f10 f11 f12 f13 f14 f15 f16 f17 f18 f19 f20:α→Value} {w:World} {B n:Nat} {A:Option Addr} {l:List α} (h:Reads w B 21 A n (cellsK (fun x=>[f0 x,f1 x,f2 x,f3 x,f4 x,f5 x,f6 x,f7 x,f8 x,f9 x,f10 x,f11 x,f12 x,f13 x,f14 x,f15 x,f16 x,f17 x,f18 x,f19 x,f20 x]) l)) (hn:n=l.length) {i:Nat} (hi:i<n) :
  ∃ ad,A=some ad∧ad.block<B∧w.cell? (ad.add (i*21))=some (f0 (l[i]'(by omega)))∧w.cell? ⟨(ad.add (i*21)).block,(ad.add (i*21)).off+1,none⟩=some (f1 (l[i]'(by omega)))∧w.cell? ⟨(ad.add (i*21)).block,(ad.add (i*21)).off+2,none⟩=some (f2 (l[i]'(by omega)))∧w.cell? ⟨(ad.add (i*21)).block,(ad.add (i*21)).off+3,none⟩=some (f3 (l[i]'(by omega)))∧w.cell? ⟨(ad.add (i*21)).block,(ad.add (i*21)).off+4,none⟩=some (f4 (l[i]'(by omega)))∧w.cell? ⟨(ad.add (i*21)).block,(ad.add (i*21)).off+5,none⟩=some (f5 (l[i]'(by omega)))∧w.cell? ⟨(ad.add (i*21)).block,(ad.add (i*21)).off+6,none⟩=some (f6 (l[i]'(by omega)))∧w.cell? ⟨(ad.add (i*21)).block,(ad.add (i*21)).off+7,none⟩=some (f7 (l[i]'(by omega)))∧w.cell? ⟨(ad.add (i*21)).block,(ad.add (i*21)).off+8,none⟩=some (f8 (l[i]'(by omega)))∧w.cell? ⟨(ad.add (i*21)).block,(ad.add (i*21)).off+9,none⟩=some (f9 (l[i]'(by omega)))∧w.cell? ⟨(ad.add (i*21)).block,(ad.add (i*21)).off+10,none⟩=some (f10 (l[i]'(by omega)))∧w.cell? ⟨(ad.add (i*21)).block,(ad.add (i*21)).off+11,none⟩=some (f11 (l[i]'(by omega)))∧w.cell? ⟨(ad.add (i*21)).block,(ad.add (i*21)).off+12,none⟩=some (f12 (l[i]'(by omega)))∧w.cell? ⟨(ad.add (i*21)).block,(ad.add (i*21)).off+13,none⟩=some (f13 (l[i]'(by omega)))∧w.cell? ⟨(ad.add (i*21)).block,(ad.add (i*21)).off+14,none⟩=some (f14 (l[i]'(by omega)))∧w.cell? ⟨(ad.add (i*21)).block,(ad.add (i*21)).off+15,none⟩=some (f15 (l[i]'(by omega)))∧w.cell? ⟨(ad.add (i*21)).block,(ad.add (i*21)).off+16,none⟩=some (f16 (l[i]'(by omega)))∧w.cell? ⟨(ad.add (i*21)).block,(ad.add (i*21)).off+17,none⟩=some (f17 (l[i]'(by omega)))∧w.cell? ⟨(ad.add (i*21)).block,(ad.add (i*21)).off+18,none⟩=some (f18 (l[i]'(by omega)))∧w.cell? ⟨(ad.add (i*21)).block,(ad.add (i*21)).off+19,none⟩=some (f19 (l[i]'(by omega)))∧w.cell? ⟨(ad.add (i*21)).block,(ad.add (i*21)).off+20,none⟩=some (f20 (l[i]'(by omega))):=by
 obtain ⟨ad,e,hb,hc⟩:=Reads.elK (k:=21) (fun _=>rfl) h hn hi
 refine ⟨ad,e,hb,?_,?_,?_,?_,?_,?_,?_,?_,?_,?_,?_,?_,?_,?_,?_,?_,?_,?_,?_,?_,?_⟩
 ·have:=hc 0 (by omega);rwa [add_zero] at this
 ·have:=hc 1 (by omega);rwa [addr_add_succ] at this
 ·have:=hc 2 (by omega);rwa [addr_add_succ] at this
 ·have:=hc 3 (by omega);rwa [addr_add_succ] at this
 ·have:=hc 4 (by omega);rwa [addr_add_succ] at this
 ·have:=hc 5 (by omega);rwa [addr_add_succ] at this
 ·have:=hc 6 (by omega);rwa [addr_add_succ] at this
 ·have:=hc 7 (by omega);rwa [addr_add_succ] at this
 ·have:=hc 8 (by omega);rwa [addr_add_succ] at this
 ·have:=hc 9 (by omega);rwa [addr_add_succ] at this
 ·have:=hc 10 (by omega);rwa [addr_add_succ] at this
 ·have:=hc 11 (by omega);rwa [addr_add_succ] at this
 ·have:=hc 12 (by omega);rwa [addr_add_succ] at this
 ·have:=hc 13 (by omega);rwa [addr_add_succ] at this
 ·have:=hc 14 (by omega);rwa [addr_add_succ] at this
 ·have:=hc 15 (by omega);rwa [addr_add_succ] at this
 ·have:=hc 16 (by omega);rwa [addr_add_succ] at this
 ·have:=hc 17 (by omega);rwa [addr_add_succ] at this
 ·have:=hc 18 (by omega);rwa [addr_add_succ] at this
 ·have:=hc 19 (by omega);rwa [addr_add_succ] at this
 ·have:=hc 20 (by omega);rwa [addr_add_succ] at this
theorem stage_at {w:World} {B n:Nat} {A:Option Addr} {l:List StageR} (h:Reads w B 21 A n (cellsK encStage l)) (hn:n=l.length) {i:Nat} (hi:i<n) :
  ∃ ad,A=some ad∧ad.block<B∧w.cell? (ad.add (i*21))=some (.string ⟨(l[i]'(by omega)).into.toArray⟩)∧w.cell? ⟨(ad.add (i*21)).block,(ad.add (i*21)).off+1,none⟩=some (.int .i64 (l[i]'(by omega)).kind)∧w.cell? ⟨(ad.add (i*21)).block,(ad.add (i*21)).off+2,none⟩=some (.string ⟨(l[i]'(by omega)).nm.toArray⟩)∧w.cell? ⟨(ad.add (i*21)).block,(ad.add (i*21)).off+3,none⟩=some (.int .i64 (l[i]'(by omega)).frm)∧w.cell? ⟨(ad.add (i*21)).block,(ad.add (i*21)).off+4,none⟩=some (.int .i64 (l[i]'(by omega)).gd)∧w.cell? ⟨(ad.add (i*21)).block,(ad.add (i*21)).off+5,none⟩=some (.slice (l[i]'(by omega)).own.A (l[i]'(by omega)).own.n (l[i]'(by omega)).own.c)∧w.cell? ⟨(ad.add (i*21)).block,(ad.add (i*21)).off+6,none⟩=some (.int .i64 (l[i]'(by omega)).ix)∧w.cell? ⟨(ad.add (i*21)).block,(ad.add (i*21)).off+7,none⟩=some (.int .i64 (l[i]'(by omega)).ct)∧w.cell? ⟨(ad.add (i*21)).block,(ad.add (i*21)).off+8,none⟩=some (.string ⟨(l[i]'(by omega)).dt.toArray⟩)∧w.cell? ⟨(ad.add (i*21)).block,(ad.add (i*21)).off+9,none⟩=some (.int .u64 (l[i]'(by omega)).sm.a)∧w.cell? ⟨(ad.add (i*21)).block,(ad.add (i*21)).off+10,none⟩=some (.int .u64 (l[i]'(by omega)).sm.b)∧w.cell? ⟨(ad.add (i*21)).block,(ad.add (i*21)).off+11,none⟩=some (.int .u64 (l[i]'(by omega)).sm.c)∧w.cell? ⟨(ad.add (i*21)).block,(ad.add (i*21)).off+12,none⟩=some (.int .u64 (l[i]'(by omega)).sm.d)∧w.cell? ⟨(ad.add (i*21)).block,(ad.add (i*21)).off+13,none⟩=some (.slice (l[i]'(by omega)).body.A (l[i]'(by omega)).body.n (l[i]'(by omega)).body.c)∧w.cell? ⟨(ad.add (i*21)).block,(ad.add (i*21)).off+14,none⟩=some (.int .i64 (l[i]'(by omega)).at_)∧w.cell? ⟨(ad.add (i*21)).block,(ad.add (i*21)).off+15,none⟩=some (.int .i64 (l[i]'(by omega)).nx)∧w.cell? ⟨(ad.add (i*21)).block,(ad.add (i*21)).off+16,none⟩=some (.int .u64 (l[i]'(by omega)).sum.a)∧w.cell? ⟨(ad.add (i*21)).block,(ad.add (i*21)).off+17,none⟩=some (.int .u64 (l[i]'(by omega)).sum.b)∧w.cell? ⟨(ad.add (i*21)).block,(ad.add (i*21)).off+18,none⟩=some (.int .u64 (l[i]'(by omega)).sum.c)∧w.cell? ⟨(ad.add (i*21)).block,(ad.add (i*21)).off+19,none⟩=some (.int .u64 (l[i]'(by omega)).sum.d)∧w.cell? ⟨(ad.add (i*21)).block,(ad.add (i*21)).off+20,none⟩=some (.bool (l[i]'(by omega)).done) :=
 Reads.el21 (f0:=fun x:StageR=>.string ⟨x.into.toArray⟩) (f1:=fun x:StageR=>.int .i64 x.kind) (f2:=fun x:StageR=>.string ⟨x.nm.toArray⟩) (f3:=fun x:StageR=>.int .i64 x.frm) (f4:=fun x:StageR=>.int .i64 x.gd) (f5:=fun x:StageR=>.slice x.own.A x.own.n x.own.c) (f6:=fun x:StageR=>.int .i64 x.ix) (f7:=fun x:StageR=>.int .i64 x.ct) (f8:=fun x:StageR=>.string ⟨x.dt.toArray⟩) (f9:=fun x:StageR=>.int .u64 x.sm.a) (f10:=fun x:StageR=>.int .u64 x.sm.b) (f11:=fun x:StageR=>.int .u64 x.sm.c) (f12:=fun x:StageR=>.int .u64 x.sm.d) (f13:=fun x:StageR=>.slice x.body.A x.body.n x.body.c) (f14:=fun x:StageR=>.int .i64 x.at_) (f15:=fun x:StageR=>.int .i64 x.nx) (f16:=fun x:StageR=>.int .u64 x.sum.a) (f17:=fun x:StageR=>.int .u64 x.sum.b) (f18:=fun x:StageR=>.int .u64 x.sum.c) (f19:=fun x:StageR=>.int .u64 x.sum.d) (f20:=fun x:StageR=>.bool x.done) h hn hi
def prevI (l:List StageR) (k:Nat):Option BS:=match k with
 | 0=>none
 | j+1=>(l[j]?).map (·.into)
theorem stagesFrom_cons (p:Option BS) (s:StageR) (l:List StageR):stagesFrom p (s :: l)=(stageB s && (match p with | none=>true | some q=>Op.bytesLess q s.into) && stagesFrom (some s.into) l):=by cases p <;> rfl
theorem stageB_eq (x:StageR):stageB x=(!(x.into == []) && pathB x.into && beginP x.kind x.nm x.frm x.gd x.own.l x.ix x.ct x.dt x.sm && okL x.body.l && amt x.at_ 0 && amt x.nx 0):=rfl
set_option maxRecDepth 100000 in
set_option maxHeartbeats 8000000 in
theorem stages_any (l:List StageR) (n:Nat) (hnl:n=l.length) (A:Option Addr) (c:Nat) (w:World) (B:Nat) (hr:Reads w B 21 A n (cellsK encStage l)) (he:∀ y∈l,y.rd w B) (hB:B≤w.heap.size) (hn:n≤1000000000000) (hv:∀ y∈l,y.sz) (hmx:HasMax w) :
  Calls Tryz.prog 127 #[.slice A n c] w fun e w'=>e=.returned (.bool (stagesB l))∧Below w.heap.size w w':=by
 have HN:=Lib.hid hnl
 have HVB:Hid (stagesB l=(decide (n≤4) && stagesFrom none l)):=by show _=_;unfold stagesB;rw [hnl]
 obtain ⟨V,hV⟩:∃ V,V=stagesB l:=⟨_,rfl⟩
 rw [← hV] at HVB ⊢
 clear hnl hV
 go_enter Tryz.func127,Tryz.ntmps127
 go_wp2_with fail
 go_loopw [7] (fun j wr=>∃ k:Nat,k≤n∧j=.int .i64 (k:Int)∧Hid (stagesFrom none l=stagesFrom (prevI l k) (l.drop k))∧Below w.heap.size w wr) (fun j _=>n-(intOf j).toNat)
 case atStart=>exact ⟨0,Nat.zero_le _,rfl,rfl,Below.refl _ _⟩
 case round =>
  obtain ⟨k,hk,rfl,hok,hbw⟩:=hrel
  by_cases hlt:k<n
  ·have hrw:=hr.below (hbw.mono hB)
   obtain ⟨ad,rfl,hadB,hce⟩:=Reads.elK (k:=21) (fun _=>rfl) hrw HN.out hlt
   have hki:(k:Int)<(n:Int):=by omega
   have hkl:k<l.length:=by have:=HN.out;omega
   obtain ⟨x,hx⟩:∃ x,x=l[k]'hkl:=⟨_,rfl⟩
   have hxm:x∈l:=by rw [hx];exact List.getElem_mem _
   have hxr:=he x hxm
   have hxs:=hv x hxm
   rw [← hx] at hce
   have HL:Hid (∀ (j:Nat) (v:Value),([.string ⟨x.into.toArray⟩,.int .i64 x.kind,.string ⟨x.nm.toArray⟩,.int .i64 x.frm,.int .i64 x.gd,.slice x.own.A x.own.n x.own.c,.int .i64 x.ix,.int .i64 x.ct,.string ⟨x.dt.toArray⟩,.int .u64 x.sm.a,.int .u64 x.sm.b,.int .u64 x.sm.c,.int .u64 x.sm.d,.slice x.body.A x.body.n x.body.c,.int .i64 x.at_,.int .i64 x.nx,.int .u64 x.sum.a,.int .u64 x.sum.b,.int .u64 x.sum.c,.int .u64 x.sum.d,.bool x.done])[j]?=some v→wr.cell? ((ad.add (k*21)).add j)=some v):=by
    show ∀ j v,_→_
    intro j v hv
    rw [hce j (by have:=(List.getElem?_eq_some_iff.1 hv).1;simpa using this)]
    exact hv
   clear hce
   have hdr:=List.drop_eq_getElem_cons hkl
   rw [← hx] at hdr
   have hbad:Hid (((x.into == [])=true∨pathB x.into=false∨(∃ y,prevI l k=some y∧Op.bytesLess y x.into=false)∨beginP x.kind x.nm x.frm x.gd x.own.l x.ix x.ct x.dt x.sm=false∨okL x.body.l=false∨amt x.at_ 0=false∨amt x.nx 0=false)→V=false):=by
    show _→_
    intro h
    rw [HVB.out,hok.out,hdr,stagesFrom_cons,stageB_eq]
    rcases h with h | h | ⟨y,hy,h⟩ | h | h | h | h
    ·rw [h];simp
    ·rw [h];simp
    ·rw [hy];simp only [h];simp
    ·rw [h];simp
    ·rw [h];simp
    ·rw [h];simp
    ·rw [h];simp
   have hgood:Hid ((x.into == [])=false→pathB x.into=true→(∀ y,prevI l k=some y→Op.bytesLess y x.into=true)→beginP x.kind x.nm x.frm x.gd x.own.l x.ix x.ct x.dt x.sm=true→okL x.body.l=true→amt x.at_ 0=true→amt x.nx 0=true→Hid (stagesFrom none l=stagesFrom (prevI l (k+1)) (l.drop (k+1)))):=by
    show _→_→_→_→_→_→_→_
    intro h1 h2 h3 h4 h5 h6 h7
    show _=_
    rw [hok.out,hdr,stagesFrom_cons,stageB_eq]
    have hp:prevI l (k+1)=some x.into:=by
     show (l[k]?).map _=_
     rw [List.getElem?_eq_getElem hkl,← hx]
     rfl
    rw [hp,h1,h2,h4,h5,h6,h7]
    cases hq:prevI l k with
    | none=>rfl
    | some y=>simp only [h3 y hq];rfl
   have hprev:(decide ((0:Int)<(k:Int))=false∧decide (0<k)=false∧Hid (∀ y,prevI l k=some y→Op.bytesLess y x.into=true))∨(decide ((0:Int)<(k:Int))=true∧decide (0<k)=true∧(1:Int)≤(k:Int)∧(k:Int)-1<(n:Int)∧IntKind.i64.wrap ((k:Int)-1)=(k:Int)-1∧((k:Int)-1).toNat=k-1∧∃ yp,Hid ((Op.bytesLess yp x.into=true→∀ y,prevI l k=some y→Op.bytesLess y x.into=true)∧(Op.bytesLess yp x.into=false→∃ y,prevI l k=some y∧Op.bytesLess y x.into=false))∧Hid (∃ h:k-1<l.length,yp=(l[k-1]'h).into)):=by
    rcases Nat.eq_zero_or_pos k with h0 | h0
    ·exact .inl ⟨by simp;omega,by simp;omega,(fun y hy=>by subst h0;cases hy)⟩
    ·have hk1l:k-1<l.length:=by omega
     have hpv:prevI l k=some (l[k-1]'hk1l).into:=by
      obtain ⟨j,rfl⟩:∃ j,k=j+1:=⟨k-1,by omega⟩
      show (l[j]?).map _=_
      have hj:j<l.length:=by simpa using hk1l
      rw [List.getElem?_eq_getElem hj]
      rfl
     refine .inr ⟨by simp;omega,by simp;omega,by omega,by omega,IntWalk.i64_in _ (by omega),by omega,(l[k-1]'hk1l).into,?_,⟨hk1l,rfl⟩⟩
     exact ⟨fun h y hy=>by rw [hpv] at hy;cases hy;exact h,fun h=>⟨_,hpv,h⟩⟩
   obtain ⟨W0,hW0⟩:∃ W0,W0=wr.alloc (.cells #[.string ⟨x.into.toArray⟩,.int .i64 x.kind,.string ⟨x.nm.toArray⟩,.int .i64 x.frm,.int .i64 x.gd,.slice x.own.A x.own.n x.own.c,.int .i64 x.ix,.int .i64 x.ct,.string ⟨x.dt.toArray⟩,.int .u64 x.sm.a,.int .u64 x.sm.b,.int .u64 x.sm.c,.int .u64 x.sm.d,.slice x.body.A x.body.n x.body.c,.int .i64 x.at_,.int .i64 x.nx,.int .u64 x.sum.a,.int .u64 x.sum.b,.int .u64 x.sum.c,.int .u64 x.sum.d,.bool x.done] 103):=⟨_,rfl⟩
   have hblk:Blk W0 wr.heap.size 103 #[.string ⟨x.into.toArray⟩,.int .i64 x.kind,.string ⟨x.nm.toArray⟩,.int .i64 x.frm,.int .i64 x.gd,.slice x.own.A x.own.n x.own.c,.int .i64 x.ix,.int .i64 x.ct,.string ⟨x.dt.toArray⟩,.int .u64 x.sm.a,.int .u64 x.sm.b,.int .u64 x.sm.c,.int .u64 x.sm.d,.slice x.body.A x.body.n x.body.c,.int .i64 x.at_,.int .i64 x.nx,.int .u64 x.sum.a,.int .u64 x.sum.b,.int .u64 x.sum.c,.int .u64 x.sum.d,.bool x.done]:=by rw [hW0];exact Blk.new wr _ _
   have hszW:W0.heap.size=wr.heap.size+1:=by rw [hW0];show (wr.heap.push _).size=_;rw [Array.size_push]
   have hlt0:wr.heap.size<W0.heap.size:=by omega
   have HSZ:=Lib.hid hszW
   have hwr:=hbw.size
   have hbW:Below w.heap.size w W0:=by rw [hW0];exact hbw.alloc hbw.size _
   have hrd:∀ W,Below W0.heap.size W0 W→x.rd W B:=fun W hb=>⟨hxr.own.below ((hbW.trans (hb.mono (by omega))).mono hB),hxr.body.below ((hbW.trans (hb.mono (by omega))).mono hB)⟩
   have hPa:Hid (∀ W,Below W0.heap.size W0 W→Calls Tryz.prog 80 #[.string ⟨x.into.toArray⟩] W fun e W'=>e=.returned (.bool (pathB x.into))∧Below W.heap.size W W'):=fun W hb =>
    path_any ⟨x.into.toArray⟩ W (by show x.into.length≤_;exact hxs.into) (hmx.below (hbW.trans (hb.mono (by omega))))
   have hBg:Hid (∀ W,Below W0.heap.size W0 W→Calls Tryz.prog 181 #[.agg #[.int .i64 x.kind,.string ⟨x.nm.toArray⟩,.int .i64 x.frm,.int .i64 x.gd,.slice x.own.A x.own.n x.own.c,.int .i64 x.ix,.int .i64 x.ct,.string ⟨x.dt.toArray⟩,.int .u64 x.sm.a,.int .u64 x.sm.b,.int .u64 x.sm.c,.int .u64 x.sm.d]] W fun e W'=>e=.returned (.bool (beginP x.kind x.nm x.frm x.gd x.own.l x.ix x.ct x.dt x.sm))∧Below W.heap.size W W'):=fun W hb =>
    begin_any x.kind x.nm x.frm x.gd x.own.l x.own.n (hrd W hb).own.1 x.own.A x.own.c x.ix x.ct x.dt x.sm.a x.sm.b x.sm.c x.sm.d W B (hrd W hb).own.2.2 (by have:=hb.size;omega) hxs.own hxs.props
   have hBk:Hid (∀ W,Below W0.heap.size W0 W→Calls Tryz.prog 152 #[.slice x.body.A x.body.n x.body.c] W fun e W'=>e=.returned (.int .i64 (if okL x.body.l=true then 0 else 9))∧Below W.heap.size W W'):=fun W hb =>
    checkBk_any x.body.l x.body.n (hrd W hb).body.1 x.body.A x.body.c W B (hrd W hb).body.2.2 (by have:=hb.size;omega) (by have:=hxs.body;omega)
   have hA0:Hid (∀ W,Below W0.heap.size W0 W→Calls Tryz.prog 124 #[.int .i64 x.at_,.int .i64 0] W fun e W'=>e=.returned (.bool (amt x.at_ 0))∧Below W.heap.size W W'):=fun W _=>amountB_any x.at_ 0 W
   have hA1:Hid (∀ W,Below W0.heap.size W0 W→Calls Tryz.prog 124 #[.int .i64 x.nx,.int .i64 0] W fun e W'=>e=.returned (.bool (amt x.nx 0))∧Below W.heap.size W W'):=fun W _=>amountB_any x.nx 0 W
   have hS:Hid (∀ W,Below W0.heap.size W0 W→W.cell? ⟨wr.heap.size,0,none⟩=some (.string ⟨x.into.toArray⟩)∧W.cell? ⟨wr.heap.size,1,none⟩=some (.int .i64 x.kind)∧W.cell? ⟨wr.heap.size,2,none⟩=some (.string ⟨x.nm.toArray⟩)∧W.cell? ⟨wr.heap.size,3,none⟩=some (.int .i64 x.frm)∧W.cell? ⟨wr.heap.size,4,none⟩=some (.int .i64 x.gd)∧W.cell? ⟨wr.heap.size,5,none⟩=some (.slice x.own.A x.own.n x.own.c)∧W.cell? ⟨wr.heap.size,6,none⟩=some (.int .i64 x.ix)∧W.cell? ⟨wr.heap.size,7,none⟩=some (.int .i64 x.ct)∧W.cell? ⟨wr.heap.size,8,none⟩=some (.string ⟨x.dt.toArray⟩)∧W.cell? ⟨wr.heap.size,9,none⟩=some (.int .u64 x.sm.a)∧W.cell? ⟨wr.heap.size,10,none⟩=some (.int .u64 x.sm.b)∧W.cell? ⟨wr.heap.size,11,none⟩=some (.int .u64 x.sm.c)∧W.cell? ⟨wr.heap.size,12,none⟩=some (.int .u64 x.sm.d)∧W.cell? ⟨wr.heap.size,13,none⟩=some (.slice x.body.A x.body.n x.body.c)∧W.cell? ⟨wr.heap.size,14,none⟩=some (.int .i64 x.at_)∧W.cell? ⟨wr.heap.size,15,none⟩=some (.int .i64 x.nx)):=by
    show ∀ W,_→_
    intro W hb
    have hb2:=hblk.below hb hlt0
    exact ⟨hb2.cell 0,hb2.cell 1,hb2.cell 2,hb2.cell 3,hb2.cell 4,hb2.cell 5,hb2.cell 6,hb2.cell 7,hb2.cell 8,hb2.cell 9,hb2.cell 10,hb2.cell 11,hb2.cell 12,hb2.cell 13,hb2.cell 14,hb2.cell 15⟩
   have hSp:Hid (∀ W,Below W0.heap.size W0 W→∀ yp,(∃ h:k-1<l.length,yp=(l[k-1]'h).into)→W.cell? (ad.add ((k-1)*21))=some (.string ⟨yp.toArray⟩)):=by
    show ∀ W,_→_
    intro W hb
    rintro yp ⟨h,rfl⟩
    obtain ⟨ad2,e2,-,p1,-⟩:=stage_at (hr.below ((hbW.trans (hb.mono (by omega))).mono hB)) HN.out (i:=k-1) (by omega)
    injection e2 with e2
    subst e2
    exact p1
   have hS0:=(Below.refl W0.heap.size W0).drew
   obtain ⟨into,kind,nm,frm,gd,⟨o1,o2,o3,ol⟩,ix,ct,dt,⟨sa,sb,sc,sd⟩,⟨b1,b2,b3,bl⟩,at_,nx,⟨ua,ub,uc,ud⟩,done⟩:=x
   simp only at HL hbad hgood hprev hW0 hBk hPa hBg hA0 hA1 hS
   clear hx hdr hok hxm hxr hxs hrd hblk hr hrw he hv
   as_aux_lemma =>
    obtain ⟨bPa,hbPa⟩:∃ b,b=pathB into:=⟨_,rfl⟩
    obtain ⟨bBg,hbBg⟩:∃ b,b=beginP kind nm frm gd ol ix ct dt ⟨sa,sb,sc,sd⟩:=⟨_,rfl⟩
    obtain ⟨bB,hbB⟩:∃ b,b=okL bl:=⟨_,rfl⟩
    obtain ⟨bA,hbA⟩:∃ b,b=amt at_ 0:=⟨_,rfl⟩
    obtain ⟨bX,hbX⟩:∃ b,b=amt nx 0:=⟨_,rfl⟩
    rw [← hbPa] at hbad hgood hPa
    rw [← hbBg] at hbad hgood hBg
    rw [← hbB] at hbad hgood hBk
    rw [← hbA] at hbad hgood hA0
    rw [← hbX] at hbad hgood hA1
    clear hbPa hbBg hbB hbA hbX
    go_wp2_with (first | (refine wpList_load_at rfl 103 (.tmp 10) rfl (ad.add (k*21)) rfl [.string ⟨into.toArray⟩,.int .i64 kind,.string ⟨nm.toArray⟩,.int .i64 frm,.int .i64 gd,.slice o1 o2 o3,.int .i64 ix,.int .i64 ct,.string ⟨dt.toArray⟩,.int .u64 sa,.int .u64 sb,.int .u64 sc,.int .u64 sd,.slice b1 b2 b3,.int .i64 at_,.int .i64 nx,.int .u64 ua,.int .u64 ub,.int .u64 uc,.int .u64 ud,.bool done] _ HL.out Tryz.underlying103 rfl (by kernel_rfl) ?_) | (refine wpList_store_new wr rfl 103 (.tmp 4) (.tmp 11) rfl 103 _ [.string ⟨into.toArray⟩,.int .i64 kind,.string ⟨nm.toArray⟩,.int .i64 frm,.int .i64 gd,.slice o1 o2 o3,.int .i64 ix,.int .i64 ct,.string ⟨dt.toArray⟩,.int .u64 sa,.int .u64 sb,.int .u64 sc,.int .u64 sd,.slice b1 b2 b3,.int .i64 at_,.int .i64 nx,.int .u64 ua,.int .u64 ub,.int .u64 uc,.int .u64 ud,.bool done] rfl rfl rfl (by kernel_rfl) (by simp [Value.oneCell']) ?_))
    rw [← hW0]
    obtain ⟨G,hG⟩:∃ G,G=Value.agg #[.string ⟨into.toArray⟩,.int .i64 kind,.string ⟨nm.toArray⟩,.int .i64 frm,.int .i64 gd,.slice o1 o2 o3,.int .i64 ix,.int .i64 ct,.string ⟨dt.toArray⟩,.int .u64 sa,.int .u64 sb,.int .u64 sc,.int .u64 sd,.slice b1 b2 b3,.int .i64 at_,.int .i64 nx,.int .u64 ua,.int .u64 ub,.int .u64 uc,.int .u64 ud,.bool done]:=⟨_,rfl⟩
    rw [← hG]
    clear hW0 hszW HL hG
    as_aux_lemma =>
     by_cases hin:into=[]
     ·have HB:=Lib.hid (hbad.out (.inl (by simp [hin])))
      subst hin
      clear hprev hPa hBg hBk hA0 hA1 hgood hbad
      refine wpC_regionH (fun W'=>Below W0.heap.size W0 W') (hS0) (fun OPS D QQ HO HD HD2 HQQ=>?_)
      have hgo3:=hgoL HO 3 15 rfl
      have hgo9:=hgoL HO 9 21 rfl
      have hgo12:=hgoL HO 12 24 rfl
      have hgo24:=hgoL HO 24 36 rfl
      have hgo30:=hgoL HO 30 42 rfl
      have hgo36:=hgoL HO 36 48 rfl
      have hgo42:=hgoL HO 42 54 rfl
      clear HO
      refine zX ?_
      refine zY ?_
      iterate 46 refine zX ?_
      refine wpQuiet_nil (HQQ.out _ (fun W hW=>?_))
      skip
      go_wp2_with fail
      go_ret
      exact ⟨by rw [HB.out];rfl,hbW.trans (hW.mono (by have:=HSZ.out;omega))⟩
     ·have HIN:Hid ((into == [])=false):=by show _=_;simpa using hin
      have hin1:(into == [])=false:=HIN.out
      have hin2:into.isEmpty=false:=by cases into <;> simp_all
      clear hin
      refine wpC_regionH (fun W'=>Below W0.heap.size W0 W') (hS0) (fun OPS D QQ HO HD HD2 HQQ=>?_)
      have hgo3:=hgoL HO 3 15 rfl
      have hgo9:=hgoL HO 9 21 rfl
      have hgo12:=hgoL HO 12 24 rfl
      have hgo24:=hgoL HO 24 36 rfl
      have hgo30:=hgoL HO 30 42 rfl
      have hgo36:=hgoL HO 36 48 rfl
      have hgo42:=hgoL HO 42 54 rfl
      clear HO
      refine zX ?_
      refine zY ?_
      iterate 3 refine zX ?_
      refine zY ?_
      cases bPa with
      | false =>
       as_aux_lemma =>
        have HB:=Lib.hid (hbad.out (.inr (.inl (by trivial))))
        refine zN hPa.out ?_
        iterate 41 refine zX ?_
        refine wpQuiet_nil (HQQ.out _ (fun W hW=>?_))
        skip
        go_wp2_with fail
        go_ret
        exact ⟨by rw [HB.out];rfl,hbW.trans (hW.mono (by have:=HSZ.out;omega))⟩
      | true =>
       as_aux_lemma =>
        refine zN hPa.out ?_
        iterate 4 refine zX ?_
        rcases hprev with ⟨d4,d4',d5⟩ | ⟨d4,d4',i1,i2,i3,i4,yp,d5,d6⟩
        ·as_aux_lemma =>
          iterate 15 refine zX ?_
          refine zY ?_
          cases bBg with
          | false =>
           as_aux_lemma =>
            have HB:=Lib.hid (hbad.out (.inr (.inr (.inr (.inl (by trivial))))))
            refine zN hBg.out ?_
            iterate 20 refine zX ?_
            refine wpQuiet_nil (HQQ.out _ (fun W hW=>?_))
            skip
            go_wp2_with fail
            go_ret
            exact ⟨by rw [HB.out];rfl,hbW.trans (hW.mono (by have:=HSZ.out;omega))⟩
          | true =>
           as_aux_lemma =>
            refine zN hBg.out ?_
            iterate 4 refine zX ?_
            refine zY ?_
            cases bB with
            | false =>
             as_aux_lemma =>
              have HB:=Lib.hid (hbad.out (.inr (.inr (.inr (.inr (.inl (by trivial)))))))
              refine zN hBk.out ?_
              iterate 14 refine zX ?_
              refine wpQuiet_nil (HQQ.out _ (fun W hW=>?_))
              skip
              go_wp2_with fail
              go_ret
              exact ⟨by rw [HB.out];rfl,hbW.trans (hW.mono (by have:=HSZ.out;omega))⟩
            | true =>
             as_aux_lemma =>
              refine zN hBk.out ?_
              iterate 4 refine zX ?_
              refine zY ?_
              cases bA with
              | false =>
               as_aux_lemma =>
                have HB:=Lib.hid (hbad.out (.inr (.inr (.inr (.inr (.inr (.inl (by trivial))))))))
                refine zN hA0.out ?_
                iterate 8 refine zX ?_
                refine wpQuiet_nil (HQQ.out _ (fun W hW=>?_))
                skip
                go_wp2_with fail
                go_ret
                exact ⟨by rw [HB.out];rfl,hbW.trans (hW.mono (by have:=HSZ.out;omega))⟩
              | true =>
               as_aux_lemma =>
                refine zN hA0.out ?_
                iterate 4 refine zX ?_
                refine zY ?_
                cases bX with
                | false =>
                 as_aux_lemma =>
                  have HB:=Lib.hid (hbad.out (.inr (.inr (.inr (.inr (.inr (.inr (by trivial))))))))
                  refine zN hA1.out ?_
                  iterate 2 refine zX ?_
                  refine wpQuiet_nil (HQQ.out _ (fun W hW=>?_))
                  skip
                  go_wp2_with fail
                  go_ret
                  exact ⟨by rw [HB.out];rfl,hbW.trans (hW.mono (by have:=HSZ.out;omega))⟩
                | true =>
                 as_aux_lemma =>
                  refine zN hA1.out ?_
                  iterate 2 refine zX ?_
                  refine wpQuiet_nil (HQQ.out _ (fun W hW=>?_))
                  skip
                  have HGG:=Lib.hid (hgood.out HIN.out (by trivial) d5.out (by trivial) (by trivial) (by trivial) (by trivial))
                  have hbf:=hbW.trans (hW.mono (by have:=HSZ.out;omega))
                  go_wp2_with fail
                  go_roundw
                  case rel=>exact ⟨k+1,by omega,by go_num,HGG.out,hbf⟩
                  case measure=>simp [intOf];omega
        ·as_aux_lemma =>
          have hge:=geqS 9 yp into
          iterate 7 refine zX ?_
          refine wpC_greadS (v:=?_) rfl rfl hgo12.out rfl (fun W hW=>?_) ?_
          rotate_left
          ·replace hW:=HD.out W hW
           skip
           have qp:=hSp.out W hW _ d6.out
           go_simp;try (with_reducible rfl)
          dsimp only [zB,zC]
          refine zX ?_
          refine zY ?_
          cases hbl:Op.bytesLess yp into with
          | false =>
           as_aux_lemma =>
            have HB:=Lib.hid (hbad.out (.inr (.inr (.inl (d5.out.2 hbl)))))
            rw [hbl] at hge
            iterate 27 refine zX ?_
            refine wpQuiet_nil (HQQ.out _ (fun W hW=>?_))
            skip
            go_wp2_with fail
            go_ret
            exact ⟨by rw [HB.out];rfl,hbW.trans (hW.mono (by have:=HSZ.out;omega))⟩
          | true =>
           as_aux_lemma =>
            have HG:=d5.out.1 hbl
            rw [hbl] at hge
            iterate 5 refine zX ?_
            refine zY ?_
            cases bBg with
            | false =>
             as_aux_lemma =>
              have HB:=Lib.hid (hbad.out (.inr (.inr (.inr (.inl (by trivial))))))
              refine zN hBg.out ?_
              iterate 20 refine zX ?_
              refine wpQuiet_nil (HQQ.out _ (fun W hW=>?_))
              skip
              go_wp2_with fail
              go_ret
              exact ⟨by rw [HB.out];rfl,hbW.trans (hW.mono (by have:=HSZ.out;omega))⟩
            | true =>
             as_aux_lemma =>
              refine zN hBg.out ?_
              iterate 4 refine zX ?_
              refine zY ?_
              cases bB with
              | false =>
               as_aux_lemma =>
                have HB:=Lib.hid (hbad.out (.inr (.inr (.inr (.inr (.inl (by trivial)))))))
                refine zN hBk.out ?_
                iterate 14 refine zX ?_
                refine wpQuiet_nil (HQQ.out _ (fun W hW=>?_))
                skip
                go_wp2_with fail
                go_ret
                exact ⟨by rw [HB.out];rfl,hbW.trans (hW.mono (by have:=HSZ.out;omega))⟩
              | true =>
               as_aux_lemma =>
                refine zN hBk.out ?_
                iterate 4 refine zX ?_
                refine zY ?_
                cases bA with
                | false =>
                 as_aux_lemma =>
                  have HB:=Lib.hid (hbad.out (.inr (.inr (.inr (.inr (.inr (.inl (by trivial))))))))
                  refine zN hA0.out ?_
                  iterate 8 refine zX ?_
                  refine wpQuiet_nil (HQQ.out _ (fun W hW=>?_))
                  skip
                  go_wp2_with fail
                  go_ret
                  exact ⟨by rw [HB.out];rfl,hbW.trans (hW.mono (by have:=HSZ.out;omega))⟩
                | true =>
                 as_aux_lemma =>
                  refine zN hA0.out ?_
                  iterate 4 refine zX ?_
                  refine zY ?_
                  cases bX with
                  | false =>
                   as_aux_lemma =>
                    have HB:=Lib.hid (hbad.out (.inr (.inr (.inr (.inr (.inr (.inr (by trivial))))))))
                    refine zN hA1.out ?_
                    iterate 2 refine zX ?_
                    refine wpQuiet_nil (HQQ.out _ (fun W hW=>?_))
                    skip
                    go_wp2_with fail
                    go_ret
                    exact ⟨by rw [HB.out];rfl,hbW.trans (hW.mono (by have:=HSZ.out;omega))⟩
                  | true =>
                   as_aux_lemma =>
                    refine zN hA1.out ?_
                    iterate 2 refine zX ?_
                    refine wpQuiet_nil (HQQ.out _ (fun W hW=>?_))
                    skip
                    have HGG:=Lib.hid (hgood.out HIN.out (by trivial) HG (by trivial) (by trivial) (by trivial) (by trivial))
                    have hbf:=hbW.trans (hW.mono (by have:=HSZ.out;omega))
                    go_wp2_with fail
                    go_roundw
                    case rel=>exact ⟨k+1,by omega,by go_num,HGG.out,hbf⟩
                    case measure=>simp [intOf];omega
  ·have hkn:k=n:=by omega
   have HF:Hid (V=decide (n≤4)):=by
    show _=_
    rw [HVB.out,hok.out,List.drop_of_length_le (by rw [hkn,HN.out];exact Nat.le_refl _)]
    simp [stagesFrom]
   clear hr hok he hv
   by_cases h8:n≤4
   ·have hi8:(n:Int)≤(4:Int):=by omega
    have HV1:Hid (V=true):=by show _=_;rw [HF.out,decide_eq_true h8]
    clear hkn
    go_wp2_with fail
    go_ret
    exact ⟨by rw [HV1.out];rfl,hbw⟩
   ·have hi8:¬ (n:Int)≤(4:Int):=by omega
    have HV1:Hid (V=false):=by show _=_;rw [HF.out,decide_eq_false h8]
    clear hkn
    go_wp2_with fail
    go_ret
    exact ⟨by rw [HV1.out];rfl,hbw⟩
end Go.Proofs.YtcgclpcocdappaaGreatDoor
