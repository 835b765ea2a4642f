/-
  cmp.Or at a row of two numbers; the order of grants: by their contracts. The frame of every law of this seat: from a contract 'returns true, below the old heap nothing has turned' to the row's post. A region that draws its order: calls that make memory, and stores of what they return into one box: each operation is looked at once. A wide store into a block that has been made before.
-/
import Derived.WalkKit
import Derived.WalkSpells
import Derived.Below
import Derived.Laws.OwnMore
import Derived.Deep.AppendLies
import Derived.Deep.Draws
import Derived.Laws.Rows
import Derived.Maps.AppendAt
import Derived.RegionTactic
import Derived.OwnWalk
import Derived.Deep.QuietTactic
import Derived.BigQuiet
import Derived.Lib.Hide
import Derived.Laws.CopyOwn
import Derived.IntWalk
import Derived.Deep.Quiet
import Derived.Handy
import Derived.Test.YtcgclpcocdappaaGreatDoorRows
import Derived.Orders
import Derived.Sort.Walk0
import Derived.Sort.KeysCollected
import Derived.ProofKit
import Derived.OpenShut
import Derived.ShutString
import Derived.ChangeOld
import Derived.Carry
import Derived.SizedLaws
import Derived.JoinedCond
import Derived.Deep.CondSized
import Derived.Deep.Slices
import Derived.Deep.Fields
import Derived.Lib.SmallJoins
import Derived.Deep.MidRow
import Derived.Test.YtcgclpcocdappaaGreatDoorJ0
import Derived.Test.YtcgclpcocdappaaGreatDoorJbkv1
import Derived.Test.YtcgclpcocdappaaGreatDoorJbkv3
import Derived.Test.YtcgclpcocdappaaGreatDoorJbkv4
import Derived.Test.YtcgclpcocdappaaGreatDoorJbkv7
import Derived.Test.YtcgclpcocdappaaGreatDoorJbkv8
namespace Go.Proofs.YtcgclpcocdappaaGreatDoor
open Go.RowKit
def orI2 (x y:Int):Int:=if x=0 then y else x
set_option maxRecDepth 100000 in
theorem orI2_any (x y:Int) (A:Option Addr) (c:Nat) (w:World) (B:Nat) (hr:Reads w B 1 A 2 [.int .i64 x,.int .i64 y]) :
  Calls Tryz.prog 204 #[.slice A 2 c] w fun e w'=>e=.returned (.int .i64 (orI2 x y))∧∃ q,w'=w.drewN q:=by
 obtain ⟨ad,rfl,_,hc⟩:=hr.2 (by omega)
 have h0:w.cell? ad=some (.int .i64 x):=by have:=hc 0 _ rfl;rwa [add_zero] at this
 have h1:w.cell? ⟨ad.block,ad.off+1,none⟩=some (.int .i64 y):=by have:=hc 1 _ rfl;rwa [addr_add_succ] at this
 clear hc hr
 by_cases hx:x=0
 ·subst hx
  by_cases hy:y=0
  ·subst hy
   go_enter Tryz.func204,Tryz.ntmps204
   go_wp2_with fail
   refine wp_loop_rounds 3 ?_
   rw [rounds_succ]
   go_wp2_with fail
   rw [rounds_succ]
   go_wp2_with fail
   rw [rounds_succ]
   go_wp2_with fail
   go_ret
   exact ⟨rfl,0,rfl⟩
  ·have hyb:(y == 0)=false:=by simp [hy]
   go_enter Tryz.func204,Tryz.ntmps204
   go_wp2_with fail
   refine wp_loop_rounds 3 ?_
   rw [rounds_succ]
   go_wp2_with fail
   rw [rounds_succ]
   go_wp2_with fail
   go_ret
   exact ⟨by unfold orI2;rw [if_pos rfl];rfl,0,rfl⟩
 ·have hxb:(x == 0)=false:=by simp [hx]
  go_enter Tryz.func204,Tryz.ntmps204
  go_wp2_with fail
  refine wp_loop_rounds 3 ?_
  rw [rounds_succ]
  go_wp2_with fail
  go_ret
  exact ⟨by unfold orI2;rw [if_neg hx];rfl,0,rfl⟩
theorem cmpG_or (a b c d:BS):orI2 (cmpS a c) (cmpS b d)=cmpG a b c d:=rfl
set_option maxRecDepth 100000 in
set_option maxHeartbeats 1000000 in
theorem orderG_any (a b c d:BS) (n m:Int) (w:World) :
  Calls Tryz.prog 180 #[.agg #[.string ⟨a.toArray⟩,.string ⟨b.toArray⟩,.int .i64 n],.agg #[.string ⟨c.toArray⟩,.string ⟨d.toArray⟩,.int .i64 m]] w fun e w'=>e=.returned (.int .i64 (cmpG a b c d))∧Below w.heap.size w w':=by
 obtain ⟨W0,hW0⟩:∃ W0,W0=(w.alloc (.cells #[.string ⟨a.toArray⟩,.string ⟨b.toArray⟩,.int .i64 n] 147)).alloc (.cells #[.string ⟨c.toArray⟩,.string ⟨d.toArray⟩,.int .i64 m] 147):=⟨_,rfl⟩
 have hb1:=(Below.refl w.heap.size w).alloc (Nat.le_refl _) (.cells #[.string ⟨a.toArray⟩,.string ⟨b.toArray⟩,.int .i64 n] 147)
 have hb2:=hb1.alloc hb1.size (.cells #[.string ⟨c.toArray⟩,.string ⟨d.toArray⟩,.int .i64 m] 147)
 have k0:=(Blk.new w 147 #[.string ⟨a.toArray⟩,.string ⟨b.toArray⟩,.int .i64 n]).alloc (.cells #[.string ⟨c.toArray⟩,.string ⟨d.toArray⟩,.int .i64 m] 147)
 have k1:=Blk.new (w.alloc (.cells #[.string ⟨a.toArray⟩,.string ⟨b.toArray⟩,.int .i64 n] 147)) 147 #[.string ⟨c.toArray⟩,.string ⟨d.toArray⟩,.int .i64 m]
 have e1:(w.alloc (.cells #[.string ⟨a.toArray⟩,.string ⟨b.toArray⟩,.int .i64 n] 147)).heap.size=w.heap.size+1:=by simp
 rw [e1] at k1
 rw [← hW0] at hb2 k0 k1
 have hsz:W0.heap.size=w.heap.size+2:=by rw [hW0];simp
 have hS:=Lib.hid (fun (W':World) (hB:Below W0.heap.size W0 W') =>
  (⟨(k0.below hB (by omega)).cell 0,(k0.below hB (by omega)).cell 1,(k1.below hB (by omega)).cell 0,(k1.below hB (by omega)).cell 1⟩ :
   W'.cell? ⟨w.heap.size,0,none⟩=some (.string ⟨a.toArray⟩)∧W'.cell? ⟨w.heap.size,1,none⟩=some (.string ⟨b.toArray⟩)∧W'.cell? ⟨w.heap.size+1,0,none⟩=some (.string ⟨c.toArray⟩)∧W'.cell? ⟨w.heap.size+1,1,none⟩=some (.string ⟨d.toArray⟩)))
 have HSZ:=Lib.hid hsz
 have HG:=Lib.hid (cmpG_or a b c d)
 have HB:=Lib.hid hb2
 clear k0 k1 e1 hsz hb1 hb2
 go_enter Tryz.func180,Tryz.ntmps180
 go_wp2_with fail
 rw [← hW0]
 clear hW0
 refine wp_region_good2 (by kernel_rfl) (by kernel_rfl) [(fun v _=>v=.pointer (some ⟨w.heap.size,0,none⟩)),
  (fun v _=>v=.string ⟨a.toArray⟩),
  (fun v _=>v=.pointer (some ⟨(w.heap.size+1),0,none⟩)),
  (fun v _=>v=.string ⟨c.toArray⟩),
  (fun v _=>v=.int .i64 (cmpS a c)),
  (fun v _=>v=.pointer (some ⟨w.heap.size,1,none⟩)),
  (fun v _=>v=.string ⟨b.toArray⟩),
  (fun v _=>v=.pointer (some ⟨(w.heap.size+1),1,none⟩)),
  (fun v _=>v=.string ⟨d.toArray⟩),
  (fun v _=>v=.int .i64 (cmpS b d)),
  (fun v W=>W.ownsRow w.heap.size 3 1 v 2 [.int .i64 (cmpS a c),.int .i64 (cmpS b d)]),
  (fun v _=>v=.int .i64 (cmpG a b c d)),
  (fun v _=>v=.int .i64 (cmpG a b c d))] ?_ ?_ ?_
 ·repeat' (first | exact stays_nil | refine stays_cons ?_ ?_ | exact Stays.pure | exact Stays.own _ _ _ _ _)
 ·intro i oo ho m2 W hb0 hmi hcl hdeps AA KK hA hK
  rcases i with _ | _ | _ | _ | _ | _ | _ | _ | _ | _ | _ | _ | _ | i
  ·injection ho with ho
   subst ho
   have ef2:AA.tmps[2]?.getD undef=.pointer (some ⟨w.heap.size,0,none⟩):=by rw [hA];exact tmps_free (by kernel_rfl)
   clear hA hdeps hcl hmi
   have hK0:KK (AA.put (some 5) _) _:=hK (.pointer (some ⟨w.heap.size,0,none⟩)) _ (Below.refl _ _) (Eq.refl _)
   clear hK
   go_simp
   exact hK0
  ·injection ho with ho
   subst ho
   obtain ⟨x0,hx0,hg0⟩:=hdeps ⟨0,.data⟩ (by simp) rfl
   have hg0:x0=.pointer (some ⟨w.heap.size,0,none⟩):=hg0
   subst hg0
   have e0:AA.tmps[5]?.getD undef=.pointer (some ⟨w.heap.size,0,none⟩):=by rw [hA];exact tmps_own (by kernel_rfl) hx0 (of_decide_eq_true (by kernel_rfl))
   clear hA hdeps hcl hmi hx0
   obtain ⟨c0,c1,c2,c3⟩:=hS.out W hb0
   have hK0:KK (AA.put (some 6) _) _:=hK (.string ⟨a.toArray⟩) _ (Below.refl _ _) (Eq.refl _)
   clear hK
   go_simp
   exact hK0
  ·injection ho with ho
   subst ho
   have ef3:AA.tmps[3]?.getD undef=.pointer (some ⟨(w.heap.size+1),0,none⟩):=by rw [hA];exact tmps_free (by kernel_rfl)
   clear hA hdeps hcl hmi
   have hK0:KK (AA.put (some 7) _) _:=hK (.pointer (some ⟨(w.heap.size+1),0,none⟩)) _ (Below.refl _ _) (Eq.refl _)
   clear hK
   go_simp
   exact hK0
  ·injection ho with ho
   subst ho
   obtain ⟨x2,hx2,hg2⟩:=hdeps ⟨2,.data⟩ (by simp) rfl
   have hg2:x2=.pointer (some ⟨(w.heap.size+1),0,none⟩):=hg2
   subst hg2
   have e2:AA.tmps[7]?.getD undef=.pointer (some ⟨(w.heap.size+1),0,none⟩):=by rw [hA];exact tmps_own (by kernel_rfl) hx2 (of_decide_eq_true (by kernel_rfl))
   clear hA hdeps hcl hmi hx2
   obtain ⟨c0,c1,c2,c3⟩:=hS.out W hb0
   have hK0:KK (AA.put (some 8) _) _:=hK (.string ⟨c.toArray⟩) _ (Below.refl _ _) (Eq.refl _)
   clear hK
   go_simp
   exact hK0
  ·injection ho with ho
   subst ho
   obtain ⟨x1,hx1,hg1⟩:=hdeps ⟨1,.data⟩ (by simp) rfl
   have hg1:x1=.string ⟨a.toArray⟩:=hg1
   subst hg1
   have e1:AA.tmps[6]?.getD undef=.string ⟨a.toArray⟩:=by rw [hA];exact tmps_own (by kernel_rfl) hx1 (of_decide_eq_true (by kernel_rfl))
   obtain ⟨x3,hx3,hg3⟩:=hdeps ⟨3,.data⟩ (by simp) rfl
   have hg3:x3=.string ⟨c.toArray⟩:=hg3
   subst hg3
   have e3:AA.tmps[8]?.getD undef=.string ⟨c.toArray⟩:=by rw [hA];exact tmps_own (by kernel_rfl) hx3 (of_decide_eq_true (by kernel_rfl))
   clear hA hdeps hcl hmi hx1 hx3
   have hKK:=Lib.hid hK
   clear hK
   go_simp
   refine (compareS_any a c _).mono ?_
   rintro e w5 ⟨rfl,q,rfl⟩
   exact hKK.out _ _ (below_drewN (Below.refl _ _) q) rfl
  ·injection ho with ho
   subst ho
   have ef2:AA.tmps[2]?.getD undef=.pointer (some ⟨w.heap.size,0,none⟩):=by rw [hA];exact tmps_free (by kernel_rfl)
   clear hA hdeps hcl hmi
   have hK0:KK (AA.put (some 10) _) _:=hK (.pointer (some ⟨w.heap.size,1,none⟩)) _ (Below.refl _ _) (Eq.refl _)
   clear hK
   go_simp
   exact hK0
  ·injection ho with ho
   subst ho
   obtain ⟨x5,hx5,hg5⟩:=hdeps ⟨5,.data⟩ (by simp) rfl
   have hg5:x5=.pointer (some ⟨w.heap.size,1,none⟩):=hg5
   subst hg5
   have e5:AA.tmps[10]?.getD undef=.pointer (some ⟨w.heap.size,1,none⟩):=by rw [hA];exact tmps_own (by kernel_rfl) hx5 (of_decide_eq_true (by kernel_rfl))
   clear hA hdeps hcl hmi hx5
   obtain ⟨c0,c1,c2,c3⟩:=hS.out W hb0
   have hK0:KK (AA.put (some 11) _) _:=hK (.string ⟨b.toArray⟩) _ (Below.refl _ _) (Eq.refl _)
   clear hK
   go_simp
   exact hK0
  ·injection ho with ho
   subst ho
   have ef3:AA.tmps[3]?.getD undef=.pointer (some ⟨(w.heap.size+1),0,none⟩):=by rw [hA];exact tmps_free (by kernel_rfl)
   clear hA hdeps hcl hmi
   have hK0:KK (AA.put (some 12) _) _:=hK (.pointer (some ⟨(w.heap.size+1),1,none⟩)) _ (Below.refl _ _) (Eq.refl _)
   clear hK
   go_simp
   exact hK0
  ·injection ho with ho
   subst ho
   obtain ⟨x7,hx7,hg7⟩:=hdeps ⟨7,.data⟩ (by simp) rfl
   have hg7:x7=.pointer (some ⟨(w.heap.size+1),1,none⟩):=hg7
   subst hg7
   have e7:AA.tmps[12]?.getD undef=.pointer (some ⟨(w.heap.size+1),1,none⟩):=by rw [hA];exact tmps_own (by kernel_rfl) hx7 (of_decide_eq_true (by kernel_rfl))
   clear hA hdeps hcl hmi hx7
   obtain ⟨c0,c1,c2,c3⟩:=hS.out W hb0
   have hK0:KK (AA.put (some 13) _) _:=hK (.string ⟨d.toArray⟩) _ (Below.refl _ _) (Eq.refl _)
   clear hK
   go_simp
   exact hK0
  ·injection ho with ho
   subst ho
   obtain ⟨x6,hx6,hg6⟩:=hdeps ⟨6,.data⟩ (by simp) rfl
   have hg6:x6=.string ⟨b.toArray⟩:=hg6
   subst hg6
   have e6:AA.tmps[11]?.getD undef=.string ⟨b.toArray⟩:=by rw [hA];exact tmps_own (by kernel_rfl) hx6 (of_decide_eq_true (by kernel_rfl))
   obtain ⟨x8,hx8,hg8⟩:=hdeps ⟨8,.data⟩ (by simp) rfl
   have hg8:x8=.string ⟨d.toArray⟩:=hg8
   subst hg8
   have e8:AA.tmps[13]?.getD undef=.string ⟨d.toArray⟩:=by rw [hA];exact tmps_own (by kernel_rfl) hx8 (of_decide_eq_true (by kernel_rfl))
   clear hA hdeps hcl hmi hx6 hx8
   have hKK:=Lib.hid hK
   clear hK
   go_simp
   refine (compareS_any b d _).mono ?_
   rintro e w5 ⟨rfl,q,rfl⟩
   exact hKK.out _ _ (below_drewN (Below.refl _ _) q) rfl
  ·injection ho with ho
   subst ho
   obtain ⟨x4,hx4,hg4⟩:=hdeps ⟨4,.data⟩ (by simp) rfl
   have hg4:x4=.int .i64 (cmpS a c):=hg4
   subst hg4
   have e4:AA.tmps[9]?.getD undef=.int .i64 (cmpS a c):=by rw [hA];exact tmps_own (by kernel_rfl) hx4 (of_decide_eq_true (by kernel_rfl))
   obtain ⟨x9,hx9,hg9⟩:=hdeps ⟨9,.data⟩ (by simp) rfl
   have hg9:x9=.int .i64 (cmpS b d):=hg9
   subst hg9
   have e9:AA.tmps[14]?.getD undef=.int .i64 (cmpS b d):=by rw [hA];exact tmps_own (by kernel_rfl) hx9 (of_decide_eq_true (by kernel_rfl))
   clear hA hdeps hcl hmi hx4 hx9
   have hK0:KK (AA.put (some 15) _) _:=hK _ _ ((Below.refl _ _).alloc (Nat.le_refl _) _) (own_mono (own_lit W #[.int .i64 (cmpS a c),.int .i64 (cmpS b d)] 3 2 rfl (by decide)) (by have:=hb0.size;have:=HSZ.out;omega))
   clear hK
   go_simp
   exact hK0
  ·injection ho with ho
   subst ho
   obtain ⟨x10,hx10,hg10⟩:=hdeps ⟨10,.data⟩ (by simp) rfl
   have hg10:W.ownsRow w.heap.size 3 1 x10 2 [.int .i64 (cmpS a c),.int .i64 (cmpS b d)]:=hg10
   have e10:AA.tmps[15]?.getD undef=x10:=by rw [hA];exact tmps_own (by kernel_rfl) hx10 (of_decide_eq_true (by kernel_rfl))
   clear hA hdeps hcl hmi hx10
   obtain ⟨A1,c1,rfl,_,_,hr1⟩:=own_form hg10
   have hKK:=Lib.hid hK
   clear hK hg10
   go_simp
   refine (orI2_any _ _ A1 c1 W W.heap.size hr1).mono ?_
   rintro e w5 ⟨rfl,q,rfl⟩
   exact hKK.out _ _ (below_drewN (Below.refl _ _) q) (show Value.int .i64 (orI2 (cmpS a c) (cmpS b d))=.int .i64 (cmpG a b c d) from congrArg (Value.int .i64) HG.out)
  ·injection ho with ho
   subst ho
   obtain ⟨x11,hx11,hg11⟩:=hdeps ⟨11,.data⟩ (by simp) rfl
   have hg11:x11=.int .i64 (cmpG a b c d):=hg11
   subst hg11
   have e11:AA.tmps[16]?.getD undef=.int .i64 (cmpG a b c d):=by rw [hA];exact tmps_own (by kernel_rfl) hx11 (of_decide_eq_true (by kernel_rfl))
   clear hA hdeps hcl hmi hx11
   have hK0:KK (AA.put (some 4) _) _:=hK (.int .i64 (cmpG a b c d)) _ (Below.refl _ _) (Eq.refl _)
   clear hK
   go_simp
   exact hK0
  ·simp at ho
 ·intro m W hbx hall
  obtain ⟨x0,m0,g0⟩:=hall 0 (by simp)
  replace g0:x0=.pointer (some ⟨w.heap.size,0,none⟩):=g0
  subst g0
  obtain ⟨x1,m1,g1⟩:=hall 1 (by simp)
  replace g1:x1=.string ⟨a.toArray⟩:=g1
  subst g1
  obtain ⟨x2,m2,g2⟩:=hall 2 (by simp)
  replace g2:x2=.pointer (some ⟨(w.heap.size+1),0,none⟩):=g2
  subst g2
  obtain ⟨x3,m3,g3⟩:=hall 3 (by simp)
  replace g3:x3=.string ⟨c.toArray⟩:=g3
  subst g3
  obtain ⟨x4,m4,g4⟩:=hall 4 (by simp)
  replace g4:x4=.int .i64 (cmpS a c):=g4
  subst g4
  obtain ⟨x5,m5,g5⟩:=hall 5 (by simp)
  replace g5:x5=.pointer (some ⟨w.heap.size,1,none⟩):=g5
  subst g5
  obtain ⟨x6,m6,g6⟩:=hall 6 (by simp)
  replace g6:x6=.string ⟨b.toArray⟩:=g6
  subst g6
  obtain ⟨x7,m7,g7⟩:=hall 7 (by simp)
  replace g7:x7=.pointer (some ⟨(w.heap.size+1),1,none⟩):=g7
  subst g7
  obtain ⟨x8,m8,g8⟩:=hall 8 (by simp)
  replace g8:x8=.string ⟨d.toArray⟩:=g8
  subst g8
  obtain ⟨x9,m9,g9⟩:=hall 9 (by simp)
  replace g9:x9=.int .i64 (cmpS b d):=g9
  subst g9
  obtain ⟨x10,m10,g10⟩:=hall 10 (by simp)
  replace g10:W.ownsRow w.heap.size 3 1 x10 2 [.int .i64 (cmpS a c),.int .i64 (cmpS b d)]:=g10
  obtain ⟨x11,m11,g11⟩:=hall 11 (by simp)
  replace g11:x11=.int .i64 (cmpG a b c d):=g11
  subst g11
  obtain ⟨x12,m12,g12⟩:=hall 12 (by simp)
  replace g12:x12=.int .i64 (cmpG a b c d):=g12
  subst g12
  rw [frameM_all (by kernel_rfl) [.pointer (some ⟨w.heap.size,0,none⟩),.string ⟨a.toArray⟩,.pointer (some ⟨(w.heap.size+1),0,none⟩),.string ⟨c.toArray⟩,.int .i64 (cmpS a c),.pointer (some ⟨w.heap.size,1,none⟩),.string ⟨b.toArray⟩,.pointer (some ⟨(w.heap.size+1),1,none⟩),.string ⟨d.toArray⟩,.int .i64 (cmpS b d),x10,.int .i64 (cmpG a b c d),.int .i64 (cmpG a b c d)] rfl (fun i hi=>by
    rcases i with _ | _ | _ | _ | _ | _ | _ | _ | _ | _ | _ | _ | _ | i
    ·exact m0
    ·exact m1
    ·exact m2
    ·exact m3
    ·exact m4
    ·exact m5
    ·exact m6
    ·exact m7
    ·exact m8
    ·exact m9
    ·exact m10
    ·exact m11
    ·exact m12
    ·simp at hi;omega)]
  clear hall m0 m1 m2 m3 m4 m5 m6 m7 m8 m9 m10 m11 m12
  simp only [putAll,Act.put,zA,zC,zB]
  go_wp2_with fail
  go_ret
  exact ⟨rfl,HB.out.trans (hbx.mono (by have:=HSZ.out;omega))⟩
end Go.Proofs.YtcgclpcocdappaaGreatDoor
namespace Go.Proofs.YtcgclpcocdappaaGreatDoor
open Go.ChangeShapes Go.WideShapes Go.ChangeAt Go.RowKit Go.Deep Go.Joins
open Go.ChangeMaps (open_string shut_string)
theorem Tryz.own:ownKnob Tryz.prog.godebug=none:=by kernel_rfl
theorem Tryz.laidOut:laidOutB Tryz.prog=true:=by kernel_rfl
section
variable {H:Type} {enc:TypeId×Value→H} {P:Program}
/-- may these types be read, one by one? -/
def readables (P:Program) (ts:List TypeId):Bool:=ts.all fun t=>P.readableRec t && decide (t<P.types.size)
theorem trodAll_below (hl:laidOutB P=true) {W W':World} (hb:Below W.heap.size W W') (ts:List TypeId):∀ (vs:List Value) (ds:List (DataW H)) (p:List MemPlace),readables P ts=true →
  DataW.TrodAll enc P W 0 (fun _=>true) true ts vs ds p→(∀ x∈p,x.block<W.heap.size)→DataW.TrodAll enc P W' 0 (fun b=>decide (b<W.heap.size)) true ts vs ds p:=by
 induction ts with
 | nil =>
  intro vs ds p _ h _
  match vs,ds with
  | [],[]=>exact h
  | [],_ :: _=>exact h.elim
  | _ :: _,[]=>exact h.elim
  | _ :: _,_ :: _=>exact h.elim
 | cons t ts ih =>
  intro vs ds p hr h hlt
  match vs,ds with
  | v :: vs,d :: ds =>
   obtain ⟨p1,q,h1,h2,rfl⟩:=h
   simp only [readables,List.all_cons,Bool.and_eq_true,decide_eq_true_eq] at hr
   exact ⟨p1,q,Below.trod hl hr.1.1 hr.1.2 h1 hb (fun x hx=>hlt x (by simp [hx])),ih vs ds q hr.2 h2 (fun x hx=>hlt x (by simp [hx])),rfl⟩
  | [],[]=>exact h.elim
  | [],_ :: _=>exact h.elim
  | _ :: _,[]=>exact h.elim
theorem trodAll_lt {W:World} (ts:List TypeId):∀ (vs:List Value) (ds:List (DataW H)) (p:List MemPlace),
  DataW.TrodAll enc P W 0 (fun _=>true) true ts vs ds p→∀ x∈p,x.block<W.heap.size:=by
 induction ts with
 | nil =>
  intro vs ds p h
  match vs,ds with
  | [],[]=>subst h;simp
  | [],_ :: _=>exact h.elim
  | _ :: _,[]=>exact h.elim
  | _ :: _,_ :: _=>exact h.elim
 | cons t ts ih =>
  intro vs ds p h
  match vs,ds with
  | v :: vs,d :: ds =>
   obtain ⟨p1,q,⟨m,hm⟩,h2,rfl⟩:=h
   intro x hx
   rcases List.mem_append.1 hx with hx | hx
   ·exact DataW.trod_lt m _ _ _ hm x hx
   ·exact ih vs ds q h2 x hx
  | [],[]=>exact h.elim
  | [],_ :: _=>exact h.elim
  | _ :: _,[]=>exact h.elim
/-- what a law's walk owes -/
def LawCalls (P:Program) (f:FuncId) (args:Array Value) (W:World):Prop:=Calls P f args W fun e w'=>e=.returned (.bool true)∧Below W.heap.size W w'
theorem law_post (hl:laidOutB P=true) {s:ChangeSpec} {f:FuncId} {fn:Func} {ps:List TypeId} {tb:TypeId} (htb:P.underlying tb=some .bool) (hps:fn.params.toList=ps) (hrt:fn.resultTypes=#[tb]) (hv:s.vars=[]) (hread:readables P ps=true)
  (hspec:∀ (vs:List Value) (ds:List (DataW H)) (W:World) p,DataW.TrodAll enc P W 0 (fun _=>true) true ps vs ds p→(s.fn H ds).results=[.lit (.bool true)]∧(s.fn H ds).args=ds∧(s.fn H ds).vars=[])
  (W:World) (args:Array Value) (ds gs:List (DataW H)) (before:List MemPlace)
  (hW:DataW.Whole enc P fn.params.toList s.vars false W args.toList ds gs before) (h:LawCalls P f args W) :
  Calls P f args W fun e W'=>∃ v,e=.returned v∧s.post enc P fn false true false false W args v W':=by
 refine h.mono fun e W' ⟨he,hb⟩=>?_
 subst he
 refine ⟨_,rfl,?_⟩
 have hW0:=hW
 obtain ⟨p,q,hA,hV,rfl,hfz,hnd⟩:=hW
 rw [hv] at hV
 obtain ⟨rfl,rfl⟩:=trodVars_none hV
 rw [hps] at hA
 have hs:=hspec _ _ _ _ hA
 refine ⟨ds,[],p++[],[],p,[],hW0,?_,?_,?_,hb.frame _,fun h=>by cases h⟩
 ·rw [List.append_nil,hs.1,hrt]
  exact trodAll_mk1 (shut_bool htb _)
 ·rw [List.append_nil,hs.2.1,hps]
  exact trodAll_below hl hb _ _ _ _ hread hA (trodAll_lt _ _ _ _ hA)
 ·rw [List.append_nil,hs.2.2,hv]
  rfl
/-- one argument as the form hands it over -/
structure ArgIn (enc:TypeId×Value→H) (P:Program) (W:World) (t:TypeId) (v:Value) (d:DataW H):Prop where
 ok:∃ base,Value.okWide P W .any base t v
 rd:∃ p,DataW.Trod enc P W 0 (fun _=>true) true t v d p
 wt:∀ n∈d.weights P t,n≤reachBytes
def ArgsIn (enc:TypeId×Value→H) (P:Program) (W:World):List TypeId→List Value→List (DataW H)→Prop
 | [],[],[]=>True
 | t :: ts,v :: vs,d :: ds=>ArgIn enc P W t v d∧ArgsIn enc P W ts vs ds
 | _,_,_=>False
theorem argsIn {W:World} {base:Nat} (ts:List TypeId):∀ (vs:List Value) (ds:List (DataW H)) (p:List MemPlace),DataW.TrodAll enc P W 0 (fun _=>true) true ts vs ds p →
  (∀ (j:Nat) t v,ts[j]?=some t→vs[j]?=some v→Value.okWide P W .any base t v)→(∀ n∈DataW.weightsEach P ts ds,n≤reachBytes)→ArgsIn enc P W ts vs ds:=by
 induction ts with
 | nil =>
  intro vs ds p h _ _
  match vs,ds with
  | [],[]=>trivial
  | [],_ :: _=>exact h.elim
  | _ :: _,[]=>exact h.elim
  | _ :: _,_ :: _=>exact h.elim
 | cons t ts ih =>
  intro vs ds p h hok hw
  match vs,ds with
  | v :: vs,d :: ds =>
   obtain ⟨p1,q,h1,h2,rfl⟩:=h
   simp only [DataW.weightsEach] at hw
   exact ⟨⟨⟨base,hok 0 t v rfl rfl⟩,⟨p1,h1⟩,fun n hn=>hw n (List.mem_append_left _ hn)⟩,ih vs ds q h2 (fun j t v hj hv=>hok (j+1) t v (by simpa using hj) (by simpa using hv)) (fun n hn=>hw n (List.mem_append_right _ hn))⟩
  | [],[]=>exact h.elim
  | [],_ :: _=>exact h.elim
  | _ :: _,[]=>exact h.elim
/-- THE LAW's CONTRACT, as both builders ask it -/
theorem law_contract (hl:laidOutB P=true) {s:ChangeSpec} {f:FuncId} {fn:Func} {ps:List TypeId} {tb:TypeId} (htb:P.underlying tb=some .bool) (hps:fn.params.toList=ps) (hrt:fn.resultTypes=#[tb]) (hv:s.vars=[]) (hread:readables P ps=true)
  (hspec:∀ (vs:List Value) (ds:List (DataW H)) (W:World) p,DataW.TrodAll enc P W 0 (fun _=>true) true ps vs ds p→(s.fn H ds).results=[.lit (.bool true)]∧(s.fn H ds).args=ds∧(s.fn H ds).vars=[])
  (W:World) (base:Nat) (args:Array Value) (ds gs:List (DataW H)) (before:List MemPlace)
  (hval:∀ (j:Nat) t v,fn.params[j]?=some t→args[j]?=some v→Value.okWide P W .any base t v)
  (hW:DataW.Whole enc P fn.params.toList s.vars false W args.toList ds gs before)
  (hsz:(DataW.weightsEach P (fn.params.toList++s.plain.varTypes P) (ds++gs)).all (·≤reachBytes)=true)
  (h:ArgsIn enc P W ps args.toList ds→gs=[]→LawCalls P f args W) :
  Calls P f args W fun e W'=>∃ v,e=.returned v∧s.post enc P fn false true false false W args v W':=by
 refine law_post hl htb hps hrt hv hread hspec W args ds gs before hW ?_
 obtain ⟨p,q,hA,hV,_⟩:=hW
 have hvt:s.plain.varTypes P=[]:=by simp [ChangeSpec.plain,DataSpec.varTypes,hv]
 rw [hv] at hV
 obtain ⟨rfl,rfl⟩:=trodVars_none hV
 rw [hps] at hA hsz
 rw [hvt,List.append_nil,List.append_nil] at hsz
 refine h (argsIn (base:=base) _ _ _ _ hA ?_ ?_) rfl
 ·intro j t v hj hv
  refine hval j t v ?_ ?_
  ·rw [← hps] at hj;simpa using hj
  ·simpa using hv
 ·intro n hn
  simpa using List.all_eq_true.1 hsz n hn
theorem argsIn_cons {W:World} {t:TypeId} {ts:List TypeId} {vs:List Value} {ds:List (DataW H)} (h:ArgsIn enc P W (t :: ts) vs ds):∃ v vs' d ds',vs=v :: vs'∧ds=d :: ds'∧ArgIn enc P W t v d∧ArgsIn enc P W ts vs' ds':=by
 match vs,ds with
 | v :: vs,d :: ds=>exact ⟨v,vs,d,ds,rfl,rfl,h.1,h.2⟩
 | [],[]=>exact h.elim
 | [],_ :: _=>exact h.elim
 | _ :: _,[]=>exact h.elim
theorem argsIn_nil {W:World} {vs:List Value} {ds:List (DataW H)} (h:ArgsIn enc P W [] vs ds):vs=[]∧ds=[]:=by
 match vs,ds with
 | [],[]=>exact ⟨rfl,rfl⟩
 | _ :: _,_ :: _=>exact h.elim
 | [],_ :: _=>exact h.elim
 | _ :: _,[]=>exact h.elim
/-! ### Opening arguments -/
section
variable {W:World} {t:TypeId} {v:Value} {d:DataW H}
theorem ArgIn.int {k:IntKind} (ht:P.underlying t=some (.int k)) (h:ArgIn enc P W t v d):∃ n,v=.int k n∧(Lit.int k n).wf=true:=by
 obtain ⟨⟨base,ho⟩,⟨p,hr⟩,_⟩:=h
 obtain ⟨n,hv,_,_,hw⟩:=open_int ht ho hr
 exact ⟨n,hv,hw⟩
theorem ArgIn.bool (ht:P.underlying t=some .bool) (h:ArgIn enc P W t v d):∃ n,v=.bool n:=by
 obtain ⟨⟨base,ho⟩,⟨p,hr⟩,_⟩:=h
 obtain ⟨n,hv,_⟩:=open_bool ht ho hr
 exact ⟨n,hv⟩
theorem ArgIn.string (ht:P.underlying t=some .string) (h:ArgIn enc P W t v d):∃ s:ByteArray,v=.string s∧s.size≤140737488351232∧d=.lit (.string s.data.toList):=by
 obtain ⟨⟨base,ho⟩,⟨p,hr⟩,hw⟩:=h
 obtain ⟨s,hv,rfl,_,_⟩:=open_string ht ho hr
 refine ⟨s,hv,?_,rfl⟩
 have:=hw s.data.toList.length (by simp [DataW.weights])
 simp only [reachBytes] at this
 simpa using this
theorem ArgIn.bytes {e:TypeId} (ht:P.underlying t=some (.slice e)) (he:P.underlying e=some (.int .u8)) (hc:P.cellsOf e=1) (hb:P.bytesOf e=1) (h:ArgIn enc P W t v d) :
  ∃ (A:Option Addr) (b:List UInt8) (c:Nat),v=.slice A b.length c∧b.length≤c∧c≤140737488351232∧Reads W W.heap.size 1 A b.length (bts b)∧(d=.nil∧b=[]∨∃ sp,d=.slice (b.map fun x=>.lit (.int .u8 (x.toNat:Int))) sp):=by
 obtain ⟨⟨base,ho⟩,⟨p,m,hr⟩,hw⟩:=h
 obtain ⟨A,n,c,rfl⟩:=okWide_slice ht ho
 rcases open_ints ht he hc hr with ⟨hcs,hx⟩ | ⟨x,l,cc,zs,hcs,_,hl,hm,hz,hx,hcell,hwz⟩
 ·simp [Value.cells] at hcs
  obtain ⟨rfl,rfl,rfl⟩:=hcs
  simp at hx
  exact ⟨none,[],0,rfl,Nat.le_refl _,by omega,Reads.none_,.inl ⟨hx.1,rfl⟩⟩
 ·simp [Value.cells] at hcs
  obtain ⟨rfl,rfl,rfl⟩:=hcs
  simp only [Prod.mk.injEq] at hx
  have hz':zs.length=c:=by simpa using hz
  have hcb:c≤140737488351232:=by
   have:=hw ((lits (H:=H) .u8 (zs.take n)).length+(lits (H:=H) .u8 (zs.drop n)).length) (by rw [hx.1];simp [DataW.weights,ht,hb])
   simp only [reachBytes,lits,List.length_map,List.length_take,List.length_drop] at this
   omega
  have hbyte:∀ z∈zs,((UInt8.ofNat z.toNat).toNat:Int)=z:=by
   intro z hzm
   have:=hwz z hzm
   simp [Lit.wf,IntKind.min,IntKind.max,IntKind.signed,IntKind.bits] at this
   rw [UInt8.toNat_ofNat_of_lt' (by show z.toNat<256;omega)]
   omega
  have hlen:((zs.take n).map fun z=>UInt8.ofNat z.toNat).length=n:=by simp;omega
  have hget:∀ i u,(bts ((zs.take n).map fun z=>UInt8.ofNat z.toNat))[i]?=some u→i<n∧u=.int .u8 (zs.getD i 0):=by
   intro i u hu
   have hi:i<n:=by
    have h1:=(List.getElem?_eq_some_iff.1 hu).1
    rw [bts_length,hlen] at h1
    exact h1
   refine ⟨hi,?_⟩
   have hzi:i<zs.length:=by omega
   simp [bts,hi,List.getElem?_eq_getElem hzi] at hu
   rw [← hu]
   have:=hbyte zs[i] (List.getElem_mem hzi)
   simp at this
   simp [List.getD_eq_getElem?_getD,List.getElem?_eq_getElem hzi,this]
  refine ⟨some x,(zs.take n).map fun z=>UInt8.ofNat z.toNat,c,by rw [hlen],by omega,hcb,⟨by rw [bts_length];simp,fun hn=>⟨x,rfl,?_,?_⟩⟩,.inr ⟨lits .u8 (zs.drop n),?_⟩⟩
  ·have h0:0<zs.length:=by rw [hlen] at hn;omega
   have:=World.block_lt_of_cell? W _ (hcell 0 h0)
   rwa [block_of_add] at this
  ·intro i u hu
   obtain ⟨hi,rfl⟩:=hget i u hu
   exact hcell i (by omega)
  ·rw [hx.1]
   simp only [lits,List.map_map]
   congr 1
   apply List.map_congr_left
   intro z hzm
   show _=DataW.lit (Lit.int .u8 ((UInt8.ofNat z.toNat).toNat:Int))
   rw [hbyte z (List.mem_of_mem_take hzm)]
end
end
end Go.Proofs.YtcgclpcocdappaaGreatDoor
namespace Go.Proofs.YtcgclpcocdappaaGreatDoor
open Go.RowKit
/-- the box's cells: (the store, the field, whose value is stored) -/
def fld (old:List Value) (m:Nat→Option Value):List (Nat×Nat×Nat)→Nat→Option Value
 | [],f=>old[f]?
 | (s,g,c) :: r,f=>if f=g∧(m s).isSome=true then m c else fld old m r f
def Closed (ops:Array Oper) (m:Nat→Option Value):Prop:=∀ j o',ops[j]?=some o'→(m j).isSome=true→∀ e∈o'.after,Region.binds .any e=true→(m e.on).isSome=true
theorem fld_other (old:List Value) (m:Nat→Option Value) (i:Nat) (v:Value) (hi:m i=none) (sts:List (Nat×Nat×Nat)) (hs:∀ s∈sts,s.1≠i) (hc:∀ s∈sts,(m s.1).isSome=true→(m s.2.2).isSome=true) (f:Nat):fld old (upd m i v) sts f=fld old m sts f:=by
 induction sts with
 | nil=>rfl
 | cons x r ih =>
  obtain ⟨s,g,c⟩:=x
  have h1:s≠i:=hs _ List.mem_cons_self
  have h2:=hc _ List.mem_cons_self
  simp only [fld,upd_ne m v h1]
  by_cases hh:f=g∧(m s).isSome=true
  ·rw [if_pos hh,if_pos hh]
   have h3:=h2 hh.2
   refine upd_ne m v fun e=>?_
   simp only [e,hi] at h3
   cases h3
  ·rw [if_neg hh,if_neg hh]
   exact ih (fun s hs'=>hs s (List.mem_cons_of_mem _ hs')) (fun s hs'=>hc s (List.mem_cons_of_mem _ hs'))
theorem fld_store (old:List Value) (m:Nat→Option Value) {i f c:Nat} (hi:m i=none) (u:Value) (hu:m c=some u) (sts:List (Nat×Nat×Nat)) (hmem:(i,f,c)∈sts) (hn:(sts.map (·.1)).Nodup) (hf:(sts.map (·.2.1)).Nodup) (hc:∀ s∈sts,(m s.1).isSome=true→(m s.2.2).isSome=true) (g:Nat) :
  fld old (upd m i undef) sts g=if g=f then some u else fld old m sts g:=by
 have hci:c≠i:=fun e=>by rw [e,hi] at hu;cases hu
 induction sts with
 | nil=>cases hmem
 | cons x r ih =>
  obtain ⟨s,g',c'⟩:=x
  simp only [List.map_cons,List.nodup_cons] at hn hf
  have h2:=hc _ List.mem_cons_self
  have hcr:∀ s∈r,(m s.1).isSome=true→(m s.2.2).isSome=true:=fun s hs'=>hc s (List.mem_cons_of_mem _ hs')
  rcases List.mem_cons.1 hmem with e | hmem
  ·cases e
   simp only [fld,upd_self,Option.isSome_some,and_true]
   by_cases hg:g=f
   ·rw [if_pos hg,if_pos hg,upd_ne m undef hci,hu]
   ·rw [if_neg hg,if_neg hg,if_neg (fun h=>hg h.1)]
    exact fld_other old m i undef hi r (fun s hs e=>hn.1 (by rw [← e];exact List.mem_map_of_mem (f:=(·.1)) hs)) hcr g
  ·have hsi:s≠i:=fun e=>hn.1 (by rw [e];exact List.mem_map_of_mem (f:=(·.1)) hmem)
   have hgf:g'≠f:=fun e=>hf.1 (by rw [e];exact List.mem_map_of_mem (f:=(·.2.1)) hmem)
   simp only [fld,upd_ne m undef hsi]
   by_cases hh:g=g'∧(m s).isSome=true
   ·rw [if_pos hh,if_pos hh,if_neg (fun e=>hgf (hh.1.symm.trans e))]
    have h3:=h2 hh.2
    refine upd_ne m undef fun e=>?_
    simp only [e,hi] at h3
    cases h3
   ·rw [if_neg hh,if_neg hh]
    exact ih hmem hn.2 hf.2 hcr
section
variable {P:Program} {ops:Array Oper}
def StaysB (b:Nat) (p:Value→World→Prop):Prop:=∀ v W W',p v W→W.grownBy W' (some b)→p v W'
theorem StaysB.pure {b:Nat} {q:Value→Prop}:StaysB b (fun v _=>q v):=fun _ _ _ h _=>h
theorem staysB_nil {b:Nat}:∀ p∈([]:List (Value→World→Prop)),StaysB b p:=fun _ h=>by cases h
theorem staysB_cons {b:Nat} {p:Value→World→Prop} {l:List (Value→World→Prop)} (hp:StaysB b p) (hl:∀ q∈l,StaysB b q):∀ q∈p :: l,StaysB b q:=by
 intro q hq
 rcases List.mem_cons.1 hq with rfl | h
 ·exact hp
 ·exact hl q h
theorem grown_of_below {W W':World} {r:Option Nat} (h:Below W.heap.size W W'):W.grownBy W' r:=⟨h.os,h.tape,h.output,h.size,fun k hk _=>h.block k hk⟩
theorem grown_tr {a b c:World} {r:Option Nat} (h:a.grownBy b r) (k:b.grownBy c r):a.grownBy c r :=
 ⟨k.os.trans h.os,k.tape.trans h.tape,k.output.trans h.output,Nat.le_trans h.size k.size,fun x hx hr=>(k.block x (Nat.lt_of_lt_of_le hx h.size) hr).trans (h.block x hx hr)⟩
theorem grown_box (w:World) (g i:Nat) (u:Value):w.grownBy (w.setCell ⟨g,i,none⟩ u) (some g):=⟨rfl,rfl,rfl,by simp [World.setCell],fun k _ hne=>Below.heap_setCell w ⟨g,i,none⟩ u k (fun e=>hne (by rw [e]))⟩
def stsOk (ops:Array Oper) (sts:List (Nat×Nat×Nat)) (n:Nat):Bool :=
 decide (sts.map (·.1)).Nodup && decide (sts.map (·.2.1)).Nodup && sts.all fun s=>decide (s.2.1<n) && match ops[s.1]? with
  | some o=>o.after.any fun e=>Region.binds .any e && decide (e.on=s.2.2)
  | none=>false
theorem wp_region_box {id:Nat} {a0:Act} {w:World} {Q:Exit→Act→World→Prop} (hm:P.follows .mixedOrders=true) (hok:regionOk ops a0.tmps.size=true) (b:Nat) (T:TypeId) (old:List Value) (sts:List (Nat×Nat×Nat)) (hsts:stsOk ops sts old.length=true)
  (Gs:List (Value→World→Prop)) (hst:∀ p∈Gs,StaysB b p) (hblk:Blk w b T old.toArray)
  (hstep:∀ i o,ops[i]?=some o→∀ (m:Nat→Option Value) (W:World),w.grownBy W (some b)→m i=none→Closed ops m→(∀ e∈o.after,Region.binds .any e=true→∃ v,m e.on=some v∧Says Gs e.on v W)→(∀ f,W.cell? ⟨b,f,none⟩=fld old m sts f)→(∀ f,W.frozen? ⟨b,f,none⟩=false)→b<W.heap.size →
   ∀ (A:Act) (K:Act→World→Prop),A=frameM a0 ops m→(∀ v W',Below W.heap.size W W'→Says Gs i v W'→(∀ s∈sts,s.1≠i)→K (A.put o.dst v) W')→(∀ f c u,(i,f,c)∈sts→m c=some u→Says Gs i undef (W.setCell ⟨b,f,none⟩ u)→K (A.put o.dst undef) (W.setCell ⟨b,f,none⟩ u)) →
    if Region.wanted o (yielded ops A.tmps)=true then o.wp P A W K Q else K (A.put o.dst undef) W)
  (hend:∀ (m:Nat→Option Value) (W:World),w.grownBy W (some b)→(∀ i,i<ops.size→∃ v,m i=some v∧Says Gs i v W)→(∃ cs:List Value,cs.length=old.length∧Blk W b T cs.toArray∧∀ f,cs[f]?=fld old m sts f)→Q .normal (frameM a0 ops m) W) :
  (Code.region id ops true).wp P Q a0 w:=by
 simp only [stsOk,Bool.and_eq_true,decide_eq_true_eq] at hsts
 obtain ⟨⟨hn,hf⟩,hall⟩:=hsts
 have hsay:∀ i v W W',Says Gs i v W→W.grownBy W' (some b)→Says Gs i v W':=by
  intro i v W W' h hb
  unfold Says at h ⊢
  cases hG:Gs[i]? with
  | none=>trivial
  | some p=>rw [hG] at h;exact hst p (List.mem_of_getElem? hG) v W W' h hb
 have hcs:∀ m,Closed ops m→∀ s∈sts,(m s.1).isSome=true→(m s.2.2).isSome=true:=by
  intro m hcl s hs hd
  have h1:=List.all_eq_true.1 hall s hs
  simp only [Bool.and_eq_true] at h1
  cases ho:ops[s.1]? with
  | none=>rw [ho] at h1;exact absurd h1.2 (by simp)
  | some o =>
   rw [ho] at h1
   obtain ⟨e,he,h2⟩:=Array.any_eq_true'.1 h1.2
   simp only [Bool.and_eq_true,decide_eq_true_eq] at h2
   rw [← h2.2]
   exact hcl _ _ ho hd e he h2.1
 refine wp_region_inv hm hok (fun m W=>w.grownBy W (some b)∧(∀ i v,m i=some v→Says Gs i v W)∧Closed ops m∧∃ cs:List Value,cs.length=old.length∧Blk W b T cs.toArray∧∀ f,cs[f]?=fld old m sts f) ⟨⟨rfl,rfl,rfl,Nat.le_refl _,fun _ _ _=>rfl⟩,fun _ _ h=>(by cases h),fun _ _ _ h=>(by cases h),old,rfl,hblk.drew,fun f=>?_⟩ ?_ ?_
 ·clear hn hf hall hcs hst hstep hend
  induction sts with
  | nil=>rfl
  | cons x r ih=>obtain ⟨s,g,c⟩:=x;simp only [fld,Option.isSome_none,Bool.false_eq_true,and_false,if_false];exact ih
 ·intro i o ho m W hJ hmi hdeps A K hA hK
  obtain ⟨hgr,hsy,hcl,cs,hcl2,hbk,hcf⟩:=hJ
  have hcl':∀ v,Closed ops (upd m i v):=by
   intro v j o' ho' hj e he hbi
   by_cases hei:e.on=i
   ·rw [hei,upd_self];rfl
   ·rw [upd_ne m v hei]
    by_cases hji:j=i
    ·subst hji
     rw [ho] at ho'
     cases ho'
     exact hdeps e he hbi
    ·rw [upd_ne m v hji] at hj
     exact hcl j o' ho' hj e he hbi
  have hsu:∀ v W',W.grownBy W' (some b)→Says Gs i v W'→∀ j u,upd m i v j=some u→Says Gs j u W':=by
   intro v W' hb hS j u hu
   by_cases hj:j=i
   ·subst hj
    rw [upd_self] at hu
    cases hu
    exact hS
   ·rw [upd_ne m v hj] at hu
    exact hsay j u W W' (hsy j u hu) hb
  refine hstep i o ho m W hgr hmi hcl (fun e he hb=>?_) (fun f=>by rw [hbk.cell f,zF];exact hcf f) (fun f=>hbk.frozen f) hbk.lt A K hA (fun v W' hb hS hns=>hK v W' ⟨grown_tr hgr (grown_of_below hb),hsu v W' (grown_of_below hb) hS,hcl' v,cs,hcl2,hbk.below hb hbk.lt,fun f=>?_⟩) (fun f c u hmem hu hS=>hK undef _ ⟨grown_tr hgr (grown_box W b f u),hsu undef _ (grown_box W b f u) hS,hcl' undef,cs.set f u,by rw [List.length_set];exact hcl2,?_,fun g=>?_⟩)
  ·have:=hdeps e he hb
   cases hme:m e.on with
   | none=>rw [hme] at this;cases this
   | some v=>exact ⟨v,rfl,hsy _ _ hme⟩
  ·rw [hcf f]
   exact (fld_other old m i v hmi sts hns (hcs m hcl) f).symm
  ·have:=hbk.set_ f u
   have e:cs.toArray.setIfInBounds f u=(cs.set f u).toArray:=by simp
   rw [e] at this
   exact this
  ·rw [fld_store old m hmi u hu sts hmem hn hf (hcs m hcl) g]
   have h1:=List.all_eq_true.1 hall _ hmem
   simp only [Bool.and_eq_true,decide_eq_true_eq] at h1
   by_cases hg:g=f
   ·subst hg
    rw [if_pos rfl,List.getElem?_set,if_pos rfl,if_pos (by rw [hcl2];exact h1.1)]
   ·rw [if_neg hg,List.getElem?_set,if_neg (fun e=>hg e.symm)]
    exact hcf g
 ·intro m W hJ hall
  refine hend m W hJ.1 (fun i hi=>?_) hJ.2.2.2
  have:=hall i hi
  cases hmi:m i with
  | none=>rw [hmi] at this;cases this
  | some v=>exact ⟨v,rfl,hJ.2.1 _ _ hmi⟩
end
end Go.Proofs.YtcgclpcocdappaaGreatDoor
namespace Go.Proofs.YtcgclpcocdappaaGreatDoor
open Go.RowKit
theorem Blk.setCells {g:Nat} {t:TypeId} (cs:List Value):∀ (w:World) (pre post:List Value),post.length=cs.length→Blk w g t (pre++post).toArray→Blk (w.setCells g pre.length cs) g t (pre++cs).toArray:=by
 induction cs with
 | nil =>
  intro w pre post h hb
  rw [List.eq_nil_of_length_eq_zero h] at hb
  exact hb
 | cons v cs ih =>
  intro w pre post h hb
  cases post with
  | nil=>simp at h
  | cons p post =>
   have h1:=hb.set_ pre.length v
   rw [show (pre++p :: post).toArray.setIfInBounds pre.length v=((pre++[v])++post).toArray by simp [List.set_append_right]] at h1
   have:=ih (w.setCell ⟨g,pre.length,none⟩ v) (pre++[v]) post (by simpa using h) h1
   rw [List.length_append] at this
   rw [show pre++v :: cs=pre++[v]++cs by simp]
   exact this
theorem below_setCells {B g:Nat} {a:World} (hg:B≤g) (cs:List Value):∀ (w:World) (o:Nat),Below B a w→Below B a (w.setCells g o cs):=by
 induction cs with
 | nil=>intro w o h;exact h
 | cons v cs ih=>intro w o h;exact ih _ _ (h.setCell (p:=⟨g,o,none⟩) hg v)
theorem Blk.there {w:World} {g:Nat} {t:TypeId} {cs:Array Value} (h:Blk w g t cs) (n:Nat) (hn:n≤cs.size):w.there g 0 n:=by
 intro j hj
 rw [Nat.zero_add]
 exact ⟨by rw [h.cell j];simp;omega,h.frozen j⟩
end Go.Proofs.YtcgclpcocdappaaGreatDoor
