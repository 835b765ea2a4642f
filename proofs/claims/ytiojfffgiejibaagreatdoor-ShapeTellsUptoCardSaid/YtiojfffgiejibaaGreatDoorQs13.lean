/-
  The reference's letter, Name, value, Props: by their contracts. cmp.Or at a row of two numbers; the order of grants: by their contracts. The reference's Props, SameProps: by their contracts.
-/
import Derived.Test.YtiojfffgiejibaaGreatDoorQsM1
import Derived.WalkKit
import Derived.WalkSpells
import Derived.Below
import Derived.Laws.OwnMore
import Derived.Deep.AppendLies
import Derived.Deep.Draws
import Derived.Laws.Rows
import Derived.Maps.AppendAt
import Derived.RegionTactic
import Derived.OwnWalk
import Derived.Deep.QuietTactic
import Derived.BigQuiet
import Derived.Lib.Hide
import Derived.Laws.CopyOwn
import Derived.IntWalk
import Derived.Deep.Quiet
import Derived.Test.YtiojfffgiejibaaGreatDoorRows
import Derived.Handy
import Derived.Laws.BytesString
import Derived.Laws.IdiomStrings
import Derived.Lib.ConvBytes
import Derived.Lib.Strings
import Derived.Orders
import Derived.Sort.Walk0
import Derived.Sort.KeysCollected
import Derived.Test.YtiojfffgiejibaaGreatDoorQ0
import Derived.Test.YtiojfffgiejibaaGreatDoorQs1
import Derived.Test.YtiojfffgiejibaaGreatDoorQs2
import Derived.Test.YtiojfffgiejibaaGreatDoorQs3
import Derived.Test.YtiojfffgiejibaaGreatDoorQs5
import Derived.Test.YtiojfffgiejibaaGreatDoorQs7
import Derived.Test.YtiojfffgiejibaaGreatDoorQs10
namespace Go.Proofs.YtiojfffgiejibaaGreatDoor
open Go.RowKit
set_option maxRecDepth 100000 in
theorem letter_any (c:UInt8) (w:World):Calls Tryz.prog 131 #[.int .u8 (c.toNat:Int)] w fun e w'=>e=.returned (.bool (okB c))∧w'=w:=by
 have hc:c.toNat<256:=c.toNat_lt
 have hk:=Lib.hid (okB_iff c)
 go_enter Tryz.func131,Tryz.ntmps131
 go_wp2
 all_goals go_ret
 all_goals refine ⟨congrArg Ending.returned (congrArg Value.bool ?_),rfl⟩
 all_goals rw [Bool.eq_iff_iff,hk.out]
 all_goals simp
 all_goals omega
theorem bget (s:ByteArray) (k:Nat) (h:k<s.size):s.data.toList[k]'h=s[k]'h:=rfl
set_option maxRecDepth 100000 in
set_option maxHeartbeats 1000000 in
theorem refName_s (s:ByteArray) (w:World) (hs:s.size≤140737488351232):Calls Tryz.prog 79 #[.string s] w fun e w'=>e=.returned (.bool (nameB s.data.toList))∧w'=w:=by
 have hsz:s.data.toList.length=s.size:=(Lib.size_eq s).symm
 go_enter Tryz.func79,Tryz.ntmps79
 go_wp2_with fail
 go_loopw [3] (fun i wr=>∃ k:Nat,k≤s.size∧i=.int .i64 (k:Int)∧Hid ((s.data.toList.take k).all okB=true)∧wr=w) (fun i _=>s.size-(intOf i).toNat)
 case atStart=>exact ⟨0,Nat.zero_le _,rfl,rfl,rfl⟩
 case round =>
  obtain ⟨k,hk,rfl,hok,hww⟩:=hrel
  have hww:=hww.symm
  subst hww
  by_cases hlt:k<s.size
  ·have hki:(k:Int)<(s.size:Int):=tZ1
   have hkl:k<s.data.toList.length:=tZ1
   have htk:=List.take_succ_eq_append_getElem hkl
   have hg:=bget s k hlt
   obtain ⟨y,hy⟩:∃ y,y=s[k]'hlt:=⟨_,rfl⟩
   rw [hg,← hy] at htk
   have HT:=Lib.hid htk
   have HM:=Lib.hid (show y∈s.data.toList by rw [hy,← hg];exact List.getElem_mem _)
   have hc:=letter_any y w
   obtain ⟨b,hb⟩:∃ b,b=okB y:=⟨_,rfl⟩
   rw [← hb] at hc
   have HBB:=Lib.hid hb
   have hyv:((s[k]'hlt).toNat:Int)=(y.toNat:Int):=by rw [hy]
   have HSZ:=Lib.hid hsz
   clear htk hg hy hb hsz
   go_wp2_with fail
   refine hc.mono ?_
   clear hc
   rintro e w1 ⟨rfl,rfl⟩
   cases b with
   | true =>
    exact mZ83
   | false =>
    have HN:Hid (nameB s.data.toList=false):=by
     show _=_
     unfold nameB
     have:s.data.toList.all okB=false:=by
      rw [← Bool.not_eq_true,List.all_eq_true]
      intro h
      have:=h y HM.out
      rw [← HBB.out] at this
      cases this
     rw [this,Bool.and_false]
    go_wp2_with fail
    go_ret
    exact ⟨by rw [HN.out];rfl,rfl⟩
  ·have HA:Hid (s.data.toList.all okB=true):=by
    show _=_
    have:=hok.out
    rwa [List.take_of_length_le tZ1] at this
   have HN:Hid (nameB s.data.toList=(!(s.data.toList.isEmpty) && decide (s.data.toList.length≤16))):=by
    show _=_
    unfold nameB
    rw [HA.out,Bool.and_true]
   have HE:Hid (nameB s.data.toList=true↔1≤s.size∧s.size≤16):=by
    show _↔_
    rw [HN.out,Bool.and_eq_true,decide_eq_true_eq,hsz,Bool.not_eq_true']
    constructor
    ·rintro ⟨h1,h2⟩
     refine ⟨?_,h2⟩
     rcases Nat.eq_zero_or_pos s.size with h | h
     ·rw [← hsz] at h
      rw [List.eq_nil_of_length_eq_zero h] at h1
      cases h1
     ·exact h
    ·rintro ⟨h1,h2⟩
     refine ⟨?_,h2⟩
     rw [← Bool.not_eq_true,List.isEmpty_iff]
     intro e
     rw [e] at hsz
     simp at hsz
     omega
   clear hsz HA HN hok
   by_cases h1:1≤s.size
   ·have h1i:(1:Int)≤(s.size:Int):=tZ1
    by_cases h2:s.size≤16
    ·have h2i:(s.size:Int)≤16:=tZ1
     have HV:Hid (nameB s.data.toList=true):=HE.out.2 ⟨h1,h2⟩
     exact mZ81
    ·have h2i:¬ (s.size:Int)≤16:=tZ1
     exact mZ82
   ·have h1i:¬ (1:Int)≤(s.size:Int):=tZ1
    exact mZ82
theorem refName_any (n:BS) (w:World) (hs:n.length≤140737488351232):Calls Tryz.prog 79 #[.string ⟨n.toArray⟩] w fun e w'=>e=.returned (.bool (nameB n))∧w'=w:=by
 have:=refName_s ⟨n.toArray⟩ w (by show n.length≤_;exact hs)
 simpa using this
set_option maxRecDepth 100000 in
set_option maxHeartbeats 1000000 in
theorem refValue_s (s:ByteArray) (w:World) (hs:s.size≤140737488351232):Calls Tryz.prog 170 #[.string s] w fun e w'=>e=.returned (.bool (valB s.data.toList))∧w'=w:=by
 have hsz:s.data.toList.length=s.size:=(Lib.size_eq s).symm
 go_enter Tryz.func170,Tryz.ntmps170
 go_wp2_with fail
 go_loopw [3] (fun i wr=>∃ k:Nat,k≤s.size∧i=.int .i64 (k:Int)∧Hid (∀ c∈s.data.toList.take k,32≤c.toNat∧c.toNat≤126)∧wr=w) (fun i _=>s.size-(intOf i).toNat)
 case atStart=>exact ⟨0,Nat.zero_le _,rfl,(show ∀ c∈_,_ by simp),rfl⟩
 case round =>
  obtain ⟨k,hk,rfl,hok,hww⟩:=hrel
  have hww:=hww.symm
  subst hww
  by_cases hlt:k<s.size
  ·have hki:(k:Int)<(s.size:Int):=tZ1
   have hkl:k<s.data.toList.length:=tZ1
   have htk:=List.take_succ_eq_append_getElem hkl
   have hg:=bget s k hlt
   obtain ⟨y,hy⟩:∃ y,y=s[k]'hlt:=⟨_,rfl⟩
   rw [hg,← hy] at htk
   have HT:=Lib.hid htk
   have HM:=Lib.hid (show y∈s.data.toList by rw [hy,← hg];exact List.getElem_mem _)
   have hyv:((s[k]'hlt).toNat:Int)=(y.toNat:Int):=by rw [hy]
   have hy256:=y.toNat_lt
   have HSZ:=Lib.hid hsz
   have hbad:Hid ((y.toNat<32∨126<y.toNat)→valB s.data.toList=false):=by
    show _→_
    intro h
    unfold valB
    have:s.data.toList.all (fun c=>decide (32≤c) && decide (c≤126))=false:=by
     rw [← Bool.not_eq_true,List.all_eq_true]
     intro h2
     have h3:=h2 y HM.out
     simp only [Bool.and_eq_true,decide_eq_true_eq,UInt8.le_iff_toNat_le] at h3
     have e1:(32:UInt8).toNat=32:=rfl
     have e2:(126:UInt8).toNat=126:=rfl
     omega
    rw [this,Bool.and_false]
   clear htk hg hy hsz
   by_cases h1:y.toNat<32
   ·have h1i:(y.toNat:Int)<32:=tZ1
    have HV:=Lib.hid (hbad.out (.inl h1))
    exact mZ81
   ·have h1i:¬ (y.toNat:Int)<32:=tZ1
    by_cases h2:126<y.toNat
    ·have h2i:(126:Int)<(y.toNat:Int):=tZ1
     have HV:=Lib.hid (hbad.out (.inr h2))
     exact mZ81
    ·have h2i:¬ (126:Int)<(y.toNat:Int):=tZ1
     go_wp2_with fail
     go_roundw
     case rel =>
      refine ⟨k+1,by omega,by go_num,?_,trivial⟩
      show ∀ c∈_,_
      intro c hc
      rw [HT.out,List.mem_append,List.mem_singleton] at hc
      rcases hc with hc | rfl
      ·exact hok.out c hc
      ·exact ⟨by omega,by omega⟩
     case measure=>simp [intOf];omega
  ·have HV:Hid (valB s.data.toList=decide ((s.size:Int)≤32)):=by
    show _=_
    unfold valB
    have h:=hok.out
    rw [List.take_of_length_le tZ1] at h
    have:s.data.toList.all (fun c=>decide (32≤c) && decide (c≤126))=true:=by
     rw [List.all_eq_true]
     intro c hc
     have:=h c hc
     simp only [Bool.and_eq_true,decide_eq_true_eq,UInt8.le_iff_toNat_le]
     exact this
    rw [this,Bool.and_true,hsz]
    exact decide_eq_decide.2 tZ1
   clear hsz hok
   exact mZ81
theorem refValue_any (n:BS) (w:World) (hs:n.length≤140737488351232):Calls Tryz.prog 170 #[.string ⟨n.toArray⟩] w fun e w'=>e=.returned (.bool (valB n))∧w'=w:=by
 have:=refValue_s ⟨n.toArray⟩ w (by show n.length≤_;exact hs)
 simpa using this
end Go.Proofs.YtiojfffgiejibaaGreatDoor
namespace Go.Proofs.YtiojfffgiejibaaGreatDoor
open Go.RowKit
def orI2 (x y:Int):Int:=if x=0 then y else x
set_option maxRecDepth 100000 in
theorem orI2_any (x y:Int) (A:Option Addr) (c:Nat) (w:World) (B:Nat) (hr:Reads w B 1 A 2 [.int .i64 x,.int .i64 y]) :
  Calls Tryz.prog 167 #[.slice A 2 c] w fun e w'=>e=.returned (.int .i64 (orI2 x y))∧∃ q,w'=w.drewN q:=by
 obtain ⟨ad,rfl,_,hc⟩:=hr.2 tZ1
 have h0:w.cell? ad=some (.int .i64 x):=by have:=hc 0 _ rfl;rwa [add_zero] at this
 have h1:w.cell? ⟨ad.block,ad.off+1,none⟩=some (.int .i64 y):=by have:=hc 1 _ rfl;rwa [addr_add_succ] at this
 clear hc hr
 by_cases hx:x=0
 ·subst hx
  by_cases hy:y=0
  ·subst hy
   go_enter Tryz.func167,Tryz.ntmps167
   go_wp2_with fail
   refine wp_loop_rounds 3 ?_
   rw [rounds_succ]
   go_wp2_with fail
   rw [rounds_succ]
   go_wp2_with fail
   rw [rounds_succ]
   go_wp2_with fail
   go_ret
   exact ⟨rfl,0,rfl⟩
  ·have hyb:(y == 0)=false:=by simp [hy]
   go_enter Tryz.func167,Tryz.ntmps167
   go_wp2_with fail
   refine wp_loop_rounds 3 ?_
   rw [rounds_succ]
   go_wp2_with fail
   rw [rounds_succ]
   go_wp2_with fail
   go_ret
   exact ⟨by unfold orI2;rw [if_pos rfl];rfl,0,rfl⟩
 ·have hxb:(x == 0)=false:=by simp [hx]
  go_enter Tryz.func167,Tryz.ntmps167
  go_wp2_with fail
  refine wp_loop_rounds 3 ?_
  rw [rounds_succ]
  go_wp2_with fail
  go_ret
  exact ⟨by unfold orI2;rw [if_neg hx];rfl,0,rfl⟩
theorem cmpG_or (a b c d:BS):orI2 (cmpS a c) (cmpS b d)=cmpG a b c d:=rfl
set_option maxRecDepth 100000 in
set_option maxHeartbeats 1000000 in
theorem orderG_any (a b c d:BS) (n m:Int) (w:World) :
  Calls Tryz.prog 148 #[.agg #[.string ⟨a.toArray⟩,.string ⟨b.toArray⟩,.int .i64 n],.agg #[.string ⟨c.toArray⟩,.string ⟨d.toArray⟩,.int .i64 m]] w fun e w'=>e=.returned (.int .i64 (cmpG a b c d))∧Below w.heap.size w w':=by
 obtain ⟨W0,hW0⟩:∃ W0,W0=(w.alloc (.cells #[.string ⟨a.toArray⟩,.string ⟨b.toArray⟩,.int .i64 n] 104)).alloc (.cells #[.string ⟨c.toArray⟩,.string ⟨d.toArray⟩,.int .i64 m] 104):=⟨_,rfl⟩
 have hb1:=(Below.refl w.heap.size w).alloc (Nat.le_refl _) (.cells #[.string ⟨a.toArray⟩,.string ⟨b.toArray⟩,.int .i64 n] 104)
 have hb2:=hb1.alloc hb1.size (.cells #[.string ⟨c.toArray⟩,.string ⟨d.toArray⟩,.int .i64 m] 104)
 have k0:=(Blk.new w 104 #[.string ⟨a.toArray⟩,.string ⟨b.toArray⟩,.int .i64 n]).alloc (.cells #[.string ⟨c.toArray⟩,.string ⟨d.toArray⟩,.int .i64 m] 104)
 have k1:=Blk.new (w.alloc (.cells #[.string ⟨a.toArray⟩,.string ⟨b.toArray⟩,.int .i64 n] 104)) 104 #[.string ⟨c.toArray⟩,.string ⟨d.toArray⟩,.int .i64 m]
 have e1:(w.alloc (.cells #[.string ⟨a.toArray⟩,.string ⟨b.toArray⟩,.int .i64 n] 104)).heap.size=w.heap.size+1:=tZ3
 rw [e1] at k1
 rw [← hW0] at hb2 k0 k1
 have hsz:W0.heap.size=w.heap.size+2:=by rw [hW0];simp
 have hS:=Lib.hid (fun (W':World) (hB:Below W0.heap.size W0 W') =>
  (⟨(k0.below hB tZ1).cell 0,(k0.below hB tZ1).cell 1,(k1.below hB tZ1).cell 0,(k1.below hB tZ1).cell 1⟩ :
   W'.cell? ⟨w.heap.size,0,none⟩=some (.string ⟨a.toArray⟩)∧W'.cell? ⟨w.heap.size,1,none⟩=some (.string ⟨b.toArray⟩)∧W'.cell? ⟨w.heap.size+1,0,none⟩=some (.string ⟨c.toArray⟩)∧W'.cell? ⟨w.heap.size+1,1,none⟩=some (.string ⟨d.toArray⟩)))
 have HSZ:=Lib.hid hsz
 have HG:=Lib.hid (cmpG_or a b c d)
 have HB:=Lib.hid hb2
 clear k0 k1 e1 hsz hb1 hb2
 go_enter Tryz.func148,Tryz.ntmps148
 go_wp2_with fail
 rw [← hW0]
 clear hW0
 refine wp_region_good2 tZ2 tZ2 [(fun v _=>v=.pointer (some ⟨w.heap.size,0,none⟩)),
  (fun v _=>v=.string ⟨a.toArray⟩),
  (fun v _=>v=.pointer (some ⟨(w.heap.size+1),0,none⟩)),
  (fun v _=>v=.string ⟨c.toArray⟩),
  (fun v _=>v=.int .i64 (cmpS a c)),
  (fun v _=>v=.pointer (some ⟨w.heap.size,1,none⟩)),
  (fun v _=>v=.string ⟨b.toArray⟩),
  (fun v _=>v=.pointer (some ⟨(w.heap.size+1),1,none⟩)),
  (fun v _=>v=.string ⟨d.toArray⟩),
  (fun v _=>v=.int .i64 (cmpS b d)),
  (fun v W=>W.ownsRow w.heap.size 3 1 v 2 [.int .i64 (cmpS a c),.int .i64 (cmpS b d)]),
  (fun v _=>v=.int .i64 (cmpG a b c d)),
  (fun v _=>v=.int .i64 (cmpG a b c d))] ?_ ?_ ?_
 ·repeat' (first | exact stays_nil | refine stays_cons ?_ ?_ | exact Stays.pure | exact Stays.own _ _ _ _ _)
 ·intro i oo ho m2 W hb0 hmi hcl hdeps AA KK hA hK
  rcases i with _ | _ | _ | _ | _ | _ | _ | _ | _ | _ | _ | _ | _ | i
  ·injection ho with ho
   subst ho
   have ef2:AA.tmps[2]?.getD undef=.pointer (some ⟨w.heap.size,0,none⟩):=by rw [hA];exact tmps_free tZ2
   clear hA hdeps hcl hmi
   have hK0:KK (AA.put (some 5) _) _:=hK (.pointer (some ⟨w.heap.size,0,none⟩)) _ (Below.refl _ _) (Eq.refl _)
   exact mZ84
  ·injection ho with ho
   subst ho
   obtain ⟨x0,hx0,hg0⟩:=hdeps ⟨0,.data⟩ tZ3 rfl
   have hg0:x0=.pointer (some ⟨w.heap.size,0,none⟩):=hg0
   subst hg0
   have e0:AA.tmps[5]?.getD undef=.pointer (some ⟨w.heap.size,0,none⟩):=by rw [hA];exact tmps_own tZ2 hx0 (of_decide_eq_true tZ2)
   clear hA hdeps hcl hmi hx0
   obtain ⟨c0,c1,c2,c3⟩:=hS.out W hb0
   have hK0:KK (AA.put (some 6) _) _:=hK (.string ⟨a.toArray⟩) _ (Below.refl _ _) (Eq.refl _)
   exact mZ84
  ·injection ho with ho
   subst ho
   have ef3:AA.tmps[3]?.getD undef=.pointer (some ⟨(w.heap.size+1),0,none⟩):=by rw [hA];exact tmps_free tZ2
   clear hA hdeps hcl hmi
   have hK0:KK (AA.put (some 7) _) _:=hK (.pointer (some ⟨(w.heap.size+1),0,none⟩)) _ (Below.refl _ _) (Eq.refl _)
   exact mZ84
  ·injection ho with ho
   subst ho
   obtain ⟨x2,hx2,hg2⟩:=hdeps ⟨2,.data⟩ tZ3 rfl
   have hg2:x2=.pointer (some ⟨(w.heap.size+1),0,none⟩):=hg2
   subst hg2
   have e2:AA.tmps[7]?.getD undef=.pointer (some ⟨(w.heap.size+1),0,none⟩):=by rw [hA];exact tmps_own tZ2 hx2 (of_decide_eq_true tZ2)
   clear hA hdeps hcl hmi hx2
   obtain ⟨c0,c1,c2,c3⟩:=hS.out W hb0
   have hK0:KK (AA.put (some 8) _) _:=hK (.string ⟨c.toArray⟩) _ (Below.refl _ _) (Eq.refl _)
   exact mZ84
  ·injection ho with ho
   subst ho
   obtain ⟨x1,hx1,hg1⟩:=hdeps ⟨1,.data⟩ tZ3 rfl
   have hg1:x1=.string ⟨a.toArray⟩:=hg1
   subst hg1
   have e1:AA.tmps[6]?.getD undef=.string ⟨a.toArray⟩:=by rw [hA];exact tmps_own tZ2 hx1 (of_decide_eq_true tZ2)
   obtain ⟨x3,hx3,hg3⟩:=hdeps ⟨3,.data⟩ tZ3 rfl
   have hg3:x3=.string ⟨c.toArray⟩:=hg3
   subst hg3
   have e3:AA.tmps[8]?.getD undef=.string ⟨c.toArray⟩:=by rw [hA];exact tmps_own tZ2 hx3 (of_decide_eq_true tZ2)
   clear hA hdeps hcl hmi hx1 hx3
   have hKK:=Lib.hid hK
   clear hK
   go_simp
   refine (compareS_any a c _).mono ?_
   rintro e w5 ⟨rfl,q,rfl⟩
   exact hKK.out _ _ (below_drewN (Below.refl _ _) q) rfl
  ·injection ho with ho
   subst ho
   have ef2:AA.tmps[2]?.getD undef=.pointer (some ⟨w.heap.size,0,none⟩):=by rw [hA];exact tmps_free tZ2
   clear hA hdeps hcl hmi
   have hK0:KK (AA.put (some 10) _) _:=hK (.pointer (some ⟨w.heap.size,1,none⟩)) _ (Below.refl _ _) (Eq.refl _)
   exact mZ84
  ·injection ho with ho
   subst ho
   obtain ⟨x5,hx5,hg5⟩:=hdeps ⟨5,.data⟩ tZ3 rfl
   have hg5:x5=.pointer (some ⟨w.heap.size,1,none⟩):=hg5
   subst hg5
   have e5:AA.tmps[10]?.getD undef=.pointer (some ⟨w.heap.size,1,none⟩):=by rw [hA];exact tmps_own tZ2 hx5 (of_decide_eq_true tZ2)
   clear hA hdeps hcl hmi hx5
   obtain ⟨c0,c1,c2,c3⟩:=hS.out W hb0
   have hK0:KK (AA.put (some 11) _) _:=hK (.string ⟨b.toArray⟩) _ (Below.refl _ _) (Eq.refl _)
   exact mZ84
  ·injection ho with ho
   subst ho
   have ef3:AA.tmps[3]?.getD undef=.pointer (some ⟨(w.heap.size+1),0,none⟩):=by rw [hA];exact tmps_free tZ2
   clear hA hdeps hcl hmi
   have hK0:KK (AA.put (some 12) _) _:=hK (.pointer (some ⟨(w.heap.size+1),1,none⟩)) _ (Below.refl _ _) (Eq.refl _)
   exact mZ84
  ·injection ho with ho
   subst ho
   obtain ⟨x7,hx7,hg7⟩:=hdeps ⟨7,.data⟩ tZ3 rfl
   have hg7:x7=.pointer (some ⟨(w.heap.size+1),1,none⟩):=hg7
   subst hg7
   have e7:AA.tmps[12]?.getD undef=.pointer (some ⟨(w.heap.size+1),1,none⟩):=by rw [hA];exact tmps_own tZ2 hx7 (of_decide_eq_true tZ2)
   clear hA hdeps hcl hmi hx7
   obtain ⟨c0,c1,c2,c3⟩:=hS.out W hb0
   have hK0:KK (AA.put (some 13) _) _:=hK (.string ⟨d.toArray⟩) _ (Below.refl _ _) (Eq.refl _)
   exact mZ84
  ·injection ho with ho
   subst ho
   obtain ⟨x6,hx6,hg6⟩:=hdeps ⟨6,.data⟩ tZ3 rfl
   have hg6:x6=.string ⟨b.toArray⟩:=hg6
   subst hg6
   have e6:AA.tmps[11]?.getD undef=.string ⟨b.toArray⟩:=by rw [hA];exact tmps_own tZ2 hx6 (of_decide_eq_true tZ2)
   obtain ⟨x8,hx8,hg8⟩:=hdeps ⟨8,.data⟩ tZ3 rfl
   have hg8:x8=.string ⟨d.toArray⟩:=hg8
   subst hg8
   have e8:AA.tmps[13]?.getD undef=.string ⟨d.toArray⟩:=by rw [hA];exact tmps_own tZ2 hx8 (of_decide_eq_true tZ2)
   clear hA hdeps hcl hmi hx6 hx8
   have hKK:=Lib.hid hK
   clear hK
   go_simp
   refine (compareS_any b d _).mono ?_
   rintro e w5 ⟨rfl,q,rfl⟩
   exact hKK.out _ _ (below_drewN (Below.refl _ _) q) rfl
  ·injection ho with ho
   subst ho
   obtain ⟨x4,hx4,hg4⟩:=hdeps ⟨4,.data⟩ tZ3 rfl
   have hg4:x4=.int .i64 (cmpS a c):=hg4
   subst hg4
   have e4:AA.tmps[9]?.getD undef=.int .i64 (cmpS a c):=by rw [hA];exact tmps_own tZ2 hx4 (of_decide_eq_true tZ2)
   obtain ⟨x9,hx9,hg9⟩:=hdeps ⟨9,.data⟩ tZ3 rfl
   have hg9:x9=.int .i64 (cmpS b d):=hg9
   subst hg9
   have e9:AA.tmps[14]?.getD undef=.int .i64 (cmpS b d):=by rw [hA];exact tmps_own tZ2 hx9 (of_decide_eq_true tZ2)
   clear hA hdeps hcl hmi hx4 hx9
   have hK0:KK (AA.put (some 15) _) _:=hK _ _ ((Below.refl _ _).alloc (Nat.le_refl _) _) (own_mono (own_lit W #[.int .i64 (cmpS a c),.int .i64 (cmpS b d)] 3 2 rfl tZ4) (by have:=hb0.size;have:=HSZ.out;omega))
   exact mZ84
  ·injection ho with ho
   subst ho
   obtain ⟨x10,hx10,hg10⟩:=hdeps ⟨10,.data⟩ tZ3 rfl
   have hg10:W.ownsRow w.heap.size 3 1 x10 2 [.int .i64 (cmpS a c),.int .i64 (cmpS b d)]:=hg10
   have e10:AA.tmps[15]?.getD undef=x10:=by rw [hA];exact tmps_own tZ2 hx10 (of_decide_eq_true tZ2)
   clear hA hdeps hcl hmi hx10
   obtain ⟨A1,c1,rfl,_,_,hr1⟩:=own_form hg10
   have hKK:=Lib.hid hK
   clear hK hg10
   go_simp
   refine (orI2_any _ _ A1 c1 W W.heap.size hr1).mono ?_
   rintro e w5 ⟨rfl,q,rfl⟩
   exact hKK.out _ _ (below_drewN (Below.refl _ _) q) (show Value.int .i64 (orI2 (cmpS a c) (cmpS b d))=.int .i64 (cmpG a b c d) from congrArg (Value.int .i64) HG.out)
  ·injection ho with ho
   subst ho
   obtain ⟨x11,hx11,hg11⟩:=hdeps ⟨11,.data⟩ tZ3 rfl
   have hg11:x11=.int .i64 (cmpG a b c d):=hg11
   subst hg11
   have e11:AA.tmps[16]?.getD undef=.int .i64 (cmpG a b c d):=by rw [hA];exact tmps_own tZ2 hx11 (of_decide_eq_true tZ2)
   clear hA hdeps hcl hmi hx11
   have hK0:KK (AA.put (some 4) _) _:=hK (.int .i64 (cmpG a b c d)) _ (Below.refl _ _) (Eq.refl _)
   exact mZ84
  ·simp at ho
 ·intro m W hbx hall
  obtain ⟨x0,m0,g0⟩:=hall 0 tZ3
  replace g0:x0=.pointer (some ⟨w.heap.size,0,none⟩):=g0
  subst g0
  obtain ⟨x1,m1,g1⟩:=hall 1 tZ3
  replace g1:x1=.string ⟨a.toArray⟩:=g1
  subst g1
  obtain ⟨x2,m2,g2⟩:=hall 2 tZ3
  replace g2:x2=.pointer (some ⟨(w.heap.size+1),0,none⟩):=g2
  subst g2
  obtain ⟨x3,m3,g3⟩:=hall 3 tZ3
  replace g3:x3=.string ⟨c.toArray⟩:=g3
  subst g3
  obtain ⟨x4,m4,g4⟩:=hall 4 tZ3
  replace g4:x4=.int .i64 (cmpS a c):=g4
  subst g4
  obtain ⟨x5,m5,g5⟩:=hall 5 tZ3
  replace g5:x5=.pointer (some ⟨w.heap.size,1,none⟩):=g5
  subst g5
  obtain ⟨x6,m6,g6⟩:=hall 6 tZ3
  replace g6:x6=.string ⟨b.toArray⟩:=g6
  subst g6
  obtain ⟨x7,m7,g7⟩:=hall 7 tZ3
  replace g7:x7=.pointer (some ⟨(w.heap.size+1),1,none⟩):=g7
  subst g7
  obtain ⟨x8,m8,g8⟩:=hall 8 tZ3
  replace g8:x8=.string ⟨d.toArray⟩:=g8
  subst g8
  obtain ⟨x9,m9,g9⟩:=hall 9 tZ3
  replace g9:x9=.int .i64 (cmpS b d):=g9
  subst g9
  obtain ⟨x10,m10,g10⟩:=hall 10 tZ3
  replace g10:W.ownsRow w.heap.size 3 1 x10 2 [.int .i64 (cmpS a c),.int .i64 (cmpS b d)]:=g10
  obtain ⟨x11,m11,g11⟩:=hall 11 tZ3
  replace g11:x11=.int .i64 (cmpG a b c d):=g11
  subst g11
  obtain ⟨x12,m12,g12⟩:=hall 12 tZ3
  replace g12:x12=.int .i64 (cmpG a b c d):=g12
  subst g12
  rw [frameM_all tZ2 [.pointer (some ⟨w.heap.size,0,none⟩),.string ⟨a.toArray⟩,.pointer (some ⟨(w.heap.size+1),0,none⟩),.string ⟨c.toArray⟩,.int .i64 (cmpS a c),.pointer (some ⟨w.heap.size,1,none⟩),.string ⟨b.toArray⟩,.pointer (some ⟨(w.heap.size+1),1,none⟩),.string ⟨d.toArray⟩,.int .i64 (cmpS b d),x10,.int .i64 (cmpG a b c d),.int .i64 (cmpG a b c d)] rfl (fun i hi=>by
   rcases i with _ | _ | _ | _ | _ | _ | _ | _ | _ | _ | _ | _ | _ | i
   ·exact m0
   ·exact m1
   ·exact m2
   ·exact m3
   ·exact m4
   ·exact m5
   ·exact m6
   ·exact m7
   ·exact m8
   ·exact m9
   ·exact m10
   ·exact m11
   ·exact m12
   ·simp at hi;omega)]
  clear hall m0 m1 m2 m3 m4 m5 m6 m7 m8 m9 m10 m11 m12
  simp only [putAll,Act.put,zA,zC,zB]
  go_wp2_with fail
  go_ret
  exact ⟨rfl,HB.out.trans (hbx.mono tZ6)⟩
end Go.Proofs.YtiojfffgiejibaaGreatDoor
namespace Go.Proofs.YtiojfffgiejibaaGreatDoor
open Go.RowKit
theorem quietN {P:Program} {f:FuncId} {args:Array Value} {w:World} {p m:Nat} {v:Value} (h:Calls P f args (w.drewN (p+m)) fun e w'=>e=.returned v∧w'=w.drewN (p+m)) :
  Calls P f args (w.drewN (p+m)) fun e w''=>e=.returned v∧∃ n,w''=w.drewN (p+n):=h.mono fun _ _ ⟨h1,h2⟩=>⟨h1,m,h2⟩
set_option maxRecDepth 100000 in
set_option maxHeartbeats 2000000 in
theorem refProps_any (l:PL) (n:Nat) (hnl:n=l.length) (A:Option Addr) (c:Nat) (w:World) (B:Nat) (hr:Reads w B 2 A n (pcells l)) (hn:n≤5000000000000) (hv:∀ x∈l,x.1.length≤140737488351232∧x.2.length≤140737488351232) :
  Calls Tryz.prog 154 #[.slice A n c] w fun e w'=>e=.returned (.int .i64 (propsE l))∧∃ q,w'=w.drewN q:=by
 have HN:=Lib.hid hnl
 obtain ⟨E,hE⟩:∃ E,E=propsE l:=⟨_,rfl⟩
 have hPE:Hid (∀ b,propsFrom none l=b→E=if b=true∧n≤8 then 0 else 9):=by
  show ∀ b,_→_
  rintro b rfl
  rw [hE]
  unfold propsE propsB
  rw [← hnl]
  by_cases h8:n≤8
  ·simp [h8]
  ·simp [h8]
 rw [← hE]
 clear hnl hE
 go_enter Tryz.func154,Tryz.ntmps154
 go_wp2_with fail
 go_loopw [3] (fun j wr=>∃ k:Nat,k≤n∧j=.int .i64 (k:Int)∧Hid (propsFrom none l=propsFrom (prevP l k) (l.drop k))∧∃ p,wr=w.drewN p) (fun j _=>n-(intOf j).toNat)
 case atStart=>exact ⟨0,Nat.zero_le _,rfl,rfl,0,rfl⟩
 case round =>
  obtain ⟨k,hk,rfl,hok,p,rfl⟩:=hrel
  by_cases hlt:k<n
  ·obtain ⟨ad,rfl,hadB,c0,c1⟩:=hr.prop HN.out hlt
   have hki:(k:Int)<(n:Int):=tZ1
   have hkl:k<l.length:=tZ9
   obtain ⟨x,hx⟩:∃ x,x=l[k]'hkl:=⟨_,rfl⟩
   have hxl:=hv x tZ12
   rw [← hx] at c0 c1
   have hdr:=List.drop_eq_getElem_cons hkl
   rw [← hx] at hdr
   have HX:=Lib.hid hx
   have HDR:=Lib.hid hdr
   obtain ⟨xn,xv⟩:=x
   simp only [strV] at c0 c1 hxl
   have hbad:Hid ((nameB xn=false∨valB xv=false∨(∃ y,prevP l k=some y∧Op.bytesLess y xn=false))→E=9):=by
    exact mZ16
   have hgood:Hid (nameB xn=true→valB xv=true→(∀ y,prevP l k=some y→Op.bytesLess y xn=true)→propsFrom none l=propsFrom (prevP l (k+1)) (l.drop (k+1))):=by
    exact mZ15
   have hN:∀ m,Calls Tryz.prog 79 #[.string ⟨xn.toArray⟩] (w.drewN (p+m)) fun e W'=>e=.returned (.bool (nameB xn))∧∃ n,W'=w.drewN (p+n):=fun m=>quietN (refName_any xn _ hxl.1)
   have hV:∀ m,Calls Tryz.prog 170 #[.string ⟨xv.toArray⟩] (w.drewN (p+m)) fun e W'=>e=.returned (.bool (valB xv))∧∃ n,W'=w.drewN (p+n):=fun m=>quietN (refValue_any xv _ hxl.2)
   clear hx hdr hok hxl hv
   obtain ⟨bn,hbn0⟩:∃ b,b=nameB xn:=⟨_,rfl⟩
   obtain ⟨bv,hbv0⟩:∃ b,b=valB xv:=⟨_,rfl⟩
   rw [← hbn0] at hbad hgood hN
   rw [← hbv0] at hbad hgood hV
   clear hbn0 hbv0
   cases bn with
   | false =>
    have HB:=Lib.hid (hbad.out (.inl rfl))
    clear hr hbad hgood hV
    go_wp2_with fail
    go_big_quiet ((go_at_call 79;exact hN _))
    clear hN
    exact mZ87
   | true =>
    cases bv with
    | false =>
     have HB:=Lib.hid (hbad.out (.inr (.inl rfl)))
     clear hr hbad hgood
     go_wp2_with fail
     go_big_quiet (first | (go_at_call 79;exact hN _) | (go_at_call 170;exact hV _))
     clear hN hV
     exact mZ87
    | true =>
     rcases Nat.eq_zero_or_pos k with h0 | h0
     ·have HG:=Lib.hid (hgood.out rfl rfl (fun y hy=>by subst h0;cases hy))
      have d4:decide ((0:Int)<(k:Int))=false:=tZ7
      have d4':decide (0<k)=false:=tZ7
      clear h0 hr hbad hgood
      go_wp2_with fail
      go_big_quiet (first | (go_at_call 79;exact hN _) | (go_at_call 170;exact hV _))
      clear hN hV
      exact mZ88
     ·have d4:decide ((0:Int)<(k:Int))=true:=tZ7
      have d4':decide (0<k)=true:=tZ7
      have hk1l:k-1<l.length:=tZ1
      obtain ⟨y,hy⟩:∃ y,y=(l[k-1]'hk1l).1:=⟨_,rfl⟩
      have hpv:prevP l k=some y:=by
       exact mZ14
      obtain ⟨ad2,e2,-,c2,-⟩:=(hr.prop HN.out (k:=k-1) tZ1)
      injection e2 with e2
      subst e2
      rw [← hy] at c2
      simp only [strV] at c2
      have i1:(1:Int)≤(k:Int):=tZ1
      have i2:(k:Int)-1<(n:Int):=tZ1
      have i3:IntKind.i64.wrap ((k:Int)-1)=(k:Int)-1:=IntWalk.i64_in _ tZ1
      have i4:((k:Int)-1).toNat=k-1:=tZ1
      have hleq:=leqS 9 xn y
      cases hcmp:Op.bytesLess y xn with
      | true =>
       have HG:=Lib.hid (hgood.out rfl rfl (fun y' hy'=>by rw [hpv] at hy';cases hy';exact hcmp))
       have f1:(Op.bytesLess xn y || xn == y)=false:=by
        exact mZ89
       rw [f1] at hleq
       clear hr hbad hgood h0 hpv hy hcmp f1
       go_wp2_with fail
       go_big_quiet (first | (go_at_call 79;exact hN _) | (go_at_call 170;exact hV _))
       clear hN hV hleq
       exact mZ88
      | false =>
       have HB:=Lib.hid (hbad.out (.inr (.inr ⟨y,hpv,hcmp⟩)))
       have f1:(Op.bytesLess xn y || xn == y)=true:=by
        by_cases e:xn=y
        ·simp [e]
        ·rw [bl_tri y xn hcmp (fun h=>e h.symm)];rfl
       rw [f1] at hleq
       clear hr hbad hgood h0 hpv hy hcmp f1
       go_wp2_with fail
       go_big_quiet (first | (go_at_call 79;exact hN _) | (go_at_call 170;exact hV _))
       clear hN hV hleq
       exact mZ87
  ·have hkn:k=n:=tZ1
   have hF:Hid (E=if n≤8 then 0 else 9):=by
    exact mZ86
   clear hok hr hkn hPE
   by_cases h8:n≤8
   ·have hi8:¬ (8:Int)<(n:Int):=tZ1
    have HV:Hid (E=0):=tZ138
    exact mZ85
   ·have hi8:(8:Int)<(n:Int):=tZ1
    have HV:Hid (E=9):=tZ139
    exact mZ85
set_option maxRecDepth 100000 in
set_option maxHeartbeats 1000000 in
theorem sameProps_any (a b:PL) (n m:Nat) (hna:n=a.length) (hmb:m=b.length) (A1 A2:Option Addr) (c1 c2:Nat) (w:World) (B1 B2:Nat) (hr1:Reads w B1 2 A1 n (pcells a)) (hr2:Reads w B2 2 A2 m (pcells b)) (hn:n≤5000000000000) (hm:m≤5000000000000) :
  Calls Tryz.prog 119 #[.slice A1 n c1,.slice A2 m c2] w fun e w'=>e=.returned (.bool (decide (a=b)))∧∃ q,w'=w.drewN q:=by
 have HN:=Lib.hid hna
 have HM:=Lib.hid hmb
 clear hna hmb
 by_cases hnm:n=m
 ·subst hnm
  go_enter Tryz.func119,Tryz.ntmps119
  go_wp2_with fail
  go_loopw [5] (fun i wr=>∃ k:Nat,k≤n∧i=.int .i64 (k:Int)∧Hid (a.take k=b.take k)∧∃ q,wr=w.drewN q) (fun i _=>n-(intOf i).toNat)
  case atStart=>exact ⟨0,Nat.zero_le _,rfl,(show a.take 0=b.take 0 by simp),0,rfl⟩
  case round =>
   obtain ⟨k,hk,rfl,hok,q,rfl⟩:=hrel
   by_cases hlt:k<n
   ·have hki:(k:Int)<(n:Int):=tZ1
    have hka:k<a.length:=tZ9
    have hkb:k<b.length:=tZ102
    obtain ⟨ad1,rfl,_,hc1,hc1'⟩:=hr1.prop HN.out hlt
    obtain ⟨ad2,rfl,_,hc2,hc2'⟩:=hr2.prop HM.out hlt
    obtain ⟨x,hx⟩:∃ x,x=a[k]'hka:=⟨_,rfl⟩
    obtain ⟨y,hy⟩:∃ y,y=b[k]'hkb:=⟨_,rfl⟩
    rw [← hx] at hc1 hc1'
    rw [← hy] at hc2 hc2'
    have t1:=List.take_succ_eq_append_getElem hka
    have t2:=List.take_succ_eq_append_getElem hkb
    rw [← hx] at t1
    rw [← hy] at t2
    have T1:=Lib.hid t1
    have T2:=Lib.hid t2
    have X1:=Lib.hid hx
    have X2:=Lib.hid hy
    obtain ⟨xn,xv⟩:=x
    obtain ⟨yn,yv⟩:=y
    simp only [strV] at hc1 hc1' hc2 hc2'
    clear hx hy t1 t2 hr1 hr2
    by_cases hxy:xn=yn∧xv=yv
    ·obtain ⟨rfl,rfl⟩:=hxy
     exact mZ91
    ·have HD:Hid (decide (a=b)=false):=by
      show _=_
      refine decide_eq_false (fun e=>hxy ?_)
      have:(xn,xv)=(yn,yv):=tZ126
      exact ⟨congrArg Prod.fst this,congrArg Prod.snd this⟩
     by_cases hxn:xn=yn
     ·have hxv:¬ xv=yv:=fun e=>hxy ⟨hxn,e⟩
      subst hxn
      clear hxy
      exact mZ90
     ·clear hxy
      exact mZ90
   ·have HD:Hid (decide (a=b)=true):=by
     show _=_
     refine decide_eq_true ?_
     have:=hok.out
     rwa [List.take_of_length_le tZ9,List.take_of_length_le tZ102] at this
    clear hr1 hr2
    go_wp2_with fail
    go_ret
    exact ⟨by rw [HD.out];rfl,q,rfl⟩
 ·have hd:((n:Int) != (m:Int))=true:=tZ7
  have HD:Hid (decide (a=b)=false):=by
   show _=_
   refine decide_eq_false (fun e=>hnm ?_)
   rw [HN.out,HM.out,e]
  clear hnm hr1 hr2
  go_enter Tryz.func119,Tryz.ntmps119
  go_wp2_with fail
  go_ret
  exact ⟨by rw [HD.out];rfl,0,rfl⟩
end Go.Proofs.YtiojfffgiejibaaGreatDoor
