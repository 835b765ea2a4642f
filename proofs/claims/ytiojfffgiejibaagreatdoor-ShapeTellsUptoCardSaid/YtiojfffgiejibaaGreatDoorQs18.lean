/-
  tree.copySet, tree.copyStage, tree.Copy, over any contracts of what they call.
-/
import Derived.Test.YtiojfffgiejibaaGreatDoorQsM1
import Derived.Deep.DeepCutAuto
import Derived.WalkKit
import Derived.WalkSpells
import Derived.Below
import Derived.Laws.OwnMore
import Derived.Deep.AppendLies
import Derived.Deep.Draws
import Derived.Laws.Rows
import Derived.Maps.AppendAt
import Derived.RegionTactic
import Derived.OwnWalk
import Derived.Deep.QuietTactic
import Derived.BigQuiet
import Derived.Lib.Hide
import Derived.Laws.CopyOwn
import Derived.IntWalk
import Derived.Deep.Quiet
import Derived.Handy
import Derived.Test.YtiojfffgiejibaaGreatDoorRows
import Derived.ProofKit
import Derived.OpenShut
import Derived.ShutString
import Derived.ChangeOld
import Derived.Carry
import Derived.SizedLaws
import Derived.JoinedCond
import Derived.Deep.CondSized
import Derived.Deep.Slices
import Derived.Deep.Fields
import Derived.Lib.SmallJoins
import Derived.Orders
import Derived.Sort.Walk0
import Derived.Sort.KeysCollected
import Derived.Laws.BytesString
import Derived.Laws.IdiomStrings
import Derived.Lib.ConvBytes
import Derived.Lib.Strings
import Derived.Deep.MidRow
import Derived.Test.YtiojfffgiejibaaGreatDoorQ0
import Derived.Test.YtiojfffgiejibaaGreatDoorQs1
import Derived.Test.YtiojfffgiejibaaGreatDoorQs5
import Derived.Test.YtiojfffgiejibaaGreatDoorQs7
import Derived.Test.YtiojfffgiejibaaGreatDoorQs10
import Derived.Test.YtiojfffgiejibaaGreatDoorQs11
import Derived.Test.YtiojfffgiejibaaGreatDoorQs16
import Derived.Test.YtiojfffgiejibaaGreatDoorQs17
namespace Go.Proofs.YtiojfffgiejibaaGreatDoor
open Go.RowKit
theorem results_cell {P:Program} {fn:Func} {tmps:Array Value} {a:Tmp} {t:TypeId} {ad:Addr} {v:Value} {w:World} (hr:fn.results=#[.cell a t]) (ha:tmps[a]?.getD undef=.pointer (some ad)) (hl:(loadVar t ad).run P w=.ok v w):(results fn tmps).run P w=.ok v w:=by
 simp [results,hr,ha,hl,asAddr]
set_option maxRecDepth 100000 in
set_option maxHeartbeats 4000000 in
theorem copySet_abs (pa og:BS) (b1:Option Addr) (b2 b3:Nat) (s1:Option Addr) (s2 s3:Nat) (o1:Option Addr) (o2 o3:Nat) (w:World)
  (Qb:World→Value→Prop) (hqb:∀ W W' v r,Qb W v→W.grownBy W' (some r)→r<w.heap.size+2→Qb W' v)
  (hCb:∀ W,Below w.heap.size w W→w.heap.size+2≤W.heap.size→Calls Tryz.prog 69 #[.slice b1 b2 b3] W fun e w'=>∃ A n c,e=.returned (.slice A n c)∧Qb w' (.slice A n c)∧Below W.heap.size W w')
  (Qo:World→Value→Prop) (hqo:∀ W W' v r,Qo W v→W.grownBy W' (some r)→r<w.heap.size+2→Qo W' v)
  (hCo:∀ W,Below w.heap.size w W→w.heap.size+2≤W.heap.size→Calls Tryz.prog 70 #[.slice o1 o2 o3] W fun e w'=>∃ A n c,e=.returned (.slice A n c)∧Qo w' (.slice A n c)∧Below W.heap.size W w')
  (Qz:World→Value→Prop) (hqz:∀ W W' v r,Qz W v→W.grownBy W' (some r)→r<w.heap.size+2→Qz W' v)
  (hCz:∀ W,Below w.heap.size w W→w.heap.size+2≤W.heap.size→Calls Tryz.prog 142 #[.slice s1 s2 s3,.func (.func 143) #[] #[]] W fun e w'=>∃ A n c,e=.returned (.slice A n c)∧Qz w' (.slice A n c)∧Below W.heap.size W w') :
  Calls Tryz.prog 99 #[.agg #[.string ⟨pa.toArray⟩,.string ⟨og.toArray⟩,.slice b1 b2 b3,.slice s1 s2 s3,.slice o1 o2 o3]] w fun e w'=>∃ Ab nb cb Ao no co Az nz cz,e=.returned (.agg #[.string ⟨pa.toArray⟩,.string ⟨og.toArray⟩,.slice Ab nb cb,.slice Az nz cz,.slice Ao no co])∧Qb w' (.slice Ab nb cb)∧Qo w' (.slice Ao no co)∧Qz w' (.slice Az nz cz)∧Below w.heap.size w w':=by
 go_enter Tryz.func99,Tryz.ntmps99
 go_upto_region 1 with (fail)
 have kB:=(Blk.new w 56 #[.string ⟨pa.toArray⟩,.string ⟨og.toArray⟩,.slice b1 b2 b3,.slice s1 s2 s3,.slice o1 o2 o3]).alloc (.cells #[.string ⟨#[]⟩,.string ⟨#[]⟩,.slice none 0 0,.slice none 0 0,.slice none 0 0] 56)
 have kZ:=Blk.new (w.alloc (.cells #[.string ⟨pa.toArray⟩,.string ⟨og.toArray⟩,.slice b1 b2 b3,.slice s1 s2 s3,.slice o1 o2 o3] 56)) 56 #[.string ⟨#[]⟩,.string ⟨#[]⟩,.slice none 0 0,.slice none 0 0,.slice none 0 0]
 rw [show (w.alloc (.cells #[.string ⟨pa.toArray⟩,.string ⟨og.toArray⟩,.slice b1 b2 b3,.slice s1 s2 s3,.slice o1 o2 o3] 56)).heap.size=w.heap.size+1 by simp] at kZ
 have hb2:=((Below.refl w.heap.size w).alloc (Nat.le_refl _) (.cells #[.string ⟨pa.toArray⟩,.string ⟨og.toArray⟩,.slice b1 b2 b3,.slice s1 s2 s3,.slice o1 o2 o3] 56)).alloc tZ3 (.cells #[.string ⟨#[]⟩,.string ⟨#[]⟩,.slice none 0 0,.slice none 0 0,.slice none 0 0] 56)
 obtain ⟨W2,hW2⟩:∃ W,W=(w.alloc (.cells #[.string ⟨pa.toArray⟩,.string ⟨og.toArray⟩,.slice b1 b2 b3,.slice s1 s2 s3,.slice o1 o2 o3] 56)).alloc (.cells #[.string ⟨#[]⟩,.string ⟨#[]⟩,.slice none 0 0,.slice none 0 0,.slice none 0 0] 56):=⟨_,rfl⟩
 have hsz:W2.heap.size=w.heap.size+2:=tZ40
 rw [← hW2] at kB kZ hb2 ⊢
 have hsz2:w.heap.size+2≤W2.heap.size:=tZ1
 have hlow:∀ W,W2.grownBy W (some w.heap.size)→Below w.heap.size w W:=fun W h=>hb2.grown h tZ1 (fun k hk=>by simp at hk;omega)
 clear hW2 hb2 hsz
 refine wp_region_box tZ2 tZ2 w.heap.size 56 [.string ⟨pa.toArray⟩,.string ⟨og.toArray⟩,.slice b1 b2 b3,.slice s1 s2 s3,.slice o1 o2 o3] [(10,2,2),(12,4,5),(14,3,8)] tZ2 [(fun v _=>v=.pointer (some ⟨w.heap.size,2,none⟩)),
  (fun v _=>v=.slice b1 b2 b3),
  (fun v W=>∃ A n c,v=.slice A n c∧Qb W (.slice A n c)),
  (fun v _=>v=.pointer (some ⟨w.heap.size,4,none⟩)),
  (fun v _=>v=.slice o1 o2 o3),
  (fun v W=>∃ A n c,v=.slice A n c∧Qo W (.slice A n c)),
  (fun v _=>v=.pointer (some ⟨w.heap.size,3,none⟩)),
  (fun v _=>v=.slice s1 s2 s3),
  (fun v W=>∃ A n c,v=.slice A n c∧Qz W (.slice A n c)),
  (fun v _=>v=.pointer (some ⟨w.heap.size,2,none⟩)),
  (fun v _=>v=undef),
  (fun v _=>v=.pointer (some ⟨w.heap.size,4,none⟩)),
  (fun v _=>v=undef),
  (fun v _=>v=.pointer (some ⟨w.heap.size,3,none⟩)),
  (fun v _=>v=undef)] (staysB_cons StaysB.pure (staysB_cons StaysB.pure (staysB_cons (fun v W W' h hg=>let ⟨A,n,c,h1,h2⟩:=h;⟨A,n,c,h1,hqb _ _ _ _ h2 hg tZ1⟩) (staysB_cons StaysB.pure (staysB_cons StaysB.pure (staysB_cons (fun v W W' h hg=>let ⟨A,n,c,h1,h2⟩:=h;⟨A,n,c,h1,hqo _ _ _ _ h2 hg tZ1⟩) (staysB_cons StaysB.pure (staysB_cons StaysB.pure (staysB_cons (fun v W W' h hg=>let ⟨A,n,c,h1,h2⟩:=h;⟨A,n,c,h1,hqz _ _ _ _ h2 hg tZ1⟩) (staysB_cons StaysB.pure (staysB_cons StaysB.pure (staysB_cons StaysB.pure (staysB_cons StaysB.pure (staysB_cons StaysB.pure (staysB_cons StaysB.pure (staysB_nil)))))))))))))))) kB ?_ ?_
 ·intro i oo ho m W hgr hmi hcl hdeps hcell hfz hlt AA KK hA hK1 hK2
  clear kB kZ
  rcases i with _ | _ | _ | _ | _ | _ | _ | _ | _ | _ | _ | _ | _ | _ | _ | i
  ·injection ho with ho
   subst ho
   have ef1:AA.tmps[1]?.getD undef=.pointer (some ⟨w.heap.size,0,none⟩):=by rw [hA];exact tmps_free tZ2
   have hK0:KK (AA.put (some 3) _) _:=hK1 (.pointer (some ⟨w.heap.size,2,none⟩)) _ (Below.refl _ _) (Eq.refl _) tZ4
   exact mZ113
  ·injection ho with ho
   subst ho
   obtain ⟨x0,hx0,hg0⟩:=hdeps ⟨0,.data⟩ tZ3 rfl
   have hg0:x0=.pointer (some ⟨w.heap.size,2,none⟩):=hg0
   subst hg0
   have e0:AA.tmps[3]?.getD undef=.pointer (some ⟨w.heap.size,2,none⟩):=by rw [hA];exact tmps_own tZ2 hx0 (of_decide_eq_true tZ2)
   have hs0:m 10=none:=none_up hcl (j:=10) rfl (e:=⟨1,.phase⟩) tZ3 rfl hmi
   have hce:=hcell 2
   exact mZ120
  ·exact mZ119
  ·exact mZ118
  ·injection ho with ho
   subst ho
   obtain ⟨x3,hx3,hg3⟩:=hdeps ⟨3,.data⟩ tZ3 rfl
   have hg3:x3=.pointer (some ⟨w.heap.size,4,none⟩):=hg3
   subst hg3
   have e3:AA.tmps[6]?.getD undef=.pointer (some ⟨w.heap.size,4,none⟩):=by rw [hA];exact tmps_own tZ2 hx3 (of_decide_eq_true tZ2)
   have hs0:m 12=none:=none_up hcl (j:=12) rfl (e:=⟨4,.phase⟩) tZ3 rfl hmi
   have hce:=hcell 4
   simp only [fld] at hce
   simp [hs0] at hce
   have hK0:KK (AA.put (some 7) _) _:=hK1 (.slice o1 o2 o3) _ (Below.refl _ _) (Eq.refl _) tZ4
   exact mZ116
  ·injection ho with ho
   subst ho
   obtain ⟨x4,hx4,hg4⟩:=hdeps ⟨4,.data⟩ tZ3 rfl
   have hg4:x4=.slice o1 o2 o3:=hg4
   subst hg4
   have e4:AA.tmps[7]?.getD undef=.slice o1 o2 o3:=by rw [hA];exact tmps_own tZ2 hx4 (of_decide_eq_true tZ2)
   exact mZ117
  ·injection ho with ho
   subst ho
   have ef1:AA.tmps[1]?.getD undef=.pointer (some ⟨w.heap.size,0,none⟩):=by rw [hA];exact tmps_free tZ2
   have hK0:KK (AA.put (some 9) _) _:=hK1 (.pointer (some ⟨w.heap.size,3,none⟩)) _ (Below.refl _ _) (Eq.refl _) tZ4
   exact mZ113
  ·injection ho with ho
   subst ho
   obtain ⟨x6,hx6,hg6⟩:=hdeps ⟨6,.data⟩ tZ3 rfl
   have hg6:x6=.pointer (some ⟨w.heap.size,3,none⟩):=hg6
   subst hg6
   have e6:AA.tmps[9]?.getD undef=.pointer (some ⟨w.heap.size,3,none⟩):=by rw [hA];exact tmps_own tZ2 hx6 (of_decide_eq_true tZ2)
   have hs0:m 14=none:=none_up hcl (j:=14) rfl (e:=⟨7,.phase⟩) tZ3 rfl hmi
   have hce:=hcell 3
   simp only [fld] at hce
   simp [hs0] at hce
   have hK0:KK (AA.put (some 10) _) _:=hK1 (.slice s1 s2 s3) _ (Below.refl _ _) (Eq.refl _) tZ4
   exact mZ116
  ·injection ho with ho
   subst ho
   obtain ⟨x7,hx7,hg7⟩:=hdeps ⟨7,.data⟩ tZ3 rfl
   have hg7:x7=.slice s1 s2 s3:=hg7
   subst hg7
   have e7:AA.tmps[10]?.getD undef=.slice s1 s2 s3:=by rw [hA];exact tmps_own tZ2 hx7 (of_decide_eq_true tZ2)
   exact mZ115
  ·injection ho with ho
   subst ho
   have ef1:AA.tmps[1]?.getD undef=.pointer (some ⟨w.heap.size,0,none⟩):=by rw [hA];exact tmps_free tZ2
   have hK0:KK (AA.put (some 12) _) _:=hK1 (.pointer (some ⟨w.heap.size,2,none⟩)) _ (Below.refl _ _) (Eq.refl _) tZ4
   exact mZ113
  ·injection ho with ho
   subst ho
   obtain ⟨x2,hx2,hg2⟩:=hdeps ⟨2,.data⟩ tZ3 rfl
   obtain ⟨Ab,nb,cb,hv2,hQ2⟩:=hg2
   subst hv2
   have e2:AA.tmps[5]?.getD undef=.slice Ab nb cb:=by rw [hA];exact tmps_own tZ2 hx2 (of_decide_eq_true tZ2)
   obtain ⟨x9,hx9,hg9⟩:=hdeps ⟨9,.data⟩ tZ3 rfl
   have hg9:x9=.pointer (some ⟨w.heap.size,2,none⟩):=hg9
   subst hg9
   have e9:AA.tmps[12]?.getD undef=.pointer (some ⟨w.heap.size,2,none⟩):=by rw [hA];exact tmps_own tZ2 hx9 (of_decide_eq_true tZ2)
   have hce:=hcell 2
   simp only [fld] at hce
   simp [hmi] at hce
   have hfe:=hfz 2
   have hK0:KK (AA.put none undef) _:=hK2 2 2 (.slice Ab nb cb) tZ3 hx2 (Eq.refl _)
   exact mZ113
  ·injection ho with ho
   subst ho
   have ef1:AA.tmps[1]?.getD undef=.pointer (some ⟨w.heap.size,0,none⟩):=by rw [hA];exact tmps_free tZ2
   have hK0:KK (AA.put (some 13) _) _:=hK1 (.pointer (some ⟨w.heap.size,4,none⟩)) _ (Below.refl _ _) (Eq.refl _) tZ4
   exact mZ113
  ·injection ho with ho
   subst ho
   obtain ⟨x5,hx5,hg5⟩:=hdeps ⟨5,.data⟩ tZ3 rfl
   obtain ⟨Ao,no,co,hv5,hQ5⟩:=hg5
   subst hv5
   have e5:AA.tmps[8]?.getD undef=.slice Ao no co:=by rw [hA];exact tmps_own tZ2 hx5 (of_decide_eq_true tZ2)
   obtain ⟨x11,hx11,hg11⟩:=hdeps ⟨11,.data⟩ tZ3 rfl
   have hg11:x11=.pointer (some ⟨w.heap.size,4,none⟩):=hg11
   subst hg11
   have e11:AA.tmps[13]?.getD undef=.pointer (some ⟨w.heap.size,4,none⟩):=by rw [hA];exact tmps_own tZ2 hx11 (of_decide_eq_true tZ2)
   have hce:=hcell 4
   simp only [fld] at hce
   simp [hmi] at hce
   have hfe:=hfz 4
   have hK0:KK (AA.put none undef) _:=hK2 4 5 (.slice Ao no co) tZ3 hx5 (Eq.refl _)
   exact mZ113
  ·injection ho with ho
   subst ho
   have ef1:AA.tmps[1]?.getD undef=.pointer (some ⟨w.heap.size,0,none⟩):=by rw [hA];exact tmps_free tZ2
   have hK0:KK (AA.put (some 14) _) _:=hK1 (.pointer (some ⟨w.heap.size,3,none⟩)) _ (Below.refl _ _) (Eq.refl _) tZ4
   exact mZ113
  ·injection ho with ho
   subst ho
   obtain ⟨x8,hx8,hg8⟩:=hdeps ⟨8,.data⟩ tZ3 rfl
   obtain ⟨Az,nz,cz,hv8,hQ8⟩:=hg8
   subst hv8
   have e8:AA.tmps[11]?.getD undef=.slice Az nz cz:=by rw [hA];exact tmps_own tZ2 hx8 (of_decide_eq_true tZ2)
   obtain ⟨x13,hx13,hg13⟩:=hdeps ⟨13,.data⟩ tZ3 rfl
   have hg13:x13=.pointer (some ⟨w.heap.size,3,none⟩):=hg13
   subst hg13
   have e13:AA.tmps[14]?.getD undef=.pointer (some ⟨w.heap.size,3,none⟩):=by rw [hA];exact tmps_own tZ2 hx13 (of_decide_eq_true tZ2)
   have hce:=hcell 3
   simp only [fld] at hce
   simp [hmi] at hce
   have hfe:=hfz 3
   have hK0:KK (AA.put none undef) _:=hK2 3 8 (.slice Az nz cz) tZ3 hx8 (Eq.refl _)
   exact mZ113
  ·simp at ho
 ·intro m W hgr hall hbx
  obtain ⟨x0,m0,g0⟩:=hall 0 tZ3
  replace g0:x0=.pointer (some ⟨w.heap.size,2,none⟩):=g0
  subst g0
  obtain ⟨x1,m1,g1⟩:=hall 1 tZ3
  replace g1:x1=.slice b1 b2 b3:=g1
  subst g1
  obtain ⟨x2,m2,g2⟩:=hall 2 tZ3
  obtain ⟨Ab,nb,cb,hv2,qb⟩:=g2
  subst hv2
  obtain ⟨x3,m3,g3⟩:=hall 3 tZ3
  replace g3:x3=.pointer (some ⟨w.heap.size,4,none⟩):=g3
  subst g3
  obtain ⟨x4,m4,g4⟩:=hall 4 tZ3
  replace g4:x4=.slice o1 o2 o3:=g4
  subst g4
  obtain ⟨x5,m5,g5⟩:=hall 5 tZ3
  obtain ⟨Ao,no,co,hv5,qo⟩:=g5
  subst hv5
  obtain ⟨x6,m6,g6⟩:=hall 6 tZ3
  replace g6:x6=.pointer (some ⟨w.heap.size,3,none⟩):=g6
  subst g6
  obtain ⟨x7,m7,g7⟩:=hall 7 tZ3
  replace g7:x7=.slice s1 s2 s3:=g7
  subst g7
  obtain ⟨x8,m8,g8⟩:=hall 8 tZ3
  obtain ⟨Az,nz,cz,hv8,qz⟩:=g8
  subst hv8
  obtain ⟨x9,m9,g9⟩:=hall 9 tZ3
  replace g9:x9=.pointer (some ⟨w.heap.size,2,none⟩):=g9
  subst g9
  obtain ⟨x10,m10,g10⟩:=hall 10 tZ3
  replace g10:x10=undef:=g10
  subst g10
  obtain ⟨x11,m11,g11⟩:=hall 11 tZ3
  replace g11:x11=.pointer (some ⟨w.heap.size,4,none⟩):=g11
  subst g11
  obtain ⟨x12,m12,g12⟩:=hall 12 tZ3
  replace g12:x12=undef:=g12
  subst g12
  obtain ⟨x13,m13,g13⟩:=hall 13 tZ3
  replace g13:x13=.pointer (some ⟨w.heap.size,3,none⟩):=g13
  subst g13
  obtain ⟨x14,m14,g14⟩:=hall 14 tZ3
  replace g14:x14=undef:=g14
  subst g14
  rw [frameM_all tZ2 [.pointer (some ⟨w.heap.size,2,none⟩),.slice b1 b2 b3,.slice Ab nb cb,.pointer (some ⟨w.heap.size,4,none⟩),.slice o1 o2 o3,.slice Ao no co,.pointer (some ⟨w.heap.size,3,none⟩),.slice s1 s2 s3,.slice Az nz cz,.pointer (some ⟨w.heap.size,2,none⟩),undef,.pointer (some ⟨w.heap.size,4,none⟩),undef,.pointer (some ⟨w.heap.size,3,none⟩),undef] rfl (fun i hi=>by
   rcases i with _ | _ | _ | _ | _ | _ | _ | _ | _ | _ | _ | _ | _ | _ | _ | i
   ·exact m0
   ·exact m1
   ·exact m2
   ·exact m3
   ·exact m4
   ·exact m5
   ·exact m6
   ·exact m7
   ·exact m8
   ·exact m9
   ·exact m10
   ·exact m11
   ·exact m12
   ·exact m13
   ·exact m14
   ·simp at hi;omega)]
  obtain ⟨cs,hcl,hbk,hcf⟩:=hbx
  have hcs:cs=[.string ⟨pa.toArray⟩,.string ⟨og.toArray⟩,.slice Ab nb cb,.slice Az nz cz,.slice Ao no co]:=by
   apply List.ext_getElem?
   intro f
   rw [hcf f]
   simp only [fld,m10,m2,m12,m5,m14,m8,Option.isSome_some,and_true]
   rcases f with _ | _ | _ | _ | _ | f <;> simp
  subst hcs
  clear hall hcf hcl m0 m1 m2 m3 m4 m5 m6 m7 m8 m9 m10 m11 m12 m13 m14
  simp only [putAll,Act.put,zA,zC,zB]
  have k3:=hbk
  have kz:=kZ.grown hgr tZ3
  have hbw:=hlow W hgr
  clear hbk
  have hset:∀ (Q:World→Value→Prop),(∀ W W' v r,Q W v→W.grownBy W' (some r)→r<w.heap.size+2→Q W' v)→∀ (cs:List Value) (W:World) (o:Nat) (v:Value),Q W v→Q (W.setCells (w.heap.size+1) o cs) v:=by
   exact mZ112
  have HC:Hid (∀ j v,([.string ⟨pa.toArray⟩,.string ⟨og.toArray⟩,.slice Ab nb cb,.slice Az nz cz,.slice Ao no co]:List Value)[j]?=some v→W.cell? ((⟨w.heap.size,0,none⟩:Addr).add j)=some v):=by
   exact mZ111
  have hth:=Lib.hid (kz.there 5 tZ4)
  have k4:=Blk.setCells (g:=w.heap.size+1) [.string ⟨pa.toArray⟩,.string ⟨og.toArray⟩,.slice Ab nb cb,.slice Az nz cz,.slice Ao no co] W [] [.string ⟨#[]⟩,.string ⟨#[]⟩,.slice none 0 0,.slice none 0 0,.slice none 0 0] rfl kz
  simp only [List.length_nil,List.nil_append] at k4
  have qb:=Lib.hid (show Qb (W.setCells (w.heap.size+1) 0 [.string ⟨pa.toArray⟩,.string ⟨og.toArray⟩,.slice Ab nb cb,.slice Az nz cz,.slice Ao no co]) _ from hset _ hqb _ _ _ _ qb)
  have qo:=Lib.hid (show Qo (W.setCells (w.heap.size+1) 0 [.string ⟨pa.toArray⟩,.string ⟨og.toArray⟩,.slice Ab nb cb,.slice Az nz cz,.slice Ao no co]) _ from hset _ hqo _ _ _ _ qo)
  have qz:=Lib.hid (show Qz (W.setCells (w.heap.size+1) 0 [.string ⟨pa.toArray⟩,.string ⟨og.toArray⟩,.slice Ab nb cb,.slice Az nz cz,.slice Ao no co]) _ from hset _ hqz _ _ _ _ qz)
  have hbw:=Lib.hid (below_setCells (g:=w.heap.size+1) tZ1 [.string ⟨pa.toArray⟩,.string ⟨og.toArray⟩,.slice Ab nb cb,.slice Az nz cz,.slice Ao no co] W 0 hbw)
  clear hset hlow hgr hsz2 kZ hqb hCb hqo hCo hqz hCz
  obtain ⟨W4,hW4⟩:∃ W',W'=W.setCells (w.heap.size+1) 0 (#[.string ⟨pa.toArray⟩,.string ⟨og.toArray⟩,.slice Ab nb cb,.slice Az nz cz,.slice Ao no co]:Array Value).toList:=⟨_,rfl⟩
  rw [show ([.string ⟨pa.toArray⟩,.string ⟨og.toArray⟩,.slice Ab nb cb,.slice Az nz cz,.slice Ao no co]:List Value)=(#[.string ⟨pa.toArray⟩,.string ⟨og.toArray⟩,.slice Ab nb cb,.slice Az nz cz,.slice Ao no co]:Array Value).toList from rfl,← hW4] at k4 qb qo qz hbw
  have HL:Hid ((loadVar 56 ⟨w.heap.size+1,0,none⟩).run Tryz.prog W4=.ok (.agg #[.string ⟨pa.toArray⟩,.string ⟨og.toArray⟩,.slice Ab nb cb,.slice Az nz cz,.slice Ao no co]) W4):=by
   refine run_loadVar_at W4 ⟨w.heap.size+1,0,none⟩ 56 [.string ⟨pa.toArray⟩,.string ⟨og.toArray⟩,.slice Ab nb cb,.slice Az nz cz,.slice Ao no co] _ (fun j v hv=>?_) Tryz.underlying56 rfl tZ2
   rw [addr_add0,k4.cell j,zF]
   exact hv
  clear k3 kz k4
  go_wp2_with (first | (refine wpList_load_at rfl 56 (.tmp 1) rfl ⟨w.heap.size,0,none⟩ rfl [.string ⟨pa.toArray⟩,.string ⟨og.toArray⟩,.slice Ab nb cb,.slice Az nz cz,.slice Ao no co] _ HC.out Tryz.underlying56 rfl tZ2 ?_) | (refine wpList_store_mid rfl 56 (.tmp 2) (.tmp 15) rfl (w.heap.size+1) 0 #[.string ⟨pa.toArray⟩,.string ⟨og.toArray⟩,.slice Ab nb cb,.slice Az nz cz,.slice Ao no co] rfl rfl hth.out tZ2 tZ5 ?_;rw [← hW4];clear hW4))
  exact bodyPost_ret (v:=.agg #[.string ⟨pa.toArray⟩,.string ⟨og.toArray⟩,.slice Ab nb cb,.slice Az nz cz,.slice Ao no co]) (results_cell rfl rfl HL.out) rfl ⟨Ab,nb,cb,Ao,no,co,Az,nz,cz,rfl,qb.out,qo.out,qz.out,hbw.out⟩
set_option maxRecDepth 100000 in
set_option maxHeartbeats 4000000 in
theorem copyStage_abs (into:BS) (kind:Int) (nm:BS) (frm gd:Int) (o1:Option Addr) (o2 o3:Nat) (ix ct:Int) (dt:BS) (sa sb sc sd:Int) (b1:Option Addr) (b2 b3:Nat) (at_ nx:Int) (ua ub uc ud:Int) (done:Bool) (w:World)
  (Qb:World→Value→Prop) (hqb:∀ W W' v r,Qb W v→W.grownBy W' (some r)→r<w.heap.size+2→Qb W' v)
  (hCb:∀ W,Below w.heap.size w W→w.heap.size+2≤W.heap.size→Calls Tryz.prog 69 #[.slice b1 b2 b3] W fun e w'=>∃ A n c,e=.returned (.slice A n c)∧Qb w' (.slice A n c)∧Below W.heap.size W w')
  (Qo:World→Value→Prop) (hqo:∀ W W' v r,Qo W v→W.grownBy W' (some r)→r<w.heap.size+2→Qo W' v)
  (hCo:∀ W,Below w.heap.size w W→w.heap.size+2≤W.heap.size→Calls Tryz.prog 70 #[.slice o1 o2 o3] W fun e w'=>∃ A n c,e=.returned (.slice A n c)∧Qo w' (.slice A n c)∧Below W.heap.size W w') :
  Calls Tryz.prog 102 #[.agg #[.string ⟨into.toArray⟩,.int .i64 kind,.string ⟨nm.toArray⟩,.int .i64 frm,.int .i64 gd,.slice o1 o2 o3,.int .i64 ix,.int .i64 ct,.string ⟨dt.toArray⟩,.int .u64 sa,.int .u64 sb,.int .u64 sc,.int .u64 sd,.slice b1 b2 b3,.int .i64 at_,.int .i64 nx,.int .u64 ua,.int .u64 ub,.int .u64 uc,.int .u64 ud,.bool done]] w fun e w'=>∃ Ab nb cb Ao no co,e=.returned (.agg #[.string ⟨into.toArray⟩,.int .i64 kind,.string ⟨nm.toArray⟩,.int .i64 frm,.int .i64 gd,.slice Ao no co,.int .i64 ix,.int .i64 ct,.string ⟨dt.toArray⟩,.int .u64 sa,.int .u64 sb,.int .u64 sc,.int .u64 sd,.slice Ab nb cb,.int .i64 at_,.int .i64 nx,.int .u64 ua,.int .u64 ub,.int .u64 uc,.int .u64 ud,.bool done])∧Qb w' (.slice Ab nb cb)∧Qo w' (.slice Ao no co)∧Below w.heap.size w w':=by
 go_enter Tryz.func102,Tryz.ntmps102
 go_upto_region 1 with (fail)
 have kB:=(Blk.new w 77 #[.string ⟨into.toArray⟩,.int .i64 kind,.string ⟨nm.toArray⟩,.int .i64 frm,.int .i64 gd,.slice o1 o2 o3,.int .i64 ix,.int .i64 ct,.string ⟨dt.toArray⟩,.int .u64 sa,.int .u64 sb,.int .u64 sc,.int .u64 sd,.slice b1 b2 b3,.int .i64 at_,.int .i64 nx,.int .u64 ua,.int .u64 ub,.int .u64 uc,.int .u64 ud,.bool done]).alloc (.cells #[.string ⟨#[]⟩,.int .i64 0,.string ⟨#[]⟩,.int .i64 0,.int .i64 0,.slice none 0 0,.int .i64 0,.int .i64 0,.string ⟨#[]⟩,.int .u64 0,.int .u64 0,.int .u64 0,.int .u64 0,.slice none 0 0,.int .i64 0,.int .i64 0,.int .u64 0,.int .u64 0,.int .u64 0,.int .u64 0,.bool false] 77)
 have kZ:=Blk.new (w.alloc (.cells #[.string ⟨into.toArray⟩,.int .i64 kind,.string ⟨nm.toArray⟩,.int .i64 frm,.int .i64 gd,.slice o1 o2 o3,.int .i64 ix,.int .i64 ct,.string ⟨dt.toArray⟩,.int .u64 sa,.int .u64 sb,.int .u64 sc,.int .u64 sd,.slice b1 b2 b3,.int .i64 at_,.int .i64 nx,.int .u64 ua,.int .u64 ub,.int .u64 uc,.int .u64 ud,.bool done] 77)) 77 #[.string ⟨#[]⟩,.int .i64 0,.string ⟨#[]⟩,.int .i64 0,.int .i64 0,.slice none 0 0,.int .i64 0,.int .i64 0,.string ⟨#[]⟩,.int .u64 0,.int .u64 0,.int .u64 0,.int .u64 0,.slice none 0 0,.int .i64 0,.int .i64 0,.int .u64 0,.int .u64 0,.int .u64 0,.int .u64 0,.bool false]
 rw [show (w.alloc (.cells #[.string ⟨into.toArray⟩,.int .i64 kind,.string ⟨nm.toArray⟩,.int .i64 frm,.int .i64 gd,.slice o1 o2 o3,.int .i64 ix,.int .i64 ct,.string ⟨dt.toArray⟩,.int .u64 sa,.int .u64 sb,.int .u64 sc,.int .u64 sd,.slice b1 b2 b3,.int .i64 at_,.int .i64 nx,.int .u64 ua,.int .u64 ub,.int .u64 uc,.int .u64 ud,.bool done] 77)).heap.size=w.heap.size+1 by simp] at kZ
 have hb2:=((Below.refl w.heap.size w).alloc (Nat.le_refl _) (.cells #[.string ⟨into.toArray⟩,.int .i64 kind,.string ⟨nm.toArray⟩,.int .i64 frm,.int .i64 gd,.slice o1 o2 o3,.int .i64 ix,.int .i64 ct,.string ⟨dt.toArray⟩,.int .u64 sa,.int .u64 sb,.int .u64 sc,.int .u64 sd,.slice b1 b2 b3,.int .i64 at_,.int .i64 nx,.int .u64 ua,.int .u64 ub,.int .u64 uc,.int .u64 ud,.bool done] 77)).alloc tZ3 (.cells #[.string ⟨#[]⟩,.int .i64 0,.string ⟨#[]⟩,.int .i64 0,.int .i64 0,.slice none 0 0,.int .i64 0,.int .i64 0,.string ⟨#[]⟩,.int .u64 0,.int .u64 0,.int .u64 0,.int .u64 0,.slice none 0 0,.int .i64 0,.int .i64 0,.int .u64 0,.int .u64 0,.int .u64 0,.int .u64 0,.bool false] 77)
 obtain ⟨W2,hW2⟩:∃ W,W=(w.alloc (.cells #[.string ⟨into.toArray⟩,.int .i64 kind,.string ⟨nm.toArray⟩,.int .i64 frm,.int .i64 gd,.slice o1 o2 o3,.int .i64 ix,.int .i64 ct,.string ⟨dt.toArray⟩,.int .u64 sa,.int .u64 sb,.int .u64 sc,.int .u64 sd,.slice b1 b2 b3,.int .i64 at_,.int .i64 nx,.int .u64 ua,.int .u64 ub,.int .u64 uc,.int .u64 ud,.bool done] 77)).alloc (.cells #[.string ⟨#[]⟩,.int .i64 0,.string ⟨#[]⟩,.int .i64 0,.int .i64 0,.slice none 0 0,.int .i64 0,.int .i64 0,.string ⟨#[]⟩,.int .u64 0,.int .u64 0,.int .u64 0,.int .u64 0,.slice none 0 0,.int .i64 0,.int .i64 0,.int .u64 0,.int .u64 0,.int .u64 0,.int .u64 0,.bool false] 77):=⟨_,rfl⟩
 have hsz:W2.heap.size=w.heap.size+2:=tZ40
 rw [← hW2] at kB kZ hb2 ⊢
 have hsz2:w.heap.size+2≤W2.heap.size:=tZ1
 have hlow:∀ W,W2.grownBy W (some w.heap.size)→Below w.heap.size w W:=fun W h=>hb2.grown h tZ1 (fun k hk=>by simp at hk;omega)
 clear hW2 hb2 hsz
 refine wp_region_box tZ2 tZ2 w.heap.size 77 [.string ⟨into.toArray⟩,.int .i64 kind,.string ⟨nm.toArray⟩,.int .i64 frm,.int .i64 gd,.slice o1 o2 o3,.int .i64 ix,.int .i64 ct,.string ⟨dt.toArray⟩,.int .u64 sa,.int .u64 sb,.int .u64 sc,.int .u64 sd,.slice b1 b2 b3,.int .i64 at_,.int .i64 nx,.int .u64 ua,.int .u64 ub,.int .u64 uc,.int .u64 ud,.bool done] [(8,13,2),(11,5,6)] tZ2 [(fun v _=>v=.pointer (some ⟨w.heap.size,13,none⟩)),
  (fun v _=>v=.slice b1 b2 b3),
  (fun v W=>∃ A n c,v=.slice A n c∧Qb W (.slice A n c)),
  (fun v _=>v=.pointer (some ⟨w.heap.size,1,none⟩)),
  (fun v _=>v=.pointer (some ⟨w.heap.size,5,none⟩)),
  (fun v _=>v=.slice o1 o2 o3),
  (fun v W=>∃ A n c,v=.slice A n c∧Qo W (.slice A n c)),
  (fun v _=>v=.pointer (some ⟨w.heap.size,13,none⟩)),
  (fun v _=>v=undef),
  (fun v _=>v=.pointer (some ⟨w.heap.size,1,none⟩)),
  (fun v _=>v=.pointer (some ⟨w.heap.size,5,none⟩)),
  (fun v _=>v=undef)] (staysB_cons StaysB.pure (staysB_cons StaysB.pure (staysB_cons (fun v W W' h hg=>let ⟨A,n,c,h1,h2⟩:=h;⟨A,n,c,h1,hqb _ _ _ _ h2 hg tZ1⟩) (staysB_cons StaysB.pure (staysB_cons StaysB.pure (staysB_cons StaysB.pure (staysB_cons (fun v W W' h hg=>let ⟨A,n,c,h1,h2⟩:=h;⟨A,n,c,h1,hqo _ _ _ _ h2 hg tZ1⟩) (staysB_cons StaysB.pure (staysB_cons StaysB.pure (staysB_cons StaysB.pure (staysB_cons StaysB.pure (staysB_cons StaysB.pure (staysB_nil))))))))))))) kB ?_ ?_
 ·intro i oo ho m W hgr hmi hcl hdeps hcell hfz hlt AA KK hA hK1 hK2
  clear kB kZ
  rcases i with _ | _ | _ | _ | _ | _ | _ | _ | _ | _ | _ | _ | i
  ·injection ho with ho
   subst ho
   have ef1:AA.tmps[1]?.getD undef=.pointer (some ⟨w.heap.size,0,none⟩):=by rw [hA];exact tmps_free tZ2
   have hK0:KK (AA.put (some 3) _) _:=hK1 (.pointer (some ⟨w.heap.size,13,none⟩)) _ (Below.refl _ _) (Eq.refl _) tZ4
   exact mZ113
  ·injection ho with ho
   subst ho
   obtain ⟨x0,hx0,hg0⟩:=hdeps ⟨0,.data⟩ tZ3 rfl
   have hg0:x0=.pointer (some ⟨w.heap.size,13,none⟩):=hg0
   subst hg0
   have e0:AA.tmps[3]?.getD undef=.pointer (some ⟨w.heap.size,13,none⟩):=by rw [hA];exact tmps_own tZ2 hx0 (of_decide_eq_true tZ2)
   have hs0:m 8=none:=none_up hcl (j:=8) rfl (e:=⟨1,.phase⟩) tZ3 rfl hmi
   have hce:=hcell 13
   exact mZ120
  ·exact mZ119
  ·injection ho with ho
   subst ho
   have ef1:AA.tmps[1]?.getD undef=.pointer (some ⟨w.heap.size,0,none⟩):=by rw [hA];exact tmps_free tZ2
   have hK0:KK (AA.put (some 6) _) _:=hK1 (.pointer (some ⟨w.heap.size,1,none⟩)) _ (Below.refl _ _) (Eq.refl _) tZ4
   exact mZ113
  ·injection ho with ho
   subst ho
   obtain ⟨x3,hx3,hg3⟩:=hdeps ⟨3,.data⟩ tZ3 rfl
   have hg3:x3=.pointer (some ⟨w.heap.size,1,none⟩):=hg3
   subst hg3
   have e3:AA.tmps[6]?.getD undef=.pointer (some ⟨w.heap.size,1,none⟩):=by rw [hA];exact tmps_own tZ2 hx3 (of_decide_eq_true tZ2)
   have hK0:KK (AA.put (some 7) _) _:=hK1 (.pointer (some ⟨w.heap.size,5,none⟩)) _ (Below.refl _ _) (Eq.refl _) tZ4
   exact mZ113
  ·injection ho with ho
   subst ho
   obtain ⟨x4,hx4,hg4⟩:=hdeps ⟨4,.data⟩ tZ3 rfl
   have hg4:x4=.pointer (some ⟨w.heap.size,5,none⟩):=hg4
   subst hg4
   have e4:AA.tmps[7]?.getD undef=.pointer (some ⟨w.heap.size,5,none⟩):=by rw [hA];exact tmps_own tZ2 hx4 (of_decide_eq_true tZ2)
   have hs0:m 11=none:=none_up hcl (j:=11) rfl (e:=⟨5,.phase⟩) tZ3 rfl hmi
   have hce:=hcell 5
   simp only [fld] at hce
   simp [hs0] at hce
   have hK0:KK (AA.put (some 8) _) _:=hK1 (.slice o1 o2 o3) _ (Below.refl _ _) (Eq.refl _) tZ4
   exact mZ116
  ·injection ho with ho
   subst ho
   obtain ⟨x5,hx5,hg5⟩:=hdeps ⟨5,.data⟩ tZ3 rfl
   have hg5:x5=.slice o1 o2 o3:=hg5
   subst hg5
   have e5:AA.tmps[8]?.getD undef=.slice o1 o2 o3:=by rw [hA];exact tmps_own tZ2 hx5 (of_decide_eq_true tZ2)
   exact mZ117
  ·injection ho with ho
   subst ho
   have ef1:AA.tmps[1]?.getD undef=.pointer (some ⟨w.heap.size,0,none⟩):=by rw [hA];exact tmps_free tZ2
   have hK0:KK (AA.put (some 10) _) _:=hK1 (.pointer (some ⟨w.heap.size,13,none⟩)) _ (Below.refl _ _) (Eq.refl _) tZ4
   exact mZ113
  ·injection ho with ho
   subst ho
   obtain ⟨x2,hx2,hg2⟩:=hdeps ⟨2,.data⟩ tZ3 rfl
   obtain ⟨Ab,nb,cb,hv2,hQ2⟩:=hg2
   subst hv2
   have e2:AA.tmps[5]?.getD undef=.slice Ab nb cb:=by rw [hA];exact tmps_own tZ2 hx2 (of_decide_eq_true tZ2)
   obtain ⟨x7,hx7,hg7⟩:=hdeps ⟨7,.data⟩ tZ3 rfl
   have hg7:x7=.pointer (some ⟨w.heap.size,13,none⟩):=hg7
   subst hg7
   have e7:AA.tmps[10]?.getD undef=.pointer (some ⟨w.heap.size,13,none⟩):=by rw [hA];exact tmps_own tZ2 hx7 (of_decide_eq_true tZ2)
   have hce:=hcell 13
   simp only [fld] at hce
   simp [hmi] at hce
   have hfe:=hfz 13
   have hK0:KK (AA.put none undef) _:=hK2 13 2 (.slice Ab nb cb) tZ3 hx2 (Eq.refl _)
   exact mZ113
  ·injection ho with ho
   subst ho
   have ef1:AA.tmps[1]?.getD undef=.pointer (some ⟨w.heap.size,0,none⟩):=by rw [hA];exact tmps_free tZ2
   have hK0:KK (AA.put (some 11) _) _:=hK1 (.pointer (some ⟨w.heap.size,1,none⟩)) _ (Below.refl _ _) (Eq.refl _) tZ4
   exact mZ113
  ·injection ho with ho
   subst ho
   obtain ⟨x9,hx9,hg9⟩:=hdeps ⟨9,.data⟩ tZ3 rfl
   have hg9:x9=.pointer (some ⟨w.heap.size,1,none⟩):=hg9
   subst hg9
   have e9:AA.tmps[11]?.getD undef=.pointer (some ⟨w.heap.size,1,none⟩):=by rw [hA];exact tmps_own tZ2 hx9 (of_decide_eq_true tZ2)
   have hK0:KK (AA.put (some 12) _) _:=hK1 (.pointer (some ⟨w.heap.size,5,none⟩)) _ (Below.refl _ _) (Eq.refl _) tZ4
   exact mZ113
  ·injection ho with ho
   subst ho
   obtain ⟨x6,hx6,hg6⟩:=hdeps ⟨6,.data⟩ tZ3 rfl
   obtain ⟨Ao,no,co,hv6,hQ6⟩:=hg6
   subst hv6
   have e6:AA.tmps[9]?.getD undef=.slice Ao no co:=by rw [hA];exact tmps_own tZ2 hx6 (of_decide_eq_true tZ2)
   obtain ⟨x10,hx10,hg10⟩:=hdeps ⟨10,.data⟩ tZ3 rfl
   have hg10:x10=.pointer (some ⟨w.heap.size,5,none⟩):=hg10
   subst hg10
   have e10:AA.tmps[12]?.getD undef=.pointer (some ⟨w.heap.size,5,none⟩):=by rw [hA];exact tmps_own tZ2 hx10 (of_decide_eq_true tZ2)
   have hce:=hcell 5
   simp only [fld] at hce
   simp [hmi] at hce
   have hfe:=hfz 5
   have hK0:KK (AA.put none undef) _:=hK2 5 6 (.slice Ao no co) tZ3 hx6 (Eq.refl _)
   exact mZ113
  ·simp at ho
 ·intro m W hgr hall hbx
  obtain ⟨x0,m0,g0⟩:=hall 0 tZ3
  replace g0:x0=.pointer (some ⟨w.heap.size,13,none⟩):=g0
  subst g0
  obtain ⟨x1,m1,g1⟩:=hall 1 tZ3
  replace g1:x1=.slice b1 b2 b3:=g1
  subst g1
  obtain ⟨x2,m2,g2⟩:=hall 2 tZ3
  obtain ⟨Ab,nb,cb,hv2,qb⟩:=g2
  subst hv2
  obtain ⟨x3,m3,g3⟩:=hall 3 tZ3
  replace g3:x3=.pointer (some ⟨w.heap.size,1,none⟩):=g3
  subst g3
  obtain ⟨x4,m4,g4⟩:=hall 4 tZ3
  replace g4:x4=.pointer (some ⟨w.heap.size,5,none⟩):=g4
  subst g4
  obtain ⟨x5,m5,g5⟩:=hall 5 tZ3
  replace g5:x5=.slice o1 o2 o3:=g5
  subst g5
  obtain ⟨x6,m6,g6⟩:=hall 6 tZ3
  obtain ⟨Ao,no,co,hv6,qo⟩:=g6
  subst hv6
  obtain ⟨x7,m7,g7⟩:=hall 7 tZ3
  replace g7:x7=.pointer (some ⟨w.heap.size,13,none⟩):=g7
  subst g7
  obtain ⟨x8,m8,g8⟩:=hall 8 tZ3
  replace g8:x8=undef:=g8
  subst g8
  obtain ⟨x9,m9,g9⟩:=hall 9 tZ3
  replace g9:x9=.pointer (some ⟨w.heap.size,1,none⟩):=g9
  subst g9
  obtain ⟨x10,m10,g10⟩:=hall 10 tZ3
  replace g10:x10=.pointer (some ⟨w.heap.size,5,none⟩):=g10
  subst g10
  obtain ⟨x11,m11,g11⟩:=hall 11 tZ3
  replace g11:x11=undef:=g11
  subst g11
  rw [frameM_all tZ2 [.pointer (some ⟨w.heap.size,13,none⟩),.slice b1 b2 b3,.slice Ab nb cb,.pointer (some ⟨w.heap.size,1,none⟩),.pointer (some ⟨w.heap.size,5,none⟩),.slice o1 o2 o3,.slice Ao no co,.pointer (some ⟨w.heap.size,13,none⟩),undef,.pointer (some ⟨w.heap.size,1,none⟩),.pointer (some ⟨w.heap.size,5,none⟩),undef] rfl (fun i hi=>by
   rcases i with _ | _ | _ | _ | _ | _ | _ | _ | _ | _ | _ | _ | i
   ·exact m0
   ·exact m1
   ·exact m2
   ·exact m3
   ·exact m4
   ·exact m5
   ·exact m6
   ·exact m7
   ·exact m8
   ·exact m9
   ·exact m10
   ·exact m11
   ·simp at hi;omega)]
  obtain ⟨cs,hcl,hbk,hcf⟩:=hbx
  have hcs:cs=[.string ⟨into.toArray⟩,.int .i64 kind,.string ⟨nm.toArray⟩,.int .i64 frm,.int .i64 gd,.slice Ao no co,.int .i64 ix,.int .i64 ct,.string ⟨dt.toArray⟩,.int .u64 sa,.int .u64 sb,.int .u64 sc,.int .u64 sd,.slice Ab nb cb,.int .i64 at_,.int .i64 nx,.int .u64 ua,.int .u64 ub,.int .u64 uc,.int .u64 ud,.bool done]:=by
   apply List.ext_getElem?
   intro f
   rw [hcf f]
   simp only [fld,m8,m2,m11,m6,Option.isSome_some,and_true]
   rcases f with _ | _ | _ | _ | _ | _ | _ | _ | _ | _ | _ | _ | _ | _ | _ | _ | _ | _ | _ | _ | _ | f <;> simp
  subst hcs
  clear hall hcf hcl m0 m1 m2 m3 m4 m5 m6 m7 m8 m9 m10 m11
  simp only [putAll,Act.put,zA,zC,zB]
  have k3:=hbk
  have kz:=kZ.grown hgr tZ3
  have hbw:=hlow W hgr
  clear hbk
  have hset:∀ (Q:World→Value→Prop),(∀ W W' v r,Q W v→W.grownBy W' (some r)→r<w.heap.size+2→Q W' v)→∀ (cs:List Value) (W:World) (o:Nat) (v:Value),Q W v→Q (W.setCells (w.heap.size+1) o cs) v:=by
   exact mZ112
  have HC:Hid (∀ j v,([.string ⟨into.toArray⟩,.int .i64 kind,.string ⟨nm.toArray⟩,.int .i64 frm,.int .i64 gd,.slice Ao no co,.int .i64 ix,.int .i64 ct,.string ⟨dt.toArray⟩,.int .u64 sa,.int .u64 sb,.int .u64 sc,.int .u64 sd,.slice Ab nb cb,.int .i64 at_,.int .i64 nx,.int .u64 ua,.int .u64 ub,.int .u64 uc,.int .u64 ud,.bool done]:List Value)[j]?=some v→W.cell? ((⟨w.heap.size,0,none⟩:Addr).add j)=some v):=by
   exact mZ111
  have hth:=Lib.hid (kz.there 21 tZ4)
  have k4:=Blk.setCells (g:=w.heap.size+1) [.string ⟨into.toArray⟩,.int .i64 kind,.string ⟨nm.toArray⟩,.int .i64 frm,.int .i64 gd,.slice Ao no co,.int .i64 ix,.int .i64 ct,.string ⟨dt.toArray⟩,.int .u64 sa,.int .u64 sb,.int .u64 sc,.int .u64 sd,.slice Ab nb cb,.int .i64 at_,.int .i64 nx,.int .u64 ua,.int .u64 ub,.int .u64 uc,.int .u64 ud,.bool done] W [] [.string ⟨#[]⟩,.int .i64 0,.string ⟨#[]⟩,.int .i64 0,.int .i64 0,.slice none 0 0,.int .i64 0,.int .i64 0,.string ⟨#[]⟩,.int .u64 0,.int .u64 0,.int .u64 0,.int .u64 0,.slice none 0 0,.int .i64 0,.int .i64 0,.int .u64 0,.int .u64 0,.int .u64 0,.int .u64 0,.bool false] rfl kz
  simp only [List.length_nil,List.nil_append] at k4
  have qb:=Lib.hid (show Qb (W.setCells (w.heap.size+1) 0 [.string ⟨into.toArray⟩,.int .i64 kind,.string ⟨nm.toArray⟩,.int .i64 frm,.int .i64 gd,.slice Ao no co,.int .i64 ix,.int .i64 ct,.string ⟨dt.toArray⟩,.int .u64 sa,.int .u64 sb,.int .u64 sc,.int .u64 sd,.slice Ab nb cb,.int .i64 at_,.int .i64 nx,.int .u64 ua,.int .u64 ub,.int .u64 uc,.int .u64 ud,.bool done]) _ from hset _ hqb _ _ _ _ qb)
  have qo:=Lib.hid (show Qo (W.setCells (w.heap.size+1) 0 [.string ⟨into.toArray⟩,.int .i64 kind,.string ⟨nm.toArray⟩,.int .i64 frm,.int .i64 gd,.slice Ao no co,.int .i64 ix,.int .i64 ct,.string ⟨dt.toArray⟩,.int .u64 sa,.int .u64 sb,.int .u64 sc,.int .u64 sd,.slice Ab nb cb,.int .i64 at_,.int .i64 nx,.int .u64 ua,.int .u64 ub,.int .u64 uc,.int .u64 ud,.bool done]) _ from hset _ hqo _ _ _ _ qo)
  have hbw:=Lib.hid (below_setCells (g:=w.heap.size+1) tZ1 [.string ⟨into.toArray⟩,.int .i64 kind,.string ⟨nm.toArray⟩,.int .i64 frm,.int .i64 gd,.slice Ao no co,.int .i64 ix,.int .i64 ct,.string ⟨dt.toArray⟩,.int .u64 sa,.int .u64 sb,.int .u64 sc,.int .u64 sd,.slice Ab nb cb,.int .i64 at_,.int .i64 nx,.int .u64 ua,.int .u64 ub,.int .u64 uc,.int .u64 ud,.bool done] W 0 hbw)
  clear hset hlow hgr hsz2 kZ hqb hCb hqo hCo
  obtain ⟨W4,hW4⟩:∃ W',W'=W.setCells (w.heap.size+1) 0 (#[.string ⟨into.toArray⟩,.int .i64 kind,.string ⟨nm.toArray⟩,.int .i64 frm,.int .i64 gd,.slice Ao no co,.int .i64 ix,.int .i64 ct,.string ⟨dt.toArray⟩,.int .u64 sa,.int .u64 sb,.int .u64 sc,.int .u64 sd,.slice Ab nb cb,.int .i64 at_,.int .i64 nx,.int .u64 ua,.int .u64 ub,.int .u64 uc,.int .u64 ud,.bool done]:Array Value).toList:=⟨_,rfl⟩
  rw [show ([.string ⟨into.toArray⟩,.int .i64 kind,.string ⟨nm.toArray⟩,.int .i64 frm,.int .i64 gd,.slice Ao no co,.int .i64 ix,.int .i64 ct,.string ⟨dt.toArray⟩,.int .u64 sa,.int .u64 sb,.int .u64 sc,.int .u64 sd,.slice Ab nb cb,.int .i64 at_,.int .i64 nx,.int .u64 ua,.int .u64 ub,.int .u64 uc,.int .u64 ud,.bool done]:List Value)=(#[.string ⟨into.toArray⟩,.int .i64 kind,.string ⟨nm.toArray⟩,.int .i64 frm,.int .i64 gd,.slice Ao no co,.int .i64 ix,.int .i64 ct,.string ⟨dt.toArray⟩,.int .u64 sa,.int .u64 sb,.int .u64 sc,.int .u64 sd,.slice Ab nb cb,.int .i64 at_,.int .i64 nx,.int .u64 ua,.int .u64 ub,.int .u64 uc,.int .u64 ud,.bool done]:Array Value).toList from rfl,← hW4] at k4 qb qo hbw
  have HL:Hid ((loadVar 77 ⟨w.heap.size+1,0,none⟩).run Tryz.prog W4=.ok (.agg #[.string ⟨into.toArray⟩,.int .i64 kind,.string ⟨nm.toArray⟩,.int .i64 frm,.int .i64 gd,.slice Ao no co,.int .i64 ix,.int .i64 ct,.string ⟨dt.toArray⟩,.int .u64 sa,.int .u64 sb,.int .u64 sc,.int .u64 sd,.slice Ab nb cb,.int .i64 at_,.int .i64 nx,.int .u64 ua,.int .u64 ub,.int .u64 uc,.int .u64 ud,.bool done]) W4):=by
   refine run_loadVar_at W4 ⟨w.heap.size+1,0,none⟩ 77 [.string ⟨into.toArray⟩,.int .i64 kind,.string ⟨nm.toArray⟩,.int .i64 frm,.int .i64 gd,.slice Ao no co,.int .i64 ix,.int .i64 ct,.string ⟨dt.toArray⟩,.int .u64 sa,.int .u64 sb,.int .u64 sc,.int .u64 sd,.slice Ab nb cb,.int .i64 at_,.int .i64 nx,.int .u64 ua,.int .u64 ub,.int .u64 uc,.int .u64 ud,.bool done] _ (fun j v hv=>?_) Tryz.underlying77 rfl tZ2
   rw [addr_add0,k4.cell j,zF]
   exact hv
  clear k3 kz k4
  go_wp2_with (first | (refine wpList_load_at rfl 77 (.tmp 1) rfl ⟨w.heap.size,0,none⟩ rfl [.string ⟨into.toArray⟩,.int .i64 kind,.string ⟨nm.toArray⟩,.int .i64 frm,.int .i64 gd,.slice Ao no co,.int .i64 ix,.int .i64 ct,.string ⟨dt.toArray⟩,.int .u64 sa,.int .u64 sb,.int .u64 sc,.int .u64 sd,.slice Ab nb cb,.int .i64 at_,.int .i64 nx,.int .u64 ua,.int .u64 ub,.int .u64 uc,.int .u64 ud,.bool done] _ HC.out Tryz.underlying77 rfl tZ2 ?_) | (refine wpList_store_mid rfl 77 (.tmp 2) (.tmp 13) rfl (w.heap.size+1) 0 #[.string ⟨into.toArray⟩,.int .i64 kind,.string ⟨nm.toArray⟩,.int .i64 frm,.int .i64 gd,.slice Ao no co,.int .i64 ix,.int .i64 ct,.string ⟨dt.toArray⟩,.int .u64 sa,.int .u64 sb,.int .u64 sc,.int .u64 sd,.slice Ab nb cb,.int .i64 at_,.int .i64 nx,.int .u64 ua,.int .u64 ub,.int .u64 uc,.int .u64 ud,.bool done] rfl rfl hth.out tZ2 tZ5 ?_;rw [← hW4];clear hW4))
  exact bodyPost_ret (v:=.agg #[.string ⟨into.toArray⟩,.int .i64 kind,.string ⟨nm.toArray⟩,.int .i64 frm,.int .i64 gd,.slice Ao no co,.int .i64 ix,.int .i64 ct,.string ⟨dt.toArray⟩,.int .u64 sa,.int .u64 sb,.int .u64 sc,.int .u64 sd,.slice Ab nb cb,.int .i64 at_,.int .i64 nx,.int .u64 ua,.int .u64 ub,.int .u64 uc,.int .u64 ud,.bool done]) (results_cell rfl rfl HL.out) rfl ⟨Ab,nb,cb,Ao,no,co,rfl,qb.out,qo.out,hbw.out⟩
set_option maxRecDepth 100000 in
set_option maxHeartbeats 4000000 in
theorem copyTen_abs (nm:BS) (qu nx:Int) (s1:Option Addr) (s2 s3:Nat) (g1:Option Addr) (g2 g3:Nat) (t1:Option Addr) (t2 t3:Nat) (l1:Option Addr) (l2 l3:Nat) (w:World)
  (Qz:World→Value→Prop) (hqz:∀ W W' v r,Qz W v→W.grownBy W' (some r)→r<w.heap.size+2→Qz W' v)
  (hCz:∀ W,Below w.heap.size w W→w.heap.size+2≤W.heap.size→Calls Tryz.prog 98 #[.slice s1 s2 s3,.func (.func 99) #[] #[]] W fun e w'=>∃ A n c,e=.returned (.slice A n c)∧Qz w' (.slice A n c)∧Below W.heap.size W w')
  (Qg:World→Value→Prop) (hqg:∀ W W' v r,Qg W v→W.grownBy W' (some r)→r<w.heap.size+2→Qg W' v)
  (hCg:∀ W,Below w.heap.size w W→w.heap.size+2≤W.heap.size→Calls Tryz.prog 100 #[.slice g1 g2 g3] W fun e w'=>∃ A n c,e=.returned (.slice A n c)∧Qg w' (.slice A n c)∧Below W.heap.size W w')
  (Qt:World→Value→Prop) (hqt:∀ W W' v r,Qt W v→W.grownBy W' (some r)→r<w.heap.size+2→Qt W' v)
  (hCt:∀ W,Below w.heap.size w W→w.heap.size+2≤W.heap.size→Calls Tryz.prog 101 #[.slice t1 t2 t3,.func (.func 102) #[] #[]] W fun e w'=>∃ A n c,e=.returned (.slice A n c)∧Qt w' (.slice A n c)∧Below W.heap.size W w')
  (Ql:World→Value→Prop) (hql:∀ W W' v r,Ql W v→W.grownBy W' (some r)→r<w.heap.size+2→Ql W' v)
  (hCl:∀ W,Below w.heap.size w W→w.heap.size+2≤W.heap.size→Calls Tryz.prog 103 #[.slice l1 l2 l3] W fun e w'=>∃ A n c,e=.returned (.slice A n c)∧Ql w' (.slice A n c)∧Below W.heap.size W w') :
  Calls Tryz.prog 54 #[.agg #[.string ⟨nm.toArray⟩,.int .i64 qu,.int .i64 nx,.slice s1 s2 s3,.slice g1 g2 g3,.slice t1 t2 t3,.slice l1 l2 l3]] w fun e w'=>∃ Az nz cz Ag ng cg At nt ct Al nl cl,e=.returned (.agg #[.string ⟨nm.toArray⟩,.int .i64 qu,.int .i64 nx,.slice Az nz cz,.slice Ag ng cg,.slice At nt ct,.slice Al nl cl])∧Qz w' (.slice Az nz cz)∧Qg w' (.slice Ag ng cg)∧Qt w' (.slice At nt ct)∧Ql w' (.slice Al nl cl)∧Below w.heap.size w w':=by
 go_enter Tryz.func54,Tryz.ntmps54
 go_upto_region 1 with (fail)
 have kB:=(Blk.new w 27 #[.string ⟨nm.toArray⟩,.int .i64 qu,.int .i64 nx,.slice s1 s2 s3,.slice g1 g2 g3,.slice t1 t2 t3,.slice l1 l2 l3]).alloc (.cells #[.string ⟨#[]⟩,.int .i64 0,.int .i64 0,.slice none 0 0,.slice none 0 0,.slice none 0 0,.slice none 0 0] 27)
 have kZ:=Blk.new (w.alloc (.cells #[.string ⟨nm.toArray⟩,.int .i64 qu,.int .i64 nx,.slice s1 s2 s3,.slice g1 g2 g3,.slice t1 t2 t3,.slice l1 l2 l3] 27)) 27 #[.string ⟨#[]⟩,.int .i64 0,.int .i64 0,.slice none 0 0,.slice none 0 0,.slice none 0 0,.slice none 0 0]
 rw [show (w.alloc (.cells #[.string ⟨nm.toArray⟩,.int .i64 qu,.int .i64 nx,.slice s1 s2 s3,.slice g1 g2 g3,.slice t1 t2 t3,.slice l1 l2 l3] 27)).heap.size=w.heap.size+1 by simp] at kZ
 have hb2:=((Below.refl w.heap.size w).alloc (Nat.le_refl _) (.cells #[.string ⟨nm.toArray⟩,.int .i64 qu,.int .i64 nx,.slice s1 s2 s3,.slice g1 g2 g3,.slice t1 t2 t3,.slice l1 l2 l3] 27)).alloc tZ3 (.cells #[.string ⟨#[]⟩,.int .i64 0,.int .i64 0,.slice none 0 0,.slice none 0 0,.slice none 0 0,.slice none 0 0] 27)
 obtain ⟨W2,hW2⟩:∃ W,W=(w.alloc (.cells #[.string ⟨nm.toArray⟩,.int .i64 qu,.int .i64 nx,.slice s1 s2 s3,.slice g1 g2 g3,.slice t1 t2 t3,.slice l1 l2 l3] 27)).alloc (.cells #[.string ⟨#[]⟩,.int .i64 0,.int .i64 0,.slice none 0 0,.slice none 0 0,.slice none 0 0,.slice none 0 0] 27):=⟨_,rfl⟩
 have hsz:W2.heap.size=w.heap.size+2:=tZ40
 rw [← hW2] at kB kZ hb2 ⊢
 have hsz2:w.heap.size+2≤W2.heap.size:=tZ1
 have hlow:∀ W,W2.grownBy W (some w.heap.size)→Below w.heap.size w W:=fun W h=>hb2.grown h tZ1 (fun k hk=>by simp at hk;omega)
 clear hW2 hb2 hsz
 refine wp_region_box tZ2 tZ2 w.heap.size 27 [.string ⟨nm.toArray⟩,.int .i64 qu,.int .i64 nx,.slice s1 s2 s3,.slice g1 g2 g3,.slice t1 t2 t3,.slice l1 l2 l3] [(13,3,2),(15,4,5),(17,5,8),(19,6,11)] tZ2 [(fun v _=>v=.pointer (some ⟨w.heap.size,3,none⟩)),
  (fun v _=>v=.slice s1 s2 s3),
  (fun v W=>∃ A n c,v=.slice A n c∧Qz W (.slice A n c)),
  (fun v _=>v=.pointer (some ⟨w.heap.size,4,none⟩)),
  (fun v _=>v=.slice g1 g2 g3),
  (fun v W=>∃ A n c,v=.slice A n c∧Qg W (.slice A n c)),
  (fun v _=>v=.pointer (some ⟨w.heap.size,5,none⟩)),
  (fun v _=>v=.slice t1 t2 t3),
  (fun v W=>∃ A n c,v=.slice A n c∧Qt W (.slice A n c)),
  (fun v _=>v=.pointer (some ⟨w.heap.size,6,none⟩)),
  (fun v _=>v=.slice l1 l2 l3),
  (fun v W=>∃ A n c,v=.slice A n c∧Ql W (.slice A n c)),
  (fun v _=>v=.pointer (some ⟨w.heap.size,3,none⟩)),
  (fun v _=>v=undef),
  (fun v _=>v=.pointer (some ⟨w.heap.size,4,none⟩)),
  (fun v _=>v=undef),
  (fun v _=>v=.pointer (some ⟨w.heap.size,5,none⟩)),
  (fun v _=>v=undef),
  (fun v _=>v=.pointer (some ⟨w.heap.size,6,none⟩)),
  (fun v _=>v=undef)] (staysB_cons StaysB.pure (staysB_cons StaysB.pure (staysB_cons (fun v W W' h hg=>let ⟨A,n,c,h1,h2⟩:=h;⟨A,n,c,h1,hqz _ _ _ _ h2 hg tZ1⟩) (staysB_cons StaysB.pure (staysB_cons StaysB.pure (staysB_cons (fun v W W' h hg=>let ⟨A,n,c,h1,h2⟩:=h;⟨A,n,c,h1,hqg _ _ _ _ h2 hg tZ1⟩) (staysB_cons StaysB.pure (staysB_cons StaysB.pure (staysB_cons (fun v W W' h hg=>let ⟨A,n,c,h1,h2⟩:=h;⟨A,n,c,h1,hqt _ _ _ _ h2 hg tZ1⟩) (staysB_cons StaysB.pure (staysB_cons StaysB.pure (staysB_cons (fun v W W' h hg=>let ⟨A,n,c,h1,h2⟩:=h;⟨A,n,c,h1,hql _ _ _ _ h2 hg tZ1⟩) (staysB_cons StaysB.pure (staysB_cons StaysB.pure (staysB_cons StaysB.pure (staysB_cons StaysB.pure (staysB_cons StaysB.pure (staysB_cons StaysB.pure (staysB_cons StaysB.pure (staysB_cons StaysB.pure (staysB_nil))))))))))))))))))))) kB ?_ ?_
 ·intro i oo ho m W hgr hmi hcl hdeps hcell hfz hlt AA KK hA hK1 hK2
  clear kB kZ
  rcases i with _ | _ | _ | _ | _ | _ | _ | _ | _ | _ | _ | _ | _ | _ | _ | _ | _ | _ | _ | _ | i
  ·injection ho with ho
   subst ho
   have ef1:AA.tmps[1]?.getD undef=.pointer (some ⟨w.heap.size,0,none⟩):=by rw [hA];exact tmps_free tZ2
   have hK0:KK (AA.put (some 3) _) _:=hK1 (.pointer (some ⟨w.heap.size,3,none⟩)) _ (Below.refl _ _) (Eq.refl _) tZ4
   exact mZ113
  ·injection ho with ho
   subst ho
   obtain ⟨x0,hx0,hg0⟩:=hdeps ⟨0,.data⟩ tZ3 rfl
   have hg0:x0=.pointer (some ⟨w.heap.size,3,none⟩):=hg0
   subst hg0
   have e0:AA.tmps[3]?.getD undef=.pointer (some ⟨w.heap.size,3,none⟩):=by rw [hA];exact tmps_own tZ2 hx0 (of_decide_eq_true tZ2)
   have hs0:m 13=none:=none_up hcl (j:=13) rfl (e:=⟨1,.phase⟩) tZ3 rfl hmi
   have hce:=hcell 3
   simp only [fld] at hce
   simp [hs0] at hce
   have hK0:KK (AA.put (some 4) _) _:=hK1 (.slice s1 s2 s3) _ (Below.refl _ _) (Eq.refl _) tZ4
   exact mZ116
  ·injection ho with ho
   subst ho
   obtain ⟨x1,hx1,hg1⟩:=hdeps ⟨1,.data⟩ tZ3 rfl
   have hg1:x1=.slice s1 s2 s3:=hg1
   subst hg1
   have e1:AA.tmps[4]?.getD undef=.slice s1 s2 s3:=by rw [hA];exact tmps_own tZ2 hx1 (of_decide_eq_true tZ2)
   exact mZ115
  ·exact mZ118
  ·injection ho with ho
   subst ho
   obtain ⟨x3,hx3,hg3⟩:=hdeps ⟨3,.data⟩ tZ3 rfl
   have hg3:x3=.pointer (some ⟨w.heap.size,4,none⟩):=hg3
   subst hg3
   have e3:AA.tmps[6]?.getD undef=.pointer (some ⟨w.heap.size,4,none⟩):=by rw [hA];exact tmps_own tZ2 hx3 (of_decide_eq_true tZ2)
   have hs0:m 15=none:=none_up hcl (j:=15) rfl (e:=⟨4,.phase⟩) tZ3 rfl hmi
   have hce:=hcell 4
   simp only [fld] at hce
   simp [hs0] at hce
   have hK0:KK (AA.put (some 7) _) _:=hK1 (.slice g1 g2 g3) _ (Below.refl _ _) (Eq.refl _) tZ4
   exact mZ116
  ·injection ho with ho
   subst ho
   obtain ⟨x4,hx4,hg4⟩:=hdeps ⟨4,.data⟩ tZ3 rfl
   have hg4:x4=.slice g1 g2 g3:=hg4
   subst hg4
   have e4:AA.tmps[7]?.getD undef=.slice g1 g2 g3:=by rw [hA];exact tmps_own tZ2 hx4 (of_decide_eq_true tZ2)
   have hKK:=hK1
   clear hK1 hK2 hA hdeps hcl hmi hcell hfz
   go_simp
   refine (hCg W (hlow W hgr) (Nat.le_trans hsz2 hgr.size)).mono ?_
   exact mZ114
  ·injection ho with ho
   subst ho
   have ef1:AA.tmps[1]?.getD undef=.pointer (some ⟨w.heap.size,0,none⟩):=by rw [hA];exact tmps_free tZ2
   have hK0:KK (AA.put (some 9) _) _:=hK1 (.pointer (some ⟨w.heap.size,5,none⟩)) _ (Below.refl _ _) (Eq.refl _) tZ4
   exact mZ113
  ·injection ho with ho
   subst ho
   obtain ⟨x6,hx6,hg6⟩:=hdeps ⟨6,.data⟩ tZ3 rfl
   have hg6:x6=.pointer (some ⟨w.heap.size,5,none⟩):=hg6
   subst hg6
   have e6:AA.tmps[9]?.getD undef=.pointer (some ⟨w.heap.size,5,none⟩):=by rw [hA];exact tmps_own tZ2 hx6 (of_decide_eq_true tZ2)
   have hs0:m 17=none:=none_up hcl (j:=17) rfl (e:=⟨7,.phase⟩) tZ3 rfl hmi
   have hce:=hcell 5
   simp only [fld] at hce
   simp [hs0] at hce
   have hK0:KK (AA.put (some 10) _) _:=hK1 (.slice t1 t2 t3) _ (Below.refl _ _) (Eq.refl _) tZ4
   exact mZ116
  ·injection ho with ho
   subst ho
   obtain ⟨x7,hx7,hg7⟩:=hdeps ⟨7,.data⟩ tZ3 rfl
   have hg7:x7=.slice t1 t2 t3:=hg7
   subst hg7
   have e7:AA.tmps[10]?.getD undef=.slice t1 t2 t3:=by rw [hA];exact tmps_own tZ2 hx7 (of_decide_eq_true tZ2)
   have hKK:=hK1
   clear hK1 hK2 hA hdeps hcl hmi hcell hfz
   go_simp
   refine (hCt W (hlow W hgr) (Nat.le_trans hsz2 hgr.size)).mono ?_
   exact mZ114
  ·injection ho with ho
   subst ho
   have ef1:AA.tmps[1]?.getD undef=.pointer (some ⟨w.heap.size,0,none⟩):=by rw [hA];exact tmps_free tZ2
   have hK0:KK (AA.put (some 12) _) _:=hK1 (.pointer (some ⟨w.heap.size,6,none⟩)) _ (Below.refl _ _) (Eq.refl _) tZ4
   exact mZ113
  ·injection ho with ho
   subst ho
   obtain ⟨x9,hx9,hg9⟩:=hdeps ⟨9,.data⟩ tZ3 rfl
   have hg9:x9=.pointer (some ⟨w.heap.size,6,none⟩):=hg9
   subst hg9
   have e9:AA.tmps[12]?.getD undef=.pointer (some ⟨w.heap.size,6,none⟩):=by rw [hA];exact tmps_own tZ2 hx9 (of_decide_eq_true tZ2)
   have hs0:m 19=none:=none_up hcl (j:=19) rfl (e:=⟨10,.phase⟩) tZ3 rfl hmi
   have hce:=hcell 6
   simp only [fld] at hce
   simp [hs0] at hce
   have hK0:KK (AA.put (some 13) _) _:=hK1 (.slice l1 l2 l3) _ (Below.refl _ _) (Eq.refl _) tZ4
   exact mZ116
  ·injection ho with ho
   subst ho
   obtain ⟨x10,hx10,hg10⟩:=hdeps ⟨10,.data⟩ tZ3 rfl
   have hg10:x10=.slice l1 l2 l3:=hg10
   subst hg10
   have e10:AA.tmps[13]?.getD undef=.slice l1 l2 l3:=by rw [hA];exact tmps_own tZ2 hx10 (of_decide_eq_true tZ2)
   have hKK:=hK1
   clear hK1 hK2 hA hdeps hcl hmi hcell hfz
   go_simp
   refine (hCl W (hlow W hgr) (Nat.le_trans hsz2 hgr.size)).mono ?_
   exact mZ114
  ·injection ho with ho
   subst ho
   have ef1:AA.tmps[1]?.getD undef=.pointer (some ⟨w.heap.size,0,none⟩):=by rw [hA];exact tmps_free tZ2
   have hK0:KK (AA.put (some 15) _) _:=hK1 (.pointer (some ⟨w.heap.size,3,none⟩)) _ (Below.refl _ _) (Eq.refl _) tZ4
   exact mZ113
  ·injection ho with ho
   subst ho
   obtain ⟨x2,hx2,hg2⟩:=hdeps ⟨2,.data⟩ tZ3 rfl
   obtain ⟨Az,nz,cz,hv2,hQ2⟩:=hg2
   subst hv2
   have e2:AA.tmps[5]?.getD undef=.slice Az nz cz:=by rw [hA];exact tmps_own tZ2 hx2 (of_decide_eq_true tZ2)
   obtain ⟨x12,hx12,hg12⟩:=hdeps ⟨12,.data⟩ tZ3 rfl
   have hg12:x12=.pointer (some ⟨w.heap.size,3,none⟩):=hg12
   subst hg12
   have e12:AA.tmps[15]?.getD undef=.pointer (some ⟨w.heap.size,3,none⟩):=by rw [hA];exact tmps_own tZ2 hx12 (of_decide_eq_true tZ2)
   have hce:=hcell 3
   simp only [fld] at hce
   simp [hmi] at hce
   have hfe:=hfz 3
   have hK0:KK (AA.put none undef) _:=hK2 3 2 (.slice Az nz cz) tZ3 hx2 (Eq.refl _)
   exact mZ113
  ·injection ho with ho
   subst ho
   have ef1:AA.tmps[1]?.getD undef=.pointer (some ⟨w.heap.size,0,none⟩):=by rw [hA];exact tmps_free tZ2
   have hK0:KK (AA.put (some 16) _) _:=hK1 (.pointer (some ⟨w.heap.size,4,none⟩)) _ (Below.refl _ _) (Eq.refl _) tZ4
   exact mZ113
  ·injection ho with ho
   subst ho
   obtain ⟨x5,hx5,hg5⟩:=hdeps ⟨5,.data⟩ tZ3 rfl
   obtain ⟨Ag,ng,cg,hv5,hQ5⟩:=hg5
   subst hv5
   have e5:AA.tmps[8]?.getD undef=.slice Ag ng cg:=by rw [hA];exact tmps_own tZ2 hx5 (of_decide_eq_true tZ2)
   obtain ⟨x14,hx14,hg14⟩:=hdeps ⟨14,.data⟩ tZ3 rfl
   have hg14:x14=.pointer (some ⟨w.heap.size,4,none⟩):=hg14
   subst hg14
   have e14:AA.tmps[16]?.getD undef=.pointer (some ⟨w.heap.size,4,none⟩):=by rw [hA];exact tmps_own tZ2 hx14 (of_decide_eq_true tZ2)
   have hce:=hcell 4
   simp only [fld] at hce
   simp [hmi] at hce
   have hfe:=hfz 4
   have hK0:KK (AA.put none undef) _:=hK2 4 5 (.slice Ag ng cg) tZ3 hx5 (Eq.refl _)
   exact mZ113
  ·injection ho with ho
   subst ho
   have ef1:AA.tmps[1]?.getD undef=.pointer (some ⟨w.heap.size,0,none⟩):=by rw [hA];exact tmps_free tZ2
   have hK0:KK (AA.put (some 17) _) _:=hK1 (.pointer (some ⟨w.heap.size,5,none⟩)) _ (Below.refl _ _) (Eq.refl _) tZ4
   exact mZ113
  ·injection ho with ho
   subst ho
   obtain ⟨x8,hx8,hg8⟩:=hdeps ⟨8,.data⟩ tZ3 rfl
   obtain ⟨At,nt,ct,hv8,hQ8⟩:=hg8
   subst hv8
   have e8:AA.tmps[11]?.getD undef=.slice At nt ct:=by rw [hA];exact tmps_own tZ2 hx8 (of_decide_eq_true tZ2)
   obtain ⟨x16,hx16,hg16⟩:=hdeps ⟨16,.data⟩ tZ3 rfl
   have hg16:x16=.pointer (some ⟨w.heap.size,5,none⟩):=hg16
   subst hg16
   have e16:AA.tmps[17]?.getD undef=.pointer (some ⟨w.heap.size,5,none⟩):=by rw [hA];exact tmps_own tZ2 hx16 (of_decide_eq_true tZ2)
   have hce:=hcell 5
   simp only [fld] at hce
   simp [hmi] at hce
   have hfe:=hfz 5
   have hK0:KK (AA.put none undef) _:=hK2 5 8 (.slice At nt ct) tZ3 hx8 (Eq.refl _)
   exact mZ113
  ·injection ho with ho
   subst ho
   have ef1:AA.tmps[1]?.getD undef=.pointer (some ⟨w.heap.size,0,none⟩):=by rw [hA];exact tmps_free tZ2
   have hK0:KK (AA.put (some 18) _) _:=hK1 (.pointer (some ⟨w.heap.size,6,none⟩)) _ (Below.refl _ _) (Eq.refl _) tZ4
   exact mZ113
  ·injection ho with ho
   subst ho
   obtain ⟨x11,hx11,hg11⟩:=hdeps ⟨11,.data⟩ tZ3 rfl
   obtain ⟨Al,nl,cl,hv11,hQ11⟩:=hg11
   subst hv11
   have e11:AA.tmps[14]?.getD undef=.slice Al nl cl:=by rw [hA];exact tmps_own tZ2 hx11 (of_decide_eq_true tZ2)
   obtain ⟨x18,hx18,hg18⟩:=hdeps ⟨18,.data⟩ tZ3 rfl
   have hg18:x18=.pointer (some ⟨w.heap.size,6,none⟩):=hg18
   subst hg18
   have e18:AA.tmps[18]?.getD undef=.pointer (some ⟨w.heap.size,6,none⟩):=by rw [hA];exact tmps_own tZ2 hx18 (of_decide_eq_true tZ2)
   have hce:=hcell 6
   simp only [fld] at hce
   simp [hmi] at hce
   have hfe:=hfz 6
   have hK0:KK (AA.put none undef) _:=hK2 6 11 (.slice Al nl cl) tZ3 hx11 (Eq.refl _)
   exact mZ113
  ·simp at ho
 ·intro m W hgr hall hbx
  obtain ⟨x0,m0,g0⟩:=hall 0 tZ3
  replace g0:x0=.pointer (some ⟨w.heap.size,3,none⟩):=g0
  subst g0
  obtain ⟨x1,m1,g1⟩:=hall 1 tZ3
  replace g1:x1=.slice s1 s2 s3:=g1
  subst g1
  obtain ⟨x2,m2,g2⟩:=hall 2 tZ3
  obtain ⟨Az,nz,cz,hv2,qz⟩:=g2
  subst hv2
  obtain ⟨x3,m3,g3⟩:=hall 3 tZ3
  replace g3:x3=.pointer (some ⟨w.heap.size,4,none⟩):=g3
  subst g3
  obtain ⟨x4,m4,g4⟩:=hall 4 tZ3
  replace g4:x4=.slice g1 g2 g3:=g4
  subst g4
  obtain ⟨x5,m5,g5⟩:=hall 5 tZ3
  obtain ⟨Ag,ng,cg,hv5,qg⟩:=g5
  subst hv5
  obtain ⟨x6,m6,g6⟩:=hall 6 tZ3
  replace g6:x6=.pointer (some ⟨w.heap.size,5,none⟩):=g6
  subst g6
  obtain ⟨x7,m7,g7⟩:=hall 7 tZ3
  replace g7:x7=.slice t1 t2 t3:=g7
  subst g7
  obtain ⟨x8,m8,g8⟩:=hall 8 tZ3
  obtain ⟨At,nt,ct,hv8,qt⟩:=g8
  subst hv8
  obtain ⟨x9,m9,g9⟩:=hall 9 tZ3
  replace g9:x9=.pointer (some ⟨w.heap.size,6,none⟩):=g9
  subst g9
  obtain ⟨x10,m10,g10⟩:=hall 10 tZ3
  replace g10:x10=.slice l1 l2 l3:=g10
  subst g10
  obtain ⟨x11,m11,g11⟩:=hall 11 tZ3
  obtain ⟨Al,nl,cl,hv11,ql⟩:=g11
  subst hv11
  obtain ⟨x12,m12,g12⟩:=hall 12 tZ3
  replace g12:x12=.pointer (some ⟨w.heap.size,3,none⟩):=g12
  subst g12
  obtain ⟨x13,m13,g13⟩:=hall 13 tZ3
  replace g13:x13=undef:=g13
  subst g13
  obtain ⟨x14,m14,g14⟩:=hall 14 tZ3
  replace g14:x14=.pointer (some ⟨w.heap.size,4,none⟩):=g14
  subst g14
  obtain ⟨x15,m15,g15⟩:=hall 15 tZ3
  replace g15:x15=undef:=g15
  subst g15
  obtain ⟨x16,m16,g16⟩:=hall 16 tZ3
  replace g16:x16=.pointer (some ⟨w.heap.size,5,none⟩):=g16
  subst g16
  obtain ⟨x17,m17,g17⟩:=hall 17 tZ3
  replace g17:x17=undef:=g17
  subst g17
  obtain ⟨x18,m18,g18⟩:=hall 18 tZ3
  replace g18:x18=.pointer (some ⟨w.heap.size,6,none⟩):=g18
  subst g18
  obtain ⟨x19,m19,g19⟩:=hall 19 tZ3
  replace g19:x19=undef:=g19
  subst g19
  rw [frameM_all tZ2 [.pointer (some ⟨w.heap.size,3,none⟩),.slice s1 s2 s3,.slice Az nz cz,.pointer (some ⟨w.heap.size,4,none⟩),.slice g1 g2 g3,.slice Ag ng cg,.pointer (some ⟨w.heap.size,5,none⟩),.slice t1 t2 t3,.slice At nt ct,.pointer (some ⟨w.heap.size,6,none⟩),.slice l1 l2 l3,.slice Al nl cl,.pointer (some ⟨w.heap.size,3,none⟩),undef,.pointer (some ⟨w.heap.size,4,none⟩),undef,.pointer (some ⟨w.heap.size,5,none⟩),undef,.pointer (some ⟨w.heap.size,6,none⟩),undef] rfl (fun i hi=>by
   rcases i with _ | _ | _ | _ | _ | _ | _ | _ | _ | _ | _ | _ | _ | _ | _ | _ | _ | _ | _ | _ | i
   ·exact m0
   ·exact m1
   ·exact m2
   ·exact m3
   ·exact m4
   ·exact m5
   ·exact m6
   ·exact m7
   ·exact m8
   ·exact m9
   ·exact m10
   ·exact m11
   ·exact m12
   ·exact m13
   ·exact m14
   ·exact m15
   ·exact m16
   ·exact m17
   ·exact m18
   ·exact m19
   ·simp at hi;omega)]
  obtain ⟨cs,hcl,hbk,hcf⟩:=hbx
  have hcs:cs=[.string ⟨nm.toArray⟩,.int .i64 qu,.int .i64 nx,.slice Az nz cz,.slice Ag ng cg,.slice At nt ct,.slice Al nl cl]:=by
   apply List.ext_getElem?
   intro f
   rw [hcf f]
   simp only [fld,m13,m2,m15,m5,m17,m8,m19,m11,Option.isSome_some,and_true]
   rcases f with _ | _ | _ | _ | _ | _ | _ | f <;> simp
  subst hcs
  clear hall hcf hcl m0 m1 m2 m3 m4 m5 m6 m7 m8 m9 m10 m11 m12 m13 m14 m15 m16 m17 m18 m19
  simp only [putAll,Act.put,zA,zC,zB]
  have k3:=hbk
  have kz:=kZ.grown hgr tZ3
  have hbw:=hlow W hgr
  clear hbk
  have hset:∀ (Q:World→Value→Prop),(∀ W W' v r,Q W v→W.grownBy W' (some r)→r<w.heap.size+2→Q W' v)→∀ (cs:List Value) (W:World) (o:Nat) (v:Value),Q W v→Q (W.setCells (w.heap.size+1) o cs) v:=by
   exact mZ112
  have HC:Hid (∀ j v,([.string ⟨nm.toArray⟩,.int .i64 qu,.int .i64 nx,.slice Az nz cz,.slice Ag ng cg,.slice At nt ct,.slice Al nl cl]:List Value)[j]?=some v→W.cell? ((⟨w.heap.size,0,none⟩:Addr).add j)=some v):=by
   exact mZ111
  have hth:=Lib.hid (kz.there 7 tZ4)
  have k4:=Blk.setCells (g:=w.heap.size+1) [.string ⟨nm.toArray⟩,.int .i64 qu,.int .i64 nx,.slice Az nz cz,.slice Ag ng cg,.slice At nt ct,.slice Al nl cl] W [] [.string ⟨#[]⟩,.int .i64 0,.int .i64 0,.slice none 0 0,.slice none 0 0,.slice none 0 0,.slice none 0 0] rfl kz
  simp only [List.length_nil,List.nil_append] at k4
  have qz:=Lib.hid (show Qz (W.setCells (w.heap.size+1) 0 [.string ⟨nm.toArray⟩,.int .i64 qu,.int .i64 nx,.slice Az nz cz,.slice Ag ng cg,.slice At nt ct,.slice Al nl cl]) _ from hset _ hqz _ _ _ _ qz)
  have qg:=Lib.hid (show Qg (W.setCells (w.heap.size+1) 0 [.string ⟨nm.toArray⟩,.int .i64 qu,.int .i64 nx,.slice Az nz cz,.slice Ag ng cg,.slice At nt ct,.slice Al nl cl]) _ from hset _ hqg _ _ _ _ qg)
  have qt:=Lib.hid (show Qt (W.setCells (w.heap.size+1) 0 [.string ⟨nm.toArray⟩,.int .i64 qu,.int .i64 nx,.slice Az nz cz,.slice Ag ng cg,.slice At nt ct,.slice Al nl cl]) _ from hset _ hqt _ _ _ _ qt)
  have ql:=Lib.hid (show Ql (W.setCells (w.heap.size+1) 0 [.string ⟨nm.toArray⟩,.int .i64 qu,.int .i64 nx,.slice Az nz cz,.slice Ag ng cg,.slice At nt ct,.slice Al nl cl]) _ from hset _ hql _ _ _ _ ql)
  have hbw:=Lib.hid (below_setCells (g:=w.heap.size+1) tZ1 [.string ⟨nm.toArray⟩,.int .i64 qu,.int .i64 nx,.slice Az nz cz,.slice Ag ng cg,.slice At nt ct,.slice Al nl cl] W 0 hbw)
  clear hset hlow hgr hsz2 kZ hqz hCz hqg hCg hqt hCt hql hCl
  obtain ⟨W4,hW4⟩:∃ W',W'=W.setCells (w.heap.size+1) 0 (#[.string ⟨nm.toArray⟩,.int .i64 qu,.int .i64 nx,.slice Az nz cz,.slice Ag ng cg,.slice At nt ct,.slice Al nl cl]:Array Value).toList:=⟨_,rfl⟩
  rw [show ([.string ⟨nm.toArray⟩,.int .i64 qu,.int .i64 nx,.slice Az nz cz,.slice Ag ng cg,.slice At nt ct,.slice Al nl cl]:List Value)=(#[.string ⟨nm.toArray⟩,.int .i64 qu,.int .i64 nx,.slice Az nz cz,.slice Ag ng cg,.slice At nt ct,.slice Al nl cl]:Array Value).toList from rfl,← hW4] at k4 qz qg qt ql hbw
  have HL:Hid ((loadVar 27 ⟨w.heap.size+1,0,none⟩).run Tryz.prog W4=.ok (.agg #[.string ⟨nm.toArray⟩,.int .i64 qu,.int .i64 nx,.slice Az nz cz,.slice Ag ng cg,.slice At nt ct,.slice Al nl cl]) W4):=by
   refine run_loadVar_at W4 ⟨w.heap.size+1,0,none⟩ 27 [.string ⟨nm.toArray⟩,.int .i64 qu,.int .i64 nx,.slice Az nz cz,.slice Ag ng cg,.slice At nt ct,.slice Al nl cl] _ (fun j v hv=>?_) Tryz.underlying27 rfl tZ2
   rw [addr_add0,k4.cell j,zF]
   exact hv
  clear k3 kz k4
  go_wp2_with (first | (refine wpList_load_at rfl 27 (.tmp 1) rfl ⟨w.heap.size,0,none⟩ rfl [.string ⟨nm.toArray⟩,.int .i64 qu,.int .i64 nx,.slice Az nz cz,.slice Ag ng cg,.slice At nt ct,.slice Al nl cl] _ HC.out Tryz.underlying27 rfl tZ2 ?_) | (refine wpList_store_mid rfl 27 (.tmp 2) (.tmp 19) rfl (w.heap.size+1) 0 #[.string ⟨nm.toArray⟩,.int .i64 qu,.int .i64 nx,.slice Az nz cz,.slice Ag ng cg,.slice At nt ct,.slice Al nl cl] rfl rfl hth.out tZ2 tZ5 ?_;rw [← hW4];clear hW4))
  exact bodyPost_ret (v:=.agg #[.string ⟨nm.toArray⟩,.int .i64 qu,.int .i64 nx,.slice Az nz cz,.slice Ag ng cg,.slice At nt ct,.slice Al nl cl]) (results_cell rfl rfl HL.out) rfl ⟨Az,nz,cz,Ag,ng,cg,At,nt,ct,Al,nl,cl,rfl,qz.out,qg.out,qt.out,ql.out,hbw.out⟩
end Go.Proofs.YtiojfffgiejibaaGreatDoor
