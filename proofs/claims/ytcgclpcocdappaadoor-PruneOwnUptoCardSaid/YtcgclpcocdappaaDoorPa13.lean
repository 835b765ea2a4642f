/-
  A region that draws its order and only reads and makes memory: what is said of each operation's value holds whatever comes behind it. cmp.Or at a row of two numbers; the order of grants: by their contracts.
-/
import Derived.WalkKit
import Derived.WalkSpells
import Derived.Below
import Derived.Laws.OwnMore
import Derived.Deep.AppendLies
import Derived.Deep.Draws
import Derived.Laws.Rows
import Derived.Maps.AppendAt
import Derived.RegionTactic
import Derived.OwnWalk
import Derived.Deep.QuietTactic
import Derived.BigQuiet
import Derived.Lib.Hide
import Derived.Laws.CopyOwn
import Derived.IntWalk
import Derived.Orders
import Derived.Deep.Quiet
import Derived.Handy
import Derived.Test.YtcgclpcocdappaaDoorRows
import Derived.Sort.Walk0
import Derived.Sort.KeysCollected
import Derived.Test.YtcgclpcocdappaaDoorP0
import Derived.Test.YtcgclpcocdappaaDoorPa1
import Derived.Test.YtcgclpcocdappaaDoorPa5
import Derived.Test.YtcgclpcocdappaaDoorPa7
import Derived.Test.YtcgclpcocdappaaDoorPa11
namespace Go.Proofs.YtcgclpcocdappaaDoor
open Go.RowKit
section
variable {P:Program} {ops:Array Oper}
/-- what is said of each operation's value, by a list -/
def Says (Gs:List (Value→World→Prop)) (i:Nat) (v:Value) (W:World):Prop:=match Gs[i]? with
 | some p=>p v W
 | none=>True
def Stays (p:Value→World→Prop):Prop:=∀ v W W',p v W→Below W.heap.size W W'→p v W'
theorem Stays.pure {q:Value→Prop}:Stays (fun v _=>q v):=fun _ _ _ h _=>h
theorem Stays.own (base:Nat) (e:TypeId) (size n:Nat) (xs:List Value):Stays (fun v W=>W.ownsRow base e size v n xs):=fun _ _ _ h hb=>own_below h hb
theorem wp_region_good {id:Nat} {a0:Act} {w:World} {Q:Exit→Act→World→Prop} (hm:P.follows .mixedOrders=true) (hok:regionOk ops a0.tmps.size=true) (Gs:List (Value→World→Prop)) (hst:∀ p∈Gs,Stays p)
  (hstep:∀ i o,ops[i]?=some o→∀ (m:Nat→Option Value) (W:World),Below w.heap.size w W→(∀ e∈o.after,Region.binds .any e=true→∃ v,m e.on=some v∧Says Gs e.on v W) →
   ∀ (A:Act) (K:Act→World→Prop),A=frameM a0 ops m→(∀ v W',Below W.heap.size W W'→Says Gs i v W'→K (A.put o.dst v) W')→if Region.wanted o (yielded ops A.tmps)=true then o.wp P A W K Q else K (A.put o.dst undef) W)
  (hend:∀ (m:Nat→Option Value) (W:World),Below w.heap.size w W→(∀ i,i<ops.size→∃ v,m i=some v∧Says Gs i v W)→Q .normal (frameM a0 ops m) W) :
  (Code.region id ops true).wp P Q a0 w:=by
 have hsay:∀ i v W W',Says Gs i v W→Below W.heap.size W W'→Says Gs i v W':=by
  intro i v W W' h hb
  unfold Says at h ⊢
  cases hG:Gs[i]? with
  | none=>trivial
  | some p=>rw [hG] at h;exact hst p (List.mem_of_getElem? hG) v W W' h hb
 refine wp_region_inv hm hok (fun m W=>Below w.heap.size w W∧∀ i v,m i=some v→Says Gs i v W) ⟨(Below.refl _ _).drew,fun _ _ h=>by cases h⟩ ?_ ?_
 ·intro i o ho m W hJ hmi hdeps A K hA hK
  refine hstep i o ho m W hJ.1 (fun e he hb=>?_) A K hA (fun v W' hb hS=>hK v W' ⟨below_step hJ.1 hb,fun j u hu=>?_⟩)
  ·have:=hdeps e he hb
   cases hme:m e.on with
   | none=>rw [hme] at this;cases this
   | some v=>exact ⟨v,rfl,hJ.2 _ _ hme⟩
  ·by_cases hj:j=i
   ·subst hj
    rw [upd_self] at hu
    cases hu
    exact hS
   ·rw [upd_ne m v hj] at hu
    exact hsay j u W W' (hJ.2 j u hu) hb
 ·intro m W hJ hall
  refine hend m W hJ.1 fun i hi=>?_
  have:=hall i hi
  cases hmi:m i with
  | none=>rw [hmi] at this;cases this
  | some v=>exact ⟨v,rfl,hJ.2 _ _ hmi⟩
/-- the same; each step is told besides that it has not come up, and that whatever has come up had all that it waits for -/
theorem wp_region_good2 {id:Nat} {a0:Act} {w:World} {Q:Exit→Act→World→Prop} (hm:P.follows .mixedOrders=true) (hok:regionOk ops a0.tmps.size=true) (Gs:List (Value→World→Prop)) (hst:∀ p∈Gs,Stays p)
  (hstep:∀ i o,ops[i]?=some o→∀ (m:Nat→Option Value) (W:World),Below w.heap.size w W→m i=none→(∀ j o',ops[j]?=some o'→(m j).isSome=true→∀ e∈o'.after,Region.binds .any e=true→(m e.on).isSome=true)→(∀ e∈o.after,Region.binds .any e=true→∃ v,m e.on=some v∧Says Gs e.on v W) →
   ∀ (A:Act) (K:Act→World→Prop),A=frameM a0 ops m→(∀ v W',Below W.heap.size W W'→Says Gs i v W'→K (A.put o.dst v) W')→if Region.wanted o (yielded ops A.tmps)=true then o.wp P A W K Q else K (A.put o.dst undef) W)
  (hend:∀ (m:Nat→Option Value) (W:World),Below w.heap.size w W→(∀ i,i<ops.size→∃ v,m i=some v∧Says Gs i v W)→Q .normal (frameM a0 ops m) W) :
  (Code.region id ops true).wp P Q a0 w:=by
 have hsay:∀ i v W W',Says Gs i v W→Below W.heap.size W W'→Says Gs i v W':=by
  intro i v W W' h hb
  unfold Says at h ⊢
  cases hG:Gs[i]? with
  | none=>trivial
  | some p=>rw [hG] at h;exact hst p (List.mem_of_getElem? hG) v W W' h hb
 refine wp_region_inv hm hok (fun m W=>Below w.heap.size w W∧(∀ i v,m i=some v→Says Gs i v W)∧(∀ j o',ops[j]?=some o'→(m j).isSome=true→∀ e∈o'.after,Region.binds .any e=true→(m e.on).isSome=true)) ⟨(Below.refl _ _).drew,fun _ _ h=>(by cases h),fun _ _ _ h=>(by cases h)⟩ ?_ ?_
 ·intro i o ho m W hJ hmi hdeps A K hA hK
  refine hstep i o ho m W hJ.1 hmi hJ.2.2 (fun e he hb=>?_) A K hA (fun v W' hb hS=>hK v W' ⟨below_step hJ.1 hb,fun j u hu=>?_,fun j o' ho' hj e he hbi=>?_⟩)
  ·have:=hdeps e he hb
   cases hme:m e.on with
   | none=>rw [hme] at this;cases this
   | some v=>exact ⟨v,rfl,hJ.2.1 _ _ hme⟩
  ·by_cases hj:j=i
   ·subst hj
    rw [upd_self] at hu
    cases hu
    exact hS
   ·rw [upd_ne m v hj] at hu
    exact hsay j u W W' (hJ.2.1 j u hu) hb
  ·by_cases hei:e.on=i
   ·rw [hei,upd_self];rfl
   ·rw [upd_ne m v hei]
    by_cases hji:j=i
    ·subst hji
     rw [ho] at ho'
     cases ho'
     exact hdeps e he hbi
    ·rw [upd_ne m v hji] at hj
     exact hJ.2.2 j o' ho' hj e he hbi
 ·intro m W hJ hall
  refine hend m W hJ.1 fun i hi=>?_
  have:=hall i hi
  cases hmi:m i with
  | none=>rw [hmi] at this;cases this
  | some v=>exact ⟨v,rfl,hJ.2.1 _ _ hmi⟩
end
theorem none_up {ops:Array Oper} {m:Nat→Option Value} (hcl:∀ j o',ops[j]?=some o'→(m j).isSome=true→∀ e∈o'.after,Region.binds .any e=true→(m e.on).isSome=true) {j:Nat} {o:Oper} (ho:ops[j]?=some o) {e:Edge} (he:e∈o.after) (hb:Region.binds .any e=true) (hi:m e.on=none):m j=none:=by
 cases hj:m j with
 | none=>rfl
 | some v =>
  have:=hcl j o ho (by rw [hj];rfl) e he hb
  rw [hi] at this
  cases this
theorem tmps_pre2 {ops:Array Oper} {a0:Act} {m:Nat→Option Value} {k i:Nat} (hw:ownerOf ops k=some i) (hm:m i=none):(frameM a0 ops m).tmps[k]?.getD undef=a0.tmps[k]?.getD undef:=by
 by_cases hk:k<a0.tmps.size <;> simp [frameM,hk,hw,hm]
theorem stays_nil:∀ p∈([]:List (Value→World→Prop)),Stays p:=fun _ h=>by cases h
theorem stays_cons {p:Value→World→Prop} {l:List (Value→World→Prop)} (hp:Stays p) (hl:∀ q∈l,Stays q):∀ q∈p :: l,Stays q:=by
 intro q hq
 rcases List.mem_cons.1 hq with rfl | h
 ·exact hp
 ·exact hl q h
theorem own_lit (W:World) (cs:Array Value) (T:TypeId) (n:Nat) (h:cs.size=n) (hm:n≤maxLen):(W.alloc (.cells cs T)).ownsRow W.heap.size T 1 (.slice (some ⟨W.heap.size,0,none⟩) n n) n cs.toList:=by
 subst h
 refine ⟨by simp,.inr ⟨W.heap.size,cs.size,cs,rfl,Nat.le_refl _,heap_alloc_new W _,Nat.le_refl _,hm,by simp,?_⟩⟩
 rw [Nat.mul_one,List.take_of_length_le (by simp)]
end Go.Proofs.YtcgclpcocdappaaDoor
namespace Go.Proofs.YtcgclpcocdappaaDoor
open Go.RowKit
def orI2 (x y:Int):Int:=if x=0 then y else x
set_option maxRecDepth 100000 in
theorem orI2_any (x y:Int) (A:Option Addr) (c:Nat) (w:World) (B:Nat) (hr:Reads w B 1 A 2 [.int .i64 x,.int .i64 y]) :
  Calls Tryd.prog 74 #[.slice A 2 c] w fun e w'=>e=.returned (.int .i64 (orI2 x y))∧∃ q,w'=w.drewN q:=by
 obtain ⟨ad,rfl,_,hc⟩:=hr.2 (by omega)
 have h0:w.cell? ad=some (.int .i64 x):=by have:=hc 0 _ rfl;rwa [add_zero] at this
 have h1:w.cell? ⟨ad.block,ad.off+1,none⟩=some (.int .i64 y):=by have:=hc 1 _ rfl;rwa [addr_add_succ] at this
 clear hc hr
 by_cases hx:x=0
 ·subst hx
  by_cases hy:y=0
  ·subst hy
   go_enter Tryd.func74,Tryd.ntmps74
   go_wp2_with fail
   refine wp_loop_rounds 3 ?_
   rw [rounds_succ]
   go_wp2_with fail
   rw [rounds_succ]
   go_wp2_with fail
   rw [rounds_succ]
   go_wp2_with fail
   go_ret
   exact ⟨rfl,0,rfl⟩
  ·have hyb:(y == 0)=false:=by simp [hy]
   go_enter Tryd.func74,Tryd.ntmps74
   go_wp2_with fail
   refine wp_loop_rounds 3 ?_
   rw [rounds_succ]
   go_wp2_with fail
   rw [rounds_succ]
   go_wp2_with fail
   go_ret
   exact ⟨by unfold orI2;rw [if_pos rfl];rfl,0,rfl⟩
 ·have hxb:(x == 0)=false:=by simp [hx]
  go_enter Tryd.func74,Tryd.ntmps74
  go_wp2_with fail
  refine wp_loop_rounds 3 ?_
  rw [rounds_succ]
  go_wp2_with fail
  go_ret
  exact ⟨by unfold orI2;rw [if_neg hx];rfl,0,rfl⟩
theorem cmpG_or (a b c d:BS):orI2 (cmpS a c) (cmpS b d)=cmpG a b c d:=rfl
set_option maxRecDepth 100000 in
set_option maxHeartbeats 1000000 in
theorem orderG_any (a b c d:BS) (n m:Int) (w:World) :
  Calls Tryd.prog 55 #[.agg #[.string ⟨a.toArray⟩,.string ⟨b.toArray⟩,.int .i64 n],.agg #[.string ⟨c.toArray⟩,.string ⟨d.toArray⟩,.int .i64 m]] w fun e w'=>e=.returned (.int .i64 (cmpG a b c d))∧Below w.heap.size w w':=by
 obtain ⟨W0,hW0⟩:∃ W0,W0=(w.alloc (.cells #[.string ⟨a.toArray⟩,.string ⟨b.toArray⟩,.int .i64 n] 70)).alloc (.cells #[.string ⟨c.toArray⟩,.string ⟨d.toArray⟩,.int .i64 m] 70):=⟨_,rfl⟩
 have hb1:=(Below.refl w.heap.size w).alloc (Nat.le_refl _) (.cells #[.string ⟨a.toArray⟩,.string ⟨b.toArray⟩,.int .i64 n] 70)
 have hb2:=hb1.alloc hb1.size (.cells #[.string ⟨c.toArray⟩,.string ⟨d.toArray⟩,.int .i64 m] 70)
 have k0:=(Blk.new w 70 #[.string ⟨a.toArray⟩,.string ⟨b.toArray⟩,.int .i64 n]).alloc (.cells #[.string ⟨c.toArray⟩,.string ⟨d.toArray⟩,.int .i64 m] 70)
 have k1:=Blk.new (w.alloc (.cells #[.string ⟨a.toArray⟩,.string ⟨b.toArray⟩,.int .i64 n] 70)) 70 #[.string ⟨c.toArray⟩,.string ⟨d.toArray⟩,.int .i64 m]
 have e1:(w.alloc (.cells #[.string ⟨a.toArray⟩,.string ⟨b.toArray⟩,.int .i64 n] 70)).heap.size=w.heap.size+1:=by simp
 rw [e1] at k1
 rw [← hW0] at hb2 k0 k1
 have hsz:W0.heap.size=w.heap.size+2:=by rw [hW0];simp
 have hS:=Lib.hid (fun (W':World) (hB:Below W0.heap.size W0 W') =>
  (⟨(k0.below hB (by omega)).cell 0,(k0.below hB (by omega)).cell 1,(k1.below hB (by omega)).cell 0,(k1.below hB (by omega)).cell 1⟩ :
   W'.cell? ⟨w.heap.size,0,none⟩=some (.string ⟨a.toArray⟩)∧W'.cell? ⟨w.heap.size,1,none⟩=some (.string ⟨b.toArray⟩)∧W'.cell? ⟨w.heap.size+1,0,none⟩=some (.string ⟨c.toArray⟩)∧W'.cell? ⟨w.heap.size+1,1,none⟩=some (.string ⟨d.toArray⟩)))
 have HSZ:=Lib.hid hsz
 have HG:=Lib.hid (cmpG_or a b c d)
 have HB:=Lib.hid hb2
 clear k0 k1 e1 hsz hb1 hb2
 go_enter Tryd.func55,Tryd.ntmps55
 go_wp2_with fail
 rw [← hW0]
 clear hW0
 refine wp_region_good2 (by kernel_rfl) (by kernel_rfl) [(fun v _=>v=.pointer (some ⟨w.heap.size,0,none⟩)),
  (fun v _=>v=.string ⟨a.toArray⟩),
  (fun v _=>v=.pointer (some ⟨(w.heap.size+1),0,none⟩)),
  (fun v _=>v=.string ⟨c.toArray⟩),
  (fun v _=>v=.int .i64 (cmpS a c)),
  (fun v _=>v=.pointer (some ⟨w.heap.size,1,none⟩)),
  (fun v _=>v=.string ⟨b.toArray⟩),
  (fun v _=>v=.pointer (some ⟨(w.heap.size+1),1,none⟩)),
  (fun v _=>v=.string ⟨d.toArray⟩),
  (fun v _=>v=.int .i64 (cmpS b d)),
  (fun v W=>W.ownsRow w.heap.size 3 1 v 2 [.int .i64 (cmpS a c),.int .i64 (cmpS b d)]),
  (fun v _=>v=.int .i64 (cmpG a b c d)),
  (fun v _=>v=.int .i64 (cmpG a b c d))] ?_ ?_ ?_
 ·repeat' (first | exact stays_nil | refine stays_cons ?_ ?_ | exact Stays.pure | exact Stays.own _ _ _ _ _)
 ·intro i oo ho m2 W hb0 hmi hcl hdeps AA KK hA hK
  rcases i with _ | _ | _ | _ | _ | _ | _ | _ | _ | _ | _ | _ | _ | i
  ·injection ho with ho
   subst ho
   have ef2:AA.tmps[2]?.getD undef=.pointer (some ⟨w.heap.size,0,none⟩):=by rw [hA];exact tmps_free (by kernel_rfl)
   clear hA hdeps hcl hmi
   have hK0:KK (AA.put (some 5) _) _:=hK (.pointer (some ⟨w.heap.size,0,none⟩)) _ (Below.refl _ _) (Eq.refl _)
   clear hK
   go_simp
   exact hK0
  ·injection ho with ho
   subst ho
   obtain ⟨x0,hx0,hg0⟩:=hdeps ⟨0,.data⟩ (by simp) rfl
   have hg0:x0=.pointer (some ⟨w.heap.size,0,none⟩):=hg0
   subst hg0
   have e0:AA.tmps[5]?.getD undef=.pointer (some ⟨w.heap.size,0,none⟩):=by rw [hA];exact tmps_own (by kernel_rfl) hx0 (of_decide_eq_true (by kernel_rfl))
   clear hA hdeps hcl hmi hx0
   obtain ⟨c0,c1,c2,c3⟩:=hS.out W hb0
   have hK0:KK (AA.put (some 6) _) _:=hK (.string ⟨a.toArray⟩) _ (Below.refl _ _) (Eq.refl _)
   clear hK
   go_simp
   exact hK0
  ·injection ho with ho
   subst ho
   have ef3:AA.tmps[3]?.getD undef=.pointer (some ⟨(w.heap.size+1),0,none⟩):=by rw [hA];exact tmps_free (by kernel_rfl)
   clear hA hdeps hcl hmi
   have hK0:KK (AA.put (some 7) _) _:=hK (.pointer (some ⟨(w.heap.size+1),0,none⟩)) _ (Below.refl _ _) (Eq.refl _)
   clear hK
   go_simp
   exact hK0
  ·injection ho with ho
   subst ho
   obtain ⟨x2,hx2,hg2⟩:=hdeps ⟨2,.data⟩ (by simp) rfl
   have hg2:x2=.pointer (some ⟨(w.heap.size+1),0,none⟩):=hg2
   subst hg2
   have e2:AA.tmps[7]?.getD undef=.pointer (some ⟨(w.heap.size+1),0,none⟩):=by rw [hA];exact tmps_own (by kernel_rfl) hx2 (of_decide_eq_true (by kernel_rfl))
   clear hA hdeps hcl hmi hx2
   obtain ⟨c0,c1,c2,c3⟩:=hS.out W hb0
   have hK0:KK (AA.put (some 8) _) _:=hK (.string ⟨c.toArray⟩) _ (Below.refl _ _) (Eq.refl _)
   clear hK
   go_simp
   exact hK0
  ·injection ho with ho
   subst ho
   obtain ⟨x1,hx1,hg1⟩:=hdeps ⟨1,.data⟩ (by simp) rfl
   have hg1:x1=.string ⟨a.toArray⟩:=hg1
   subst hg1
   have e1:AA.tmps[6]?.getD undef=.string ⟨a.toArray⟩:=by rw [hA];exact tmps_own (by kernel_rfl) hx1 (of_decide_eq_true (by kernel_rfl))
   obtain ⟨x3,hx3,hg3⟩:=hdeps ⟨3,.data⟩ (by simp) rfl
   have hg3:x3=.string ⟨c.toArray⟩:=hg3
   subst hg3
   have e3:AA.tmps[8]?.getD undef=.string ⟨c.toArray⟩:=by rw [hA];exact tmps_own (by kernel_rfl) hx3 (of_decide_eq_true (by kernel_rfl))
   clear hA hdeps hcl hmi hx1 hx3
   have hKK:=Lib.hid hK
   clear hK
   go_simp
   refine (compareS_any a c _).mono ?_
   rintro e w5 ⟨rfl,q,rfl⟩
   exact hKK.out _ _ (below_drewN (Below.refl _ _) q) rfl
  ·injection ho with ho
   subst ho
   have ef2:AA.tmps[2]?.getD undef=.pointer (some ⟨w.heap.size,0,none⟩):=by rw [hA];exact tmps_free (by kernel_rfl)
   clear hA hdeps hcl hmi
   have hK0:KK (AA.put (some 10) _) _:=hK (.pointer (some ⟨w.heap.size,1,none⟩)) _ (Below.refl _ _) (Eq.refl _)
   clear hK
   go_simp
   exact hK0
  ·injection ho with ho
   subst ho
   obtain ⟨x5,hx5,hg5⟩:=hdeps ⟨5,.data⟩ (by simp) rfl
   have hg5:x5=.pointer (some ⟨w.heap.size,1,none⟩):=hg5
   subst hg5
   have e5:AA.tmps[10]?.getD undef=.pointer (some ⟨w.heap.size,1,none⟩):=by rw [hA];exact tmps_own (by kernel_rfl) hx5 (of_decide_eq_true (by kernel_rfl))
   clear hA hdeps hcl hmi hx5
   obtain ⟨c0,c1,c2,c3⟩:=hS.out W hb0
   have hK0:KK (AA.put (some 11) _) _:=hK (.string ⟨b.toArray⟩) _ (Below.refl _ _) (Eq.refl _)
   clear hK
   go_simp
   exact hK0
  ·injection ho with ho
   subst ho
   have ef3:AA.tmps[3]?.getD undef=.pointer (some ⟨(w.heap.size+1),0,none⟩):=by rw [hA];exact tmps_free (by kernel_rfl)
   clear hA hdeps hcl hmi
   have hK0:KK (AA.put (some 12) _) _:=hK (.pointer (some ⟨(w.heap.size+1),1,none⟩)) _ (Below.refl _ _) (Eq.refl _)
   clear hK
   go_simp
   exact hK0
  ·injection ho with ho
   subst ho
   obtain ⟨x7,hx7,hg7⟩:=hdeps ⟨7,.data⟩ (by simp) rfl
   have hg7:x7=.pointer (some ⟨(w.heap.size+1),1,none⟩):=hg7
   subst hg7
   have e7:AA.tmps[12]?.getD undef=.pointer (some ⟨(w.heap.size+1),1,none⟩):=by rw [hA];exact tmps_own (by kernel_rfl) hx7 (of_decide_eq_true (by kernel_rfl))
   clear hA hdeps hcl hmi hx7
   obtain ⟨c0,c1,c2,c3⟩:=hS.out W hb0
   have hK0:KK (AA.put (some 13) _) _:=hK (.string ⟨d.toArray⟩) _ (Below.refl _ _) (Eq.refl _)
   clear hK
   go_simp
   exact hK0
  ·injection ho with ho
   subst ho
   obtain ⟨x6,hx6,hg6⟩:=hdeps ⟨6,.data⟩ (by simp) rfl
   have hg6:x6=.string ⟨b.toArray⟩:=hg6
   subst hg6
   have e6:AA.tmps[11]?.getD undef=.string ⟨b.toArray⟩:=by rw [hA];exact tmps_own (by kernel_rfl) hx6 (of_decide_eq_true (by kernel_rfl))
   obtain ⟨x8,hx8,hg8⟩:=hdeps ⟨8,.data⟩ (by simp) rfl
   have hg8:x8=.string ⟨d.toArray⟩:=hg8
   subst hg8
   have e8:AA.tmps[13]?.getD undef=.string ⟨d.toArray⟩:=by rw [hA];exact tmps_own (by kernel_rfl) hx8 (of_decide_eq_true (by kernel_rfl))
   clear hA hdeps hcl hmi hx6 hx8
   have hKK:=Lib.hid hK
   clear hK
   go_simp
   refine (compareS_any b d _).mono ?_
   rintro e w5 ⟨rfl,q,rfl⟩
   exact hKK.out _ _ (below_drewN (Below.refl _ _) q) rfl
  ·injection ho with ho
   subst ho
   obtain ⟨x4,hx4,hg4⟩:=hdeps ⟨4,.data⟩ (by simp) rfl
   have hg4:x4=.int .i64 (cmpS a c):=hg4
   subst hg4
   have e4:AA.tmps[9]?.getD undef=.int .i64 (cmpS a c):=by rw [hA];exact tmps_own (by kernel_rfl) hx4 (of_decide_eq_true (by kernel_rfl))
   obtain ⟨x9,hx9,hg9⟩:=hdeps ⟨9,.data⟩ (by simp) rfl
   have hg9:x9=.int .i64 (cmpS b d):=hg9
   subst hg9
   have e9:AA.tmps[14]?.getD undef=.int .i64 (cmpS b d):=by rw [hA];exact tmps_own (by kernel_rfl) hx9 (of_decide_eq_true (by kernel_rfl))
   clear hA hdeps hcl hmi hx4 hx9
   have hK0:KK (AA.put (some 15) _) _:=hK _ _ ((Below.refl _ _).alloc (Nat.le_refl _) _) (own_mono (own_lit W #[.int .i64 (cmpS a c),.int .i64 (cmpS b d)] 3 2 rfl (by decide)) (by have:=hb0.size;have:=HSZ.out;omega))
   clear hK
   go_simp
   exact hK0
  ·injection ho with ho
   subst ho
   obtain ⟨x10,hx10,hg10⟩:=hdeps ⟨10,.data⟩ (by simp) rfl
   have hg10:W.ownsRow w.heap.size 3 1 x10 2 [.int .i64 (cmpS a c),.int .i64 (cmpS b d)]:=hg10
   have e10:AA.tmps[15]?.getD undef=x10:=by rw [hA];exact tmps_own (by kernel_rfl) hx10 (of_decide_eq_true (by kernel_rfl))
   clear hA hdeps hcl hmi hx10
   obtain ⟨A1,c1,rfl,_,_,hr1⟩:=own_form hg10
   have hKK:=Lib.hid hK
   clear hK hg10
   go_simp
   refine (orI2_any _ _ A1 c1 W W.heap.size hr1).mono ?_
   rintro e w5 ⟨rfl,q,rfl⟩
   exact hKK.out _ _ (below_drewN (Below.refl _ _) q) (show Value.int .i64 (orI2 (cmpS a c) (cmpS b d))=.int .i64 (cmpG a b c d) from congrArg (Value.int .i64) HG.out)
  ·injection ho with ho
   subst ho
   obtain ⟨x11,hx11,hg11⟩:=hdeps ⟨11,.data⟩ (by simp) rfl
   have hg11:x11=.int .i64 (cmpG a b c d):=hg11
   subst hg11
   have e11:AA.tmps[16]?.getD undef=.int .i64 (cmpG a b c d):=by rw [hA];exact tmps_own (by kernel_rfl) hx11 (of_decide_eq_true (by kernel_rfl))
   clear hA hdeps hcl hmi hx11
   have hK0:KK (AA.put (some 4) _) _:=hK (.int .i64 (cmpG a b c d)) _ (Below.refl _ _) (Eq.refl _)
   clear hK
   go_simp
   exact hK0
  ·simp at ho
 ·intro m W hbx hall
  obtain ⟨x0,m0,g0⟩:=hall 0 (by simp)
  replace g0:x0=.pointer (some ⟨w.heap.size,0,none⟩):=g0
  subst g0
  obtain ⟨x1,m1,g1⟩:=hall 1 (by simp)
  replace g1:x1=.string ⟨a.toArray⟩:=g1
  subst g1
  obtain ⟨x2,m2,g2⟩:=hall 2 (by simp)
  replace g2:x2=.pointer (some ⟨(w.heap.size+1),0,none⟩):=g2
  subst g2
  obtain ⟨x3,m3,g3⟩:=hall 3 (by simp)
  replace g3:x3=.string ⟨c.toArray⟩:=g3
  subst g3
  obtain ⟨x4,m4,g4⟩:=hall 4 (by simp)
  replace g4:x4=.int .i64 (cmpS a c):=g4
  subst g4
  obtain ⟨x5,m5,g5⟩:=hall 5 (by simp)
  replace g5:x5=.pointer (some ⟨w.heap.size,1,none⟩):=g5
  subst g5
  obtain ⟨x6,m6,g6⟩:=hall 6 (by simp)
  replace g6:x6=.string ⟨b.toArray⟩:=g6
  subst g6
  obtain ⟨x7,m7,g7⟩:=hall 7 (by simp)
  replace g7:x7=.pointer (some ⟨(w.heap.size+1),1,none⟩):=g7
  subst g7
  obtain ⟨x8,m8,g8⟩:=hall 8 (by simp)
  replace g8:x8=.string ⟨d.toArray⟩:=g8
  subst g8
  obtain ⟨x9,m9,g9⟩:=hall 9 (by simp)
  replace g9:x9=.int .i64 (cmpS b d):=g9
  subst g9
  obtain ⟨x10,m10,g10⟩:=hall 10 (by simp)
  replace g10:W.ownsRow w.heap.size 3 1 x10 2 [.int .i64 (cmpS a c),.int .i64 (cmpS b d)]:=g10
  obtain ⟨x11,m11,g11⟩:=hall 11 (by simp)
  replace g11:x11=.int .i64 (cmpG a b c d):=g11
  subst g11
  obtain ⟨x12,m12,g12⟩:=hall 12 (by simp)
  replace g12:x12=.int .i64 (cmpG a b c d):=g12
  subst g12
  rw [frameM_all (by kernel_rfl) [.pointer (some ⟨w.heap.size,0,none⟩),.string ⟨a.toArray⟩,.pointer (some ⟨(w.heap.size+1),0,none⟩),.string ⟨c.toArray⟩,.int .i64 (cmpS a c),.pointer (some ⟨w.heap.size,1,none⟩),.string ⟨b.toArray⟩,.pointer (some ⟨(w.heap.size+1),1,none⟩),.string ⟨d.toArray⟩,.int .i64 (cmpS b d),x10,.int .i64 (cmpG a b c d),.int .i64 (cmpG a b c d)] rfl (fun i hi=>by
    rcases i with _ | _ | _ | _ | _ | _ | _ | _ | _ | _ | _ | _ | _ | i
    ·exact m0
    ·exact m1
    ·exact m2
    ·exact m3
    ·exact m4
    ·exact m5
    ·exact m6
    ·exact m7
    ·exact m8
    ·exact m9
    ·exact m10
    ·exact m11
    ·exact m12
    ·simp at hi;omega)]
  clear hall m0 m1 m2 m3 m4 m5 m6 m7 m8 m9 m10 m11 m12
  simp only [putAll,Act.put,zA,zC,zB]
  go_wp2_with fail
  go_ret
  exact ⟨rfl,HB.out.trans (hbx.mono (by have:=HSZ.out;omega))⟩
end Go.Proofs.YtcgclpcocdappaaDoor
