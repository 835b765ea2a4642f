/-
  A drawn region whose operations read and make memory, and whose last one, behind all others, may do whatever it does. The page's Check of what may be.
-/
import Derived.WalkKit
import Derived.WalkSpells
import Derived.Below
import Derived.Laws.OwnMore
import Derived.Deep.AppendLies
import Derived.Deep.Draws
import Derived.Laws.Rows
import Derived.Maps.AppendAt
import Derived.RegionTactic
import Derived.OwnWalk
import Derived.Deep.QuietTactic
import Derived.BigQuiet
import Derived.Lib.Hide
import Derived.Laws.CopyOwn
import Derived.IntWalk
import Derived.Orders
import Derived.Test.YtcgclpcocdappaaGreatDoorRows
import Derived.Handy
import Derived.Deep.Quiet
import Derived.ProofKit
import Derived.OpenShut
import Derived.ShutString
import Derived.ChangeOld
import Derived.Carry
import Derived.SizedLaws
import Derived.JoinedCond
import Derived.Deep.CondSized
import Derived.Deep.Slices
import Derived.Deep.Fields
import Derived.Lib.SmallJoins
import Derived.Lib.SplitLaws
import Derived.Lib.LastIndexByte
import Derived.Lib.Strings
import Derived.Sort.Walk0
import Derived.Sort.KeysCollected
import Derived.Deep.MidRow
import Derived.Shelf.Strings.Search1
import Derived.Shelf.Strings.Search2
import Derived.Shelf.Strings.Search3
import Derived.Shelf.Strings.Cut
import Derived.Shelf.Strings.Count
import Derived.Shelf.LaysM
import Derived.Shelf.Strings.Shaped
import Derived.Shelf.Strings.LastIndex
import Derived.Shelf.Strings.Split
import Derived.Shelf.Strings.SplitShaped
import Derived.Shelf.Unicode.Decode
import Derived.Shelf.Strings.RuneCount
import Derived.Shelf.Strings.Explode
import Derived.Shelf.Unicode.DecodeSlow
import Derived.Test.YtcgclpcocdappaaGreatDoorProg
import Derived.Laws.BytesString
import Derived.Laws.IdiomStrings
import Derived.Lib.ConvBytes
import Derived.Deep.DeepCutAuto
import Derived.Great.BuildSlice
import Derived.Test.YtcgclpcocdappaaGreatDoorJ0
import Derived.Test.YtcgclpcocdappaaGreatDoorJbkv1
import Derived.Test.YtcgclpcocdappaaGreatDoorJbkv3
import Derived.Test.YtcgclpcocdappaaGreatDoorJbkv4
import Derived.Test.YtcgclpcocdappaaGreatDoorJbkv7
import Derived.Test.YtcgclpcocdappaaGreatDoorJbkv8
import Derived.Test.YtcgclpcocdappaaGreatDoorJbkv10
import Derived.Test.YtcgclpcocdappaaGreatDoorJbkv15
import Derived.Test.YtcgclpcocdappaaGreatDoorJbkv20
import Derived.Test.YtcgclpcocdappaaGreatDoorJbkv22
import Derived.Test.YtcgclpcocdappaaGreatDoorJbkv29
namespace Go.Proofs.YtcgclpcocdappaaGreatDoor
open Go.RowKit
section
variable {P:Program} {ops:Array Oper}
theorem frameM_fill {a0:Act} {m:Nat→Option Value} (h:regionOk ops a0.tmps.size=true) {i d:Nat} {o:Oper} (ho:ops[i]?=some o) (hd:o.dst=some d) (hm:m i=none) :
  frameM a0 ops m=frameM a0 ops (upd m i (a0.tmps[d]?.getD undef)):=by
 obtain ⟨h1,_⟩:=regionOk_spec h ho
 obtain ⟨hw,hlt⟩:=h1 d hd
 unfold frameM
 simp only [Act.mk.injEq,and_true]
 apply Array.ext
 ·simp
 ·intro k hk1 hk2
  simp only [Array.getElem_mapIdx]
  cases hw':ownerOf ops k with
  | none=>rfl
  | some j =>
   by_cases hji:j=i
   ·subst hji
    obtain ⟨o',ho',hd'⟩:=ownerOf_spec hw'
    rw [ho] at ho'
    cases ho'
    rw [hd] at hd'
    cases hd'
    simp only [upd_self,hm,Option.getD_none,Option.getD_some]
    have hk:d<a0.tmps.size:=hlt
    rw [Array.getElem?_eq_getElem hk]
    rfl
   ·simp only [upd_ne m _ hji]
theorem wp_region_last {id:Nat} {a0:Act} {w:World} {Q:Exit→Act→World→Prop} (L:Nat) (hm:P.follows .mixedOrders=true) (hok:regionOk ops a0.tmps.size=true) (hlo:lastOk ops L=true) (hLs:L<ops.size) (Gs:List (Value→World→Prop)) (hst:∀ p∈Gs,Stays p)
  (hstep:∀ i o,ops[i]?=some o→i≠L→∀ (m:Nat→Option Value) (W:World),Below w.heap.size w W→m i=none→(∀ j o',ops[j]?=some o'→(m j).isSome=true→∀ e∈o'.after,Region.binds .any e=true→(m e.on).isSome=true)→(∀ e∈o.after,Region.binds .any e=true→∃ v,m e.on=some v∧Says Gs e.on v W) →
   ∀ (A:Act) (K:Act→World→Prop),A=frameM a0 ops m→(∀ v W',Below W.heap.size W W'→Says Gs i v W'→K (A.put o.dst v) W')→if Region.wanted o (yielded ops A.tmps)=true then o.wp P A W K Q else K (A.put o.dst undef) W)
  (hlast:∀ o,ops[L]?=some o→∀ (m:Nat→Option Value) (W:World),m L=none→Below w.heap.size w W→(∀ i,i<ops.size→i≠L→∃ v,m i=some v∧Says Gs i v W) →
   ∀ (A:Act) (K:Act→World→Prop),A=frameM a0 ops m→(∀ d,o.dst=some d→A=frameM a0 ops (upd m L (a0.tmps[d]?.getD undef)))→(∀ v W',Q .normal (frameM a0 ops (upd m L v)) W'→K (A.put o.dst v) W')→if Region.wanted o (yielded ops A.tmps)=true then o.wp P A W K Q else K (A.put o.dst undef) W) :
  (Code.region id ops true).wp P Q a0 w:=by
 have hsay:∀ i v W W',Says Gs i v W→Below W.heap.size W W'→Says Gs i v W':=by
  intro i v W W' h hb
  unfold Says at h ⊢
  cases hG:Gs[i]? with
  | none=>trivial
  | some p=>rw [hG] at h;exact hst p (List.mem_of_getElem? hG) v W W' h hb
 refine wp_region_inv hm hok (fun m W=>(m L=none∧Below w.heap.size w W∧(∀ i v,m i=some v→Says Gs i v W)∧(∀ j o',ops[j]?=some o'→(m j).isSome=true→∀ e∈o'.after,Region.binds .any e=true→(m e.on).isSome=true))∨((∀ i,i<ops.size→(m i).isSome=true)∧Q .normal (frameM a0 ops m) W))
  (.inl ⟨rfl,(Below.refl _ _).drew,fun _ _ h=>(by cases h),fun _ _ _ h=>(by cases h)⟩) ?_ ?_
 ·intro i o ho m W hJ hmi hdeps A K hA hK
  have his:i<ops.size:=(Array.getElem?_eq_some_iff.1 ho).1
  rcases hJ with ⟨hL,hb,hs,hcl⟩ | ⟨hall,_⟩
  ·by_cases hiL:i=L
   ·subst hiL
    refine hlast o ho m W hmi hb (fun j hj hne=>?_) A K hA (fun d hd=>hA.trans (frameM_fill hok ho hd hmi)) (fun v W' hQ=>hK v W' (.inr ⟨fun j hj=>?_,hQ⟩))
    ·have hr:=reach_some hcl ops.size (depsOf ops i) (fun k hk=>by
      unfold depsOf at hk
      rw [ho] at hk
      obtain ⟨e,he,rfl⟩:=List.mem_map.1 hk
      obtain ⟨he,hbi⟩:=List.mem_filter.1 he
      exact hdeps e (Array.mem_toList_iff.1 he) hbi)
     have h1:=List.all_eq_true.1 hlo j (List.mem_range.2 hj)
     simp only [Bool.or_eq_true,beq_iff_eq,List.contains_iff_mem] at h1
     rcases h1 with h1 | h1
     ·exact absurd h1 hne
     ·have h2:=hr j h1
      cases hmj:m j with
      | none=>rw [hmj] at h2;cases h2
      | some v=>exact ⟨v,rfl,hs j v hmj⟩
    ·by_cases hji:j=i
     ·subst hji;rw [upd_self];rfl
     ·rw [upd_ne m v hji]
      have hr:=reach_some hcl ops.size (depsOf ops i) (fun k hk=>by
       unfold depsOf at hk
       rw [ho] at hk
       obtain ⟨e,he,rfl⟩:=List.mem_map.1 hk
       obtain ⟨he,hbi⟩:=List.mem_filter.1 he
       exact hdeps e (Array.mem_toList_iff.1 he) hbi)
      have h1:=List.all_eq_true.1 hlo j (List.mem_range.2 hj)
      simp only [Bool.or_eq_true,beq_iff_eq,List.contains_iff_mem] at h1
      rcases h1 with h1 | h1
      ·exact absurd h1 hji
      ·exact hr j h1
   ·refine hstep i o ho hiL m W hb hmi hcl (fun e he hbi=>?_) A K hA (fun v W' hbw hS=>hK v W' (.inl ⟨by rw [upd_ne m v (Ne.symm hiL)];exact hL,below_step hb hbw,fun j u hu=>?_,fun j o' ho' hj e he hbi=>?_⟩))
    ·have:=hdeps e he hbi
     cases hme:m e.on with
     | none=>rw [hme] at this;cases this
     | some v=>exact ⟨v,rfl,hs _ _ hme⟩
    ·by_cases hji:j=i
     ·subst hji;rw [upd_self] at hu;injection hu with hu;subst hu;exact hS
     ·rw [upd_ne m v hji] at hu;exact hsay j u W W' (hs j u hu) hbw
    ·by_cases hei:e.on=i
     ·rw [hei,upd_self];rfl
     ·rw [upd_ne m v hei]
      by_cases hji:j=i
      ·subst hji
       rw [ho] at ho'
       injection ho' with ho'
       subst ho'
       exact hdeps e he hbi
      ·rw [upd_ne m v hji] at hj
       exact hcl j o' ho' hj e he hbi
  ·have:=hall i his
   rw [hmi] at this
   cases this
 ·intro m W hJ hall
  rcases hJ with ⟨hL,_⟩ | ⟨_,hQ⟩
  ·have:=hall L hLs
   rw [hL] at this
   cases this
  ·exact hQ
end
end Go.Proofs.YtcgclpcocdappaaGreatDoor
namespace Go.Proofs.YtcgclpcocdappaaGreatDoor
open Go.RowKit
theorem check_said {y:TenR} {c:TenC} {W:World} (hr:y.rd W W.heap.size) (hc:y.con=c) (hs:c.sz) (hE:c.E=0):Calls Tryz.prog 18 #[y.val] W fun e w'=>e=.returned (.int .i64 0)∧Below W.heap.size W w':=by
 have h1:=rcheck14_any y W W.heap.size hr (Nat.le_refl _) (TenR.sz_of hr (by rw [hc];exact hs))
 rw [tenE_con,hc,hE] at h1
 exact h1
end Go.Proofs.YtcgclpcocdappaaGreatDoor
