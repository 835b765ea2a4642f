/-
  A region that draws its order, by an invariant: each operation is looked at once, whatever the order. DERIVED: THE SHELF's CONTRACTS AT THIS DUMP, IN PLAIN WORDS (tools/lay-plain.mjs out of 'TryzShelf.lean', which tools/lay-shelf.mjs wrote): THE SAME DECLARATIONS UNDER THE SAME NAMES: 'import', 'namespace', 'open', 'def', 'theorem' AND NOTHING ELSE: no command of the shelf's: FOR A HAND-IN. Each laying: the table of numbers ('.._ren') and one theorem, a field a fact of the dump's own or the kernel's comparison; each contract: ONE APPLICATION.
-/
import Derived.Orders
import Derived.WalkKit
import Derived.WalkSpells
import Derived.Below
import Derived.Laws.OwnMore
import Derived.Deep.AppendLies
import Derived.Deep.Draws
import Derived.Laws.Rows
import Derived.Maps.AppendAt
import Derived.RegionTactic
import Derived.OwnWalk
import Derived.Deep.QuietTactic
import Derived.BigQuiet
import Derived.Lib.Hide
import Derived.Laws.CopyOwn
import Derived.IntWalk
import Derived.Shelf.Strings.Search1
import Derived.Shelf.Strings.Search2
import Derived.Shelf.Strings.Search3
import Derived.Shelf.Strings.Cut
import Derived.Shelf.Strings.Count
import Derived.Shelf.LaysM
import Derived.Shelf.Strings.Shaped
import Derived.Shelf.Strings.LastIndex
import Derived.Shelf.Strings.Split
import Derived.Shelf.Strings.SplitShaped
import Derived.Shelf.Unicode.Decode
import Derived.Shelf.Strings.RuneCount
import Derived.Shelf.Strings.Explode
import Derived.Shelf.Unicode.DecodeSlow
import Derived.Test.YtcgclpcocdappaaGreatDoorProg
import Derived.Test.YtcgclpcocdappaaGreatDoorG0
import Derived.Test.YtcgclpcocdappaaGreatDoorGg1
namespace Go.Proofs.YtcgclpcocdappaaGreatDoor
open Go.RowKit
section
variable {P:Program} {ops:Array Oper}
/-- which operation writes slot k -/
def ownerOf (ops:Array Oper) (k:Nat):Option Nat:=(List.range ops.size).find? fun i=>(ops[i]?.bind (·.dst)) == some k
/-- no two operations write one slot, all slots are there, each waits for earlier ones alone -/
def regionOk (ops:Array Oper) (n:Nat):Bool :=
 (List.range ops.size).all fun i=>match ops[i]? with
  | some o=>(match o.dst with | some d=>decide (ownerOf ops d=some i) && decide (d<n) | none=>true) && o.after.all fun e=>!(Region.binds .any e) || decide (e.on<i)
  | none=>true
def upd (m:Nat→Option Value) (i:Nat) (v:Value):Nat→Option Value:=fun j=>if j=i then some v else m j
theorem upd_self (m:Nat→Option Value) (i:Nat) (v:Value):upd m i v i=some v:=by simp [upd]
theorem upd_ne (m:Nat→Option Value) {i j:Nat} (v:Value) (h:j≠i):upd m i v j=m j:=by simp [upd,h]
/-- the frame when the operations that m knows have come up -/
def frameM (a0:Act) (ops:Array Oper) (m:Nat→Option Value):Act :=
 { tmps:=a0.tmps.mapIdx fun k x=>match ownerOf ops k with | some i=>(m i).getD x | none=>x,defers:=a0.defers }
theorem ownerOf_spec {k i:Nat} (h:ownerOf ops k=some i):∃ o,ops[i]?=some o∧o.dst=some k:=by
 unfold ownerOf at h
 have:=List.find?_some h
 simp only [beq_iff_eq] at this
 cases ho:ops[i]? with
 | none=>rw [ho] at this;cases this
 | some o=>rw [ho] at this;exact ⟨o,rfl,this⟩
theorem regionOk_spec {n:Nat} (h:regionOk ops n=true) {i:Nat} {o:Oper} (ho:ops[i]?=some o):(∀ d,o.dst=some d→ownerOf ops d=some i∧d<n)∧∀ e∈o.after,Region.binds .any e=true→e.on<i:=by
 have hi:i<ops.size:=(Array.getElem?_eq_some_iff.1 ho).1
 have:=List.all_eq_true.1 h i (List.mem_range.2 hi)
 rw [ho] at this
 simp only [Bool.and_eq_true,Array.all_eq_true_iff_forall_mem,Bool.or_eq_true,Bool.not_eq_true',decide_eq_true_eq] at this
 refine ⟨fun d hd=>?_,fun e he hb=>?_⟩
 ·have h1:=this.1
  rw [hd] at h1
  simpa using h1
 ·rcases this.2 e he with h | h
  ·rw [hb] at h;cases h
  ·exact h
theorem frameM_put {a0:Act} {m:Nat→Option Value} (h:regionOk ops a0.tmps.size=true) {i:Nat} {o:Oper} (ho:ops[i]?=some o) (v:Value) :
  (frameM a0 ops m).put o.dst v=frameM a0 ops (upd m i v):=by
 obtain ⟨h1,_⟩:=regionOk_spec h ho
 cases hd:o.dst with
 | none =>
  unfold Act.put frameM
  simp only [Act.mk.injEq,and_true]
  apply Array.ext
  ·simp
  ·intro k hk1 hk2
   simp only [Array.getElem_mapIdx]
   cases hw:ownerOf ops k with
   | none=>rfl
   | some j =>
    obtain ⟨o',ho',hd'⟩:=ownerOf_spec hw
    have hji:j≠i:=by rintro rfl;rw [ho] at ho';cases ho';rw [hd] at hd';cases hd'
    simp only [upd_ne m v hji]
 | some d =>
  obtain ⟨hw,hlt⟩:=h1 d hd
  unfold Act.put frameM
  simp only [Act.mk.injEq,and_true]
  apply Array.ext
  ·simp
  ·intro k hk1 hk2
   by_cases hkd:d=k
   ·subst hkd
    simp [hw,upd_self]
   ·rw [Array.getElem_setIfInBounds_ne (by simpa using hk1) hkd]
    simp only [Array.getElem_mapIdx]
    cases hw':ownerOf ops k with
    | none=>rfl
    | some j =>
     have hji:j≠i:=by
      rintro rfl
      obtain ⟨o',ho',hd'⟩:=ownerOf_spec hw'
      rw [ho] at ho';cases ho';rw [hd] at hd';cases hd';exact hkd rfl
     simp only [upd_ne m v hji]
theorem frameM_none (a0:Act):frameM a0 ops (fun _=>none)=a0:=by
 cases a0 with
 | mk tmps defers =>
  unfold frameM
  simp only [Act.mk.injEq,and_true]
  apply Array.ext
  ·simp
  ·intro k hk1 hk2
   simp only [Array.getElem_mapIdx]
   cases ownerOf ops k <;> rfl
theorem tmps_own {a0:Act} {m:Nat→Option Value} {k i:Nat} {v:Value} (hw:ownerOf ops k=some i) (hv:m i=some v) (hk:k<a0.tmps.size):(frameM a0 ops m).tmps[k]?.getD undef=v:=by
 simp [frameM,hk,hw,hv]
theorem tmps_free {a0:Act} {m:Nat→Option Value} {k:Nat} (hw:ownerOf ops k=none):(frameM a0 ops m).tmps[k]?.getD undef=a0.tmps[k]?.getD undef:=by
 by_cases hk:k<a0.tmps.size
 ·simp [frameM,hk,hw]
 ·simp [frameM,hk]
theorem wp_region_inv {id:Nat} {a0:Act} {w:World} {Q:Exit→Act→World→Prop} (hm:P.follows .mixedOrders=true) (hok:regionOk ops a0.tmps.size=true) (J:(Nat→Option Value)→World→Prop)
  (h0:J (fun _=>none) w.drew)
  (hstep:∀ i o,ops[i]?=some o→∀ m w,J m w→m i=none→(∀ e∈o.after,Region.binds .any e=true→(m e.on).isSome=true) → 
   ∀ (A:Act) (K:Act→World→Prop),A=frameM a0 ops m→(∀ v w',J (upd m i v) w'→K (A.put o.dst v) w')→if Region.wanted o (yielded ops A.tmps)=true then o.wp P A w K Q else K (A.put o.dst undef) w)
  (hend:∀ m w,J m w→(∀ i,i<ops.size→(m i).isSome=true)→Q .normal (frameM a0 ops m) w) :
  (Code.region id ops true).wp P Q a0 w:=by
 refine wp_region_any hm ?_
 have key:∀ (fuel:Nat) (listed:Array Bool) (m:Nat→Option Value) (w:World),J m w→listed.size=ops.size→(∀ i,i<ops.size→listed.getD i true=(m i).isSome) →
   ((List.range ops.size).filter fun i=>(m i).isNone).length≤fuel→wpAny P .any ops Q fuel listed (frameM a0 ops m) w:=by
  intro fuel
  induction fuel with
  | zero =>
   intro listed m w hJ hsz hl hc
   have hall:∀ i,i<ops.size→(m i).isSome=true:=by
    intro i hi
    have he:(List.range ops.size).filter (fun i=>(m i).isNone)=[]:=List.eq_nil_of_length_eq_zero (by omega)
    have:=List.filter_eq_nil_iff.1 he i (List.mem_range.2 hi)
    cases hmi:m i with
    | none=>rw [hmi] at this;exact absurd rfl this
    | some _=>rfl
   refine ⟨?_,hend m w hJ hall⟩
   apply List.eq_nil_iff_forall_not_mem.2
   intro j hj
   obtain ⟨hu,o,ho,_⟩:=mem_ready.1 hj
   have hjs:j<ops.size:=(Array.getElem?_eq_some_iff.1 ho).1
   rw [hl j hjs,hall j hjs] at hu
   cases hu
  | succ fuel ih =>
   intro listed m w hJ hsz hl hc
   refine ⟨fun hr=>hend m w hJ ?_,fun i hi=>?_⟩
   ·-- nothing is ready: all have come up
    intro i
    induction i using Nat.strongRecOn with
    | ind i ihi =>
     intro hi
     cases hmi:m i with
     | some _=>rfl
     | none =>
      exfalso
      have ho:ops[i]?=some ops[i]:=Array.getElem?_eq_getElem hi
      have:i∈Region.ready .any ops listed:=by
       refine mem_ready.2 ⟨by rw [hl i hi,hmi];rfl,ops[i],ho,fun e he hb=>?_⟩
       have hlt:=(regionOk_spec hok ho).2 e he hb
       have h2:=ihi e.on hlt (by omega)
       have h3:=hl e.on (by omega)
       rw [h2] at h3
       have h4:e.on<listed.size:=by omega
       simp [Array.getD,h4] at h3 ⊢
       exact h3
      rw [hr] at this
      cases this
   ·obtain ⟨hu,o,ho,hdeps⟩:=mem_ready.1 hi
    have his:i<ops.size:=(Array.getElem?_eq_some_iff.1 ho).1
    have hmi:m i=none:=by
     rw [hl i his] at hu
     cases hmi:m i with
     | none=>rfl
     | some _=>rw [hmi] at hu;cases hu
    have hs:=hstep i o ho m w hJ hmi (fun e he hb=>by
     have h1:=hdeps e he hb
     have hlt:=(regionOk_spec hok ho).2 e he hb
     have h2:=hl e.on (by omega)
     have h4:e.on<listed.size:=by omega
     simp [Array.getD,h4] at h1 h2
     rw [← h2];exact h1)
    have next:∀ v w',J (upd m i v) w'→wpAny P .any ops Q fuel (listed.setIfInBounds i true) ((frameM a0 ops m).put o.dst v) w':=by
     intro v w' hJ'
     rw [frameM_put hok ho]
     refine ih _ _ _ hJ' (by simpa using hsz) ?_ ?_
     ·intro j hj
      by_cases hji:j=i
      ·subst hji
       simp [upd_self,Array.getD,hsz,hj]
      ·rw [upd_ne m v hji,← hl j hj]
       exact getD_set_ne true (fun h=>hji h.symm)
     ·have hlt:((List.range ops.size).filter fun j=>(upd m i v j).isNone).length<((List.range ops.size).filter fun j=>(m j).isNone).length:=by
       have hsub:(List.range ops.size).filter (fun j=>(upd m i v j).isNone)=((List.range ops.size).filter fun j=>(m j).isNone).filter fun j=>decide (j≠i):=by
        rw [List.filter_filter]
        apply List.filter_congr
        intro j _
        by_cases hji:j=i
        ·subst hji;simp [upd_self]
        ·simp [upd_ne m v hji,hji]
       rw [hsub]
       exact List.length_filter_lt_length_iff_exists.2 ⟨i,List.mem_filter.2 ⟨List.mem_range.2 his,by rw [hmi];rfl⟩,by simp⟩
      omega
    unfold wpOp
    rw [ho]
    show if Region.wanted o (yielded ops (frameM a0 ops m).tmps)=true then _ else _
    have hs':=hs (frameM a0 ops m) (wpAny P .any ops Q fuel (listed.setIfInBounds i true)) rfl (fun v w' h=>next v w' h)
    by_cases hw:Region.wanted o (yielded ops (frameM a0 ops m).tmps)=true
    ·rw [if_pos hw] at hs' ⊢
     exact .inl hs'
    ·rw [if_neg hw] at hs' ⊢
     exact hs'
 have h:=key ops.size (Array.replicate ops.size false) (fun _=>none) w.drew h0 (by simp) (fun i hi=>by simp [Array.getD,hi]) (Nat.le_trans (List.length_filter_le _ _) (by simp))
 rw [frameM_none] at h
 exact h
/-! ### Values that are determined -/
def Det (val:Nat→Option Value) (m:Nat→Option Value):Prop:=∀ i v x,val i=some x→m i=some v→v=x
theorem Det.get {val m:Nat→Option Value} (h:Det val m) {i:Nat} {x:Value} (hx:val i=some x) (hs:(m i).isSome=true):m i=some x:=by
 cases hm:m i with
 | none=>rw [hm] at hs;cases hs
 | some v=>rw [h i v x hx hm]
/-! ### The frame behind the region, written out -/
def putAll:Act→List Oper→List Value→Act
 | a,o :: os,v :: vs=>putAll (a.put o.dst v) os vs
 | a,_,_=>a
theorem frameM_congr {a0:Act} {m m':Nat→Option Value} (h:∀ i,i<ops.size→m i=m' i):frameM a0 ops m=frameM a0 ops m':=by
 unfold frameM
 simp only [Act.mk.injEq,and_true]
 apply Array.ext
 ·simp
 ·intro k hk1 hk2
  simp only [Array.getElem_mapIdx]
  cases hw:ownerOf ops k with
  | none=>rfl
  | some j =>
   obtain ⟨o,ho,_⟩:=ownerOf_spec hw
   simp only [h j (Array.getElem?_eq_some_iff.1 ho).1]
theorem putAll_frame {a0:Act} (hok:regionOk ops a0.tmps.size=true):∀ (os:List Oper) (vs:List Value) (k:Nat) (m:Nat→Option Value),(∀ j,os[j]?=ops[k+j]?)→os.length=vs.length →
  putAll (frameM a0 ops m) os vs=frameM a0 ops (fun i=>if k≤i∧i<k+vs.length then vs[i-k]? else m i):=by
 intro os
 induction os with
 | nil =>
  intro vs k m _ hl
  have:vs=[]:=List.eq_nil_of_length_eq_zero hl.symm
  subst this
  show frameM a0 ops m=_
  congr 1
  funext i
  rw [if_neg (by simp)]
 | cons o os ih =>
  intro vs k m ho hl
  match vs,hl with
  | v :: vs,hl =>
   have h0:ops[k]?=some o:=by simpa using (ho 0).symm
   show putAll ((frameM a0 ops m).put o.dst v) os vs=_
   rw [frameM_put hok h0,ih vs (k+1) _ (fun j=>by have:=ho (j+1);simpa [Nat.add_assoc,Nat.add_comm 1 j] using this) (by simpa using hl)]
   congr 1
   funext i
   by_cases h1:i=k
   ·subst h1
    rw [if_neg (by omega),upd_self,if_pos ⟨Nat.le_refl _,by simp⟩]
    simp
   ·by_cases h2:k+1≤i∧i<k+1+vs.length
    ·rw [if_pos h2,if_pos ⟨by omega,by simp;omega⟩]
     obtain ⟨d,rfl⟩:∃ d,i=k+1+d:=⟨i-(k+1),by omega⟩
     rw [show k+1+d-(k+1)=d by omega,show k+1+d-k=d+1 by omega]
     rfl
    ·rw [if_neg h2,upd_ne m v h1,if_neg (by simp;omega)]
theorem frameM_all {a0:Act} {l:List Oper} (hok:regionOk l.toArray a0.tmps.size=true) {m:Nat→Option Value} (vs:List Value) (hl:l.length=vs.length) (h:∀ i,i<l.length→m i=vs[i]?) :
  frameM a0 l.toArray m=putAll a0 l vs:=by
 have:=putAll_frame (ops:=l.toArray) hok l vs 0 (fun _=>none) (fun j=>by simp) hl
 rw [frameM_none] at this
 rw [this]
 exact frameM_congr fun i hi=>by
  have hi':i<l.length:=by simpa using hi
  simp [h i hi',← hl,hi']
end
end Go.Proofs.YtcgclpcocdappaaGreatDoor
namespace Go.Proofs
open Go.Shelf
def Tryz.lays145_ren:Go.Shelf.Ren:=⟨fun | 145=>184 | 220=>205 | 219=>216 | 217=>223 | 225=>224 | 224=>225 | 267=>226 | 266=>228 | 314=>229 | n=>n,fun | 9=>9 | 4=>4 | 59=>204 | 3=>3 | 5=>5 | 46=>190 | 146=>234 | 51=>233 | n=>n,fun | 1=>0 | n=>n⟩
theorem Tryz.lays145:Go.Proofs.Lays.n145 Tryz.prog Tryz.lays145_ren:={
 mixed:=by kernel_rfl
 f145:=Tryz.func184.trans (congrArg some (by kernel_rfl))
 f217:=Tryz.func223.trans (congrArg some (by kernel_rfl))
 f219:=Tryz.func216.trans (congrArg some (by kernel_rfl))
 f220:=Tryz.func205.trans (congrArg some (by kernel_rfl))
 f224:=Tryz.func225.trans (congrArg some (by kernel_rfl))
 f225:=Tryz.func224.trans (congrArg some (by kernel_rfl))
 f266:=Tryz.func228.trans (congrArg some (by kernel_rfl))
 f267:=Tryz.func226.trans (congrArg some (by kernel_rfl))
 f314:=Tryz.func229.trans (congrArg some (by kernel_rfl))
 t3:=Tryz.underlying3
 a3:=Tryz.isAgg3
 z3:=Tryz.sizeOf3
 v3:=Tryz.zeroValue3
 t4:=Tryz.underlying4
 a4:=Tryz.isAgg4
 z4:=Tryz.sizeOf4
 v4:=Tryz.zeroValue4
 t5:=Tryz.underlying5
 a5:=Tryz.isAgg5
 z5:=Tryz.sizeOf5
 v5:=Tryz.zeroValue5
 t9:=Tryz.underlying9
 a9:=Tryz.isAgg9
 z9:=Tryz.sizeOf9
 v9:=Tryz.zeroValue9
 t46:=Tryz.underlying190
 a46:=Tryz.isAgg190
 z46:=Tryz.sizeOf190
 v46:=Tryz.zeroValue190
 t51:=Tryz.underlying233
 a51:=Tryz.isAgg233
 z51:=Tryz.sizeOf233
 v51:=Tryz.zeroValue233
 t59:=Tryz.underlying204
 a59:=Tryz.isAgg204
 z59:=Tryz.sizeOf204
 v59:=Tryz.zeroValue204
 t146:=Tryz.underlying234
 a146:=Tryz.isAgg234
 z146:=Tryz.sizeOf234
 v146:=Tryz.zeroValue234
 g1:=by kernel_rfl }
open Go.RowKit Go.Lib in
/-- strings.Cut: "Cut slices s around the first instance of sep, returning the text before and after sep. The found result reports whether sep appears in s. If sep does not appear in s, cut returns s, "", false.": IT RETURNS 'Lib.cut s sep'; the world is as it was but for the count of draws. (LAID: no walk: one application.) -/
theorem Tryz.strings_Cut (s sep:ByteArray) (m:Int) (w:World) (hs:s.size<4294967281) (hm:w.cell? ⟨0,0,none⟩=some (.int .i64 m)) :
  Calls Tryz.prog 184 #[.string s,.string sep] w fun e w'=>e=.returned (.tuple #[.string ⟨(Lib.cut s.data.toList sep.data.toList).1.toArray⟩,.string ⟨(Lib.cut s.data.toList sep.data.toList).2.1.toArray⟩,.bool (Lib.cut s.data.toList sep.data.toList).2.2])∧∃ n,w'=w.drewN n:=Any.strings_Cut Tryz.lays145 s sep m w hs hm
def Tryz.lays149_ren:Go.Shelf.Ren:=⟨fun | 149=>144 | 222=>187 | n=>n,fun | 9=>9 | 5=>5 | 3=>3 | 4=>4 | n=>n,fun | n=>n⟩
theorem Tryz.lays149:Go.Proofs.Lays.n149 Tryz.prog Tryz.lays149_ren:={
 mixed:=by kernel_rfl
 f149:=Tryz.func144.trans (congrArg some (by kernel_rfl))
 f222:=Tryz.func187.trans (congrArg some (by kernel_rfl))
 t3:=Tryz.underlying3
 a3:=Tryz.isAgg3
 z3:=Tryz.sizeOf3
 v3:=Tryz.zeroValue3
 t4:=Tryz.underlying4
 a4:=Tryz.isAgg4
 z4:=Tryz.sizeOf4
 v4:=Tryz.zeroValue4
 t5:=Tryz.underlying5
 a5:=Tryz.isAgg5
 z5:=Tryz.sizeOf5
 v5:=Tryz.zeroValue5
 t9:=Tryz.underlying9
 a9:=Tryz.isAgg9
 z9:=Tryz.sizeOf9
 v9:=Tryz.zeroValue9 }
open Go.RowKit Go.Lib in
/-- strings.LastIndexByte: "LastIndexByte returns the index of the last instance of c in s, or -1 if c is not present in s." (LAID: no walk: one application.) -/
theorem Tryz.strings_LastIndexByte (s:ByteArray) (c:Int) (hs:s.size<4611686018427387904) (w:World) :
  Calls Tryz.prog 144 #[.string s,.int .u8 c] w fun e w'=>e=.returned (.int .i64 (Lib.lastIndexByte s c))∧w'=w:=Any.strings_LastIndexByte Tryz.lays149 s c hs w
def Tryz.lays146_ren:Go.Shelf.Ren:=⟨fun | 146=>141 | 221=>185 | 268=>206 | 138=>207 | 143=>208 | 195=>217 | 197=>218 | 218=>219 | 219=>216 | 260=>227 | 217=>223 | 225=>224 | 224=>225 | 267=>226 | 266=>228 | 314=>229 | n=>n,fun | 9=>9 | 31=>48 | 3=>3 | 4=>4 | 0=>0 | 105=>228 | 21=>21 | 5=>5 | 46=>190 | 119=>236 | 139=>239 | 138=>238 | 146=>234 | 51=>233 | n=>n,fun | 1=>0 | 3=>1 | 4=>2 | n=>n⟩
theorem Tryz.lays146:Go.Proofs.Lays.n146 Tryz.prog Tryz.lays146_ren:={
 mixed:=by kernel_rfl
 f138:=Tryz.func207.trans (congrArg some (by kernel_rfl))
 f143:=Tryz.func208.trans (congrArg some (by kernel_rfl))
 f146:=Tryz.func141.trans (congrArg some (by kernel_rfl))
 f195:=Tryz.func217.trans (congrArg some (by kernel_rfl))
 f197:=Tryz.func218.trans (congrArg some (by kernel_rfl))
 f217:=Tryz.func223.trans (congrArg some (by kernel_rfl))
 f218:=Tryz.func219.trans (congrArg some (by kernel_rfl))
 f219:=Tryz.func216.trans (congrArg some (by kernel_rfl))
 f221:=Tryz.func185.trans (congrArg some (by kernel_rfl))
 f224:=Tryz.func225.trans (congrArg some (by kernel_rfl))
 f225:=Tryz.func224.trans (congrArg some (by kernel_rfl))
 f260:=Tryz.func227.trans (congrArg some (by kernel_rfl))
 f266:=Tryz.func228.trans (congrArg some (by kernel_rfl))
 f267:=Tryz.func226.trans (congrArg some (by kernel_rfl))
 f268:=Tryz.func206.trans (congrArg some (by kernel_rfl))
 f314:=Tryz.func229.trans (congrArg some (by kernel_rfl))
 t0:=Tryz.underlying0
 a0:=Tryz.isAgg0
 z0:=Tryz.sizeOf0
 v0:=Tryz.zeroValue0
 t3:=Tryz.underlying3
 a3:=Tryz.isAgg3
 z3:=Tryz.sizeOf3
 v3:=Tryz.zeroValue3
 t4:=Tryz.underlying4
 a4:=Tryz.isAgg4
 z4:=Tryz.sizeOf4
 v4:=Tryz.zeroValue4
 t5:=Tryz.underlying5
 a5:=Tryz.isAgg5
 z5:=Tryz.sizeOf5
 v5:=Tryz.zeroValue5
 t9:=Tryz.underlying9
 a9:=Tryz.isAgg9
 z9:=Tryz.sizeOf9
 v9:=Tryz.zeroValue9
 t21:=Tryz.underlying21
 a21:=Tryz.isAgg21
 z21:=Tryz.sizeOf21
 v21:=Tryz.zeroValue21
 t31:=Tryz.underlying48
 a31:=Tryz.isAgg48
 z31:=Tryz.sizeOf48
 v31:=Tryz.zeroValue48
 t46:=Tryz.underlying190
 a46:=Tryz.isAgg190
 z46:=Tryz.sizeOf190
 v46:=Tryz.zeroValue190
 t51:=Tryz.underlying233
 a51:=Tryz.isAgg233
 z51:=Tryz.sizeOf233
 v51:=Tryz.zeroValue233
 t105:=Tryz.underlying228
 a105:=Tryz.isAgg228
 z105:=Tryz.sizeOf228
 v105:=Tryz.zeroValue228
 t119:=Tryz.underlying236
 a119:=Tryz.isAgg236
 z119:=Tryz.sizeOf236
 t138:=Tryz.underlying238
 a138:=Tryz.isAgg238
 z138:=Tryz.sizeOf238
 v138:=Tryz.zeroValue238
 t139:=Tryz.underlying239
 a139:=Tryz.isAgg239
 z139:=Tryz.sizeOf239
 v139:=Tryz.zeroValue239
 t146:=Tryz.underlying234
 a146:=Tryz.isAgg234
 z146:=Tryz.sizeOf234
 v146:=Tryz.zeroValue234
 g1:=by kernel_rfl
 g3:=by kernel_rfl
 g4:=by kernel_rfl }
open Go.RowKit Go.Lib in
/-- strings.Split. (LAID: no walk: one application.) -/
theorem Tryz.strings_Split (s sep:ByteArray) (m:Int) (w:World) (hs:s.size<4294967281) (hm:w.cell? ⟨0,0,none⟩=some (.int .i64 m)) (h1:1≤sep.size) :
  Calls Tryz.prog 141 #[.string s,.string sep] w fun e w' =>
   e=.returned (.slice (some ⟨w.heap.size,0,none⟩) (Lib.countB s sep+1) (Lib.countB s sep+1))∧w'=w.alloc (.cells ((Lib.splitB sep 0 (Lib.countB s sep) s).map Value.string).toArray 9):=Any.strings_Split Tryz.lays146 (by kernel_rfl) s sep m w hs hm h1
end Go.Proofs
