/-
  A region that draws its order, by an invariant: each operation is looked at once, whatever the order. DERIVED: THE SHELF's CONTRACTS AT THIS DUMP, IN PLAIN WORDS (tools/lay-plain.mjs out of 'TryzShelf.lean', which tools/lay-shelf.mjs wrote): THE SAME DECLARATIONS UNDER THE SAME NAMES: 'import', 'namespace', 'open', 'def', 'theorem' AND NOTHING ELSE: no command of the shelf's: FOR A HAND-IN. Each laying: the table of numbers ('.._ren') and one theorem, a field a fact of the dump's own or the kernel's comparison; each contract: ONE APPLICATION. names.Name, names.Path. A region that draws its order and only reads and makes memory: what is said of each operation's value holds whatever comes behind it. names.Parent and names.Split, by their contracts.
-/
import Derived.Test.YtiojfffgiejibaaGreatDoorQsM1
import Derived.Orders
import Derived.WalkKit
import Derived.WalkSpells
import Derived.Below
import Derived.Laws.OwnMore
import Derived.Deep.AppendLies
import Derived.Deep.Draws
import Derived.Laws.Rows
import Derived.Maps.AppendAt
import Derived.RegionTactic
import Derived.OwnWalk
import Derived.Deep.QuietTactic
import Derived.BigQuiet
import Derived.Lib.Hide
import Derived.Laws.CopyOwn
import Derived.IntWalk
import Derived.Shelf.Strings.Search1
import Derived.Shelf.Strings.Search2
import Derived.Shelf.Strings.Search3
import Derived.Shelf.Strings.Cut
import Derived.Shelf.Strings.Count
import Derived.Shelf.LaysM
import Derived.Shelf.Strings.Shaped
import Derived.Shelf.Strings.LastIndex
import Derived.Shelf.Strings.Split
import Derived.Shelf.Strings.SplitShaped
import Derived.Shelf.Unicode.Decode
import Derived.Shelf.Strings.RuneCount
import Derived.Shelf.Strings.Explode
import Derived.Shelf.Unicode.DecodeSlow
import Derived.Shelf.Slices.Turned
import Derived.Test.YtiojfffgiejibaaGreatDoorProg
import Derived.Lib.SplitLaws
import Derived.Lib.LastIndexByte
import Derived.Lib.Strings
import Derived.Test.YtiojfffgiejibaaGreatDoorRows
import Derived.Handy
import Derived.Laws.BytesString
import Derived.Laws.IdiomStrings
import Derived.Lib.ConvBytes
import Derived.ShutString
import Derived.Test.YtiojfffgiejibaaGreatDoorQ0
import Derived.Test.YtiojfffgiejibaaGreatDoorQs1
import Derived.Test.YtiojfffgiejibaaGreatDoorQs2
import Derived.Test.YtiojfffgiejibaaGreatDoorQs3
import Derived.Test.YtiojfffgiejibaaGreatDoorQs8
import Derived.Test.YtiojfffgiejibaaGreatDoorQs9
namespace Go.Proofs.YtiojfffgiejibaaGreatDoor
open Go.RowKit
section
variable {P:Program} {ops:Array Oper}
/-- which operation writes slot k -/
def ownerOf (ops:Array Oper) (k:Nat):Option Nat:=(List.range ops.size).find? fun i=>(ops[i]?.bind (·.dst)) == some k
/-- no two operations write one slot, all slots are there, each waits for earlier ones alone -/
def regionOk (ops:Array Oper) (n:Nat):Bool :=
 (List.range ops.size).all fun i=>match ops[i]? with
  | some o=>(match o.dst with | some d=>decide (ownerOf ops d=some i) && decide (d<n) | none=>true) && o.after.all fun e=>!(Region.binds .any e) || decide (e.on<i)
  | none=>true
def upd (m:Nat→Option Value) (i:Nat) (v:Value):Nat→Option Value:=fun j=>if j=i then some v else m j
theorem upd_self (m:Nat→Option Value) (i:Nat) (v:Value):upd m i v i=some v:=by simp [upd]
theorem upd_ne (m:Nat→Option Value) {i j:Nat} (v:Value) (h:j≠i):upd m i v j=m j:=by simp [upd,h]
/-- the frame when the operations that m knows have come up -/
def frameM (a0:Act) (ops:Array Oper) (m:Nat→Option Value):Act :=
 { tmps:=a0.tmps.mapIdx fun k x=>match ownerOf ops k with | some i=>(m i).getD x | none=>x,defers:=a0.defers }
theorem ownerOf_spec {k i:Nat} (h:ownerOf ops k=some i):∃ o,ops[i]?=some o∧o.dst=some k:=by
 unfold ownerOf at h
 have:=List.find?_some h
 simp only [beq_iff_eq] at this
 cases ho:ops[i]? with
 | none=>rw [ho] at this;cases this
 | some o=>rw [ho] at this;exact ⟨o,rfl,this⟩
theorem regionOk_spec {n:Nat} (h:regionOk ops n=true) {i:Nat} {o:Oper} (ho:ops[i]?=some o):(∀ d,o.dst=some d→ownerOf ops d=some i∧d<n)∧∀ e∈o.after,Region.binds .any e=true→e.on<i:=by
 have hi:i<ops.size:=(Array.getElem?_eq_some_iff.1 ho).1
 have:=List.all_eq_true.1 h i (List.mem_range.2 hi)
 rw [ho] at this
 simp only [Bool.and_eq_true,Array.all_eq_true_iff_forall_mem,Bool.or_eq_true,Bool.not_eq_true',decide_eq_true_eq] at this
 refine ⟨fun d hd=>?_,fun e he hb=>?_⟩
 ·have h1:=this.1
  rw [hd] at h1
  simpa using h1
 ·rcases this.2 e he with h | h
  ·rw [hb] at h;cases h
  ·exact h
theorem frameM_put {a0:Act} {m:Nat→Option Value} (h:regionOk ops a0.tmps.size=true) {i:Nat} {o:Oper} (ho:ops[i]?=some o) (v:Value) :
  (frameM a0 ops m).put o.dst v=frameM a0 ops (upd m i v):=by
 obtain ⟨h1,_⟩:=regionOk_spec h ho
 cases hd:o.dst with
 | none =>
  unfold Act.put frameM
  simp only [Act.mk.injEq,and_true]
  apply Array.ext
  ·simp
  ·intro k hk1 hk2
   simp only [Array.getElem_mapIdx]
   cases hw:ownerOf ops k with
   | none=>rfl
   | some j =>
    obtain ⟨o',ho',hd'⟩:=ownerOf_spec hw
    have hji:j≠i:=by rintro rfl;rw [ho] at ho';cases ho';rw [hd] at hd';cases hd'
    simp only [upd_ne m v hji]
 | some d =>
  obtain ⟨hw,hlt⟩:=h1 d hd
  unfold Act.put frameM
  simp only [Act.mk.injEq,and_true]
  apply Array.ext
  ·simp
  ·intro k hk1 hk2
   by_cases hkd:d=k
   ·subst hkd
    simp [hw,upd_self]
   ·rw [Array.getElem_setIfInBounds_ne (by simpa using hk1) hkd]
    simp only [Array.getElem_mapIdx]
    cases hw':ownerOf ops k with
    | none=>rfl
    | some j =>
     have hji:j≠i:=by
      rintro rfl
      obtain ⟨o',ho',hd'⟩:=ownerOf_spec hw'
      rw [ho] at ho';cases ho';rw [hd] at hd';cases hd';exact hkd rfl
     simp only [upd_ne m v hji]
theorem frameM_none (a0:Act):frameM a0 ops (fun _=>none)=a0:=by
 cases a0 with
 | mk tmps defers =>
  unfold frameM
  simp only [Act.mk.injEq,and_true]
  apply Array.ext
  ·simp
  ·intro k hk1 hk2
   simp only [Array.getElem_mapIdx]
   cases ownerOf ops k <;> rfl
theorem tmps_own {a0:Act} {m:Nat→Option Value} {k i:Nat} {v:Value} (hw:ownerOf ops k=some i) (hv:m i=some v) (hk:k<a0.tmps.size):(frameM a0 ops m).tmps[k]?.getD undef=v:=by
 simp [frameM,hk,hw,hv]
theorem tmps_free {a0:Act} {m:Nat→Option Value} {k:Nat} (hw:ownerOf ops k=none):(frameM a0 ops m).tmps[k]?.getD undef=a0.tmps[k]?.getD undef:=by
 by_cases hk:k<a0.tmps.size
 ·simp [frameM,hk,hw]
 ·simp [frameM,hk]
theorem wp_region_inv {id:Nat} {a0:Act} {w:World} {Q:Exit→Act→World→Prop} (hm:P.follows .mixedOrders=true) (hok:regionOk ops a0.tmps.size=true) (J:(Nat→Option Value)→World→Prop)
  (h0:J (fun _=>none) w.drew)
  (hstep:∀ i o,ops[i]?=some o→∀ m w,J m w→m i=none→(∀ e∈o.after,Region.binds .any e=true→(m e.on).isSome=true) → 
   ∀ (A:Act) (K:Act→World→Prop),A=frameM a0 ops m→(∀ v w',J (upd m i v) w'→K (A.put o.dst v) w')→if Region.wanted o (yielded ops A.tmps)=true then o.wp P A w K Q else K (A.put o.dst undef) w)
  (hend:∀ m w,J m w→(∀ i,i<ops.size→(m i).isSome=true)→Q .normal (frameM a0 ops m) w) :
  (Code.region id ops true).wp P Q a0 w:=by
 refine wp_region_any hm ?_
 have key:∀ (fuel:Nat) (listed:Array Bool) (m:Nat→Option Value) (w:World),J m w→listed.size=ops.size→(∀ i,i<ops.size→listed.getD i true=(m i).isSome) →
   ((List.range ops.size).filter fun i=>(m i).isNone).length≤fuel→wpAny P .any ops Q fuel listed (frameM a0 ops m) w:=by
  intro fuel
  induction fuel with
  | zero =>
   intro listed m w hJ hsz hl hc
   have hall:∀ i,i<ops.size→(m i).isSome=true:=by
    intro i hi
    have he:(List.range ops.size).filter (fun i=>(m i).isNone)=[]:=List.eq_nil_of_length_eq_zero tZ1
    have:=List.filter_eq_nil_iff.1 he i (List.mem_range.2 hi)
    cases hmi:m i with
    | none=>rw [hmi] at this;exact absurd rfl this
    | some _=>rfl
   refine ⟨?_,hend m w hJ hall⟩
   apply List.eq_nil_iff_forall_not_mem.2
   intro j hj
   obtain ⟨hu,o,ho,_⟩:=mem_ready.1 hj
   have hjs:j<ops.size:=(Array.getElem?_eq_some_iff.1 ho).1
   rw [hl j hjs,hall j hjs] at hu
   cases hu
  | succ fuel ih =>
   intro listed m w hJ hsz hl hc
   refine ⟨fun hr=>hend m w hJ ?_,fun i hi=>?_⟩
   ·-- nothing is ready: all have come up
    intro i
    induction i using Nat.strongRecOn with
    | ind i ihi =>
     intro hi
     cases hmi:m i with
     | some _=>rfl
     | none =>
      exfalso
      have ho:ops[i]?=some ops[i]:=Array.getElem?_eq_getElem hi
      have:i∈Region.ready .any ops listed:=by
       refine mem_ready.2 ⟨by rw [hl i hi,hmi];rfl,ops[i],ho,fun e he hb=>?_⟩
       have hlt:=(regionOk_spec hok ho).2 e he hb
       have h2:=ihi e.on hlt tZ1
       have h3:=hl e.on tZ1
       rw [h2] at h3
       have h4:e.on<listed.size:=tZ1
       simp [Array.getD,h4] at h3 ⊢
       exact h3
      rw [hr] at this
      cases this
   ·obtain ⟨hu,o,ho,hdeps⟩:=mem_ready.1 hi
    have his:i<ops.size:=(Array.getElem?_eq_some_iff.1 ho).1
    have hmi:m i=none:=by
     rw [hl i his] at hu
     cases hmi:m i with
     | none=>rfl
     | some _=>rw [hmi] at hu;cases hu
    have hs:=hstep i o ho m w hJ hmi (fun e he hb=>by
     have h1:=hdeps e he hb
     have hlt:=(regionOk_spec hok ho).2 e he hb
     have h2:=hl e.on tZ1
     have h4:e.on<listed.size:=tZ1
     simp [Array.getD,h4] at h1 h2
     rw [← h2];exact h1)
    have next:∀ v w',J (upd m i v) w'→wpAny P .any ops Q fuel (listed.setIfInBounds i true) ((frameM a0 ops m).put o.dst v) w':=by
     intro v w' hJ'
     rw [frameM_put hok ho]
     refine ih _ _ _ hJ' tZ121 ?_ ?_
     ·intro j hj
      by_cases hji:j=i
      ·subst hji
       simp [upd_self,Array.getD,hsz,hj]
      ·rw [upd_ne m v hji,← hl j hj]
       exact getD_set_ne true (fun h=>hji h.symm)
     ·have hlt:((List.range ops.size).filter fun j=>(upd m i v j).isNone).length<((List.range ops.size).filter fun j=>(m j).isNone).length:=by
       have hsub:(List.range ops.size).filter (fun j=>(upd m i v j).isNone)=((List.range ops.size).filter fun j=>(m j).isNone).filter fun j=>decide (j≠i):=by
        rw [List.filter_filter]
        apply List.filter_congr
        intro j _
        by_cases hji:j=i
        ·subst hji;simp [upd_self]
        ·simp [upd_ne m v hji,hji]
       rw [hsub]
       exact List.length_filter_lt_length_iff_exists.2 ⟨i,List.mem_filter.2 ⟨List.mem_range.2 his,by rw [hmi];rfl⟩,by simp⟩
      omega
    unfold wpOp
    rw [ho]
    show if Region.wanted o (yielded ops (frameM a0 ops m).tmps)=true then _ else _
    have hs':=hs (frameM a0 ops m) (wpAny P .any ops Q fuel (listed.setIfInBounds i true)) rfl (fun v w' h=>next v w' h)
    by_cases hw:Region.wanted o (yielded ops (frameM a0 ops m).tmps)=true
    ·rw [if_pos hw] at hs' ⊢
     exact .inl hs'
    ·rw [if_neg hw] at hs' ⊢
     exact hs'
 have h:=key ops.size (Array.replicate ops.size false) (fun _=>none) w.drew h0 tZ3 (fun i hi=>by simp [Array.getD,hi]) (Nat.le_trans (List.length_filter_le _ _) tZ3)
 rw [frameM_none] at h
 exact h
/-! ### Values that are determined -/
/-! ### The frame behind the region, written out -/
def putAll:Act→List Oper→List Value→Act
 | a,o :: os,v :: vs=>putAll (a.put o.dst v) os vs
 | a,_,_=>a
theorem frameM_congr {a0:Act} {m m':Nat→Option Value} (h:∀ i,i<ops.size→m i=m' i):frameM a0 ops m=frameM a0 ops m':=by
 unfold frameM
 simp only [Act.mk.injEq,and_true]
 apply Array.ext
 ·simp
 ·intro k hk1 hk2
  simp only [Array.getElem_mapIdx]
  cases hw:ownerOf ops k with
  | none=>rfl
  | some j =>
   obtain ⟨o,ho,_⟩:=ownerOf_spec hw
   simp only [h j (Array.getElem?_eq_some_iff.1 ho).1]
theorem putAll_frame {a0:Act} (hok:regionOk ops a0.tmps.size=true):∀ (os:List Oper) (vs:List Value) (k:Nat) (m:Nat→Option Value),(∀ j,os[j]?=ops[k+j]?)→os.length=vs.length →
  putAll (frameM a0 ops m) os vs=frameM a0 ops (fun i=>if k≤i∧i<k+vs.length then vs[i-k]? else m i):=by
 intro os
 induction os with
 | nil =>
  intro vs k m _ hl
  have:vs=[]:=List.eq_nil_of_length_eq_zero hl.symm
  subst this
  show frameM a0 ops m=_
  congr 1
  funext i
  rw [if_neg tZ3]
 | cons o os ih =>
  intro vs k m ho hl
  match vs,hl with
  | v :: vs,hl =>
   have h0:ops[k]?=some o:=by simpa using (ho 0).symm
   show putAll ((frameM a0 ops m).put o.dst v) os vs=_
   rw [frameM_put hok h0,ih vs (k+1) _ (fun j=>by have:=ho (j+1);simpa [Nat.add_assoc,Nat.add_comm 1 j] using this) tZ68]
   congr 1
   funext i
   by_cases h1:i=k
   ·subst h1
    rw [if_neg tZ1,upd_self,if_pos ⟨Nat.le_refl _,by simp⟩]
    simp
   ·by_cases h2:k+1≤i∧i<k+1+vs.length
    ·rw [if_pos h2,if_pos ⟨by omega,by simp;omega⟩]
     obtain ⟨d,rfl⟩:∃ d,i=k+1+d:=⟨i-(k+1),by omega⟩
     rw [show k+1+d-(k+1)=d by omega,show k+1+d-k=d+1 by omega]
     rfl
    ·rw [if_neg h2,upd_ne m v h1,if_neg tZ7]
theorem frameM_all {a0:Act} {l:List Oper} (hok:regionOk l.toArray a0.tmps.size=true) {m:Nat→Option Value} (vs:List Value) (hl:l.length=vs.length) (h:∀ i,i<l.length→m i=vs[i]?) :
  frameM a0 l.toArray m=putAll a0 l vs:=by
 have:=putAll_frame (ops:=l.toArray) hok l vs 0 (fun _=>none) (fun j=>by simp) hl
 rw [frameM_none] at this
 rw [this]
 exact frameM_congr fun i hi=>by
  have hi':i<l.length:=by simpa using hi
  simp [h i hi',← hl,hi']
end
end Go.Proofs.YtiojfffgiejibaaGreatDoor
namespace Go.Proofs
open Go.Shelf
def Tryz.lays145_ren:Go.Shelf.Ren:=⟨fun | 145=>141 | 220=>163 | 219=>177 | 217=>184 | 225=>185 | 224=>186 | 267=>187 | 266=>190 | 314=>191 | n=>n,fun | 9=>9 | 4=>4 | 59=>163 | 3=>3 | 5=>5 | 46=>157 | 146=>200 | 51=>199 | n=>n,fun | 1=>0 | n=>n⟩
theorem Tryz.lays145:Go.Proofs.Lays.n145 Tryz.prog Tryz.lays145_ren:={
 mixed:=tZ2
 f145:=Tryz.func141.trans (congrArg some tZ2)
 f217:=Tryz.func184.trans (congrArg some tZ2)
 f219:=Tryz.func177.trans (congrArg some tZ2)
 f220:=Tryz.func163.trans (congrArg some tZ2)
 f224:=Tryz.func186.trans (congrArg some tZ2)
 f225:=Tryz.func185.trans (congrArg some tZ2)
 f266:=Tryz.func190.trans (congrArg some tZ2)
 f267:=Tryz.func187.trans (congrArg some tZ2)
 f314:=Tryz.func191.trans (congrArg some tZ2)
 t3:=Tryz.underlying3
 a3:=Tryz.isAgg3
 z3:=Tryz.sizeOf3
 v3:=Tryz.zeroValue3
 t4:=Tryz.underlying4
 a4:=Tryz.isAgg4
 z4:=Tryz.sizeOf4
 v4:=Tryz.zeroValue4
 t5:=Tryz.underlying5
 a5:=Tryz.isAgg5
 z5:=Tryz.sizeOf5
 v5:=Tryz.zeroValue5
 t9:=Tryz.underlying9
 a9:=Tryz.isAgg9
 z9:=Tryz.sizeOf9
 v9:=Tryz.zeroValue9
 t46:=Tryz.underlying157
 a46:=Tryz.isAgg157
 z46:=Tryz.sizeOf157
 v46:=Tryz.zeroValue157
 t51:=Tryz.underlying199
 a51:=Tryz.isAgg199
 z51:=Tryz.sizeOf199
 v51:=Tryz.zeroValue199
 t59:=Tryz.underlying163
 a59:=Tryz.isAgg163
 z59:=Tryz.sizeOf163
 v59:=Tryz.zeroValue163
 t146:=Tryz.underlying200
 a146:=Tryz.isAgg200
 z146:=Tryz.sizeOf200
 v146:=Tryz.zeroValue200
 g1:=by kernel_rfl }
open Go.RowKit Go.Lib in
/-- strings.Cut: "Cut slices s around the first instance of sep, returning the text before and after sep. The found result reports whether sep appears in s. If sep does not appear in s, cut returns s, "", false.": IT RETURNS 'Lib.cut s sep'; the world is as it was but for the count of draws. (LAID: no walk: one application.) -/
theorem Tryz.strings_Cut (s sep:ByteArray) (m:Int) (w:World) (hs:s.size<4294967281) (hm:w.cell? ⟨0,0,none⟩=some (.int .i64 m)) :
  Calls Tryz.prog 141 #[.string s,.string sep] w fun e w'=>e=.returned (.tuple #[.string ⟨(Lib.cut s.data.toList sep.data.toList).1.toArray⟩,.string ⟨(Lib.cut s.data.toList sep.data.toList).2.1.toArray⟩,.bool (Lib.cut s.data.toList sep.data.toList).2.2])∧∃ n,w'=w.drewN n:=Any.strings_Cut Tryz.lays145 s sep m w hs hm
def Tryz.lays149_ren:Go.Shelf.Ren:=⟨fun | 149=>85 | 222=>136 | n=>n,fun | 9=>9 | 5=>5 | 3=>3 | 4=>4 | n=>n,fun | n=>n⟩
theorem Tryz.lays149:Go.Proofs.Lays.n149 Tryz.prog Tryz.lays149_ren:={
 mixed:=tZ2
 f149:=Tryz.func85.trans (congrArg some tZ2)
 f222:=Tryz.func136.trans (congrArg some tZ2)
 t3:=Tryz.underlying3
 a3:=Tryz.isAgg3
 z3:=Tryz.sizeOf3
 v3:=Tryz.zeroValue3
 t4:=Tryz.underlying4
 a4:=Tryz.isAgg4
 z4:=Tryz.sizeOf4
 v4:=Tryz.zeroValue4
 t5:=Tryz.underlying5
 a5:=Tryz.isAgg5
 z5:=Tryz.sizeOf5
 v5:=Tryz.zeroValue5
 t9:=Tryz.underlying9
 a9:=Tryz.isAgg9
 z9:=Tryz.sizeOf9
 v9:=Tryz.zeroValue9 }
open Go.RowKit Go.Lib in
/-- strings.LastIndexByte: "LastIndexByte returns the index of the last instance of c in s, or -1 if c is not present in s." (LAID: no walk: one application.) -/
theorem Tryz.strings_LastIndexByte (s:ByteArray) (c:Int) (hs:s.size<4611686018427387904) (w:World) :
  Calls Tryz.prog 85 #[.string s,.int .u8 c] w fun e w'=>e=.returned (.int .i64 (Lib.lastIndexByte s c))∧w'=w:=Any.strings_LastIndexByte Tryz.lays149 s c hs w
def Tryz.lays146_ren:Go.Shelf.Ren:=⟨fun | 146=>123 | 221=>158 | 268=>172 | 138=>173 | 143=>174 | 195=>181 | 197=>182 | 218=>183 | 219=>177 | 260=>189 | 217=>184 | 225=>185 | 224=>186 | 267=>187 | 266=>190 | 314=>191 | n=>n,fun | 9=>9 | 31=>51 | 3=>3 | 4=>4 | 0=>0 | 105=>195 | 21=>21 | 5=>5 | 46=>157 | 119=>202 | 139=>205 | 138=>204 | 146=>200 | 51=>199 | n=>n,fun | 1=>0 | 3=>1 | 4=>2 | n=>n⟩
theorem Tryz.lays146:Go.Proofs.Lays.n146 Tryz.prog Tryz.lays146_ren:={
 mixed:=tZ2
 f138:=Tryz.func173.trans (congrArg some tZ2)
 f143:=Tryz.func174.trans (congrArg some tZ2)
 f146:=Tryz.func123.trans (congrArg some tZ2)
 f195:=Tryz.func181.trans (congrArg some tZ2)
 f197:=Tryz.func182.trans (congrArg some tZ2)
 f217:=Tryz.func184.trans (congrArg some tZ2)
 f218:=Tryz.func183.trans (congrArg some tZ2)
 f219:=Tryz.func177.trans (congrArg some tZ2)
 f221:=Tryz.func158.trans (congrArg some tZ2)
 f224:=Tryz.func186.trans (congrArg some tZ2)
 f225:=Tryz.func185.trans (congrArg some tZ2)
 f260:=Tryz.func189.trans (congrArg some tZ2)
 f266:=Tryz.func190.trans (congrArg some tZ2)
 f267:=Tryz.func187.trans (congrArg some tZ2)
 f268:=Tryz.func172.trans (congrArg some tZ2)
 f314:=Tryz.func191.trans (congrArg some tZ2)
 t0:=Tryz.underlying0
 a0:=Tryz.isAgg0
 z0:=Tryz.sizeOf0
 v0:=Tryz.zeroValue0
 t3:=Tryz.underlying3
 a3:=Tryz.isAgg3
 z3:=Tryz.sizeOf3
 v3:=Tryz.zeroValue3
 t4:=Tryz.underlying4
 a4:=Tryz.isAgg4
 z4:=Tryz.sizeOf4
 v4:=Tryz.zeroValue4
 t5:=Tryz.underlying5
 a5:=Tryz.isAgg5
 z5:=Tryz.sizeOf5
 v5:=Tryz.zeroValue5
 t9:=Tryz.underlying9
 a9:=Tryz.isAgg9
 z9:=Tryz.sizeOf9
 v9:=Tryz.zeroValue9
 t21:=Tryz.underlying21
 a21:=Tryz.isAgg21
 z21:=Tryz.sizeOf21
 v21:=Tryz.zeroValue21
 t31:=Tryz.underlying51
 a31:=Tryz.isAgg51
 z31:=Tryz.sizeOf51
 v31:=Tryz.zeroValue51
 t46:=Tryz.underlying157
 a46:=Tryz.isAgg157
 z46:=Tryz.sizeOf157
 v46:=Tryz.zeroValue157
 t51:=Tryz.underlying199
 a51:=Tryz.isAgg199
 z51:=Tryz.sizeOf199
 v51:=Tryz.zeroValue199
 t105:=Tryz.underlying195
 a105:=Tryz.isAgg195
 z105:=Tryz.sizeOf195
 v105:=Tryz.zeroValue195
 t119:=Tryz.underlying202
 a119:=Tryz.isAgg202
 z119:=Tryz.sizeOf202
 t138:=Tryz.underlying204
 a138:=Tryz.isAgg204
 z138:=Tryz.sizeOf204
 v138:=Tryz.zeroValue204
 t139:=Tryz.underlying205
 a139:=Tryz.isAgg205
 z139:=Tryz.sizeOf205
 v139:=Tryz.zeroValue205
 t146:=Tryz.underlying200
 a146:=Tryz.isAgg200
 z146:=Tryz.sizeOf200
 v146:=Tryz.zeroValue200
 g1:=tZ2
 g3:=tZ2
 g4:=by kernel_rfl }
open Go.RowKit Go.Lib in
/-- strings.Split. (LAID: no walk: one application.) -/
theorem Tryz.strings_Split (s sep:ByteArray) (m:Int) (w:World) (hs:s.size<4294967281) (hm:w.cell? ⟨0,0,none⟩=some (.int .i64 m)) (h1:1≤sep.size) :
  Calls Tryz.prog 123 #[.string s,.string sep] w fun e w' =>
   e=.returned (.slice (some ⟨w.heap.size,0,none⟩) (Lib.countB s sep+1) (Lib.countB s sep+1))∧w'=w.alloc (.cells ((Lib.splitB sep 0 (Lib.countB s sep) s).map Value.string).toArray 9):=Any.strings_Split Tryz.lays146 tZ2 s sep m w hs hm h1
end Go.Proofs
namespace Go.Proofs.YtiojfffgiejibaaGreatDoor
open Go.RowKit
/-! ### Path -/
set_option maxRecDepth 100000 in
theorem path1_any (s:ByteArray) (w:World):Calls Tryz.prog 125 #[.string s] w fun e w'=>e=.returned (.bool (!nameB s.data.toList))∧Below w.heap.size w w':=by
 go_enter Tryz.func125,Tryz.ntmps125
 go_wp2_with fail
 refine (name_any s w).mono ?_
 rintro e w1 ⟨rfl,hb⟩
 go_wp2_with fail
 go_ret
 exact ⟨rfl,hb⟩
/-- the cell of internal/bytealg.MaxLen holds some number -/
def HasMax (w:World):Prop:=∃ m,w.cell? ⟨0,0,none⟩=some (.int .i64 m)
theorem HasMax.lt {w:World} (h:HasMax w):0<w.heap.size:=by
 obtain ⟨m,hm⟩:=h
 exact World.block_lt_of_cell? w _ hm
theorem HasMax.below {w w':World} (h:HasMax w) (hb:Below w.heap.size w w'):HasMax w':=by
 obtain ⟨m,hm⟩:=h
 exact ⟨m,(hb.cell (World.block_lt_of_cell? w _ hm)).trans hm⟩
theorem HasMax.of_shaped {w:World} (h:w.ShapedOpen Tryz.prog):HasMax w:=Go.Proofs.cell_of_shapedOpen_int (zero:=#[.int .i64 0]) (t:=3) h (of_decide_eq_true tZ2) tZ2 rfl tZ2 tZ2 Tryz.underlying3
theorem path_parts (s:ByteArray) (hne:s.data.toList≠[]):(decide (Lib.countB s ⟨#[47]⟩+1≤4) && !((Lib.splitB ⟨#[47]⟩ 0 (Lib.countB s ⟨#[47]⟩) s).any fun x=>!nameB x.data.toList))=pathB s.data.toList:=by
 have he:s.data.toList.isEmpty=false:=by
  cases h:s.data.toList with
  | nil=>exact absurd h hne
  | cons a r=>rfl
 unfold pathB
 rw [he,← splitB_parts s,List.length_map,splitB_len,List.all_map,List.all_eq_not_any_not]
 rfl
set_option maxRecDepth 100000 in
set_option maxHeartbeats 1000000 in
theorem path_any (s:ByteArray) (w:World) (hs:s.size≤4000000000) (hm:HasMax w) :
  Calls Tryz.prog 72 #[.string s] w fun e w'=>e=.returned (.bool (pathB s.data.toList))∧Below w.heap.size w w':=by
 obtain ⟨m,hm⟩:=hm
 have hsp:=Lib.hid (Tryz.strings_Split s ⟨#[47]⟩ m w tZ1 hm (Nat.le_refl _))
 have hlen:=Lib.hid (splitB_len s)
 have hpp:=Lib.hid (path_parts s)
 have htl:=Lib.hid (toList_data s)
 have hcount:=Lib.hid (Lib.countB_le ⟨#[47]⟩ (Nat.le_refl _) _ s (Nat.le_refl _))
 go_enter Tryz.func72,Tryz.ntmps72
 go_wp2_with fail
 ·exact mZ43
 ·have h0:s.toList.isEmpty=false:=by assumption
  rw [htl.out] at h0
  have h1:=Lib.hid (hpp.out (fun e=>by rw [e] at h0;cases h0))
  clear h0
  obtain ⟨L,hL⟩:∃ L,L=Lib.splitB ⟨#[47]⟩ 0 (Lib.countB s ⟨#[47]⟩) s:=⟨_,rfl⟩
  obtain ⟨N,hN⟩:∃ N,N=Lib.countB s ⟨#[47]⟩+1:=⟨_,rfl⟩
  have hN2:N≤4000000001:=by have:=hcount.out;omega
  rw [← hN] at hsp hlen h1
  rw [← hL] at hsp hlen h1
  have hsp:=hsp.out
  clear hcount hpp hL hN
  obtain ⟨b,hbe⟩:∃ b,b=L.any fun x=>!nameB x.data.toList:=⟨_,rfl⟩
  rw [← hbe] at h1
  obtain ⟨W,hW⟩:∃ W,W=w.alloc (Obj.cells (List.map Value.string L).toArray 9):=⟨_,rfl⟩
  have hbW:Below w.heap.size w W:=by rw [hW];exact Below.alloc (Below.refl _ _) (Nat.le_refl _) _
  have hrW:Reads W (w.heap.size+1) 1 (some ⟨w.heap.size,0,none⟩) N (L.map Value.string):=by
   rw [hW]
   exact Reads.lit w (List.map Value.string L).toArray 9 (by simp [hlen.out])
  have hsW:W.heap.size=w.heap.size+1:=by rw [hW];show (w.heap.push _).size=_;rw [Array.size_push]
  have hc:=Lib.hid (fiS_contains Value.string (fun x=>!nameB x.data.toList) L N hlen.out.symm (some ⟨w.heap.size,0,none⟩) N W (w.heap.size+1) hrW tZ1 tZ1 (fun x _ W=>path1_any x W))
  rw [← hbe] at hc
  rw [← hW] at hsp
  clear hW hbe
  refine hsp.mono ?_
  clear hsp
  rintro e w1 ⟨rfl,rfl⟩
  go_wp2_with fail
  ·have h4:(N:Int)≤4:=by assumption
   refine hc.out.mono ?_
   rintro e w2 ⟨rfl,hb2⟩
   go_wp2_with fail
   go_ret
   refine ⟨congrArg Ending.returned (congrArg Value.bool ?_),hbW.trans (hb2.mono tZ1)⟩
   rw [← h1.out,decide_eq_true (show N≤4 by omega)]
   rfl
  ·have h4:4<(N:Int):=by assumption
   go_ret
   refine ⟨congrArg Ending.returned (congrArg Value.bool ?_),hbW⟩
   rw [← h1.out,decide_eq_false (show ¬ N≤4 by omega)]
   rfl
end Go.Proofs.YtiojfffgiejibaaGreatDoor
namespace Go.Proofs.YtiojfffgiejibaaGreatDoor
open Go.RowKit
section
variable {P:Program} {ops:Array Oper}
/-- what is said of each operation's value, by a list -/
def Says (Gs:List (Value→World→Prop)) (i:Nat) (v:Value) (W:World):Prop:=match Gs[i]? with
 | some p=>p v W
 | none=>True
def Stays (p:Value→World→Prop):Prop:=∀ v W W',p v W→Below W.heap.size W W'→p v W'
theorem Stays.pure {q:Value→Prop}:Stays (fun v _=>q v):=fun _ _ _ h _=>h
theorem Stays.own (base:Nat) (e:TypeId) (size n:Nat) (xs:List Value):Stays (fun v W=>W.ownsRow base e size v n xs):=fun _ _ _ h hb=>own_below h hb
/-- the same; each step is told besides that it has not come up, and that whatever has come up had all that it waits for -/
theorem wp_region_good2 {id:Nat} {a0:Act} {w:World} {Q:Exit→Act→World→Prop} (hm:P.follows .mixedOrders=true) (hok:regionOk ops a0.tmps.size=true) (Gs:List (Value→World→Prop)) (hst:∀ p∈Gs,Stays p)
  (hstep:∀ i o,ops[i]?=some o→∀ (m:Nat→Option Value) (W:World),Below w.heap.size w W→m i=none→(∀ j o',ops[j]?=some o'→(m j).isSome=true→∀ e∈o'.after,Region.binds .any e=true→(m e.on).isSome=true)→(∀ e∈o.after,Region.binds .any e=true→∃ v,m e.on=some v∧Says Gs e.on v W) →
   ∀ (A:Act) (K:Act→World→Prop),A=frameM a0 ops m→(∀ v W',Below W.heap.size W W'→Says Gs i v W'→K (A.put o.dst v) W')→if Region.wanted o (yielded ops A.tmps)=true then o.wp P A W K Q else K (A.put o.dst undef) W)
  (hend:∀ (m:Nat→Option Value) (W:World),Below w.heap.size w W→(∀ i,i<ops.size→∃ v,m i=some v∧Says Gs i v W)→Q .normal (frameM a0 ops m) W) :
  (Code.region id ops true).wp P Q a0 w:=by
 have hsay:∀ i v W W',Says Gs i v W→Below W.heap.size W W'→Says Gs i v W':=by
  exact mZ45
 refine wp_region_inv hm hok (fun m W=>Below w.heap.size w W∧(∀ i v,m i=some v→Says Gs i v W)∧(∀ j o',ops[j]?=some o'→(m j).isSome=true→∀ e∈o'.after,Region.binds .any e=true→(m e.on).isSome=true)) ⟨(Below.refl _ _).drew,fun _ _ h=>(by cases h),fun _ _ _ h=>(by cases h)⟩ ?_ ?_
 ·intro i o ho m W hJ hmi hdeps A K hA hK
  refine hstep i o ho m W hJ.1 hmi hJ.2.2 (fun e he hb=>?_) A K hA (fun v W' hb hS=>hK v W' ⟨below_step hJ.1 hb,fun j u hu=>?_,fun j o' ho' hj e he hbi=>?_⟩)
  ·have:=hdeps e he hb
   cases hme:m e.on with
   | none=>rw [hme] at this;cases this
   | some v=>exact ⟨v,rfl,hJ.2.1 _ _ hme⟩
  ·by_cases hj:j=i
   ·subst hj
    rw [upd_self] at hu
    cases hu
    exact hS
   ·rw [upd_ne m v hj] at hu
    exact hsay j u W W' (hJ.2.1 j u hu) hb
  ·by_cases hei:e.on=i
   ·rw [hei,upd_self];rfl
   ·rw [upd_ne m v hei]
    by_cases hji:j=i
    ·subst hji
     rw [ho] at ho'
     cases ho'
     exact hdeps e he hbi
    ·rw [upd_ne m v hji] at hj
     exact hJ.2.2 j o' ho' hj e he hbi
 ·intro m W hJ hall
  refine hend m W hJ.1 fun i hi=>?_
  exact mZ44
end
theorem none_up {ops:Array Oper} {m:Nat→Option Value} (hcl:∀ j o',ops[j]?=some o'→(m j).isSome=true→∀ e∈o'.after,Region.binds .any e=true→(m e.on).isSome=true) {j:Nat} {o:Oper} (ho:ops[j]?=some o) {e:Edge} (he:e∈o.after) (hb:Region.binds .any e=true) (hi:m e.on=none):m j=none:=by
 cases hj:m j with
 | none=>rfl
 | some v =>
  have:=hcl j o ho (by rw [hj];rfl) e he hb
  rw [hi] at this
  cases this
theorem tmps_pre2 {ops:Array Oper} {a0:Act} {m:Nat→Option Value} {k i:Nat} (hw:ownerOf ops k=some i) (hm:m i=none):(frameM a0 ops m).tmps[k]?.getD undef=a0.tmps[k]?.getD undef:=by
 by_cases hk:k<a0.tmps.size <;> simp [frameM,hk,hw,hm]
theorem stays_nil:∀ p∈([]:List (Value→World→Prop)),Stays p:=fun _ h=>by cases h
theorem stays_cons {p:Value→World→Prop} {l:List (Value→World→Prop)} (hp:Stays p) (hl:∀ q∈l,Stays q):∀ q∈p :: l,Stays q:=by
 intro q hq
 rcases List.mem_cons.1 hq with rfl | h
 ·exact hp
 ·exact hl q h
theorem own_lit (W:World) (cs:Array Value) (T:TypeId) (n:Nat) (h:cs.size=n) (hm:n≤maxLen):(W.alloc (.cells cs T)).ownsRow W.heap.size T 1 (.slice (some ⟨W.heap.size,0,none⟩) n n) n cs.toList:=by
 subst h
 refine ⟨by simp,.inr ⟨W.heap.size,cs.size,cs,rfl,Nat.le_refl _,heap_alloc_new W _,Nat.le_refl _,hm,by simp,?_⟩⟩
 rw [Nat.mul_one,List.take_of_length_le tZ3]
end Go.Proofs.YtiojfffgiejibaaGreatDoor
namespace Go.Proofs.YtiojfffgiejibaaGreatDoor
open Go.RowKit
set_option maxRecDepth 100000 in
theorem parent_any (s:ByteArray) (w:World) (hs:s.size≤4000000000) (hm:HasMax w) :
  Calls Tryz.prog 41 #[.string s] w fun e w'=>Below w.heap.size w w' ∧
   ((s.data.toList=[]∨pathB s.data.toList=false)∧e=.returned (.tuple #[.string ⟨#[]⟩,.bool false]) ∨
    s.data.toList≠[]∧pathB s.data.toList=true∧e=.returned (.tuple #[.string ⟨(upL s.data.toList).toArray⟩,.bool true])):=by
 have hts:=Lib.hid (toList_data s)
 go_enter Tryz.func41,Tryz.ntmps41
 go_wp2_with fail
 ·have h0:s.toList=[]:=by assumption
  rw [hts.out] at h0
  refine bodyPost_ret (v:=.tuple #[.string ⟨#[]⟩,.bool false]) tZ113 rfl ⟨Below.refl _ _,.inl ⟨.inl h0,rfl⟩⟩
 ·have h0:¬ s.toList=[]:=by assumption
  have hie:s.toList.isEmpty=false:=by simpa using h0
  rw [hts.out] at h0
  refine (path_any s w hs hm).mono ?_
  rintro e w1 ⟨rfl,hb1⟩
  obtain ⟨bs,hbs0⟩:∃ b,b=pathB s.data.toList:=⟨_,rfl⟩
  rw [← hbs0]
  simp only [hie]
  clear hie
  have hbs:=Lib.hid hbs0
  have hne:=Lib.hid h0
  have hlast:=Lib.hid (last_eq s)
  have hlb:=Lib.hid (last_bound s.data.toList)
  clear hbs0 h0
  cases bs
  ·go_wp2_with fail
   refine bodyPost_ret (v:=.tuple #[.string ⟨#[]⟩,.bool false]) tZ113 rfl ⟨hb1,.inl ⟨.inr hbs.out.symm,rfl⟩⟩
  ·go_wp2_with fail
   refine (Tryz.strings_LastIndexByte s 47 tZ1 _).mono ?_
   rintro e w2 ⟨rfl,rfl⟩
   have hm1:=Lib.hid (show max (Lib.lastIndexByte s 47) 0=(((lastS s.data.toList).getD 0:Nat):Int) from hlast.out)
   obtain ⟨k,hk⟩:∃ k,k=(lastS s.data.toList).getD 0:=⟨_,rfl⟩
   rw [← hk] at hlb hm1
   have HK:=Lib.hid hk
   have hks:k≤s.size:=by rw [Lib.size_eq];exact hlb.out
   clear hlast hlb hk
   go_wp2_with fail
   ·have hv:(s.extract 0 (max (Lib.lastIndexByte s 47) 0).toNat)=⟨(upL s.data.toList).toArray⟩:=by
     apply eq_mk
     rw [hm1.out,Lib.extract_from_zero]
     unfold upL
     rw [← HK.out]
     rfl
    refine bodyPost_ret (v:=.tuple #[.string ⟨(upL s.data.toList).toArray⟩,.bool true]) (by simp [results,Tryz.results41,go_sem,hv]) rfl ⟨hb1,.inr ⟨hne.out,hbs.out.symm,rfl⟩⟩
   ·rename_i h0
    exact absurd ⟨by omega,by rw [hm1.out];omega⟩ h0
/-- what Split answers -/
def splitV (l:List UInt8):Value:=match atL l with
 | some (p,n)=>if (pathB p && nameB n)=true then .tuple #[.string ⟨p.toArray⟩,.string ⟨n.toArray⟩,.int .i64 0] else .tuple #[.string ⟨#[]⟩,.string ⟨#[]⟩,.int .i64 31]
 | none=>.tuple #[.string ⟨#[]⟩,.string ⟨#[]⟩,.int .i64 31]
theorem atL_len (l p n:List UInt8) (h:atL l=some (p,n)):p.length+n.length<l.length:=by
 induction l generalizing p with
 | nil=>cases h
 | cons a r ih =>
  unfold atL at h
  split at h
  ·simp only [Option.some.injEq,Prod.mk.injEq] at h
   obtain ⟨rfl,rfl⟩:=h
   simp
  ·split at h
   ·rename_i p' n' e
    simp only [Option.some.injEq,Prod.mk.injEq] at h
    obtain ⟨rfl,rfl⟩:=h
    have:=ih _ e
    simp
    omega
   ·cases h
set_option maxRecDepth 100000 in
theorem split_any (s:ByteArray) (w:World) (hs:s.size≤4000000000) (hm:HasMax w) :
  Calls Tryz.prog 95 #[.string s] w fun e w'=>e=.returned (splitV s.data.toList)∧Below w.heap.size w w':=by
 obtain ⟨m,hmm⟩:=id hm
 have hcut:∃ p n:ByteArray,∃ b:Bool,p.size≤4000000000∧splitV s.data.toList=(if (b && pathB p.data.toList && nameB n.data.toList)=true then .tuple #[.string p,.string n,.int .i64 0] else .tuple #[.string ⟨#[]⟩,.string ⟨#[]⟩,.int .i64 31]) ∧
   Calls Tryz.prog 141 #[.string s,.string ⟨#[64]⟩] w fun e w'=>e=.returned (.tuple #[.string p,.string n,.bool b])∧∃ q,w'=w.drewN q:=by
  have hc:=Tryz.strings_Cut s ⟨#[64]⟩ m w tZ1 hmm
  have he:=cut_at s.data.toList
  have hsz:=Lib.size_eq s
  cases ha:atL s.data.toList with
  | none =>
   rw [ha] at he
   refine ⟨s,⟨#[]⟩,false,hs,by unfold splitV;rw [ha];rfl,hc.mono ?_⟩
   rintro e w' ⟨h1,h2⟩
   refine ⟨?_,h2⟩
   rw [h1]
   simp only at he
   rw [he]
  | some pn =>
   obtain ⟨p,n⟩:=pn
   rw [ha] at he
   have hl:=atL_len _ _ _ ha
   refine ⟨⟨p.toArray⟩,⟨n.toArray⟩,true,by rw [Lib.size_eq];simp;omega,by unfold splitV;rw [ha];rfl,hc.mono ?_⟩
   rintro e w' ⟨h1,h2⟩
   refine ⟨?_,h2⟩
   rw [h1]
   simp only at he
   rw [he]
 clear hmm
 obtain ⟨p,n,b,hps,hv,hcut⟩:=hcut
 have HV:=Lib.hid hv
 clear hv
 go_enter Tryz.func95,Tryz.ntmps95
 go_wp2_with fail
 refine hcut.mono ?_
 clear hcut
 rintro e w1 ⟨rfl,q,rfl⟩
 have hb1:Below w.heap.size w (w.drewN q):=below_drewN (Below.refl _ _) q
 have hm1:=hm.below hb1
 cases b
 ·go_wp2_with fail
  exact bodyPost_ret (v:=.tuple #[.string ⟨#[]⟩,.string ⟨#[]⟩,.int .i64 31]) tZ54 rfl ⟨by rw [HV.out];rfl,hb1⟩
 ·go_wp2_with fail
  refine (path_any p _ hps hm1).mono ?_
  rintro e w2 ⟨rfl,hb2⟩
  have hb:=hb1.trans (hb2.mono hb1.size)
  obtain ⟨b,hbb⟩:∃ b,b=pathB p.data.toList:=⟨_,rfl⟩
  rw [← hbb] at HV ⊢
  clear hbb
  cases b
  ·go_wp2_with fail
   exact bodyPost_ret (v:=.tuple #[.string ⟨#[]⟩,.string ⟨#[]⟩,.int .i64 31]) tZ54 rfl ⟨by rw [HV.out];rfl,hb⟩
  ·go_wp2_with fail
   refine (name_any n _).mono ?_
   rintro e w3 ⟨rfl,hb3⟩
   have hb':=hb.trans (hb3.mono hb.size)
   obtain ⟨b,hbb⟩:∃ b,b=nameB n.data.toList:=⟨_,rfl⟩
   rw [← hbb] at HV ⊢
   clear hbb
   cases b
   ·go_wp2_with fail
    exact bodyPost_ret (v:=.tuple #[.string ⟨#[]⟩,.string ⟨#[]⟩,.int .i64 31]) tZ54 rfl ⟨by rw [HV.out];rfl,hb'⟩
   ·go_wp2_with fail
    exact bodyPost_ret (v:=.tuple #[.string p,.string n,.int .i64 0]) tZ54 rfl ⟨by rw [HV.out];rfl,hb'⟩
end Go.Proofs.YtiojfffgiejibaaGreatDoor
