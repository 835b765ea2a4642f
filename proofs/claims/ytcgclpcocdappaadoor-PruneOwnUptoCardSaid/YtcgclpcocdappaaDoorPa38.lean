/-
  What is found, as the walks of chapter 17 need it; what is told then. slices.Delete of one element, at elements of 5 cells, by its contract. The page's Path, by its contract. A world for the witness: the settled one, utf8's two tables holding what their initialisers lay. tree.Kids, by its contract.
-/
import Derived.WalkKit
import Derived.WalkSpells
import Derived.Below
import Derived.Laws.OwnMore
import Derived.Deep.AppendLies
import Derived.Deep.Draws
import Derived.Laws.Rows
import Derived.Maps.AppendAt
import Derived.RegionTactic
import Derived.OwnWalk
import Derived.Deep.QuietTactic
import Derived.BigQuiet
import Derived.Lib.Hide
import Derived.Laws.CopyOwn
import Derived.IntWalk
import Derived.Test.YtcgclpcocdappaaDoorRows
import Derived.Handy
import Derived.Deep.Quiet
import Derived.ProofKit
import Derived.OpenShut
import Derived.ShutString
import Derived.ChangeOld
import Derived.Carry
import Derived.SizedLaws
import Derived.JoinedCond
import Derived.Deep.CondSized
import Derived.Deep.Slices
import Derived.Deep.Fields
import Derived.Lib.SmallJoins
import Derived.Orders
import Derived.Lib.SplitLaws
import Derived.Lib.LastIndexByte
import Derived.Lib.Strings
import Derived.Sort.Walk0
import Derived.Sort.KeysCollected
import Derived.Deep.MidRow
import Derived.Deep.RegionLaw
import Derived.Lib.AppendZeros
import Derived.Shelf.Strings.Search1
import Derived.Shelf.Strings.Search2
import Derived.Shelf.Strings.Search3
import Derived.Shelf.Strings.Cut
import Derived.Shelf.Strings.Count
import Derived.Shelf.LaysM
import Derived.Shelf.Strings.Shaped
import Derived.Shelf.Strings.LastIndex
import Derived.Shelf.Strings.Split
import Derived.Shelf.Strings.SplitShaped
import Derived.Shelf.Unicode.Decode
import Derived.Shelf.Strings.RuneCount
import Derived.Shelf.Strings.Explode
import Derived.Shelf.Unicode.DecodeSlow
import Derived.Shelf.Slices.Turned
import Derived.Test.YtcgclpcocdappaaDoorProg
import Derived.Lib.Overlaps
import Derived.Lib.AppendZerosOnto
import Derived.Laws.BytesString
import Derived.Laws.IdiomStrings
import Derived.Lib.ConvBytes
import Derived.Deep.DeepCutAuto
import Derived.Great.BuildSlice
import Derived.Test.YtcgclpcocdappaaDoorCards
import Derived.Test.YtcgclpcocdappaaDoorTie
import Derived.Deep.DeepHandedRow
import Derived.Lib.LaidTab
import Derived.Test.YtcgclpcocdappaaDoorP0
import Derived.Test.YtcgclpcocdappaaDoorPa1
import Derived.Test.YtcgclpcocdappaaDoorPa2
import Derived.Test.YtcgclpcocdappaaDoorPa5
import Derived.Test.YtcgclpcocdappaaDoorPa7
import Derived.Test.YtcgclpcocdappaaDoorPa8
import Derived.Test.YtcgclpcocdappaaDoorPa10
import Derived.Test.YtcgclpcocdappaaDoorPa13
import Derived.Test.YtcgclpcocdappaaDoorPa14
import Derived.Test.YtcgclpcocdappaaDoorPa19
import Derived.Test.YtcgclpcocdappaaDoorPa24
import Derived.Test.YtcgclpcocdappaaDoorPa27
import Derived.Test.YtcgclpcocdappaaDoorPa28
import Derived.Test.YtcgclpcocdappaaDoorPa31
import Derived.Test.YtcgclpcocdappaaDoorPa32
import Derived.Test.YtcgclpcocdappaaDoorPa33
import Derived.Test.YtcgclpcocdappaaDoorPa34
namespace Go.Proofs.YtcgclpcocdappaaDoor
open Go.RowKit
theorem results_cell_tmp2 {P:Program} {fn:Func} {tmps:Array Value} {a b c:Tmp} {t:TypeId} {ad:Addr} {v u x:Value} {w:World} (hr:fn.results=#[.cell a t,.tmp b,.tmp c]) (ha:tmps[a]?.getD undef=.pointer (some ad)) (hl:(loadVar t ad).run P w=.ok v w) (hu:tmps[b]?.getD undef=u:=by rfl) (hx:tmps[c]?.getD undef=x:=by rfl):(results fn tmps).run P w=.ok (.tuple #[v,u,x]) w:=by
 simp [results,hr,ha,hl,hu,hx,asAddr]
theorem found_way (t:TenR) (sl:List SetR) (hs:t.sets.l=sl) (p n:BS) (bad:Bool) (R:Int×Int×Int) (hR:R=t.con.foundS p n bad) :
  (∃ a k E:Int,(E=9∨E=31∨E=71)∧R=(a,k,E))∨∃ (k i:Nat) (hk:k<sl.length) (hi:i<(sl[k]'hk).snaps.l.length),R=((k:Int),(i:Int),0)∧AtS t.con p n bad k∧t.con.sets[k]?=some (sl[k]'hk).con∧(sl[k]'hk).con.snaps[i]?=some ((sl[k]'hk).snaps.l[i]'hi).con∧((sl[k]'hk).snaps.l[i]'hi).nm=n:=by
 subst hs
 rcases t.con.foundS_cases p n bad with ⟨a,k,E,h1,h2⟩ | ⟨k,ha,i,hi,h1,h2,h3⟩
 ·exact .inl ⟨a,k,E,h1,hR.trans h2⟩
 ·have hk:k<t.sets.l.length:=by have:=ha.lt;rwa [show t.con.sets.length=t.sets.l.length from List.length_map ..] at this
  have e:(t.con.sets[k]'ha.lt)=(t.sets.l[k]'hk).con:=List.getElem_map ..
  have hi':i<(t.sets.l[k]'hk).snaps.l.length:=by
   rw [e] at hi
   have:(t.sets.l[k]'hk).con.snaps.length=(t.sets.l[k]'hk).snaps.l.length:=List.length_map ..
   omega
  have e2:(t.sets.l[k]'hk).con.snaps[i]?=some ((t.sets.l[k]'hk).snaps.l[i]'hi').con:=by
   show ((t.sets.l[k]'hk).snaps.l.map SnapR.con)[i]?=_
   rw [List.getElem?_map,List.getElem?_eq_getElem hi']
   rfl
  refine .inr ⟨k,i,hk,hi',hR.trans h1,ha,by rw [List.getElem?_eq_getElem ha.lt,e],e2,?_⟩
  have h4:(t.sets.l[k]'hk).con.snaps[i]?=some ((t.con.sets[k]'ha.lt).snaps[i]'hi):=by rw [← e];exact List.getElem?_eq_getElem hi
  rw [e2] at h4
  injection h4 with h4
  rw [← h4] at h3
  exact h3
theorem asked_way (t:TenR) (sl:List SetR) (hs:t.sets.l=sl) (p n:BS) (bad:Bool) (R:Int×Int×Int) (hR:R=t.con.askS p n bad) :
  (∃ E:Int,(E=9∨E=31∨E=71)∧R=(0,0,E))∨∃ (k:Nat) (hk:k<sl.length),R=((k:Int),(sl[k]'hk).con.findN n,0)∧AtS t.con p n bad k∧t.con.sets[k]?=some (sl[k]'hk).con:=by
 subst hs
 rcases t.con.askS_cases p n bad with ⟨E,h1,h2⟩ | ⟨k,ha,h1⟩
 ·exact .inl ⟨E,h1,hR.trans h2⟩
 ·have hk:k<t.sets.l.length:=by have:=ha.lt;rwa [show t.con.sets.length=t.sets.l.length from List.length_map ..] at this
  have e:(t.con.sets[k]'ha.lt)=(t.sets.l[k]'hk).con:=List.getElem_map ..
  rw [e] at h1
  exact .inr ⟨k,hk,hR.trans h1,ha,by rw [List.getElem?_eq_getElem ha.lt,e]⟩
section
variable {c:TenC} {p n tq:BS} {a k' E:Int} {k i:Nat} {s:SetC} {y:SnapC}
theorem unsnap_bad (h:c.foundS p n false=(a,k',E)) (hE:E≠0):c.unsnap p n=(E,c):=by
 unfold TenC.unsnap
 rw [h,if_pos hE]
theorem unsnap_at (h:c.foundS p n false=((k:Int),(i:Int),0)) (hs:c.sets[k]?=some s) (hy:s.snaps[i]?=some y):c.unsnap p n=if 0<c.clones p n then (44,c) else if 0<y.tags.length then (43,c) else (0,c.putS k (s.dropSnap i)):=by
 unfold TenC.unsnap
 rw [h]
 simp only [Int.toNat_natCast,hs,hy]
 rw [if_neg (by decide)]
theorem rollback_bad (h:c.foundS p n false=(a,k',E)) (hE:E≠0):c.rollback p n=(E,c):=by
 unfold TenC.rollback
 rw [h,if_pos hE]
theorem rollback_at (h:c.foundS p n false=((k:Int),(i:Int),0)) (hs:c.sets[k]?=some s) (hy:s.snaps[i]?=some y):c.rollback p n=if (i:Int)≠(s.snaps.length:Int)-1 then (44,c) else (c.putS k (s.back y)).settle:=by
 unfold TenC.rollback
 rw [h]
 simp only [Int.toNat_natCast,hs,hy]
 rw [if_neg (by decide)]
theorem cloneS_bad (h:c.foundS p n (!pathB tq)=(a,k',E)) (hE:E≠0):c.cloneS p n tq=(E,c):=by
 unfold TenC.cloneS
 rw [h,if_pos hE]
theorem cloneS_at (h:c.foundS p n (!pathB tq)=((k:Int),(i:Int),0)) (hs:c.sets[k]?=some s) (hy:s.snaps[i]?=some y):c.cloneS p n tq=if 0≤c.find tq then (6,c) else if c.find (upL tq)<0 then (71,c) else if c.sets.length=32 then (3,c) else (c.withS (cloneSet p n tq y)).settle:=by
 unfold TenC.cloneS
 rw [h]
 simp only [Int.toNat_natCast,hs,hy]
 rw [if_neg (by decide)]
theorem rename_bad (h:c.foundS p n (!nameB tq)=(a,k',E)) (hE:E≠0):c.rename p n tq=(E,c):=by
 unfold TenC.rename
 rw [h,if_pos hE]
theorem rename_at (h:c.foundS p n (!nameB tq)=((k:Int),(i:Int),0)) (hs:c.sets[k]?=some s) (hy:s.snaps[i]?=some y):c.rename p n tq=if 0≤s.findN tq then (6,c) else (0,(c.putS k (s.named i y tq)).froms (p++64 :: n) (p++64 :: tq)):=by
 unfold TenC.rename
 rw [h]
 simp only [Int.toNat_natCast,hs,hy]
 rw [if_neg (by decide)]
theorem snapshot_bad (h:c.askS p n false=(a,k',E)) (hE:E≠0):c.snapshot p n=(E,c):=by
 unfold TenC.snapshot
 rw [h,if_pos hE]
theorem snapshot_at (h:c.askS p n false=((k:Int),k',0)) (hs:c.sets[k]?=some s):c.snapshot p n=if 0≤k' then (6,c) else if s.snaps.length=16 then (3,c) else if 1099511627776≤guidC c.next s.snaps then (15,c) else (c.snapped k s n (guidC c.next s.snaps)).settle:=by
 unfold TenC.snapshot
 rw [h]
 simp only [Int.toNat_natCast,hs]
 rw [if_neg (by decide)]
end
/-! ### rows of sets -/
theorem row_cells {W:World} {base:Nat} {s:FS SetR} (h:s.own W base 45 5 encSet) {k gS:Nat} (hk:k<s.l.length) (hA:s.A=some ⟨gS,0,none⟩) :
  base≤gS∧gS<W.heap.size∧(∀ o,W.frozen? ⟨gS,o,none⟩=false)∧W.cell? ⟨gS,k*5,none⟩=some (.string ⟨(s.l[k]'hk).path.toArray⟩)∧W.cell? ⟨gS,k*5+1,none⟩=some (.string ⟨(s.l[k]'hk).org.toArray⟩)∧W.cell? ⟨gS,k*5+2,none⟩=some (.slice (s.l[k]'hk).body.A (s.l[k]'hk).body.n (s.l[k]'hk).body.c)∧W.cell? ⟨gS,k*5+3,none⟩=some (.slice (s.l[k]'hk).snaps.A (s.l[k]'hk).snaps.n (s.l[k]'hk).snaps.c)∧W.cell? ⟨gS,k*5+4,none⟩=some (.slice (s.l[k]'hk).own.A (s.l[k]'hk).own.n (s.l[k]'hk).own.c):=by
 have hn:=h.1
 obtain ⟨g,cs,hA2,hbg,hb⟩:=h.blk (by omega)
 rw [hA] at hA2
 injection hA2 with hA2
 injection hA2 with hA2
 subst hA2
 obtain ⟨ad,hsa,-,q0,q1,q2,q3,q4⟩:=set_at h.rd.2.2 hn (i:=k) (by omega)
 rw [hA] at hsa
 injection hsa with hsa
 subst hsa
 rw [addr_add0] at q0 q1 q2 q3 q4
 exact ⟨hbg,hb.lt,hb.frozen,q0,q1,q2,q3,q4⟩
theorem dropSnap_con (x:SetR) (i:Nat) (A:Option Addr) (n c:Nat):(x.withSn ⟨A,n,c,x.snaps.l.take i++x.snaps.l.drop (i+1)⟩).con=x.con.dropSnap i:=by
 unfold SetR.withSn SetR.con SetC.dropSnap
 simp only [List.map_append,List.map_take,List.map_drop]
theorem own_ne {w:World} {base g:Nat} {s:FS SnapR} {T:TypeId} {cs:Array Value} (h:s.own w base 42 5 encSnap) (hb:Blk w g T cs) (hT:42≠T):some g≠s.val.ownBlock:=fun e=>own_blk_ne h.2 hb hT e.symm
end Go.Proofs.YtcgclpcocdappaaDoor
namespace Go.Proofs.YtcgclpcocdappaaDoor
open Go.RowKit
theorem Tryd.delSet_size:(Tryd.prog.info? 45).map (·.size)=some 5:=by kernel_rfl
theorem Tryd.delSet_zero (w:World):(zeroValue 45).run Tryd.prog w=.ok (.agg #[.string ByteArray.empty,.string ByteArray.empty,.slice none 0 0,.slice none 0 0,.slice none 0 0]) w:=by kernel_rfl
theorem delSet_splice (cur:List Value) (n i c0:Nat) (xs:List Value) (hx:cur.take (n*5)=xs) (hi:i<n) (hn:n≤c0) (hl:cur.length=c0*5) (zs:List Value) (hz:zs.length=1*5) :
  (splice (splice cur (i*5) (xs.drop ((i+1)*5))) ((n-1)*5) zs).take ((n-1)*5)=xs.take (i*5)++xs.drop ((i+1)*5)∧(splice (splice cur (i*5) (xs.drop ((i+1)*5))) ((n-1)*5) zs).length=c0*5:=by
 have hxl:xs.length=n*5:=by rw [← hx,List.length_take];omega
 have hdl:(xs.drop ((i+1)*5)).length=(n-1-i)*5:=by rw [List.length_drop,hxl];omega
 have h1:(splice cur (i*5) (xs.drop ((i+1)*5))).length=c0*5:=by
  unfold splice
  simp only [List.length_append,List.length_take,List.length_drop] at hdl ⊢
  omega
 refine ⟨?_,?_⟩
 ·have e1:(splice (splice cur (i*5) (xs.drop ((i+1)*5))) ((n-1)*5) zs).take ((n-1)*5)=(splice cur (i*5) (xs.drop ((i+1)*5))).take ((n-1)*5):=by
   show List.take _ (List.take _ (splice cur (i*5) (xs.drop ((i+1)*5)))++(zs++_))=_
   rw [List.take_append_of_le_length (by rw [List.length_take,h1];omega),List.take_take,Nat.min_self]
  rw [e1]
  have hc:cur.take (i*5)=xs.take (i*5):=by rw [← hx,List.take_take,Nat.min_eq_left (by omega)]
  have hL:(xs.take (i*5)++xs.drop ((i+1)*5)).length=(n-1)*5:=by rw [List.length_append,List.length_take,hdl,hxl];omega
  show List.take _ (cur.take (i*5)++(xs.drop ((i+1)*5)++_))=_
  rw [hc,← List.append_assoc,List.take_append_of_le_length (by rw [hL];exact Nat.le_refl _)]
  exact List.take_of_length_le (by rw [hL];exact Nat.le_refl _)
 ·show (List.take _ (splice cur (i*5) (xs.drop ((i+1)*5)))++(zs++List.drop _ _)).length=_
  rw [List.length_append,List.length_append,List.length_take,List.length_drop,h1,hz]
  omega
end Go.Proofs.YtcgclpcocdappaaDoor
namespace Go.Proofs.YtcgclpcocdappaaDoor
open Go.RowKit
theorem extract_mk (s:ByteArray) (j k:Nat):s.extract j k=⟨((s.data.toList.drop j).take (k-j)).toArray⟩:=by
 apply eq_mk
 rw [ByteArray.data_extract,Array.toList_extract]
theorem partsL_len (l:BS):(partsL l).length≤l.length+1:=by
 induction l with
 | nil=>simp [partsL]
 | cons c l ih =>
  unfold partsL
  split
  ·simp;omega
  ·split
   ·rename_i p ps h
    rw [h] at ih
    simp at ih ⊢
    omega
   ·simp
theorem parts_small (l:BS):∀ p∈partsL l,p.length≤l.length:=by
 induction l with
 | nil=>simp [partsL]
 | cons c l ih =>
  unfold partsL
  split
  ·intro p hp
   rcases List.mem_cons.1 hp with rfl | hp
   ·simp
   ·have:=ih p hp;simp;omega
  ·split
   ·rename_i q ps h
    rw [h] at ih
    intro p hp
    rcases List.mem_cons.1 hp with rfl | hp
    ·have:=ih q (List.mem_cons_self ..);simp;omega
    ·have:=ih p (List.mem_cons_of_mem _ hp);simp;omega
   ·intro p hp
    rw [List.mem_singleton] at hp
    subst hp
    simp
end Go.Proofs.YtcgclpcocdappaaDoor
namespace Go.Proofs.YtcgclpcocdappaaDoor
def u8s (l:List Nat):Array Value:=(l.map fun (n:Nat)=>Value.int .u8 (Int.ofNat n)).toArray
def layCells (c:Array Value):Obj→Obj
 | .cells _ t frozen=>.cells c t frozen
 | o=>o
noncomputable def laidWorld (os:Os):World :=
 { World.holding Tryd.prog os ⟨#[],#[],[]⟩ with heap:=((World.holding Tryd.prog os ⟨#[],#[],[]⟩).heap.modify 2 (layCells (u8s ([128,191,160,191,128,159,144,191,128,143]++List.replicate 22 0)))).modify 1 (layCells (u8s Go.Pinned.utf8FirstZ)) }
end Go.Proofs.YtcgclpcocdappaaDoor
namespace Go.Proofs.YtcgclpcocdappaaDoor
open Go.RowKit
theorem kidsL_snoc (l:List SetR) (x:SetR) (p:BS):kidsL (l++[x]) p=kidsL l p++(if parB x.path=some p then [x.path] else []):=by
 unfold kidsL
 rw [List.filter_append,List.map_append]
 congr 1
 by_cases h:parB x.path=some p
 ·rw [if_pos h,List.filter_cons_of_pos (by simpa using h)];rfl
 ·rw [if_neg h,List.filter_cons_of_neg (by simpa using h)];rfl
end Go.Proofs.YtcgclpcocdappaaDoor
