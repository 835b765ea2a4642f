/-
  A row of one's own of which one field of one element is stored: the element is another one, the rest stays. A tenant of one's own of which one field of one set is stored.
-/
import Derived.WalkKit
import Derived.WalkSpells
import Derived.Below
import Derived.Laws.OwnMore
import Derived.Deep.AppendLies
import Derived.Deep.Draws
import Derived.Laws.Rows
import Derived.Maps.AppendAt
import Derived.RegionTactic
import Derived.OwnWalk
import Derived.Deep.QuietTactic
import Derived.BigQuiet
import Derived.Lib.Hide
import Derived.Laws.CopyOwn
import Derived.IntWalk
import Derived.Orders
import Derived.Test.YtcgclpcocdappaaDoorRows
import Derived.Handy
import Derived.Deep.Quiet
import Derived.Lib.SplitLaws
import Derived.Lib.LastIndexByte
import Derived.Lib.Strings
import Derived.ShutString
import Derived.Sort.Walk0
import Derived.Sort.KeysCollected
import Derived.Shelf.Strings.Search1
import Derived.Shelf.Strings.Search2
import Derived.Shelf.Strings.Search3
import Derived.Shelf.Strings.Cut
import Derived.Shelf.Strings.Count
import Derived.Shelf.LaysM
import Derived.Shelf.Strings.Shaped
import Derived.Shelf.Strings.LastIndex
import Derived.Shelf.Strings.Split
import Derived.Shelf.Strings.SplitShaped
import Derived.Shelf.Unicode.Decode
import Derived.Shelf.Strings.RuneCount
import Derived.Shelf.Strings.Explode
import Derived.Shelf.Unicode.DecodeSlow
import Derived.Shelf.Slices.Turned
import Derived.Test.YtcgclpcocdappaaDoorProg
import Derived.Laws.BytesString
import Derived.Laws.IdiomStrings
import Derived.Lib.ConvBytes
import Derived.Deep.MidRow
import Derived.Test.YtcgclpcocdappaaDoorP0
import Derived.Test.YtcgclpcocdappaaDoorPa1
import Derived.Test.YtcgclpcocdappaaDoorPa5
import Derived.Test.YtcgclpcocdappaaDoorPa7
import Derived.Test.YtcgclpcocdappaaDoorPa13
import Derived.Test.YtcgclpcocdappaaDoorPa24
import Derived.Test.YtcgclpcocdappaaDoorPa28
namespace Go.Proofs.YtcgclpcocdappaaDoor
open Go.RowKit
theorem cellsK_setF {α:Type} {enc:α→List Value} {k:Nat} (hk:∀ x,(enc x).length=k) (l:List α) (i j:Nat) (hj:j<k) (x':α) (u:Value) (he:∀ x,l[i]?=some x→enc x'=(enc x).set j u) :
  cellsK enc (l.set i x')=(cellsK enc l).set (i*k+j) u:=by
 induction l generalizing i with
 | nil=>simp [cellsK]
 | cons x l ih =>
  cases i with
  | zero =>
   show enc x'++cellsK enc l=(enc x++cellsK enc l).set (0*k+j) u
   rw [he x rfl,Nat.zero_mul,Nat.zero_add,List.set_append_left _ _ (by rw [hk];exact hj)]
  | succ i =>
   show enc x++cellsK enc (l.set i x')=(enc x++cellsK enc l).set ((i+1)*k+j) u
   rw [ih i (fun y hy=>he y hy),Nat.succ_mul,List.set_append_right _ _ (by rw [hk];omega),hk]
   congr 2
   omega
section
variable {α:Type} {w w':World} {base k g:Nat} {t T:TypeId} {enc:α→List Value} {s:FS α}
/-- one field of one element stored -/
theorem FS.own.field (h:s.own w base t k enc) (hk:∀ x,(enc x).length=k) (hA:s.A=some ⟨g,0,none⟩) (i j:Nat) (hj:j<k) (x':α) (u:Value) (he:∀ x,s.l[i]?=some x→enc x'=(enc x).set j u) :
  FS.own (w.setCell ⟨g,i*k+j,none⟩ u) base t k enc ⟨s.A,s.n,s.c,s.l.set i x'⟩∧w.grownBy (w.setCell ⟨g,i*k+j,none⟩ u) (some g):=by
 obtain ⟨A,n,c,l⟩:=s
 simp only at hA
 subst hA
 have h2:=World.ownsRow.stored h.2 (i*k+j) u
 refine ⟨⟨by rw [List.length_set];exact h.1,?_⟩,h2.2⟩
 show World.ownsRow _ base t k _ n (cellsK enc (l.set i x'))
 rw [cellsK_setF hk l i j hj x' u he]
 exact h2.1
/-- a row that is not empty is a block of its own -/
theorem FS.own.blk (h:s.own w base t k enc) (h0:0<s.n):∃ g cs,s.A=some ⟨g,0,none⟩∧base≤g∧Blk w g t cs:=by
 obtain ⟨A,n,c,l⟩:=s
 rcases h.2.2 with ⟨e,e0⟩ | ⟨g,cap,cur,e,hb,hg,_⟩
 ·simp only at h0 e0
  omega
 ·unfold FS.val at e
  injection e with e1 e2 e3
  exact ⟨g,cur,e1,hb,hg⟩
/-- what is grown in a block of another element type keeps a row -/
theorem FS.own.keptT {cs:Array Value} (h:s.own w base t k enc) (hg:w.grownBy w' (some g)) (hb:Blk w g T cs) (hne:t≠T):s.own w' base t k enc :=
 ⟨h.1,h.2.kept hg (.inr (own_blk_ne h.2 hb hne))⟩
end
end Go.Proofs.YtcgclpcocdappaaDoor
namespace Go.Proofs.YtcgclpcocdappaaDoor
open Go.RowKit
/-- the tenant with another set at a place -/
def TenR.putS (t:TenR) (i:Nat) (x:SetR):TenR:=⟨t.nm,t.quota,t.next,⟨t.sets.A,t.sets.n,t.sets.c,t.sets.l.set i x⟩,t.grants,t.stages,t.log⟩
def TenC.putS (t:TenC) (i:Nat) (x:SetC):TenC:=⟨t.nm,t.quota,t.next,t.sets.set i x,t.grants,t.stages,t.log⟩
theorem TenR.con_putS (t:TenR) (i:Nat) (x:SetR):(t.putS i x).con=t.con.putS i x.con:=by
 simp only [TenR.con,TenR.putS,TenC.putS,List.map_set]
theorem TenR.val_putS (t:TenR) (i:Nat) (x:SetR):(t.putS i x).val=t.val:=rfl
section
variable {w w':World} {base g:Nat} {cs:Array Value}
theorem SnapO.keptS {x:SnapR} (h:SnapO w base x) (hg:w.grownBy w' (some g)) (hb:Blk w g 45 cs):SnapO w' base x :=
 ⟨h.body.keptT hg hb (by decide),h.tags.keptT hg hb (by decide),h.own.keptT hg hb (by decide)⟩
theorem SetO.keptS {x:SetR} (h:SetO w base x) (hg:w.grownBy w' (some g)) (hb:Blk w g 45 cs):SetO w' base x :=
 ⟨h.body.keptT hg hb (by decide),h.snaps.keptT hg hb (by decide),fun y hy=>(h.each y hy).keptS hg hb,h.own.keptT hg hb (by decide)⟩
theorem StageO.keptS {x:StageR} (h:StageO w base x) (hg:w.grownBy w' (some g)) (hb:Blk w g 45 cs):StageO w' base x :=
 ⟨h.own.keptT hg hb (by decide),h.body.keptT hg hb (by decide)⟩
/-- a pointer into the row of sets: one field of one set stored, by what is of one's own too -/
theorem TenO.setF {t:TenR} (h:TenO w base t) (i j:Nat) (hi:i<t.sets.l.length) (hj:j<5) (x':SetR) (u:Value) (he:∀ x,t.sets.l[i]?=some x→encSet x'=(encSet x).set j u) (hx:SetO w base x') :
  ∃ g,t.sets.A=some ⟨g,0,none⟩∧base≤g∧TenO (w.setCell ⟨g,i*5+j,none⟩ u) base (t.putS i x')∧w.grownBy (w.setCell ⟨g,i*5+j,none⟩ u) (some g):=by
 obtain ⟨g,cs,hA,hbg,hbk⟩:=h.sets.blk (by have:=h.sets.1;omega)
 obtain ⟨h1,h2⟩:=h.sets.field (fun _=>rfl) hA i j hj x' u he
 refine ⟨g,hA,hbg,⟨h1,?_,h.grants.keptT h2 hbk (by decide),h.stages.keptT h2 hbk (by decide),fun y hy=>(h.eachG y hy).keptS h2 hbk,h.log.keptT h2 hbk (by decide)⟩,h2⟩
 intro y hy
 rcases List.mem_or_eq_of_mem_set hy with hy | rfl
 ·exact (h.eachS y hy).keptS h2 hbk
 ·exact hx.keptS h2 hbk
/-- a tenant whose row of sets is another one of one's own, when only that row's block was changed -/
theorem TenO.setsO {t:TenR} (h:TenO w base t) (s':FS SetR) (hg:w.grownBy w' t.sets.val.ownBlock) (hs:s'.own w' base 45 5 encSet) (hm:∀ y∈s'.l,SetO w' base y) :
  TenO w' base ⟨t.nm,t.quota,t.next,s',t.grants,t.stages,t.log⟩:=by
 have hk:∀ {T:TypeId} {k n:Nat} {v:Value} {xs:List Value},T≠45→w.ownsRow base T k v n xs→w'.ownsRow base T k v n xs:=by
  intro T k n v xs hT hr
  cases he:t.sets.val.ownBlock with
  | none=>rw [he] at hg;exact hr.kept hg (by cases v.ownBlock <;> simp)
  | some g =>
   rw [he] at hg
   refine hr.kept hg (.inr ?_)
   rcases h.sets.2.2 with ⟨e,_⟩ | ⟨g',cap,cur,e,_,hh,_⟩
   ·rw [e] at he;simp [Value.ownBlock] at he
   ·rw [e] at he
    have he:g'=g:=by simpa [Value.ownBlock] using he
    subst he
    exact own_blk_ne hr (show Blk w g' 45 cur from hh) hT
 exact ⟨hs,hm,⟨h.grants.1,hk (by decide) h.grants.2⟩,⟨h.stages.1,hk (by decide) h.stages.2⟩,fun y hy=>⟨⟨(h.eachG y hy).own.1,hk (by decide) (h.eachG y hy).own.2⟩,⟨(h.eachG y hy).body.1,hk (by decide) (h.eachG y hy).body.2⟩⟩,⟨h.log.1,hk (by decide) h.log.2⟩⟩
end
end Go.Proofs.YtcgclpcocdappaaDoor
