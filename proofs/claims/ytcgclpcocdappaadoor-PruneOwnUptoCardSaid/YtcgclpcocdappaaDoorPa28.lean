/-
  Tenants by content alone: what they read, wherever they lie.
-/
import Derived.WalkKit
import Derived.WalkSpells
import Derived.Below
import Derived.Laws.OwnMore
import Derived.Deep.AppendLies
import Derived.Deep.Draws
import Derived.Laws.Rows
import Derived.Maps.AppendAt
import Derived.RegionTactic
import Derived.OwnWalk
import Derived.Deep.QuietTactic
import Derived.BigQuiet
import Derived.Lib.Hide
import Derived.Laws.CopyOwn
import Derived.IntWalk
import Derived.Test.YtcgclpcocdappaaDoorRows
import Derived.Handy
import Derived.Deep.Quiet
import Derived.Orders
import Derived.Lib.SplitLaws
import Derived.Lib.LastIndexByte
import Derived.Lib.Strings
import Derived.ShutString
import Derived.Sort.Walk0
import Derived.Sort.KeysCollected
import Derived.Shelf.Strings.Search1
import Derived.Shelf.Strings.Search2
import Derived.Shelf.Strings.Search3
import Derived.Shelf.Strings.Cut
import Derived.Shelf.Strings.Count
import Derived.Shelf.LaysM
import Derived.Shelf.Strings.Shaped
import Derived.Shelf.Strings.LastIndex
import Derived.Shelf.Strings.Split
import Derived.Shelf.Strings.SplitShaped
import Derived.Shelf.Unicode.Decode
import Derived.Shelf.Strings.RuneCount
import Derived.Shelf.Strings.Explode
import Derived.Shelf.Unicode.DecodeSlow
import Derived.Shelf.Slices.Turned
import Derived.Test.YtcgclpcocdappaaDoorProg
import Derived.Laws.BytesString
import Derived.Laws.IdiomStrings
import Derived.Lib.ConvBytes
import Derived.Deep.MidRow
import Derived.Test.YtcgclpcocdappaaDoorP0
import Derived.Test.YtcgclpcocdappaaDoorPa1
import Derived.Test.YtcgclpcocdappaaDoorPa5
import Derived.Test.YtcgclpcocdappaaDoorPa7
import Derived.Test.YtcgclpcocdappaaDoorPa13
import Derived.Test.YtcgclpcocdappaaDoorPa17
import Derived.Test.YtcgclpcocdappaaDoorPa24
namespace Go.Proofs.YtcgclpcocdappaaDoor
open Go.RowKit
structure SnapC where
 nm:BS
 gd:Int
 body:List BlkT
 tags:List BS
 own:List (BS×BS)
structure SetC where
 path:BS
 org:BS
 body:List BlkT
 snaps:List SnapC
 own:List (BS×BS)
structure StageC where
 into:BS
 kind:Int
 nm:BS
 frm:Int
 gd:Int
 own:List (BS×BS)
 ix:Int
 ct:Int
 dt:BS
 sm:Sm
 body:List BlkT
 at_:Int
 nx:Int
 sum:Sm
 done:Bool
structure TenC where
 nm:BS
 quota:Int
 next:Int
 sets:List SetC
 grants:List GT
 stages:List StageC
 log:List EntryR
def SnapR.con (x:SnapR):SnapC:=⟨x.nm,x.gd,x.body.l,x.tags.l,x.own.l⟩
def SetR.con (x:SetR):SetC:=⟨x.path,x.org,x.body.l,x.snaps.l.map SnapR.con,x.own.l⟩
def StageR.con (x:StageR):StageC:=⟨x.into,x.kind,x.nm,x.frm,x.gd,x.own.l,x.ix,x.ct,x.dt,x.sm,x.body.l,x.at_,x.nx,x.sum,x.done⟩
def TenR.con (x:TenR):TenC:=⟨x.nm,x.quota,x.next,x.sets.l.map SetR.con,x.grants.l,x.stages.l.map StageR.con,x.log.l⟩
theorem each_map {α β:Type} {f:α→β} {l l':List α}:l.map f=l'.map f↔l.length=l'.length∧∀ i (h:i<l.length) (h':i<l'.length),f (l[i]'h)=f (l'[i]'h'):=by
 constructor
 ·intro h
  have hl:l.length=l'.length:=by simpa using congrArg List.length h
  refine ⟨hl,fun i h1 h2=>?_⟩
  have:=congrArg (fun m:List β=>m[i]?) h
  simpa [h1,h2] using this
 ·rintro ⟨hl,he⟩
  apply List.ext_getElem
  ·simpa using hl
  ·intro i h1 h2
   simp only [List.length_map] at h1 h2
   rw [List.getElem_map,List.getElem_map]
   exact he i h1 h2
theorem SnapR.eqv_iff (x y:SnapR):x.eqv y↔x.con=y.con:=by
 constructor
 ·rintro ⟨h1,h2,h3,h4,h5⟩
  simp only [SnapR.con,h1,h2,h3,h4,h5]
 ·intro h
  simp only [SnapR.con,SnapC.mk.injEq] at h
  exact ⟨h.1,h.2.1,h.2.2.1,h.2.2.2.1,h.2.2.2.2⟩
theorem SetR.eqv_iff (x y:SetR):x.eqv y↔x.con=y.con:=by
 constructor
 ·rintro ⟨h1,h2,h3,h4,h5,h6⟩
  have:=each_map.2 ⟨h4,fun i a b=>(SnapR.eqv_iff _ _).1 (h5 i a b)⟩
  simp only [SetR.con,h1,h2,h3,this,h6]
 ·intro h
  simp only [SetR.con,SetC.mk.injEq] at h
  obtain ⟨h1,h2,h3,h4,h5⟩:=h
  obtain ⟨h6,h7⟩:=each_map.1 h4
  exact ⟨h1,h2,h3,h6,fun i a b=>(SnapR.eqv_iff _ _).2 (h7 i a b),h5⟩
theorem StageR.eqv_iff (x y:StageR):x.eqv y↔x.con=y.con:=by
 constructor
 ·rintro ⟨h1,h2,h3,h4,h5,h6,h7,h8,h9,h10,h11,h12,h13,h14,h15⟩
  simp only [StageR.con,h1,h2,h3,h4,h5,h6,h7,h8,h9,h10,h11,h12,h13,h14,h15]
 ·intro h
  simp only [StageR.con,StageC.mk.injEq] at h
  obtain ⟨h1,h2,h3,h4,h5,h6,h7,h8,h9,h10,h11,h12,h13,h14,h15⟩:=h
  exact ⟨h1,h2,h3,h4,h5,h6,h7,h8,h9,h10,h11,h12,h13,h14,h15⟩
/-- tenants are of one content just if they read alike -/
theorem TenR.eqv_iff (x y:TenR):x.eqv y↔x.con=y.con:=by
 constructor
 ·rintro ⟨h1,h2,h3,h4,h5,h6,h7,h8,h9⟩
  have e1:=each_map.2 ⟨h4,fun i a b=>(SetR.eqv_iff _ _).1 (h5 i a b)⟩
  have e2:=each_map.2 ⟨h7,fun i a b=>(StageR.eqv_iff _ _).1 (h8 i a b)⟩
  simp only [TenR.con,h1,h2,h3,e1,h6,e2,h9]
 ·intro h
  simp only [TenR.con,TenC.mk.injEq] at h
  obtain ⟨h1,h2,h3,h4,h5,h6,h7⟩:=h
  obtain ⟨h8,h9⟩:=each_map.1 h4
  obtain ⟨h10,h11⟩:=each_map.1 h6
  exact ⟨h1,h2,h3,h8,fun i a b=>(SetR.eqv_iff _ _).2 (h9 i a b),h5,h10,fun i a b=>(StageR.eqv_iff _ _).2 (h11 i a b),h7⟩
/-- what a tenant is charged for -/
def SetC.charge (s:SetC):Nat:=1+s.body.length+(s.snaps.map fun x=>1+x.body.length).sum
def TenC.charge (t:TenC):Nat:=(t.sets.map SetC.charge).sum+(t.stages.map fun s=>1+s.body.length).sum
end Go.Proofs.YtcgclpcocdappaaDoor
