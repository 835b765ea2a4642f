/-
  godownref14.Own: a tenant in memory of its own, of one content.
-/
import Derived.WalkKit
import Derived.WalkSpells
import Derived.Below
import Derived.Laws.OwnMore
import Derived.Deep.AppendLies
import Derived.Deep.Draws
import Derived.Laws.Rows
import Derived.Maps.AppendAt
import Derived.RegionTactic
import Derived.OwnWalk
import Derived.Deep.QuietTactic
import Derived.BigQuiet
import Derived.Lib.Hide
import Derived.Laws.CopyOwn
import Derived.IntWalk
import Derived.Test.YtcgclpcocdappaaGreatDoorRows
import Derived.Handy
import Derived.Deep.Quiet
import Derived.ProofKit
import Derived.OpenShut
import Derived.ShutString
import Derived.ChangeOld
import Derived.Carry
import Derived.SizedLaws
import Derived.JoinedCond
import Derived.Deep.CondSized
import Derived.Deep.Slices
import Derived.Deep.Fields
import Derived.Lib.SmallJoins
import Derived.Orders
import Derived.Lib.SplitLaws
import Derived.Lib.LastIndexByte
import Derived.Lib.Strings
import Derived.Sort.Walk0
import Derived.Sort.KeysCollected
import Derived.Deep.MidRow
import Derived.Shelf.Strings.Search1
import Derived.Shelf.Strings.Search2
import Derived.Shelf.Strings.Search3
import Derived.Shelf.Strings.Cut
import Derived.Shelf.Strings.Count
import Derived.Shelf.LaysM
import Derived.Shelf.Strings.Shaped
import Derived.Shelf.Strings.LastIndex
import Derived.Shelf.Strings.Split
import Derived.Shelf.Strings.SplitShaped
import Derived.Shelf.Unicode.Decode
import Derived.Shelf.Strings.RuneCount
import Derived.Shelf.Strings.Explode
import Derived.Shelf.Unicode.DecodeSlow
import Derived.Test.YtcgclpcocdappaaGreatDoorProg
import Derived.Laws.BytesString
import Derived.Laws.IdiomStrings
import Derived.Lib.ConvBytes
import Derived.Deep.DeepCutAuto
import Derived.Great.BuildSlice
import Derived.Test.YtcgclpcocdappaaGreatDoorG0
import Derived.Test.YtcgclpcocdappaaGreatDoorGg1
import Derived.Test.YtcgclpcocdappaaGreatDoorGg5
import Derived.Test.YtcgclpcocdappaaGreatDoorGg7
import Derived.Test.YtcgclpcocdappaaGreatDoorGg9
import Derived.Test.YtcgclpcocdappaaGreatDoorGg13
import Derived.Test.YtcgclpcocdappaaGreatDoorGg19
import Derived.Test.YtcgclpcocdappaaGreatDoorGg20
import Derived.Test.YtcgclpcocdappaaGreatDoorGg21
import Derived.Test.YtcgclpcocdappaaGreatDoorGg22
namespace Go.Proofs.YtcgclpcocdappaaGreatDoor
open Go.RowKit
theorem size_set (W:World) (p:Addr) (u:Value):(W.setCell p u).heap.size=W.heap.size:=by simp [World.setCell]
/-- what lies ready of a tenant: sets and grants -/
structure PartO (W:World) (base:Nat) (S:FS SetR) (G:FS GT):Prop where
 sets:S.own W base 42 5 encSet
 each:∀ y∈S.l,SetO W base y
 gr:G.own W base 147 3 encG
/-- a box that is being filled: nothing below it has changed -/
structure BoxSt (wi W:World) (d:Nat) (T:TypeId) (cs:Array Value):Prop where
 blk:Blk W d T cs
 low:Below d wi W
 lt:d+1≤W.heap.size
theorem BoxSt.step {wi W W':World} {d:Nat} {T:TypeId} {cs:Array Value} (h:BoxSt wi W d T cs) (hb:Below W.heap.size W W'):BoxSt wi W' d T cs:=⟨h.blk.below hb h.blk.lt,h.low.trans (hb.mono (by have:=h.lt;omega)),Nat.le_trans h.lt hb.size⟩
theorem BoxSt.set {wi W:World} {d:Nat} {T:TypeId} {cs:Array Value} (h:BoxSt wi W d T cs) (i:Nat) (u:Value):BoxSt wi (W.setCell ⟨d,i,none⟩ u) d T (cs.setIfInBounds i u):=⟨h.blk.set_ i u,h.low.setCell (Nat.le_refl _) u,by rw [size_set];exact h.lt⟩
theorem BoxSt.new {wi:World} {d:Nat} {T:TypeId} {cs:Array Value} (hd:wi.heap.size=d):BoxSt wi (wi.alloc (.cells cs T)) d T cs:=by
 subst hd
 exact ⟨Blk.new wi T cs,(Below.refl _ _).alloc (Nat.le_refl _) _,by simp⟩
theorem PartO.below {W W':World} {base:Nat} {S:FS SetR} {G:FS GT} (h:PartO W base S G) (hb:Below W.heap.size W W'):PartO W' base S G:=⟨h.sets.below hb,fun y hy=>(h.each y hy).below hb,h.gr.below hb⟩
theorem PartO.only {W W':World} {base lo hi:Nat} {S:FS SetR} {G:FS GT} (h:PartO W base S G) (hb:hi≤base) (ho:OnlyIn lo hi W W'):PartO W' base S G:=⟨h.sets.only hb ho,fun y hy=>(h.each y hy).only hb ho,h.gr.only hb ho⟩
theorem PartO.kept {W W':World} {base g:Nat} {S:FS SetR} {G:FS GT} (h:PartO W base S G) (hg:W.grownBy W' (some g)) (hb:g<base):PartO W' base S G:=⟨h.sets.kept hg hb,fun y hy=>(h.each y hy).kept hg hb,h.gr.kept hg hb⟩
end Go.Proofs.YtcgclpcocdappaaGreatDoor
