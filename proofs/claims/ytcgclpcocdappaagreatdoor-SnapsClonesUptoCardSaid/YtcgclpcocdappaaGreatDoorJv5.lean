/-
  What is found, as the walks of chapter 17 need it; what is told then. 'string(b)' of octets; a row with a mark behind its end (what '[]byte(s)' makes). names.Join.
-/
import Derived.WalkKit
import Derived.WalkSpells
import Derived.Below
import Derived.Laws.OwnMore
import Derived.Deep.AppendLies
import Derived.Deep.Draws
import Derived.Laws.Rows
import Derived.Maps.AppendAt
import Derived.RegionTactic
import Derived.OwnWalk
import Derived.Deep.QuietTactic
import Derived.BigQuiet
import Derived.Lib.Hide
import Derived.Laws.CopyOwn
import Derived.IntWalk
import Derived.Test.YtcgclpcocdappaaGreatDoorRows
import Derived.Handy
import Derived.Deep.Quiet
import Derived.ProofKit
import Derived.OpenShut
import Derived.ShutString
import Derived.ChangeOld
import Derived.Carry
import Derived.SizedLaws
import Derived.JoinedCond
import Derived.Deep.CondSized
import Derived.Deep.Slices
import Derived.Deep.Fields
import Derived.Lib.SmallJoins
import Derived.Orders
import Derived.Lib.SplitLaws
import Derived.Lib.LastIndexByte
import Derived.Lib.Strings
import Derived.Sort.Walk0
import Derived.Sort.KeysCollected
import Derived.Deep.MidRow
import Derived.Deep.RegionLaw
import Derived.Lib.AppendZeros
import Derived.Shelf.Strings.Search1
import Derived.Shelf.Strings.Search2
import Derived.Shelf.Strings.Search3
import Derived.Shelf.Strings.Cut
import Derived.Shelf.Strings.Count
import Derived.Shelf.LaysM
import Derived.Shelf.Strings.Shaped
import Derived.Shelf.Strings.LastIndex
import Derived.Shelf.Strings.Split
import Derived.Shelf.Strings.SplitShaped
import Derived.Shelf.Unicode.Decode
import Derived.Shelf.Strings.RuneCount
import Derived.Shelf.Strings.Explode
import Derived.Shelf.Unicode.DecodeSlow
import Derived.Test.YtcgclpcocdappaaGreatDoorProg
import Derived.Lib.Overlaps
import Derived.Lib.AppendZerosOnto
import Derived.Laws.BytesString
import Derived.Laws.IdiomStrings
import Derived.Lib.ConvBytes
import Derived.Deep.DeepCutAuto
import Derived.Great.BuildSlice
import Derived.Test.YtcgclpcocdappaaGreatDoorJ0
import Derived.Test.YtcgclpcocdappaaGreatDoorJbkv1
import Derived.Test.YtcgclpcocdappaaGreatDoorJbkv2
import Derived.Test.YtcgclpcocdappaaGreatDoorJbkv3
import Derived.Test.YtcgclpcocdappaaGreatDoorJbkv4
import Derived.Test.YtcgclpcocdappaaGreatDoorJbkv17
import Derived.Test.YtcgclpcocdappaaGreatDoorJbkv20
import Derived.Test.YtcgclpcocdappaaGreatDoorJbkv21
import Derived.Test.YtcgclpcocdappaaGreatDoorJv2
import Derived.Test.YtcgclpcocdappaaGreatDoorJv3
namespace Go.Proofs.YtcgclpcocdappaaGreatDoor
open Go.RowKit
section
variable {c:TenC} {p n tq:BS} {a k' E:Int} {k i:Nat} {s:SetC} {y:SnapC}
theorem cloneS_bad (h:c.foundS p n (!pathB tq)=(a,k',E)) (hE:E≠0):c.cloneS p n tq=(E,c):=by
 unfold TenC.cloneS
 rw [h,if_pos hE]
theorem cloneS_at (h:c.foundS p n (!pathB tq)=((k:Int),(i:Int),0)) (hs:c.sets[k]?=some s) (hy:s.snaps[i]?=some y):c.cloneS p n tq=if 0≤c.find tq then (6,c) else if c.find (upL tq)<0 then (71,c) else if c.sets.length=32 then (3,c) else (c.withS (cloneSet p n tq y)).settle:=by
 unfold TenC.cloneS
 rw [h]
 simp only [Int.toNat_natCast,hs,hy]
 rw [if_neg (by decide)]
theorem rename_bad (h:c.foundS p n (!nameB tq)=(a,k',E)) (hE:E≠0):c.rename p n tq=(E,c):=by
 unfold TenC.rename
 rw [h,if_pos hE]
theorem rename_at (h:c.foundS p n (!nameB tq)=((k:Int),(i:Int),0)) (hs:c.sets[k]?=some s) (hy:s.snaps[i]?=some y):c.rename p n tq=if 0≤s.findN tq then (6,c) else (0,(c.putS k (s.named i y tq)).froms (p++64 :: n) (p++64 :: tq)):=by
 unfold TenC.rename
 rw [h]
 simp only [Int.toNat_natCast,hs,hy]
 rw [if_neg (by decide)]
end
/-! ### rows of sets -/
end Go.Proofs.YtcgclpcocdappaaGreatDoor
namespace Go.Proofs.YtcgclpcocdappaaGreatDoor
open Go.RowKit
theorem append_data (a b:ByteArray):(a++b).data.toList=a.data.toList++b.data.toList:=by simp
section
variable {w w':World} {g n:Nat} {t:TypeId} {cs:Array Value}
end
end Go.Proofs.YtcgclpcocdappaaGreatDoor
namespace Go.Proofs.YtcgclpcocdappaaGreatDoor
open Go.RowKit
set_option maxRecDepth 100000 in
theorem join_any (s n:ByteArray) (w:World) (hs:s.size≤4000000000000000000) (hn:n.size≤4000000000000000000) :
  Calls Tryz.prog 79 #[.string s,.string n] w fun e w'=>e=.returned (.string ⟨(s.data.toList++64 :: n.data.toList).toArray⟩)∧w'=w:=by
 go_enter Tryz.func79,Tryz.ntmps79
 go_wp2_with fail
 go_ret
 refine ⟨congrArg Ending.returned (congrArg Value.string (eq_mk _ _ ?_)),rfl⟩
 rw [append_data,append_data,List.append_assoc]
 rfl
end Go.Proofs.YtcgclpcocdappaaGreatDoor
