/-
  slices.Clone at blocks, texts, properties and entries; the page's Own of contents: by their contracts.
-/
import Derived.Test.YtcgclpcocdappaaGreatDoorRows
import Derived.Handy
import Derived.WalkKit
import Derived.WalkSpells
import Derived.Below
import Derived.Laws.OwnMore
import Derived.Deep.AppendLies
import Derived.Deep.Draws
import Derived.Laws.Rows
import Derived.Maps.AppendAt
import Derived.RegionTactic
import Derived.OwnWalk
import Derived.Deep.QuietTactic
import Derived.BigQuiet
import Derived.Lib.Hide
import Derived.Laws.CopyOwn
import Derived.IntWalk
import Derived.Test.YtcgclpcocdappaaGreatDoorJ0
import Derived.Test.YtcgclpcocdappaaGreatDoorJbkv1
import Derived.Test.YtcgclpcocdappaaGreatDoorJbkv18
namespace Go.Proofs.YtcgclpcocdappaaGreatDoor
open Go.RowKit
set_option maxRecDepth 100000 in
theorem rownT_any (xs:List Value) (n:Nat) (A:Option Addr) (c:Nat) (w:World) (B:Nat) (hr:Reads w B 2 A n xs) (h1:∀ u∈xs,u.oneCell'=true) (hn:n≤5000000000000) :
  Calls Tryz.prog 116 #[.slice A n c] w fun e w'=>∃ v,e=.returned v∧w'.ownsRow w.heap.size 75 2 v n xs∧Below w.heap.size w w':=by
 obtain ⟨i0,hi0,hz0,hz1,hz2⟩:=info_parts Tryz.cloneBl_info
 go_enter Tryz.func116,Tryz.ntmps116
 go_wp2_with (at_builtin;(refine wpList_append_any _ rfl (.tmp 4) (.tmp 5) _ rfl w.heap.size 75 i0 _ 2 24 Tryz.underlying38 hi0 hz0 hz1 hz2 rfl (by omega) (.slice none 0 0) 0 [] rfl (World.ownsRow_nil _ _ _ _) B A n c xs rfl hr h1 (by unfold maxLen;omega) (by omega) (Nat.le_refl _) ?_);intro v1 w1 hown1 hg1 _)
 go_ret
 refine ⟨v1,rfl,by simpa using hown1,((Below.refl _ _).grown hg1 (Nat.le_refl _) (fun k hk=>by simp [Value.ownBlock] at hk))⟩
end Go.Proofs.YtcgclpcocdappaaGreatDoor
