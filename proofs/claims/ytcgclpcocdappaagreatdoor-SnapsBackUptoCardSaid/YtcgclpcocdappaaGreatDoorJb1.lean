/-
  Words for memory that all texts of this seat use: a slice that reads as a list, a block known whole, append from any source.   Turned from the guide's pages extra-words and extra-small. 'string(b)' of octets; a row with a mark behind its end (what '[]byte(s)' makes).
-/
import Derived.WalkKit
import Derived.WalkSpells
import Derived.Below
import Derived.Laws.OwnMore
import Derived.Deep.AppendLies
import Derived.Deep.Draws
import Derived.Laws.Rows
import Derived.Maps.AppendAt
import Derived.RegionTactic
import Derived.OwnWalk
import Derived.Deep.QuietTactic
import Derived.BigQuiet
import Derived.Lib.Hide
import Derived.Laws.CopyOwn
import Derived.IntWalk
import Derived.Handy
import Derived.Laws.BytesString
import Derived.Laws.IdiomStrings
import Derived.Lib.ConvBytes
import Derived.Lib.Strings
import Derived.Test.YtcgclpcocdappaaGreatDoorJ0
import Derived.Test.YtcgclpcocdappaaGreatDoorJbkv1
namespace Go.Proofs.YtcgclpcocdappaaGreatDoor
open Go.RowKit
section
variable {w w':World} {B B' size n:Nat} {A:Option Addr} {xs:List Value}
end
section
variable {w w':World} {g:Nat} {t:TypeId} {cs:Array Value}
end
section
variable {P:Program} (w:World)
end
/-! ### My own words -/
section
variable {w w':World} {base:Nat} {e:TypeId} {size n:Nat} {v:Value} {xs:List Value}
end
/-! ### For a region that is held: S says cells, and last 'Below w0.heap.size w0 w'' -/
theorem bts_append (a b:List UInt8):bts (a++b)=bts a++bts b:=by simp [bts]
end Go.Proofs.YtcgclpcocdappaaGreatDoor
namespace Go.Proofs.YtcgclpcocdappaaGreatDoor
open Go.RowKit
section
variable {w w':World} {g n:Nat} {t:TypeId} {cs:Array Value}
theorem RowM.reads (h:RowM w g t n cs) (b z:List UInt8) (hc:cs=(bts (b++z)).toArray) (hn:b.length=n):Reads w (g+1) 1 (some ⟨g,0,none⟩) n (bts b):=by
 refine ⟨by rw [bts_length];omega,fun _=>⟨_,rfl,Nat.lt_succ_self _,?_⟩⟩
 intro j u hu
 rw [addr_add0,h.cell j,hc,zF,bts_append,List.getElem?_append_left (List.getElem?_eq_some_iff.1 hu).1]
 exact hu
end
end Go.Proofs.YtcgclpcocdappaaGreatDoor
