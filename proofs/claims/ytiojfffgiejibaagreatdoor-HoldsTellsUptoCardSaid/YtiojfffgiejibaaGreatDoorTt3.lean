/-
  The plain law of names: what names and paths are, and what the statements of chapter 03 say of them. names.odd, slices.IndexFunc and ContainsFunc (octets), names.Name.
-/
import Derived.Test.YtiojfffgiejibaaGreatDoorTtM1
import Derived.WalkKit
import Derived.Test.YtiojfffgiejibaaGreatDoorRows
import Derived.Handy
import Derived.WalkSpells
import Derived.Below
import Derived.Laws.OwnMore
import Derived.Deep.AppendLies
import Derived.Deep.Draws
import Derived.Laws.Rows
import Derived.Maps.AppendAt
import Derived.RegionTactic
import Derived.OwnWalk
import Derived.Deep.QuietTactic
import Derived.BigQuiet
import Derived.Lib.Hide
import Derived.Laws.CopyOwn
import Derived.IntWalk
import Derived.Laws.BytesString
import Derived.Laws.IdiomStrings
import Derived.Lib.ConvBytes
import Derived.Lib.Strings
import Derived.Test.YtiojfffgiejibaaGreatDoorT0
import Derived.Test.YtiojfffgiejibaaGreatDoorTt1
import Derived.Test.YtiojfffgiejibaaGreatDoorTt2
namespace Go.Proofs.YtiojfffgiejibaaGreatDoor
def okB (c:UInt8):Bool:=(97≤c && c≤122) || (48≤c && c≤57) || c == 45 || c == 95
def nameB (s:List UInt8):Bool:=!s.isEmpty && decide (s.length≤16) && s.all okB
/-- the parts between slashes -/
def partsL:List UInt8→List (List UInt8)
 | []=>[[]]
 | c :: r=>if c=47 then [] :: partsL r else match partsL r with
  | p :: ps=>(c :: p) :: ps
  | []=>[[c]]
def pathB (s:List UInt8):Bool:=s.isEmpty || (decide ((partsL s).length≤4) && (partsL s).all nameB)
/-- where the last slash stands, or 0 -/
def lastS:List UInt8→Option Nat
 | []=>none
 | c :: r=>match lastS r with
  | some k=>some (k+1)
  | none=>if c=47 then some 0 else none
def upL (s:List UInt8):List UInt8:=s.take ((lastS s).getD 0)
/-! ### What comes back -/
/-- what stands before the first '@', and behind it -/
def atL:List UInt8→Option (List UInt8×List UInt8)
 | []=>none
 | c :: r=>if c=64 then some ([],r) else match atL r with
  | some (p,n)=>some (c :: p,n)
  | none=>none
theorem atL_join (s n:List UInt8) (h:∀ c∈s,c≠64):atL (s++64 :: n)=some (s,n):=by
 induction s with
 | nil=>simp [atL]
 | cons a r ih =>
  rw [List.cons_append]
  unfold atL
  rw [if_neg (h a (List.mem_cons_self ..)),ih (fun c hc=>h c (List.mem_cons_of_mem _ hc))]
end Go.Proofs.YtiojfffgiejibaaGreatDoor
namespace Go.Proofs.YtiojfffgiejibaaGreatDoor
open Go.RowKit
theorem okB_iff (c:UInt8):okB c=true↔((97≤(c.toNat:Int)∧(c.toNat:Int)≤122)∨(48≤(c.toNat:Int)∧(c.toNat:Int)≤57))∨(c.toNat:Int)=45∨(c.toNat:Int)=95:=by
 unfold okB
 simp only [Bool.or_eq_true,Bool.and_eq_true,decide_eq_true_eq,beq_iff_eq,UInt8.le_iff_toNat_le,← UInt8.toNat_inj]
 have e1:(97:UInt8).toNat=97:=rfl
 have e2:(122:UInt8).toNat=122:=rfl
 have e3:(48:UInt8).toNat=48:=rfl
 have e4:(57:UInt8).toNat=57:=rfl
 have e5:(45:UInt8).toNat=45:=rfl
 have e6:(95:UInt8).toNat=95:=rfl
 omega
theorem odd_any (c:UInt8) (w:World):Calls Tryz.prog 128 #[.int .u8 (c.toNat:Int)] w fun e w'=>e=.returned (.bool (!okB c))∧w'=w:=by
 have hc:c.toNat<256:=c.toNat_lt
 have hk:=Lib.hid (okB_iff c)
 go_enter Tryz.func128,Tryz.ntmps128
 exact mZ1
/-! ### IndexFunc, ContainsFunc: a function value that captures nothing -/
set_option maxRecDepth 100000 in
set_option maxHeartbeats 1000000 in
theorem fiB_index {α:Type} (f:α→Value) (p:α→Bool) (l:List α) (n:Nat) (hnl:n=l.length) (A:Option Addr) (c:Nat) (w:World) (B:Nat)
  (hr:Reads w B 1 A n (l.map f)) (hB:B≤w.heap.size) (hn:n≤5000000000000)
  (hp:∀ x∈l,∀ W,Calls Tryz.prog 128 #[f x] W fun e W'=>e=.returned (.bool (p x))∧Below W.heap.size W W') :
  Calls Tryz.prog 160 #[.slice A n c,.func (.func 128) #[] #[]] w fun e w'=>e=.returned (.int .i64 (firstI p l))∧Below w.heap.size w w':=by
 exact mZ6
theorem fiB_contains {α:Type} (f:α→Value) (p:α→Bool) (l:List α) (n:Nat) (hnl:n=l.length) (A:Option Addr) (c:Nat) (w:World) (B:Nat)
  (hr:Reads w B 1 A n (l.map f)) (hB:B≤w.heap.size) (hn:n≤5000000000000)
  (hp:∀ x∈l,∀ W,Calls Tryz.prog 128 #[f x] W fun e W'=>e=.returned (.bool (p x))∧Below W.heap.size W W') :
  Calls Tryz.prog 127 #[.slice A n c,.func (.func 128) #[] #[]] w fun e w'=>e=.returned (.bool (l.any p))∧Below w.heap.size w w':=by
 have hcall:=Lib.hid (fiB_index f p l n hnl A c w B hr hB hn hp)
 exact mZ8
set_option maxRecDepth 100000 in
set_option maxHeartbeats 1000000 in
theorem name_any (s:ByteArray) (w:World):Calls Tryz.prog 77 #[.string s] w fun e w'=>e=.returned (.bool (nameB s.data.toList))∧Below w.heap.size w w':=by
 have hcv:=Lib.hid (Lib.run_convert_string_bytes (P:=Tryz.prog) w 9 154 5 s Tryz.underlying9 Tryz.underlying154 Tryz.underlying5)
 have hb:=Lib.hid (bytesWorld_below w 5 s)
 have hr:=Lib.hid (bytesWorld_reads w 5 s)
 have hsz:=Lib.hid (Lib.size_eq s)
 have htl:=Lib.hid (toList_data s)
 go_enter Tryz.func77,Tryz.ntmps77
 go_wp2_with fail
 ·have h0:s.toList=[]:=by assumption
  rw [htl.out] at h0
  go_ret
  exact ⟨by rw [h0];rfl,Below.refl _ _⟩
 ·have h0:¬ s.toList=[]:=by assumption
  have h16:(s.size:Int)≤16:=by assumption
  rw [htl.out] at h0
  rw [hcv.out]
  have hB:=hb.out.size
  have hc:=Lib.hid (fiB_contains (fun c:UInt8=>Value.int .u8 (c.toNat:Int)) (fun c=>!okB c) s.data.toList s.size hsz.out (some ⟨w.heap.size,0,none⟩) (grownCap w s.size 0 5) (Lib.bytesWorld w 5 s) (w.heap.size+1) hr.out
   tZ149 tZ1 (fun x _ W=>(odd_any x W).mono fun _ _ ⟨h1,h2⟩=>⟨h1,by rw [h2];exact Below.refl _ _⟩))
  have hne:=Lib.hid h0
  clear h0
  obtain ⟨b,hbe0⟩:∃ b,b=s.data.toList.any fun c=>!okB c:=⟨_,rfl⟩
  rw [← hbe0] at hc
  have hbe:=Lib.hid hbe0
  clear hbe0
  go_wp2_with fail
  refine hc.out.mono ?_
  rintro e w1 ⟨rfl,hb1⟩
  go_wp2_with fail
  go_ret
  refine ⟨congrArg Ending.returned (congrArg Value.bool ?_),hb.out.trans (hb1.mono hB)⟩
  have e1:s.data.toList.isEmpty=false:=by
   cases he:s.data.toList with
   | nil=>exact absurd he hne.out
   | cons a r=>rfl
  have e2:decide (s.data.toList.length≤16)=true:=by
   rw [← hsz.out]
   exact decide_eq_true tZ1
  unfold nameB
  rw [e1,e2,List.all_eq_not_any_not,← hbe.out,htl.out,e1]
  rfl
 ·have h16:16<(s.size:Int):=by assumption
  go_ret
  refine ⟨congrArg Ending.returned (congrArg Value.bool ?_),Below.refl _ _⟩
  have e2:decide (s.data.toList.length≤16)=false:=by
   rw [← hsz.out]
   exact decide_eq_false tZ1
  unfold nameB
  rw [e2]
  simp
end Go.Proofs.YtiojfffgiejibaaGreatDoor
