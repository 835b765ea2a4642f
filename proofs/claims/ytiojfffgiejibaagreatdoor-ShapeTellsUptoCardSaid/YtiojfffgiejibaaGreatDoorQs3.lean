/-
  The first place of a list at which a predicate holds. names.odd, slices.IndexFunc and ContainsFunc (octets), names.Name.
-/
import Derived.Test.YtiojfffgiejibaaGreatDoorQsM1
import Derived.WalkKit
import Derived.Test.YtiojfffgiejibaaGreatDoorRows
import Derived.Handy
import Derived.WalkSpells
import Derived.Below
import Derived.Laws.OwnMore
import Derived.Deep.AppendLies
import Derived.Deep.Draws
import Derived.Laws.Rows
import Derived.Maps.AppendAt
import Derived.RegionTactic
import Derived.OwnWalk
import Derived.Deep.QuietTactic
import Derived.BigQuiet
import Derived.Lib.Hide
import Derived.Laws.CopyOwn
import Derived.IntWalk
import Derived.Laws.BytesString
import Derived.Laws.IdiomStrings
import Derived.Lib.ConvBytes
import Derived.Lib.Strings
import Derived.Test.YtiojfffgiejibaaGreatDoorQ0
import Derived.Test.YtiojfffgiejibaaGreatDoorQs1
import Derived.Test.YtiojfffgiejibaaGreatDoorQs2
namespace Go.Proofs.YtiojfffgiejibaaGreatDoor
/-- the first place at which p holds (or the length) -/
def firstP {α:Type} (p:α→Bool) (l:List α):Nat:=(l.takeWhile fun x=>!p x).length
def firstI {α:Type} (p:α→Bool) (l:List α):Int:=if firstP p l<l.length then (firstP p l:Int) else -1
theorem firstP_eq {α:Type} (p:α→Bool) (l:List α) (k:Nat) (x:α) (h:∀ y∈l.take k,p y=false) (hx:l[k]?=some x) (hp:p x=true):firstP p l=k:=by
 unfold firstP
 obtain ⟨hk,e⟩:=List.getElem?_eq_some_iff.1 hx
 have hl:l=l.take k++x :: l.drop (k+1):=by
  conv=>lhs;rw [← List.take_append_drop k l,List.drop_eq_getElem_cons hk,e]
 conv=>lhs;rw [hl]
 rw [List.takeWhile_append_of_pos (by intro y hy;simp [h y hy]),List.takeWhile_cons_of_neg (by simp [hp])]
 simp
 omega
theorem firstP_none {α:Type} (p:α→Bool) (l:List α) (h:∀ y∈l,p y=false):firstP p l=l.length:=by
 unfold firstP
 induction l with
 | nil=>rfl
 | cons x r ih =>
  rw [List.takeWhile_cons_of_pos (by simp [h x tZ3]),List.length_cons,List.length_cons,ih (fun y hy=>h y (List.mem_cons_of_mem _ hy))]
theorem firstP_before {α:Type} (p:α→Bool) (l:List α):∀ y∈l.take (firstP p l),p y=false:=by
 unfold firstP
 induction l with
 | nil=>intro y hy;simp at hy
 | cons x r ih =>
  intro y hy
  cases hx:p x with
  | true=>rw [List.takeWhile_cons_of_neg (by simp [hx])] at hy;simp at hy
  | false =>
   rw [List.takeWhile_cons_of_pos (by simp [hx]),List.length_cons,List.take_succ_cons] at hy
   rcases List.mem_cons.1 hy with rfl | hy
   ·exact hx
   ·exact ih y hy
theorem firstI_any {α:Type} (p:α→Bool) (l:List α):decide ((0:Int)≤firstI p l)=l.any p:=by
 unfold firstI
 by_cases h:firstP p l<l.length
 ·rw [if_pos h]
  have h1:l.any p=true:=by
   rw [List.any_eq_true]
   by_cases he:∀ y∈l,p y=false
   ·rw [firstP_none p l he] at h;omega
   ·obtain ⟨y,hy⟩:=Classical.not_forall.1 he
    obtain ⟨hy,hp⟩:=Classical.not_imp.1 hy
    exact ⟨y,hy,by simpa using hp⟩
  rw [h1]
  simp
 ·rw [if_neg h]
  have h1:l.any p=false:=by
   rw [List.any_eq_false]
   intro y hy hp
   have hb:=firstP_before p l
   rw [List.take_of_length_le tZ1] at hb
   rw [hb y hy] at hp
   cases hp
  rw [h1]
  rfl
end Go.Proofs.YtiojfffgiejibaaGreatDoor
namespace Go.Proofs.YtiojfffgiejibaaGreatDoor
open Go.RowKit
theorem okB_iff (c:UInt8):okB c=true↔((97≤(c.toNat:Int)∧(c.toNat:Int)≤122)∨(48≤(c.toNat:Int)∧(c.toNat:Int)≤57))∨(c.toNat:Int)=45∨(c.toNat:Int)=95:=by
 unfold okB
 simp only [Bool.or_eq_true,Bool.and_eq_true,decide_eq_true_eq,beq_iff_eq,UInt8.le_iff_toNat_le,← UInt8.toNat_inj]
 have e1:(97:UInt8).toNat=97:=rfl
 have e2:(122:UInt8).toNat=122:=rfl
 have e3:(48:UInt8).toNat=48:=rfl
 have e4:(57:UInt8).toNat=57:=rfl
 have e5:(45:UInt8).toNat=45:=rfl
 have e6:(95:UInt8).toNat=95:=rfl
 omega
theorem odd_any (c:UInt8) (w:World):Calls Tryz.prog 128 #[.int .u8 (c.toNat:Int)] w fun e w'=>e=.returned (.bool (!okB c))∧w'=w:=by
 have hc:c.toNat<256:=c.toNat_lt
 have hk:=Lib.hid (okB_iff c)
 go_enter Tryz.func128,Tryz.ntmps128
 exact mZ1
/-! ### IndexFunc, ContainsFunc: a function value that captures nothing -/
set_option maxRecDepth 100000 in
set_option maxHeartbeats 1000000 in
theorem fiB_index {α:Type} (f:α→Value) (p:α→Bool) (l:List α) (n:Nat) (hnl:n=l.length) (A:Option Addr) (c:Nat) (w:World) (B:Nat)
  (hr:Reads w B 1 A n (l.map f)) (hB:B≤w.heap.size) (hn:n≤5000000000000)
  (hp:∀ x∈l,∀ W,Calls Tryz.prog 128 #[f x] W fun e W'=>e=.returned (.bool (p x))∧Below W.heap.size W W') :
  Calls Tryz.prog 160 #[.slice A n c,.func (.func 128) #[] #[]] w fun e w'=>e=.returned (.int .i64 (firstI p l))∧Below w.heap.size w w':=by
 exact mZ6
theorem fiB_contains {α:Type} (f:α→Value) (p:α→Bool) (l:List α) (n:Nat) (hnl:n=l.length) (A:Option Addr) (c:Nat) (w:World) (B:Nat)
  (hr:Reads w B 1 A n (l.map f)) (hB:B≤w.heap.size) (hn:n≤5000000000000)
  (hp:∀ x∈l,∀ W,Calls Tryz.prog 128 #[f x] W fun e W'=>e=.returned (.bool (p x))∧Below W.heap.size W W') :
  Calls Tryz.prog 127 #[.slice A n c,.func (.func 128) #[] #[]] w fun e w'=>e=.returned (.bool (l.any p))∧Below w.heap.size w w':=by
 have hcall:=Lib.hid (fiB_index f p l n hnl A c w B hr hB hn hp)
 exact mZ8
set_option maxRecDepth 100000 in
set_option maxHeartbeats 1000000 in
theorem name_any (s:ByteArray) (w:World):Calls Tryz.prog 77 #[.string s] w fun e w'=>e=.returned (.bool (nameB s.data.toList))∧Below w.heap.size w w':=by
 have hcv:=Lib.hid (Lib.run_convert_string_bytes (P:=Tryz.prog) w 9 154 5 s Tryz.underlying9 Tryz.underlying154 Tryz.underlying5)
 have hb:=Lib.hid (bytesWorld_below w 5 s)
 have hr:=Lib.hid (bytesWorld_reads w 5 s)
 have hsz:=Lib.hid (Lib.size_eq s)
 have htl:=Lib.hid (toList_data s)
 go_enter Tryz.func77,Tryz.ntmps77
 go_wp2_with fail
 ·have h0:s.toList=[]:=by assumption
  rw [htl.out] at h0
  go_ret
  exact ⟨by rw [h0];rfl,Below.refl _ _⟩
 ·have h0:¬ s.toList=[]:=by assumption
  have h16:(s.size:Int)≤16:=by assumption
  rw [htl.out] at h0
  rw [hcv.out]
  have hB:=hb.out.size
  have hc:=Lib.hid (fiB_contains (fun c:UInt8=>Value.int .u8 (c.toNat:Int)) (fun c=>!okB c) s.data.toList s.size hsz.out (some ⟨w.heap.size,0,none⟩) (grownCap w s.size 0 5) (Lib.bytesWorld w 5 s) (w.heap.size+1) hr.out
   tZ132 tZ1 (fun x _ W=>(odd_any x W).mono fun _ _ ⟨h1,h2⟩=>⟨h1,by rw [h2];exact Below.refl _ _⟩))
  have hne:=Lib.hid h0
  clear h0
  obtain ⟨b,hbe0⟩:∃ b,b=s.data.toList.any fun c=>!okB c:=⟨_,rfl⟩
  rw [← hbe0] at hc
  have hbe:=Lib.hid hbe0
  clear hbe0
  go_wp2_with fail
  refine hc.out.mono ?_
  rintro e w1 ⟨rfl,hb1⟩
  go_wp2_with fail
  go_ret
  refine ⟨congrArg Ending.returned (congrArg Value.bool ?_),hb.out.trans (hb1.mono hB)⟩
  have e1:s.data.toList.isEmpty=false:=by
   cases he:s.data.toList with
   | nil=>exact absurd he hne.out
   | cons a r=>rfl
  have e2:decide (s.data.toList.length≤16)=true:=by
   rw [← hsz.out]
   exact decide_eq_true tZ1
  unfold nameB
  rw [e1,e2,List.all_eq_not_any_not,← hbe.out,htl.out,e1]
  rfl
 ·have h16:16<(s.size:Int):=by assumption
  go_ret
  refine ⟨congrArg Ending.returned (congrArg Value.bool ?_),Below.refl _ _⟩
  have e2:decide (s.data.toList.length≤16)=false:=by
   rw [← hsz.out]
   exact decide_eq_false tZ1
  unfold nameB
  rw [e2]
  simp
end Go.Proofs.YtiojfffgiejibaaGreatDoor
