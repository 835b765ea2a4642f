/-
  tree.amount; slices.IndexFunc at sets and at snapshots; tree.Find, tree.Snap: by their contracts. The shelf's words of a text's parts, in the words of the plain law. names.Name, names.Path.
-/
import Derived.WalkKit
import Derived.WalkSpells
import Derived.Below
import Derived.Laws.OwnMore
import Derived.Deep.AppendLies
import Derived.Deep.Draws
import Derived.Laws.Rows
import Derived.Maps.AppendAt
import Derived.RegionTactic
import Derived.OwnWalk
import Derived.Deep.QuietTactic
import Derived.BigQuiet
import Derived.Lib.Hide
import Derived.Laws.CopyOwn
import Derived.IntWalk
import Derived.Test.YtcgclpcocdappaaGreatDoorRows
import Derived.Handy
import Derived.Deep.Quiet
import Derived.Orders
import Derived.Sort.Walk0
import Derived.Sort.KeysCollected
import Derived.Laws.BytesString
import Derived.Laws.IdiomStrings
import Derived.Lib.ConvBytes
import Derived.Lib.Strings
import Derived.Lib.SplitLaws
import Derived.Lib.LastIndexByte
import Derived.Shelf.Strings.Search1
import Derived.Shelf.Strings.Search2
import Derived.Shelf.Strings.Search3
import Derived.Shelf.Strings.Cut
import Derived.Shelf.Strings.Count
import Derived.Shelf.LaysM
import Derived.Shelf.Strings.Shaped
import Derived.Shelf.Strings.LastIndex
import Derived.Shelf.Strings.Split
import Derived.Shelf.Strings.SplitShaped
import Derived.Shelf.Unicode.Decode
import Derived.Shelf.Strings.RuneCount
import Derived.Shelf.Strings.Explode
import Derived.Shelf.Unicode.DecodeSlow
import Derived.Test.YtcgclpcocdappaaGreatDoorProg
import Derived.Test.YtcgclpcocdappaaGreatDoorG0
import Derived.Test.YtcgclpcocdappaaGreatDoorGg1
import Derived.Test.YtcgclpcocdappaaGreatDoorGg2
import Derived.Test.YtcgclpcocdappaaGreatDoorGg3
import Derived.Test.YtcgclpcocdappaaGreatDoorGg5
import Derived.Test.YtcgclpcocdappaaGreatDoorGg7
import Derived.Test.YtcgclpcocdappaaGreatDoorGg8
import Derived.Test.YtcgclpcocdappaaGreatDoorGg10
namespace Go.Proofs.YtcgclpcocdappaaGreatDoor
open Go.RowKit
set_option maxRecDepth 100000 in
theorem amount_any (n k:Int) (w:World):Calls Tryz.prog 124 #[.int .i64 n,.int .i64 k] w fun e w'=>e=.returned (.bool (amt n k))∧w'=w:=by
 go_enter Tryz.func124,Tryz.ntmps124
 go_wp2_with fail
 all_goals go_ret
 all_goals refine ⟨congrArg Ending.returned (congrArg Value.bool ?_),rfl⟩
 all_goals unfold amt
 all_goals rw [Bool.eq_iff_iff]
 all_goals simp
 all_goals omega
set_option maxRecDepth 100000 in
set_option maxHeartbeats 1000000 in
theorem fiSet_index {α:Type} (f0 f1 f2 f3 f4:α→Value) (p:α→Bool) (l:List α) (n:Nat) (hnl:n=l.length) (A:Option Addr) (c:Nat) (p0:Addr) (Keep:World→Prop) (w:World) (B:Nat)
  (hr:Reads w B 5 A n (cellsK (fun x=>[f0 x,f1 x,f2 x,f3 x,f4 x]) l)) (hB:B≤w.heap.size) (hn:n≤5000000000000) (hp:PredK Tryz.prog 123 #[.pointer (some p0)] (fun x=>#[f0 x,f1 x,f2 x,f3 x,f4 x]) (·∈l) p Keep) (hk0:Keep w) :
  Calls Tryz.prog 122 #[.slice A n c,.func (.func 123) #[] #[.pointer (some p0)]] w fun e w'=>e=.returned (.int .i64 (firstI p l))∧Below w.heap.size w w':=by
 have HN:=Lib.hid hnl
 have HP:=Lib.hid hp
 clear hnl hp
 go_enter Tryz.func122,Tryz.ntmps122
 go_wp2_with fail
 go_loopw [8] (fun j wr=>∃ k:Nat,k≤n∧j=.int .i64 (k:Int)∧Hid (∀ y∈l.take k,p y=false)∧Below w.heap.size w wr∧Keep wr) (fun j _=>n-(intOf j).toNat)
 case atStart=>exact ⟨0,Nat.zero_le _,rfl,(show ∀ y∈_,_ by simp),Below.refl _ _,hk0⟩
 case round =>
  obtain ⟨k,hk,rfl,hno,hbw,hkw⟩:=hrel
  by_cases hlt:k<n
  ·have hki:(k:Int)<(n:Int):=by omega
   have hkl:k<l.length:=by have:=HN.out;omega
   obtain ⟨ad,rfl,_,c0,c1,c2,c3,c4⟩:=(hr.below (hbw.mono hB)).el5 HN.out hlt
   obtain ⟨x,hx⟩:∃ x,x=l[k]'hkl:=⟨_,rfl⟩
   rw [← hx] at c0 c1 c2 c3 c4
   have htk:=List.take_succ_eq_append_getElem hkl
   rw [← hx] at htk
   have HTK:=Lib.hid htk
   have HX:=Lib.hid (show l[k]?=some x by rw [hx];exact List.getElem?_eq_getElem _)
   have hc:=HP.out.call x wr (List.mem_of_getElem? HX.out) hkw
   obtain ⟨b,hb⟩:∃ b,b=p x:=⟨_,rfl⟩
   rw [← hb] at hc
   have HBX:=Lib.hid hb
   simp only [List.append_toArray,List.cons_append,List.nil_append] at hc
   clear hx htk hr hb
   go_wp2_with fail
   refine hc.mono ?_
   clear hc
   rintro e w1 ⟨rfl,hb1⟩
   have hkw1:=HP.out.below wr w1 hkw hb1
   have hbw1:=hbw.trans (hb1.mono hbw.size)
   cases b with
   | true =>
    go_wp2_with fail
    go_ret
    have hf:=firstP_eq p l k x hno.out HX.out HBX.out.symm
    exact ⟨by unfold firstI;rw [hf,if_pos hkl];rfl,hbw1⟩
   | false =>
    go_wp2_with fail
    go_roundw
    case rel =>
     refine ⟨k+1,by omega,by go_num,?_,hbw1,hkw1⟩
     show ∀ y∈l.take (k+1),p y=false
     intro y hy
     rw [HTK.out] at hy
     rcases List.mem_append.1 hy with hy | hy
     ·exact hno.out y hy
     ·simp at hy;subst hy;exact HBX.out.symm
    case measure=>simp [intOf];omega
  ·have hkn:k=n:=by omega
   have HF:Hid (firstI p l=-1):=by
    show _=_
    unfold firstI
    rw [firstP_none p l (fun y hy=>hno.out y (by rw [List.take_of_length_le (by rw [hkn,HN.out];exact Nat.le_refl _)];exact hy)),if_neg (Nat.lt_irrefl _)]
   clear hr hkn
   go_wp2_with fail
   go_ret
   exact ⟨by rw [HF.out];rfl,hbw⟩
set_option maxRecDepth 100000 in
set_option maxHeartbeats 1000000 in
theorem fiSnap_index {α:Type} (f0 f1 f2 f3 f4:α→Value) (p:α→Bool) (l:List α) (n:Nat) (hnl:n=l.length) (A:Option Addr) (c:Nat) (p0:Addr) (Keep:World→Prop) (w:World) (B:Nat)
  (hr:Reads w B 5 A n (cellsK (fun x=>[f0 x,f1 x,f2 x,f3 x,f4 x]) l)) (hB:B≤w.heap.size) (hn:n≤5000000000000) (hp:PredK Tryz.prog 151 #[.pointer (some p0)] (fun x=>#[f0 x,f1 x,f2 x,f3 x,f4 x]) (·∈l) p Keep) (hk0:Keep w) :
  Calls Tryz.prog 130 #[.slice A n c,.func (.func 151) #[] #[.pointer (some p0)]] w fun e w'=>e=.returned (.int .i64 (firstI p l))∧Below w.heap.size w w':=by
 have HN:=Lib.hid hnl
 have HP:=Lib.hid hp
 clear hnl hp
 go_enter Tryz.func130,Tryz.ntmps130
 go_wp2_with fail
 go_loopw [8] (fun j wr=>∃ k:Nat,k≤n∧j=.int .i64 (k:Int)∧Hid (∀ y∈l.take k,p y=false)∧Below w.heap.size w wr∧Keep wr) (fun j _=>n-(intOf j).toNat)
 case atStart=>exact ⟨0,Nat.zero_le _,rfl,(show ∀ y∈_,_ by simp),Below.refl _ _,hk0⟩
 case round =>
  obtain ⟨k,hk,rfl,hno,hbw,hkw⟩:=hrel
  by_cases hlt:k<n
  ·have hki:(k:Int)<(n:Int):=by omega
   have hkl:k<l.length:=by have:=HN.out;omega
   obtain ⟨ad,rfl,_,c0,c1,c2,c3,c4⟩:=(hr.below (hbw.mono hB)).el5 HN.out hlt
   obtain ⟨x,hx⟩:∃ x,x=l[k]'hkl:=⟨_,rfl⟩
   rw [← hx] at c0 c1 c2 c3 c4
   have htk:=List.take_succ_eq_append_getElem hkl
   rw [← hx] at htk
   have HTK:=Lib.hid htk
   have HX:=Lib.hid (show l[k]?=some x by rw [hx];exact List.getElem?_eq_getElem _)
   have hc:=HP.out.call x wr (List.mem_of_getElem? HX.out) hkw
   obtain ⟨b,hb⟩:∃ b,b=p x:=⟨_,rfl⟩
   rw [← hb] at hc
   have HBX:=Lib.hid hb
   simp only [List.append_toArray,List.cons_append,List.nil_append] at hc
   clear hx htk hr hb
   go_wp2_with fail
   refine hc.mono ?_
   clear hc
   rintro e w1 ⟨rfl,hb1⟩
   have hkw1:=HP.out.below wr w1 hkw hb1
   have hbw1:=hbw.trans (hb1.mono hbw.size)
   cases b with
   | true =>
    go_wp2_with fail
    go_ret
    have hf:=firstP_eq p l k x hno.out HX.out HBX.out.symm
    exact ⟨by unfold firstI;rw [hf,if_pos hkl];rfl,hbw1⟩
   | false =>
    go_wp2_with fail
    go_roundw
    case rel =>
     refine ⟨k+1,by omega,by go_num,?_,hbw1,hkw1⟩
     show ∀ y∈l.take (k+1),p y=false
     intro y hy
     rw [HTK.out] at hy
     rcases List.mem_append.1 hy with hy | hy
     ·exact hno.out y hy
     ·simp at hy;subst hy;exact HBX.out.symm
    case measure=>simp [intOf];omega
  ·have hkn:k=n:=by omega
   have HF:Hid (firstI p l=-1):=by
    show _=_
    unfold firstI
    rw [firstP_none p l (fun y hy=>hno.out y (by rw [List.take_of_length_le (by rw [hkn,HN.out];exact Nat.le_refl _)];exact hy)),if_neg (Nat.lt_irrefl _)]
   clear hr hkn
   go_wp2_with fail
   go_ret
   exact ⟨by rw [HF.out];rfl,hbw⟩
set_option maxRecDepth 100000 in
theorem findC_any (s:BS) (v1 v2 v3 v4:Value) (p:BS) (pb:Nat) (w:World) (hpb:pb<w.heap.size) (hk:w.cell? ⟨pb,0,none⟩=some (.string ⟨p.toArray⟩)) :
  Calls Tryz.prog 123 #[.agg #[.string ⟨s.toArray⟩,v1,v2,v3,v4],.pointer (some ⟨pb,0,none⟩)] w fun e w'=>e=.returned (.bool (s == p))∧Below w.heap.size w w':=by
 have hk1:=(World.cell?_alloc_lt w (.cells #[.string ⟨s.toArray⟩,v1,v2,v3,v4] 42) ⟨pb,0,none⟩ hpb).trans hk
 have hb:=(Below.refl w.heap.size w).alloc (Nat.le_refl _) (.cells #[.string ⟨s.toArray⟩,v1,v2,v3,v4] 42)
 go_enter Tryz.func123,Tryz.ntmps123
 go_wp2_with fail
 all_goals go_ret
 all_goals refine ⟨congrArg Ending.returned (congrArg Value.bool ?_),hb⟩
 all_goals simp_all
set_option maxRecDepth 100000 in
theorem snapC_any (s:BS) (v1 v2 v3 v4:Value) (p:BS) (pb:Nat) (w:World) (hpb:pb<w.heap.size) (hk:w.cell? ⟨pb,0,none⟩=some (.string ⟨p.toArray⟩)) :
  Calls Tryz.prog 151 #[.agg #[.string ⟨s.toArray⟩,v1,v2,v3,v4],.pointer (some ⟨pb,0,none⟩)] w fun e w'=>e=.returned (.bool (s == p))∧Below w.heap.size w w':=by
 have hk1:=(World.cell?_alloc_lt w (.cells #[.string ⟨s.toArray⟩,v1,v2,v3,v4] 57) ⟨pb,0,none⟩ hpb).trans hk
 have hb:=(Below.refl w.heap.size w).alloc (Nat.le_refl _) (.cells #[.string ⟨s.toArray⟩,v1,v2,v3,v4] 57)
 go_enter Tryz.func151,Tryz.ntmps151
 go_wp2_with fail
 all_goals go_ret
 all_goals refine ⟨congrArg Ending.returned (congrArg Value.bool ?_),hb⟩
 all_goals simp_all
set_option maxRecDepth 100000 in
set_option maxHeartbeats 1000000 in
theorem find_any (v0 v1 v2 v4 v5 v6:Value) (l:List SetR) (n:Nat) (hnl:n=l.length) (A:Option Addr) (c:Nat) (p:BS) (w:World) (B:Nat) (hr:Reads w B 5 A n (cellsK encSet l)) (hB:B≤w.heap.size) (hn:n≤5000000000000) :
  Calls Tryz.prog 57 #[.agg #[v0,v1,v2,.slice A n c,v4,v5,v6],.string ⟨p.toArray⟩] w fun e w'=>e=.returned (.int .i64 (findS l p))∧Below w.heap.size w w':=by
 have hb1:=(Below.refl w.heap.size w).alloc (Nat.le_refl _) (.cells #[v0,v1,v2,.slice A n c,v4,v5,v6] 27)
 have hb2:=hb1.alloc hb1.size (.cells #[.string ⟨p.toArray⟩] 9)
 obtain ⟨W2,hW2⟩:∃ W,W=(w.alloc (.cells #[v0,v1,v2,.slice A n c,v4,v5,v6] 27)).alloc (.cells #[.string ⟨p.toArray⟩] 9):=⟨_,rfl⟩
 have hsz:W2.heap.size=w.heap.size+2:=by rw [hW2];simp
 have hk:W2.cell? ⟨w.heap.size+1,0,none⟩=some (.string ⟨p.toArray⟩):=by
  rw [hW2]
  have:=(Blk.new (w.alloc (.cells #[v0,v1,v2,.slice A n c,v4,v5,v6] 27)) 9 #[.string ⟨p.toArray⟩]).cell 0
  rw [show (w.alloc (.cells #[v0,v1,v2,.slice A n c,v4,v5,v6] 27)).heap.size=w.heap.size+1 by simp] at this
  exact this
 rw [← hW2] at hb2
 have HC:=Lib.hid (fiSet_index (fun x=>.string ⟨x.path.toArray⟩) (fun x=>.string ⟨x.org.toArray⟩) (fun x=>.slice x.body.A x.body.n x.body.c) (fun x=>.slice x.snaps.A x.snaps.n x.snaps.c) (fun x=>.slice x.own.A x.own.n x.own.c) (fun x=>x.path == p) l n hnl A c ⟨w.heap.size+1,0,none⟩ (fun W=>W.cell? ⟨w.heap.size+1,0,none⟩=some (.string ⟨p.toArray⟩)∧w.heap.size+1<W.heap.size) W2 B (hr.below (hb2.mono hB)) (by omega) hn
  ⟨fun x W _ hK=>findC_any x.path _ _ _ _ p _ W hK.2 hK.1,fun W W' hK hb=>⟨(hb.cell (p:=⟨w.heap.size+1,0,none⟩) hK.2).trans hK.1,Nat.lt_of_lt_of_le hK.2 hb.size⟩⟩ ⟨hk,by omega⟩)
 have HB:=Lib.hid hb2
 have HSZ:=Lib.hid hsz
 clear hnl hr hk hsz hb1 hb2
 go_enter Tryz.func57,Tryz.ntmps57
 go_wp2_with fail
 rw [← hW2]
 refine HC.out.mono ?_
 rintro e w1 ⟨rfl,hb3⟩
 go_wp2_with fail
 go_ret
 exact ⟨rfl,HB.out.trans (hb3.mono (by have:=HSZ.out;omega))⟩
set_option maxRecDepth 100000 in
set_option maxHeartbeats 1000000 in
theorem snapAt_any (v0 v1 v2 v4:Value) (l:List SnapR) (n:Nat) (hnl:n=l.length) (A:Option Addr) (c:Nat) (p:BS) (w:World) (B:Nat) (hr:Reads w B 5 A n (cellsK encSnap l)) (hB:B≤w.heap.size) (hn:n≤5000000000000) :
  Calls Tryz.prog 84 #[.agg #[v0,v1,v2,.slice A n c,v4],.string ⟨p.toArray⟩] w fun e w'=>e=.returned (.int .i64 (findN l p))∧Below w.heap.size w w':=by
 have hb1:=(Below.refl w.heap.size w).alloc (Nat.le_refl _) (.cells #[v0,v1,v2,.slice A n c,v4] 42)
 have hb2:=hb1.alloc hb1.size (.cells #[.string ⟨p.toArray⟩] 9)
 obtain ⟨W2,hW2⟩:∃ W,W=(w.alloc (.cells #[v0,v1,v2,.slice A n c,v4] 42)).alloc (.cells #[.string ⟨p.toArray⟩] 9):=⟨_,rfl⟩
 have hsz:W2.heap.size=w.heap.size+2:=by rw [hW2];simp
 have hk:W2.cell? ⟨w.heap.size+1,0,none⟩=some (.string ⟨p.toArray⟩):=by
  rw [hW2]
  have:=(Blk.new (w.alloc (.cells #[v0,v1,v2,.slice A n c,v4] 42)) 9 #[.string ⟨p.toArray⟩]).cell 0
  rw [show (w.alloc (.cells #[v0,v1,v2,.slice A n c,v4] 42)).heap.size=w.heap.size+1 by simp] at this
  exact this
 rw [← hW2] at hb2
 have HC:=Lib.hid (fiSnap_index (fun x=>.string ⟨x.nm.toArray⟩) (fun x=>.int .i64 x.gd) (fun x=>.slice x.body.A x.body.n x.body.c) (fun x=>.slice x.tags.A x.tags.n x.tags.c) (fun x=>.slice x.own.A x.own.n x.own.c) (fun x=>x.nm == p) l n hnl A c ⟨w.heap.size+1,0,none⟩ (fun W=>W.cell? ⟨w.heap.size+1,0,none⟩=some (.string ⟨p.toArray⟩)∧w.heap.size+1<W.heap.size) W2 B (hr.below (hb2.mono hB)) (by omega) hn
  ⟨fun x W _ hK=>snapC_any x.nm _ _ _ _ p _ W hK.2 hK.1,fun W W' hK hb=>⟨(hb.cell (p:=⟨w.heap.size+1,0,none⟩) hK.2).trans hK.1,Nat.lt_of_lt_of_le hK.2 hb.size⟩⟩ ⟨hk,by omega⟩)
 have HB:=Lib.hid hb2
 have HSZ:=Lib.hid hsz
 clear hnl hr hk hsz hb1 hb2
 go_enter Tryz.func84,Tryz.ntmps84
 go_wp2_with fail
 rw [← hW2]
 refine HC.out.mono ?_
 rintro e w1 ⟨rfl,hb3⟩
 go_wp2_with fail
 go_ret
 exact ⟨rfl,HB.out.trans (hb3.mono (by have:=HSZ.out;omega))⟩
end Go.Proofs.YtcgclpcocdappaaGreatDoor
namespace Go.Proofs.YtcgclpcocdappaaGreatDoor
open Go.Lib
theorem index_none (c:UInt8) (s:List UInt8) (h:c ∉ s):index s [c]=-1:=by
 induction s with
 | nil=>rfl
 | cons b r ih =>
  have hb:([c].isPrefixOf (b :: r))=false:=by
   have:c≠b:=fun e=>h (by rw [e];exact List.mem_cons_self ..)
   simp [List.isPrefixOf,this]
  unfold index
  rw [hb,ih (fun e=>h (List.mem_cons_of_mem _ e))]
  rfl
theorem index_some (c:UInt8) (a r:List UInt8) (h:c ∉ a):index (a++c :: r) [c]=(a.length:Int):=by
 induction a with
 | nil=>simp [index,List.isPrefixOf]
 | cons b a ih =>
  have hb:([c].isPrefixOf (b :: (a++c :: r)))=false:=by
   have:c≠b:=fun e=>h (by rw [e];exact List.mem_cons_self ..)
   simp [List.isPrefixOf,this]
  rw [List.cons_append]
  unfold index
  rw [hb,ih (fun e=>h (List.mem_cons_of_mem _ e))]
  have:(((a.length:Nat):Int) == -1)=false:=by rw [beq_eq_false_iff_ne];omega
  simp [this]
/-- a text holds no c, or one first -/
theorem first_split (c:UInt8) (s:List UInt8):c ∉ s∨∃ a r,s=a++c :: r∧c ∉ a:=by
 induction s with
 | nil=>exact .inl (by simp)
 | cons b s ih =>
  by_cases hb:c=b
  ·exact .inr ⟨[],s,by simp [hb],by simp⟩
  ·rcases ih with h | ⟨a,r,rfl,h⟩
   ·exact .inl (by simp [hb,h])
   ·exact .inr ⟨b :: a,r,rfl,by simp [hb,h]⟩
theorem partsL_one (a:List UInt8) (h:47 ∉ a):partsL a=[a]:=by
 induction a with
 | nil=>rfl
 | cons b a ih =>
  unfold partsL
  rw [if_neg (fun e=>h (by rw [e];exact List.mem_cons_self ..)),ih (fun e=>h (List.mem_cons_of_mem _ e))]
theorem partsL_two (a r:List UInt8) (h:47 ∉ a):partsL (a++47 :: r)=a :: partsL r:=by
 induction a with
 | nil=>simp [partsL]
 | cons b a ih =>
  rw [List.cons_append,partsL,if_neg (fun e=>h (by rw [e];exact List.mem_cons_self ..)),ih (fun e=>h (List.mem_cons_of_mem _ e))]
theorem splitK_parts (n:Nat):∀ s:List UInt8,s.length≤n→splitK [47] 0 (count s [47]) s=partsL s:=by
 induction n with
 | zero =>
  intro s hs
  obtain rfl:=List.eq_nil_of_length_eq_zero (Nat.le_zero.1 hs)
  rfl
 | succ n ih =>
  intro s hs
  rcases first_split 47 s with h | ⟨a,r,rfl,h⟩
  ·rw [partsL_one s h,count_miss (index_none 47 s h)]
   rfl
  ·have hi:=index_some 47 a r h
   have hd:(a++47 :: r).drop (a.length+1)=r:=by
    rw [← List.drop_drop,List.drop_append_of_le_length (Nat.le_refl _)]
    simp
   have hc:=count_hit (s:=a++47 :: r) (sub:=[47]) (i:=a.length) (by simp) hi
   rw [partsL_two a r h,hc]
   rw [show ([47]:List UInt8).length=1 from rfl,hd,Nat.add_comm 1]
   have hm:(index (a++47 :: r) [47] == -1)=false:=by rw [hi,beq_eq_false_iff_ne];omega
   unfold splitK
   rw [hm,hi,if_neg (by simp)]
   simp only [Int.toNat_natCast,Nat.add_zero,List.length_singleton,hd]
   rw [List.take_left' rfl,ih r (by simp at hs;omega)]
theorem splitB_parts (s:ByteArray):(splitB ⟨#[47]⟩ 0 (countB s ⟨#[47]⟩) s).map (·.data.toList)=partsL s.data.toList:=by
 rw [splitB_data]
 exact splitK_parts _ _ (Nat.le_refl _)
theorem splitB_len (s:ByteArray):(splitB ⟨#[47]⟩ 0 (countB s ⟨#[47]⟩) s).length=countB s ⟨#[47]⟩+1:=splitB_all ⟨#[47]⟩ (Nat.le_refl _) 0 _ s rfl
theorem atL_none (s:List UInt8) (h:64 ∉ s):atL s=none:=by
 induction s with
 | nil=>rfl
 | cons b s ih =>
  unfold atL
  rw [if_neg (fun e=>h (by rw [e];exact List.mem_cons_self ..)),ih (fun e=>h (List.mem_cons_of_mem _ e))]
theorem cut_at (s:List UInt8):cut s [64]=match atL s with
  | some (p,n)=>(p,n,true)
  | none=>(s,[],false):=by
 rcases first_split 64 s with h | ⟨a,r,rfl,h⟩
 ·rw [atL_none s h]
  unfold cut
  rw [index_none 64 s h]
  rfl
 ·rw [atL_join a r (fun c hc e=>h (by rw [← e];exact hc))]
  unfold cut
  rw [index_some 64 a r h,if_pos (by omega)]
  have hd:(a++64 :: r).drop (a.length+1)=r:=by
   rw [← List.drop_drop,List.drop_append_of_le_length (Nat.le_refl _)]
   simp
  simp only [Int.toNat_natCast,List.length_singleton,hd]
  rw [List.take_left' rfl]
theorem lastS_spec (l:List UInt8):(lastS l=none∧47 ∉ l)∨∃ k,lastS l=some k∧l[k]?=some 47∧∀ j,k<j→l[j]?≠some 47:=by
 induction l with
 | nil=>exact .inl ⟨rfl,by simp⟩
 | cons b l ih =>
  unfold lastS
  rcases ih with ⟨h,hn⟩ | ⟨k,h,hk,hj⟩
  ·rw [h]
   by_cases hb:b=47
   ·refine .inr ⟨0,by simp [hb],by simp [hb],?_⟩
    intro j hj e
    obtain ⟨j,rfl⟩:∃ i,j=i+1:=⟨j-1,by omega⟩
    rw [zD] at e
    exact hn (List.mem_of_getElem? e)
   ·exact .inl ⟨by simp [hb],by simp [hn];exact fun e=>hb e.symm⟩
  ·rw [h]
   refine .inr ⟨k+1,rfl,by simpa using hk,?_⟩
   intro j hlt e
   obtain ⟨j,rfl⟩:∃ i,j=i+1:=⟨j-1,by omega⟩
   rw [zD] at e
   exact hj j (by omega) e
theorem data_get (s:ByteArray) (j:Nat) (hj:j<s.size):s.data.toList[j]?=some s.data[j]!:=by
 have h:j<s.data.size:=hj
 rw [getElem!_pos s.data j h,Array.getElem?_toList,Array.getElem?_eq_getElem h]
theorem last_eq (s:ByteArray):(max (Lib.lastIndexByte s 47) 0)=(((lastS s.data.toList).getD 0:Nat):Int):=by
 rcases Lib.lastIndexByte_spec s 47 with ⟨h,hn⟩ | ⟨i,hi,h,hc,hn⟩
 ·rw [h]
  rcases lastS_spec s.data.toList with ⟨h2,_⟩ | ⟨k,_,hk,_⟩
  ·rw [h2];rfl
  ·exfalso
   have hks:k<s.size:=(List.getElem?_eq_some_iff.1 hk).1
   rw [data_get s k hks] at hk
   exact hn k hks (by rw [Option.some.inj hk];rfl)
 ·rw [h]
  have h47:s.data[i]! = 47:=UInt8.toNat_inj.1 (by have e:(47:UInt8).toNat=47:=rfl;rw [e];omega)
  have hi2:s.data.toList[i]?=some 47:=by rw [data_get s i hi,h47]
  rcases lastS_spec s.data.toList with ⟨_,h3⟩ | ⟨k,h2,hk,hj⟩
  ·exact absurd (List.mem_of_getElem? hi2) h3
  ·rw [h2]
   have hks:k<s.size:=(List.getElem?_eq_some_iff.1 hk).1
   have hki:k=i:=by
    rcases Nat.lt_trichotomy k i with hl | he | hg
    ·exact absurd hi2 (hj i hl)
    ·exact he
    ·rw [data_get s k hks] at hk
     exact absurd (by rw [Option.some.inj hk];rfl) (hn k hg hks)
   subst hki
   simp
theorem last_bound (l:List UInt8):(lastS l).getD 0≤l.length:=by
 rcases lastS_spec l with ⟨h,_⟩ | ⟨k,h,hk,_⟩
 ·rw [h];simp
 ·rw [h]
  have:=(List.getElem?_eq_some_iff.1 hk).1
  simp only [Option.getD_some]
  omega
end Go.Proofs.YtcgclpcocdappaaGreatDoor
namespace Go.Proofs.YtcgclpcocdappaaGreatDoor
open Go.RowKit
/-! ### Path -/
set_option maxRecDepth 100000 in
theorem path1_any (s:ByteArray) (w:World):Calls Tryz.prog 143 #[.string s] w fun e w'=>e=.returned (.bool (!nameB s.data.toList))∧Below w.heap.size w w':=by
 go_enter Tryz.func143,Tryz.ntmps143
 go_wp2_with fail
 refine (name_any s w).mono ?_
 rintro e w1 ⟨rfl,hb⟩
 go_wp2_with fail
 go_ret
 exact ⟨rfl,hb⟩
/-- the cell of internal/bytealg.MaxLen holds some number -/
def HasMax (w:World):Prop:=∃ m,w.cell? ⟨0,0,none⟩=some (.int .i64 m)
theorem HasMax.lt {w:World} (h:HasMax w):0<w.heap.size:=by
 obtain ⟨m,hm⟩:=h
 exact World.block_lt_of_cell? w _ hm
theorem HasMax.below {w w':World} (h:HasMax w) (hb:Below w.heap.size w w'):HasMax w':=by
 obtain ⟨m,hm⟩:=h
 exact ⟨m,(hb.cell (World.block_lt_of_cell? w _ hm)).trans hm⟩
theorem HasMax.of_shaped {w:World} (h:w.ShapedOpen Tryz.prog):HasMax w:=Go.Proofs.cell_of_shapedOpen_int (zero:=#[.int .i64 0]) (t:=3) h (of_decide_eq_true (by kernel_rfl)) (by kernel_rfl) rfl (by kernel_rfl) (by kernel_rfl) Tryz.underlying3
theorem path_parts (s:ByteArray) (hne:s.data.toList≠[]):(decide (Lib.countB s ⟨#[47]⟩+1≤4) && !((Lib.splitB ⟨#[47]⟩ 0 (Lib.countB s ⟨#[47]⟩) s).any fun x=>!nameB x.data.toList))=pathB s.data.toList:=by
 have he:s.data.toList.isEmpty=false:=by
  cases h:s.data.toList with
  | nil=>exact absurd h hne
  | cons a r=>rfl
 unfold pathB
 rw [he,← splitB_parts s,List.length_map,splitB_len,List.all_map,List.all_eq_not_any_not]
 rfl
set_option maxRecDepth 100000 in
set_option maxHeartbeats 1000000 in
theorem path_any (s:ByteArray) (w:World) (hs:s.size≤4000000000) (hm:HasMax w) :
  Calls Tryz.prog 80 #[.string s] w fun e w'=>e=.returned (.bool (pathB s.data.toList))∧Below w.heap.size w w':=by
 obtain ⟨m,hm⟩:=hm
 have hsp:=Lib.hid (Tryz.strings_Split s ⟨#[47]⟩ m w (by omega) hm (Nat.le_refl _))
 have hlen:=Lib.hid (splitB_len s)
 have hpp:=Lib.hid (path_parts s)
 have htl:=Lib.hid (toList_data s)
 have hcount:=Lib.hid (Lib.countB_le ⟨#[47]⟩ (Nat.le_refl _) _ s (Nat.le_refl _))
 go_enter Tryz.func80,Tryz.ntmps80
 go_wp2_with fail
 ·have h0:s.toList.isEmpty=true:=by assumption
  rw [htl.out,List.isEmpty_iff] at h0
  go_ret
  exact ⟨by rw [h0];rfl,Below.refl _ _⟩
 ·have h0:s.toList.isEmpty=false:=by assumption
  rw [htl.out] at h0
  have h1:=Lib.hid (hpp.out (fun e=>by rw [e] at h0;cases h0))
  clear h0
  obtain ⟨L,hL⟩:∃ L,L=Lib.splitB ⟨#[47]⟩ 0 (Lib.countB s ⟨#[47]⟩) s:=⟨_,rfl⟩
  obtain ⟨N,hN⟩:∃ N,N=Lib.countB s ⟨#[47]⟩+1:=⟨_,rfl⟩
  have hN2:N≤4000000001:=by have:=hcount.out;omega
  rw [← hN] at hsp hlen h1
  rw [← hL] at hsp hlen h1
  have hsp:=hsp.out
  clear hcount hpp hL hN
  obtain ⟨b,hbe⟩:∃ b,b=L.any fun x=>!nameB x.data.toList:=⟨_,rfl⟩
  rw [← hbe] at h1
  obtain ⟨W,hW⟩:∃ W,W=w.alloc (Obj.cells (List.map Value.string L).toArray 9):=⟨_,rfl⟩
  have hbW:Below w.heap.size w W:=by rw [hW];exact Below.alloc (Below.refl _ _) (Nat.le_refl _) _
  have hrW:Reads W (w.heap.size+1) 1 (some ⟨w.heap.size,0,none⟩) N (L.map Value.string):=by
   rw [hW]
   exact Reads.lit w (List.map Value.string L).toArray 9 (by simp [hlen.out])
  have hsW:W.heap.size=w.heap.size+1:=by rw [hW];show (w.heap.push _).size=_;rw [Array.size_push]
  have hc:=Lib.hid (fiS_contains Value.string (fun x=>!nameB x.data.toList) L N hlen.out.symm (some ⟨w.heap.size,0,none⟩) N W (w.heap.size+1) hrW (by omega) (by omega) (fun x _ W=>path1_any x W))
  rw [← hbe] at hc
  rw [← hW] at hsp
  clear hW hbe
  refine hsp.mono ?_
  clear hsp
  rintro e w1 ⟨rfl,rfl⟩
  go_wp2_with fail
  ·have h4:(N:Int)≤4:=by assumption
   refine hc.out.mono ?_
   rintro e w2 ⟨rfl,hb2⟩
   go_wp2_with fail
   go_ret
   refine ⟨congrArg Ending.returned (congrArg Value.bool ?_),hbW.trans (hb2.mono (by omega))⟩
   rw [← h1.out,decide_eq_true (show N≤4 by omega)]
   rfl
  ·have h4:4<(N:Int):=by assumption
   go_ret
   refine ⟨congrArg Ending.returned (congrArg Value.bool ?_),hbW⟩
   rw [← h1.out,decide_eq_false (show ¬ N≤4 by omega)]
   rfl
end Go.Proofs.YtcgclpcocdappaaGreatDoor
