/-
  tree.amount; slices.IndexFunc at sets and at snapshots; tree.Find, tree.Snap: by their contracts. The shelf's words of a text's parts, in the words of the plain law.
-/
import Derived.Test.YtiojfffgiejibaaGreatDoorQsM1
import Derived.WalkKit
import Derived.WalkSpells
import Derived.Below
import Derived.Laws.OwnMore
import Derived.Deep.AppendLies
import Derived.Deep.Draws
import Derived.Laws.Rows
import Derived.Maps.AppendAt
import Derived.RegionTactic
import Derived.OwnWalk
import Derived.Deep.QuietTactic
import Derived.BigQuiet
import Derived.Lib.Hide
import Derived.Laws.CopyOwn
import Derived.IntWalk
import Derived.Test.YtiojfffgiejibaaGreatDoorRows
import Derived.Handy
import Derived.Deep.Quiet
import Derived.Orders
import Derived.Sort.Walk0
import Derived.Sort.KeysCollected
import Derived.Laws.BytesString
import Derived.Laws.IdiomStrings
import Derived.Lib.ConvBytes
import Derived.Lib.Strings
import Derived.Lib.SplitLaws
import Derived.Lib.LastIndexByte
import Derived.Test.YtiojfffgiejibaaGreatDoorQ0
import Derived.Test.YtiojfffgiejibaaGreatDoorQs1
import Derived.Test.YtiojfffgiejibaaGreatDoorQs2
import Derived.Test.YtiojfffgiejibaaGreatDoorQs3
import Derived.Test.YtiojfffgiejibaaGreatDoorQs5
import Derived.Test.YtiojfffgiejibaaGreatDoorQs7
namespace Go.Proofs.YtiojfffgiejibaaGreatDoor
open Go.RowKit
set_option maxRecDepth 100000 in
theorem amount_any (n k:Int) (w:World):Calls Tryz.prog 105 #[.int .i64 n,.int .i64 k] w fun e w'=>e=.returned (.bool (amt n k))∧w'=w:=by
 go_enter Tryz.func105,Tryz.ntmps105
 exact mZ35
set_option maxRecDepth 100000 in
set_option maxHeartbeats 1000000 in
theorem fiSet_index {α:Type} (f0 f1 f2 f3 f4:α→Value) (p:α→Bool) (l:List α) (n:Nat) (hnl:n=l.length) (A:Option Addr) (c:Nat) (p0:Addr) (Keep:World→Prop) (w:World) (B:Nat)
  (hr:Reads w B 5 A n (cellsK (fun x=>[f0 x,f1 x,f2 x,f3 x,f4 x]) l)) (hB:B≤w.heap.size) (hn:n≤5000000000000) (hp:PredK Tryz.prog 87 #[.pointer (some p0)] (fun x=>#[f0 x,f1 x,f2 x,f3 x,f4 x]) (·∈l) p Keep) (hk0:Keep w) :
  Calls Tryz.prog 86 #[.slice A n c,.func (.func 87) #[] #[.pointer (some p0)]] w fun e w'=>e=.returned (.int .i64 (firstI p l))∧Below w.heap.size w w':=by
 have HN:=Lib.hid hnl
 have HP:=Lib.hid hp
 clear hnl hp
 go_enter Tryz.func86,Tryz.ntmps86
 exact mZ37
set_option maxRecDepth 100000 in
set_option maxHeartbeats 1000000 in
theorem fiSnap_index {α:Type} (f0 f1 f2 f3 f4:α→Value) (p:α→Bool) (l:List α) (n:Nat) (hnl:n=l.length) (A:Option Addr) (c:Nat) (p0:Addr) (Keep:World→Prop) (w:World) (B:Nat)
  (hr:Reads w B 5 A n (cellsK (fun x=>[f0 x,f1 x,f2 x,f3 x,f4 x]) l)) (hB:B≤w.heap.size) (hn:n≤5000000000000) (hp:PredK Tryz.prog 130 #[.pointer (some p0)] (fun x=>#[f0 x,f1 x,f2 x,f3 x,f4 x]) (·∈l) p Keep) (hk0:Keep w) :
  Calls Tryz.prog 129 #[.slice A n c,.func (.func 130) #[] #[.pointer (some p0)]] w fun e w'=>e=.returned (.int .i64 (firstI p l))∧Below w.heap.size w w':=by
 exact mZ38
set_option maxRecDepth 100000 in
theorem findC_any (s:BS) (v1 v2 v3 v4:Value) (p:BS) (pb:Nat) (w:World) (hpb:pb<w.heap.size) (hk:w.cell? ⟨pb,0,none⟩=some (.string ⟨p.toArray⟩)) :
  Calls Tryz.prog 87 #[.agg #[.string ⟨s.toArray⟩,v1,v2,v3,v4],.pointer (some ⟨pb,0,none⟩)] w fun e w'=>e=.returned (.bool (s == p))∧Below w.heap.size w w':=by
 have hk1:=(World.cell?_alloc_lt w (.cells #[.string ⟨s.toArray⟩,v1,v2,v3,v4] 56) ⟨pb,0,none⟩ hpb).trans hk
 have hb:=(Below.refl w.heap.size w).alloc (Nat.le_refl _) (.cells #[.string ⟨s.toArray⟩,v1,v2,v3,v4] 56)
 go_enter Tryz.func87,Tryz.ntmps87
 exact mZ39
set_option maxRecDepth 100000 in
theorem snapC_any (s:BS) (v1 v2 v3 v4:Value) (p:BS) (pb:Nat) (w:World) (hpb:pb<w.heap.size) (hk:w.cell? ⟨pb,0,none⟩=some (.string ⟨p.toArray⟩)) :
  Calls Tryz.prog 130 #[.agg #[.string ⟨s.toArray⟩,v1,v2,v3,v4],.pointer (some ⟨pb,0,none⟩)] w fun e w'=>e=.returned (.bool (s == p))∧Below w.heap.size w w':=by
 have hk1:=(World.cell?_alloc_lt w (.cells #[.string ⟨s.toArray⟩,v1,v2,v3,v4] 58) ⟨pb,0,none⟩ hpb).trans hk
 have hb:=(Below.refl w.heap.size w).alloc (Nat.le_refl _) (.cells #[.string ⟨s.toArray⟩,v1,v2,v3,v4] 58)
 go_enter Tryz.func130,Tryz.ntmps130
 exact mZ39
set_option maxRecDepth 100000 in
set_option maxHeartbeats 1000000 in
theorem find_any (v0 v1 v2 v4 v5 v6:Value) (l:List SetR) (n:Nat) (hnl:n=l.length) (A:Option Addr) (c:Nat) (p:BS) (w:World) (B:Nat) (hr:Reads w B 5 A n (cellsK encSet l)) (hB:B≤w.heap.size) (hn:n≤5000000000000) :
  Calls Tryz.prog 42 #[.agg #[v0,v1,v2,.slice A n c,v4,v5,v6],.string ⟨p.toArray⟩] w fun e w'=>e=.returned (.int .i64 (findS l p))∧Below w.heap.size w w':=by
 have hb1:=(Below.refl w.heap.size w).alloc (Nat.le_refl _) (.cells #[v0,v1,v2,.slice A n c,v4,v5,v6] 27)
 have hb2:=hb1.alloc hb1.size (.cells #[.string ⟨p.toArray⟩] 9)
 obtain ⟨W2,hW2⟩:∃ W,W=(w.alloc (.cells #[v0,v1,v2,.slice A n c,v4,v5,v6] 27)).alloc (.cells #[.string ⟨p.toArray⟩] 9):=⟨_,rfl⟩
 have hsz:W2.heap.size=w.heap.size+2:=tZ40
 have hk:W2.cell? ⟨w.heap.size+1,0,none⟩=some (.string ⟨p.toArray⟩):=by
  rw [hW2]
  have:=(Blk.new (w.alloc (.cells #[v0,v1,v2,.slice A n c,v4,v5,v6] 27)) 9 #[.string ⟨p.toArray⟩]).cell 0
  rw [show (w.alloc (.cells #[v0,v1,v2,.slice A n c,v4,v5,v6] 27)).heap.size=w.heap.size+1 by simp] at this
  exact this
 rw [← hW2] at hb2
 have HC:=Lib.hid (fiSet_index (fun x=>.string ⟨x.path.toArray⟩) (fun x=>.string ⟨x.org.toArray⟩) (fun x=>.slice x.body.A x.body.n x.body.c) (fun x=>.slice x.snaps.A x.snaps.n x.snaps.c) (fun x=>.slice x.own.A x.own.n x.own.c) (fun x=>x.path == p) l n hnl A c ⟨w.heap.size+1,0,none⟩ (fun W=>W.cell? ⟨w.heap.size+1,0,none⟩=some (.string ⟨p.toArray⟩)∧w.heap.size+1<W.heap.size) W2 B (hr.below (hb2.mono hB)) tZ1 hn
  ⟨fun x W _ hK=>findC_any x.path _ _ _ _ p _ W hK.2 hK.1,fun W W' hK hb=>⟨(hb.cell (p:=⟨w.heap.size+1,0,none⟩) hK.2).trans hK.1,Nat.lt_of_lt_of_le hK.2 hb.size⟩⟩ ⟨hk,by omega⟩)
 have HB:=Lib.hid hb2
 have HSZ:=Lib.hid hsz
 clear hnl hr hk hsz hb1 hb2
 go_enter Tryz.func42,Tryz.ntmps42
 exact mZ40
set_option maxRecDepth 100000 in
set_option maxHeartbeats 1000000 in
theorem snapAt_any (v0 v1 v2 v4:Value) (l:List SnapR) (n:Nat) (hnl:n=l.length) (A:Option Addr) (c:Nat) (p:BS) (w:World) (B:Nat) (hr:Reads w B 5 A n (cellsK encSnap l)) (hB:B≤w.heap.size) (hn:n≤5000000000000) :
  Calls Tryz.prog 78 #[.agg #[v0,v1,v2,.slice A n c,v4],.string ⟨p.toArray⟩] w fun e w'=>e=.returned (.int .i64 (findN l p))∧Below w.heap.size w w':=by
 have hb1:=(Below.refl w.heap.size w).alloc (Nat.le_refl _) (.cells #[v0,v1,v2,.slice A n c,v4] 56)
 have hb2:=hb1.alloc hb1.size (.cells #[.string ⟨p.toArray⟩] 9)
 obtain ⟨W2,hW2⟩:∃ W,W=(w.alloc (.cells #[v0,v1,v2,.slice A n c,v4] 56)).alloc (.cells #[.string ⟨p.toArray⟩] 9):=⟨_,rfl⟩
 have hsz:W2.heap.size=w.heap.size+2:=tZ40
 have hk:W2.cell? ⟨w.heap.size+1,0,none⟩=some (.string ⟨p.toArray⟩):=by
  rw [hW2]
  have:=(Blk.new (w.alloc (.cells #[v0,v1,v2,.slice A n c,v4] 56)) 9 #[.string ⟨p.toArray⟩]).cell 0
  rw [show (w.alloc (.cells #[v0,v1,v2,.slice A n c,v4] 56)).heap.size=w.heap.size+1 by simp] at this
  exact this
 rw [← hW2] at hb2
 have HC:=Lib.hid (fiSnap_index (fun x=>.string ⟨x.nm.toArray⟩) (fun x=>.int .i64 x.gd) (fun x=>.slice x.body.A x.body.n x.body.c) (fun x=>.slice x.tags.A x.tags.n x.tags.c) (fun x=>.slice x.own.A x.own.n x.own.c) (fun x=>x.nm == p) l n hnl A c ⟨w.heap.size+1,0,none⟩ (fun W=>W.cell? ⟨w.heap.size+1,0,none⟩=some (.string ⟨p.toArray⟩)∧w.heap.size+1<W.heap.size) W2 B (hr.below (hb2.mono hB)) tZ1 hn
  ⟨fun x W _ hK=>snapC_any x.nm _ _ _ _ p _ W hK.2 hK.1,fun W W' hK hb=>⟨(hb.cell (p:=⟨w.heap.size+1,0,none⟩) hK.2).trans hK.1,Nat.lt_of_lt_of_le hK.2 hb.size⟩⟩ ⟨hk,by omega⟩)
 have HB:=Lib.hid hb2
 have HSZ:=Lib.hid hsz
 clear hnl hr hk hsz hb1 hb2
 go_enter Tryz.func78,Tryz.ntmps78
 exact mZ40
end Go.Proofs.YtiojfffgiejibaaGreatDoor
namespace Go.Proofs.YtiojfffgiejibaaGreatDoor
open Go.Lib
theorem index_none (c:UInt8) (s:List UInt8) (h:c ∉ s):index s [c]=-1:=by
 induction s with
 | nil=>rfl
 | cons b r ih =>
  have hb:([c].isPrefixOf (b :: r))=false:=by
   exact mZ41
  unfold index
  rw [hb,ih (fun e=>h (List.mem_cons_of_mem _ e))]
  rfl
theorem index_some (c:UInt8) (a r:List UInt8) (h:c ∉ a):index (a++c :: r) [c]=(a.length:Int):=by
 induction a with
 | nil=>simp [index,List.isPrefixOf]
 | cons b a ih =>
  have hb:([c].isPrefixOf (b :: (a++c :: r)))=false:=by
   exact mZ41
  rw [List.cons_append]
  unfold index
  rw [hb,ih (fun e=>h (List.mem_cons_of_mem _ e))]
  have:(((a.length:Nat):Int) == -1)=false:=tZ137
  simp [this]
/-- a text holds no c, or one first -/
theorem first_split (c:UInt8) (s:List UInt8):c ∉ s∨∃ a r,s=a++c :: r∧c ∉ a:=by
 induction s with
 | nil=>exact .inl tZ3
 | cons b s ih =>
  by_cases hb:c=b
  ·exact .inr ⟨[],s,by simp [hb],by simp⟩
  ·rcases ih with h | ⟨a,r,rfl,h⟩
   ·exact .inl (by simp [hb,h])
   ·exact .inr ⟨b :: a,r,rfl,by simp [hb,h]⟩
theorem partsL_one (a:List UInt8) (h:47 ∉ a):partsL a=[a]:=by
 induction a with
 | nil=>rfl
 | cons b a ih =>
  unfold partsL
  exact mZ42
theorem partsL_two (a r:List UInt8) (h:47 ∉ a):partsL (a++47 :: r)=a :: partsL r:=by
 induction a with
 | nil=>simp [partsL]
 | cons b a ih =>
  rw [List.cons_append,partsL,if_neg (fun e=>h tZ75),ih (fun e=>h (List.mem_cons_of_mem _ e))]
theorem splitK_parts (n:Nat):∀ s:List UInt8,s.length≤n→splitK [47] 0 (count s [47]) s=partsL s:=by
 induction n with
 | zero =>
  intro s hs
  obtain rfl:=List.eq_nil_of_length_eq_zero (Nat.le_zero.1 hs)
  rfl
 | succ n ih =>
  intro s hs
  rcases first_split 47 s with h | ⟨a,r,rfl,h⟩
  ·rw [partsL_one s h,count_miss (index_none 47 s h)]
   rfl
  ·have hi:=index_some 47 a r h
   have hd:(a++47 :: r).drop (a.length+1)=r:=by
    rw [← List.drop_drop,List.drop_append_of_le_length (Nat.le_refl _)]
    simp
   have hc:=count_hit (s:=a++47 :: r) (sub:=[47]) (i:=a.length) tZ3 hi
   rw [partsL_two a r h,hc]
   rw [show ([47]:List UInt8).length=1 from rfl,hd,Nat.add_comm 1]
   have hm:(index (a++47 :: r) [47] == -1)=false:=by rw [hi,beq_eq_false_iff_ne];omega
   unfold splitK
   rw [hm,hi,if_neg tZ3]
   simp only [Int.toNat_natCast,Nat.add_zero,List.length_singleton,hd]
   rw [List.take_left' rfl,ih r (by simp at hs;omega)]
theorem splitB_parts (s:ByteArray):(splitB ⟨#[47]⟩ 0 (countB s ⟨#[47]⟩) s).map (·.data.toList)=partsL s.data.toList:=by
 rw [splitB_data]
 exact splitK_parts _ _ (Nat.le_refl _)
theorem splitB_len (s:ByteArray):(splitB ⟨#[47]⟩ 0 (countB s ⟨#[47]⟩) s).length=countB s ⟨#[47]⟩+1:=splitB_all ⟨#[47]⟩ (Nat.le_refl _) 0 _ s rfl
theorem atL_none (s:List UInt8) (h:64 ∉ s):atL s=none:=by
 induction s with
 | nil=>rfl
 | cons b s ih =>
  unfold atL
  exact mZ42
theorem cut_at (s:List UInt8):cut s [64]=match atL s with
  | some (p,n)=>(p,n,true)
  | none=>(s,[],false):=by
 rcases first_split 64 s with h | ⟨a,r,rfl,h⟩
 ·rw [atL_none s h]
  unfold cut
  rw [index_none 64 s h]
  rfl
 ·rw [atL_join a r (fun c hc e=>h (by rw [← e];exact hc))]
  unfold cut
  rw [index_some 64 a r h,if_pos tZ1]
  have hd:(a++64 :: r).drop (a.length+1)=r:=by
   rw [← List.drop_drop,List.drop_append_of_le_length (Nat.le_refl _)]
   simp
  simp only [Int.toNat_natCast,List.length_singleton,hd]
  rw [List.take_left' rfl]
theorem lastS_spec (l:List UInt8):(lastS l=none∧47 ∉ l)∨∃ k,lastS l=some k∧l[k]?=some 47∧∀ j,k<j→l[j]?≠some 47:=by
 induction l with
 | nil=>exact .inl ⟨rfl,by simp⟩
 | cons b l ih =>
  unfold lastS
  rcases ih with ⟨h,hn⟩ | ⟨k,h,hk,hj⟩
  ·rw [h]
   by_cases hb:b=47
   ·refine .inr ⟨0,by simp [hb],by simp [hb],?_⟩
    intro j hj e
    obtain ⟨j,rfl⟩:∃ i,j=i+1:=⟨j-1,by omega⟩
    rw [zD] at e
    exact hn (List.mem_of_getElem? e)
   ·exact .inl ⟨by simp [hb],by simp [hn];exact fun e=>hb e.symm⟩
  ·rw [h]
   refine .inr ⟨k+1,rfl,by simpa using hk,?_⟩
   intro j hlt e
   obtain ⟨j,rfl⟩:∃ i,j=i+1:=⟨j-1,by omega⟩
   rw [zD] at e
   exact hj j tZ1 e
theorem data_get (s:ByteArray) (j:Nat) (hj:j<s.size):s.data.toList[j]?=some s.data[j]!:=by
 have h:j<s.data.size:=hj
 rw [getElem!_pos s.data j h,Array.getElem?_toList,Array.getElem?_eq_getElem h]
theorem last_eq (s:ByteArray):(max (Lib.lastIndexByte s 47) 0)=(((lastS s.data.toList).getD 0:Nat):Int):=by
 rcases Lib.lastIndexByte_spec s 47 with ⟨h,hn⟩ | ⟨i,hi,h,hc,hn⟩
 ·rw [h]
  rcases lastS_spec s.data.toList with ⟨h2,_⟩ | ⟨k,_,hk,_⟩
  ·rw [h2];rfl
  ·exfalso
   have hks:k<s.size:=(List.getElem?_eq_some_iff.1 hk).1
   rw [data_get s k hks] at hk
   exact hn k hks (by rw [Option.some.inj hk];rfl)
 ·rw [h]
  have h47:s.data[i]! = 47:=UInt8.toNat_inj.1 (by have e:(47:UInt8).toNat=47:=rfl;rw [e];omega)
  have hi2:s.data.toList[i]?=some 47:=by rw [data_get s i hi,h47]
  rcases lastS_spec s.data.toList with ⟨_,h3⟩ | ⟨k,h2,hk,hj⟩
  ·exact absurd (List.mem_of_getElem? hi2) h3
  ·rw [h2]
   have hks:k<s.size:=(List.getElem?_eq_some_iff.1 hk).1
   have hki:k=i:=by
    rcases Nat.lt_trichotomy k i with hl | he | hg
    ·exact absurd hi2 (hj i hl)
    ·exact he
    ·rw [data_get s k hks] at hk
     exact absurd (by rw [Option.some.inj hk];rfl) (hn k hg hks)
   subst hki
   simp
theorem last_bound (l:List UInt8):(lastS l).getD 0≤l.length:=by
 rcases lastS_spec l with ⟨h,_⟩ | ⟨k,h,hk,_⟩
 ·rw [h];simp
 ·rw [h]
  have:=(List.getElem?_eq_some_iff.1 hk).1
  simp only [Option.getD_some]
  omega
end Go.Proofs.YtiojfffgiejibaaGreatDoor
