/-
  Rows that are written over, in themselves: what can be read of them stays good. slices.Clone at blocks, texts, properties and entries; the page's Own of contents: by their contracts. A slice literal of one wide struct: all its cells at once. tree.each at snapshots, sets and stages, over any contract of what copies one. A tenant's rows that are written over, in themselves: what can be read of them stays good.
-/
import Derived.Test.YtiojfffgiejibaaGreatDoorQsM1
import Derived.Deep.MidRow
import Derived.WalkKit
import Derived.WalkSpells
import Derived.Below
import Derived.Laws.OwnMore
import Derived.Deep.AppendLies
import Derived.Deep.Draws
import Derived.Laws.Rows
import Derived.Maps.AppendAt
import Derived.RegionTactic
import Derived.OwnWalk
import Derived.Deep.QuietTactic
import Derived.BigQuiet
import Derived.Lib.Hide
import Derived.Laws.CopyOwn
import Derived.IntWalk
import Derived.Deep.Quiet
import Derived.Orders
import Derived.Test.YtiojfffgiejibaaGreatDoorRows
import Derived.Handy
import Derived.Great.BuildSlice
import Derived.Lib.SplitLaws
import Derived.Lib.LastIndexByte
import Derived.Lib.Strings
import Derived.ShutString
import Derived.Sort.Walk0
import Derived.Sort.KeysCollected
import Derived.Shelf.Strings.Search1
import Derived.Shelf.Strings.Search2
import Derived.Shelf.Strings.Search3
import Derived.Shelf.Strings.Cut
import Derived.Shelf.Strings.Count
import Derived.Shelf.LaysM
import Derived.Shelf.Strings.Shaped
import Derived.Shelf.Strings.LastIndex
import Derived.Shelf.Strings.Split
import Derived.Shelf.Strings.SplitShaped
import Derived.Shelf.Unicode.Decode
import Derived.Shelf.Strings.RuneCount
import Derived.Shelf.Strings.Explode
import Derived.Shelf.Unicode.DecodeSlow
import Derived.Shelf.Slices.Turned
import Derived.Test.YtiojfffgiejibaaGreatDoorProg
import Derived.Laws.BytesString
import Derived.Laws.IdiomStrings
import Derived.Lib.ConvBytes
import Derived.Test.YtiojfffgiejibaaGreatDoorQ0
import Derived.Test.YtiojfffgiejibaaGreatDoorQs1
import Derived.Test.YtiojfffgiejibaaGreatDoorQs5
import Derived.Test.YtiojfffgiejibaaGreatDoorQs7
import Derived.Test.YtiojfffgiejibaaGreatDoorQs10
import Derived.Test.YtiojfffgiejibaaGreatDoorQs11
import Derived.Test.YtiojfffgiejibaaGreatDoorQs19
import Derived.Test.YtiojfffgiejibaaGreatDoorQs20
namespace Go.Proofs.YtiojfffgiejibaaGreatDoor
open Go.RowKit
def setL (xs:List Value):Nat→List Value→List Value
 | _,[]=>xs
 | o,u :: r=>setL (xs.set o u) (o+1) r
theorem grown_trans {a b c:World} {r:Option Nat} (h:a.grownBy b r) (k:b.grownBy c r):a.grownBy c r :=
 ⟨k.os.trans h.os,k.tape.trans h.tape,k.output.trans h.output,Nat.le_trans h.size k.size,fun x hx hr=>(k.block x (Nat.lt_of_lt_of_le hx h.size) hr).trans (h.block x hx hr)⟩
theorem stored_all {base size n cap g:Nat} {e:TypeId} (cs:List Value):∀ (w:World) (xs:List Value) (o:Nat),w.ownsRow base e size (.slice (some ⟨g,0,none⟩) n cap) n xs →
  (w.setCells g o cs).ownsRow base e size (.slice (some ⟨g,0,none⟩) n cap) n (setL xs o cs)∧w.grownBy (w.setCells g o cs) (some g):=by
 induction cs with
 | nil=>intro w xs o h;exact ⟨h,rfl,rfl,rfl,Nat.le_refl _,fun _ _ _=>rfl⟩
 | cons u r ih =>
  intro w xs o h
  obtain ⟨h1,h2⟩:=h.stored o u
  obtain ⟨h3,h4⟩:=ih _ _ (o+1) h1
  exact ⟨h3,grown_trans h2 h4⟩
/-- a row of lo ..< hi -/
def RowW (w:World) (lo hi:Nat) (T:TypeId) (k:Nat) (v:Value) (n:Nat) (xs:List Value):Prop:=w.ownsRow lo T k v n xs∧∀ g,v.ownBlock=some g→g<hi
def RowX (w:World) (lo hi:Nat) (T:TypeId) (k:Nat) (v:Value):Prop:=∃ n xs,RowW w lo hi T k v n xs
theorem RowX.nil (w:World) (lo hi:Nat) (T:TypeId) (k:Nat):RowX w lo hi T k (.slice none 0 0):=⟨0,[],World.ownsRow_nil _ _ _ _,fun g h=>by simp [Value.ownBlock] at h⟩
section
variable {w w':World} {lo hi base size n cap g:Nat} {e:TypeId} {xs:List Value}
theorem RowW.kept {T:TypeId} {k m:Nat} {v:Value} {ys:List Value} (h:RowW w lo hi T k v m ys) (hg:w.grownBy w' (some g)) (hne:v.ownBlock≠some g):RowW w' lo hi T k v m ys:=⟨h.1.kept hg (.inr hne),h.2⟩
theorem own_blk {T:TypeId} {k m c:Nat} {ys:List Value} (h:w.ownsRow lo T k (.slice (some ⟨g,0,none⟩) m c) m ys):∃ cur,Blk w g T cur:=by
 rcases h.2 with ⟨h0,_⟩ | ⟨g',cap',cur,hv,_,hg,_⟩
 ·cases h0
 ·cases hv
  exact ⟨cur,hg⟩
/-- a row is as it was, or it is the row that is written -/
theorem RowW.or (hrow:w.ownsRow base e size (.slice (some ⟨g,0,none⟩) n cap) n xs) {T:TypeId} {k m:Nat} {v:Value} {ys:List Value} (h:RowW w lo hi T k v m ys) (o:Nat) (cs:List Value) :
  RowW (w.setCells g o cs) lo hi T k v m ys∨T=e∧v.ownBlock=some g∧RowW (w.setCells g o cs) lo hi T k v m (setL ys o cs):=by
 by_cases hb:v.ownBlock=some g
 ·refine .inr ?_
  rcases h.1.2 with ⟨rfl,_⟩ | ⟨g',cap',cur,hv,hlo,hg,h1,h2,h3,h4⟩
  ·simp [Value.ownBlock] at hb
  ·subst hv
   have:g'=g:=by simpa [Value.ownBlock] using hb
   subst this
   obtain ⟨cur2,hk⟩:=own_blk hrow
   have hk':Blk w g' T cur:=hg
   have hT:T=e:=by
    unfold Blk at hk hk'
    rw [hk'] at hk
    injection hk with hk
    injection hk
   exact ⟨hT,rfl,(stored_all cs w ys o h.1).1,h.2⟩
 ·exact .inl (h.kept (stored_all cs w xs o hrow).2 hb)
theorem RowX.set (hrow:w.ownsRow base e size (.slice (some ⟨g,0,none⟩) n cap) n xs) {T:TypeId} {k:Nat} {v:Value} (h:RowX w lo hi T k v) (o:Nat) (cs:List Value):RowX (w.setCells g o cs) lo hi T k v:=by
 obtain ⟨m,ys,h⟩:=h
 rcases h.or hrow o cs with h | ⟨_,_,h⟩
 ·exact ⟨m,ys,h⟩
 ·exact ⟨m,_,h⟩
theorem RowX.below {T:TypeId} {k:Nat} {v:Value} (h:RowX w lo hi T k v) (hb:Below w.heap.size w w'):RowX w' lo hi T k v:=by
 obtain ⟨n,xs,h⟩:=h
 exact ⟨n,xs,own_below h.1 hb,h.2⟩
end
/-- what changed lies in lo ..< hi -/
structure OnlyIn (lo hi:Nat) (w w':World):Prop where
 low:Below lo w w'
 high:∀ k,hi≤k→k<w.heap.size→w'.heap[k]?=w.heap[k]?
theorem OnlyIn.refl (lo hi:Nat) (w:World):OnlyIn lo hi w w:=⟨Below.refl _ _,fun _ _ _=>rfl⟩
theorem OnlyIn.trans {lo hi:Nat} {a b c:World} (h:OnlyIn lo hi a b) (k:OnlyIn lo hi b c):OnlyIn lo hi a c :=
 ⟨h.low.trans k.low,fun x hx hs=>(k.high x hx (Nat.lt_of_lt_of_le hs h.low.size)).trans (h.high x hx hs)⟩
theorem OnlyIn.of_below {lo hi:Nat} {w w':World} (h:Below w.heap.size w w') (hlo:lo≤w.heap.size):OnlyIn lo hi w w':=⟨h.mono hlo,fun k _ hs=>h.block k hs⟩
theorem OnlyIn.grown {lo hi g:Nat} {w w':World} (h:w.grownBy w' (some g)) (h1:lo≤g) (h2:g<hi) (hlo:lo≤w.heap.size):OnlyIn lo hi w w' :=
 ⟨⟨h.os,h.tape,h.output,h.size,fun k hk=>h.block k tZ1 tZ7⟩,fun k hk hs=>h.block k hs tZ7⟩
theorem own_only {lo hi base size n:Nat} {e:TypeId} {v:Value} {xs:List Value} {w w':World} (h:w.ownsRow base e size v n xs) (hb:hi≤base) (ho:OnlyIn lo hi w w'):w'.ownsRow base e size v n xs:=by
 refine ⟨h.1,?_⟩
 rcases h.2 with h0 | ⟨g,cap,cur,h1,h2,h3,h4⟩
 ·exact .inl h0
 ·refine .inr ⟨g,cap,cur,h1,h2,?_,h4⟩
  rw [ho.high g tZ1 (Blk.lt (cs:=cur) (t:=e) h3)]
  exact h3
theorem FS.own.only {α:Type} {w w':World} {lo hi base k:Nat} {t:TypeId} {enc:α→List Value} {s:FS α} (h:s.own w base t k enc) (hb:hi≤base) (ho:OnlyIn lo hi w w'):s.own w' base t k enc:=⟨h.1,own_only h.2 hb ho⟩
section
variable {w w':World} {base lo hi:Nat}
theorem RowW.of_own {T:TypeId} {k n:Nat} {v:Value} {xs:List Value} (h:w.ownsRow lo T k v n xs):RowW w lo w.heap.size T k v n xs:=⟨h,fun g hg=>(h.lt g hg).2⟩
theorem FS.own.rowx {α:Type} {k:Nat} {t:TypeId} {enc:α→List Value} {s:FS α} (h:s.own w lo t k enc):RowX w lo w.heap.size t k s.val:=⟨_,_,RowW.of_own h.2⟩
end
/-! ### an element of a row -/
theorem RowW.el {w:World} {lo hi k n:Nat} {T:TypeId} {v:Value} {xs:List Value} (h:RowW w lo hi T k v n xs) {i:Nat} (hi':i<n) :
  ∃ g c,v=.slice (some ⟨g,0,none⟩) n c∧lo≤g∧g<hi∧n≤maxLen∧(∀ j,j<n*k→w.cell? ⟨g,j,none⟩=xs[j]?)∧w.there g (i*k) k∧w.ownsRow lo T k (.slice (some ⟨g,0,none⟩) n c) n xs:=by
 obtain ⟨ho,hh⟩:=h
 rcases ho.2 with ⟨_,h0⟩ | ⟨g,cap,cur,hv,hlo,hg,hnc,hcm,hcs,htk⟩
 ·omega
 ·subst hv
  have hle:(i+1)*k≤n*k:=Nat.mul_le_mul_right _ hi'
  rw [Nat.add_mul,Nat.one_mul] at hle
  have hk2:n*k≤cap*k:=Nat.mul_le_mul_right _ hnc
  have hc:∀ j,w.cell? ⟨g,j,none⟩=cur[j]?:=fun j=>cell_of_row w g j cur T (0,0) hg
  refine ⟨g,cap,rfl,hlo,hh g rfl,by omega,fun j hj=>?_,fun j hj=>⟨?_,(Blk.frozen (w:=w) (g:=g) (t:=T) (cs:=cur) hg) _⟩,ho⟩
  ·rw [hc,← htk,List.getElem?_take,if_pos hj,Array.getElem?_toList]
  ·rw [hc]
   simp
   omega
end Go.Proofs.YtiojfffgiejibaaGreatDoor
namespace Go.Proofs.YtiojfffgiejibaaGreatDoor
open Go.RowKit
theorem Tryz.cloneBl_info:(Tryz.prog.info? 97).map (fun i=>(i.zero,i.size,i.bytes))=some (some (.agg #[.int .i64 0,.string ByteArray.empty]),2,24):=tZ2
set_option maxRecDepth 100000 in
theorem cloneBl_any (xs:List Value) (n:Nat) (A:Option Addr) (c:Nat) (w:World) (B:Nat) (hr:Reads w B 2 A n xs) (hB:B≤w.heap.size) (h1:∀ u∈xs,u.oneCell'=true) (hn:n*24≤140737488355328) :
  Calls Tryz.prog 69 #[.slice A n c] w fun e w'=>∃ v,e=.returned v∧w'.ownsRow w.heap.size 97 2 v n xs∧Below w.heap.size w w':=by
 obtain ⟨i0,hi0,hz0,hz1,hz2⟩:=info_parts Tryz.cloneBl_info
 rcases A with _ | ad
 ·obtain rfl:n=0:=by
   exact mZ129
  obtain rfl:xs=[]:=List.eq_nil_of_length_eq_zero tZ62
  have heq:=fun W=>Lib.run_eql_slice_nil (P:=Tryz.prog) W 52 97 none 0 c 0 0 Tryz.underlying52
  go_enter Tryz.func69,Tryz.ntmps69
  exact mZ128
 ·have heq:=fun W=>Lib.run_eql_slice_nil (P:=Tryz.prog) W 52 97 (some ad) n c 0 0 Tryz.underlying52
  have hown:(w.alloc (.cells #[] 97)).ownsRow w.heap.size 97 2 (.slice (some ⟨w.heap.size,0,none⟩) 0 0) 0 []:=World.ownsRow_made w #[] 0 (Nat.le_refl _) tZ73 rfl
  have hra:=hr.alloc hB (.cells #[] 97)
  go_enter Tryz.func69,Tryz.ntmps69
  go_wp2_with (at_builtin;(refine wpList_append_any _ rfl (.tmp 5) (.tmp 6) _ rfl w.heap.size 97 i0 _ 2 24 Tryz.underlying52 hi0 hz0 hz1 hz2 rfl tZ1 (.slice (some ⟨w.heap.size,0,none⟩) 0 0) 0 [] rfl hown B (some ad) n c xs rfl hra h1 tZ11 tZ1 tZ3 ?_);intro v1 w2 hown1 hg1 hat1)
  exact mZ127
theorem Tryz.cloneSt_info:(Tryz.prog.info? 9).map (fun i=>(i.zero,i.size,i.bytes))=some (some (.string ByteArray.empty),1,16):=tZ2
set_option maxRecDepth 100000 in
theorem cloneSt_any (xs:List Value) (n:Nat) (A:Option Addr) (c:Nat) (w:World) (B:Nat) (hr:Reads w B 1 A n xs) (hB:B≤w.heap.size) (h1:∀ u∈xs,u.oneCell'=true) (hn:n*16≤140737488355328) :
  Calls Tryz.prog 83 #[.slice A n c] w fun e w'=>∃ v,e=.returned v∧w'.ownsRow w.heap.size 9 1 v n xs∧Below w.heap.size w w':=by
 obtain ⟨i0,hi0,hz0,hz1,hz2⟩:=info_parts Tryz.cloneSt_info
 rcases A with _ | ad
 ·obtain rfl:n=0:=by
   exact mZ129
  obtain rfl:xs=[]:=List.eq_nil_of_length_eq_zero tZ62
  have heq:=fun W=>Lib.run_eql_slice_nil (P:=Tryz.prog) W 51 9 none 0 c 0 0 Tryz.underlying51
  go_enter Tryz.func83,Tryz.ntmps83
  exact mZ128
 ·have heq:=fun W=>Lib.run_eql_slice_nil (P:=Tryz.prog) W 51 9 (some ad) n c 0 0 Tryz.underlying51
  have hown:(w.alloc (.cells #[] 9)).ownsRow w.heap.size 9 1 (.slice (some ⟨w.heap.size,0,none⟩) 0 0) 0 []:=World.ownsRow_made w #[] 0 (Nat.le_refl _) tZ73 rfl
  have hra:=hr.alloc hB (.cells #[] 9)
  go_enter Tryz.func83,Tryz.ntmps83
  go_wp2_with (at_builtin;(refine wpList_append_any _ rfl (.tmp 5) (.tmp 6) _ rfl w.heap.size 9 i0 _ 1 16 Tryz.underlying51 hi0 hz0 hz1 hz2 rfl tZ1 (.slice (some ⟨w.heap.size,0,none⟩) 0 0) 0 [] rfl hown B (some ad) n c xs rfl hra h1 tZ11 tZ1 tZ3 ?_);intro v1 w2 hown1 hg1 hat1)
  exact mZ127
theorem Tryz.clonePr_info:(Tryz.prog.info? 100).map (fun i=>(i.zero,i.size,i.bytes))=some (some (.agg #[.string ByteArray.empty,.string ByteArray.empty]),2,32):=tZ2
set_option maxRecDepth 100000 in
theorem clonePr_any (xs:List Value) (n:Nat) (A:Option Addr) (c:Nat) (w:World) (B:Nat) (hr:Reads w B 2 A n xs) (hB:B≤w.heap.size) (h1:∀ u∈xs,u.oneCell'=true) (hn:n*32≤140737488355328) :
  Calls Tryz.prog 70 #[.slice A n c] w fun e w'=>∃ v,e=.returned v∧w'.ownsRow w.heap.size 100 2 v n xs∧Below w.heap.size w w':=by
 obtain ⟨i0,hi0,hz0,hz1,hz2⟩:=info_parts Tryz.clonePr_info
 rcases A with _ | ad
 ·obtain rfl:n=0:=by
   exact mZ129
  obtain rfl:xs=[]:=List.eq_nil_of_length_eq_zero tZ62
  have heq:=fun W=>Lib.run_eql_slice_nil (P:=Tryz.prog) W 54 100 none 0 c 0 0 Tryz.underlying54
  go_enter Tryz.func70,Tryz.ntmps70
  exact mZ128
 ·have heq:=fun W=>Lib.run_eql_slice_nil (P:=Tryz.prog) W 54 100 (some ad) n c 0 0 Tryz.underlying54
  have hown:(w.alloc (.cells #[] 100)).ownsRow w.heap.size 100 2 (.slice (some ⟨w.heap.size,0,none⟩) 0 0) 0 []:=World.ownsRow_made w #[] 0 (Nat.le_refl _) tZ73 rfl
  have hra:=hr.alloc hB (.cells #[] 100)
  go_enter Tryz.func70,Tryz.ntmps70
  go_wp2_with (at_builtin;(refine wpList_append_any _ rfl (.tmp 5) (.tmp 6) _ rfl w.heap.size 100 i0 _ 2 32 Tryz.underlying54 hi0 hz0 hz1 hz2 rfl tZ1 (.slice (some ⟨w.heap.size,0,none⟩) 0 0) 0 [] rfl hown B (some ad) n c xs rfl hra h1 tZ11 tZ1 tZ3 ?_);intro v1 w2 hown1 hg1 hat1)
  exact mZ127
theorem Tryz.cloneEn_info:(Tryz.prog.info? 106).map (fun i=>(i.zero,i.size,i.bytes))=some (some (.agg #[.string ByteArray.empty,.int .i64 0,.string ByteArray.empty,.int .i64 0]),4,48):=tZ2
set_option maxRecDepth 100000 in
theorem cloneEn_any (xs:List Value) (n:Nat) (A:Option Addr) (c:Nat) (w:World) (B:Nat) (hr:Reads w B 4 A n xs) (hB:B≤w.heap.size) (h1:∀ u∈xs,u.oneCell'=true) (hn:n*48≤140737488355328) :
  Calls Tryz.prog 103 #[.slice A n c] w fun e w'=>∃ v,e=.returned v∧w'.ownsRow w.heap.size 106 4 v n xs∧Below w.heap.size w w':=by
 obtain ⟨i0,hi0,hz0,hz1,hz2⟩:=info_parts Tryz.cloneEn_info
 rcases A with _ | ad
 ·obtain rfl:n=0:=by
   exact mZ129
  obtain rfl:xs=[]:=List.eq_nil_of_length_eq_zero tZ62
  have heq:=fun W=>Lib.run_eql_slice_nil (P:=Tryz.prog) W 25 106 none 0 c 0 0 Tryz.underlying25
  go_enter Tryz.func103,Tryz.ntmps103
  exact mZ128
 ·have heq:=fun W=>Lib.run_eql_slice_nil (P:=Tryz.prog) W 25 106 (some ad) n c 0 0 Tryz.underlying25
  have hown:(w.alloc (.cells #[] 106)).ownsRow w.heap.size 106 4 (.slice (some ⟨w.heap.size,0,none⟩) 0 0) 0 []:=World.ownsRow_made w #[] 0 (Nat.le_refl _) tZ73 rfl
  have hra:=hr.alloc hB (.cells #[] 106)
  go_enter Tryz.func103,Tryz.ntmps103
  go_wp2_with (at_builtin;(refine wpList_append_any _ rfl (.tmp 5) (.tmp 6) _ rfl w.heap.size 106 i0 _ 4 48 Tryz.underlying25 hi0 hz0 hz1 hz2 rfl tZ1 (.slice (some ⟨w.heap.size,0,none⟩) 0 0) 0 [] rfl hown B (some ad) n c xs rfl hra h1 tZ11 tZ1 tZ3 ?_);intro v1 w2 hown1 hg1 hat1)
  exact mZ127
set_option maxRecDepth 100000 in
theorem rownT_any (xs:List Value) (n:Nat) (A:Option Addr) (c:Nat) (w:World) (B:Nat) (hr:Reads w B 2 A n xs) (h1:∀ u∈xs,u.oneCell'=true) (hn:n≤5000000000000) :
  Calls Tryz.prog 66 #[.slice A n c] w fun e w'=>∃ v,e=.returned v∧w'.ownsRow w.heap.size 97 2 v n xs∧Below w.heap.size w w':=by
 obtain ⟨i0,hi0,hz0,hz1,hz2⟩:=info_parts Tryz.cloneBl_info
 go_enter Tryz.func66,Tryz.ntmps66
 go_wp2_with (at_builtin;(refine wpList_append_any _ rfl (.tmp 4) (.tmp 5) _ rfl w.heap.size 97 i0 _ 2 24 Tryz.underlying52 hi0 hz0 hz1 hz2 rfl tZ1 (.slice none 0 0) 0 [] rfl (World.ownsRow_nil _ _ _ _) B A n c xs rfl hr h1 tZ11 tZ1 (Nat.le_refl _) ?_);intro v1 w1 hown1 hg1 _)
 go_ret
 refine ⟨v1,rfl,by simpa using hown1,((Below.refl _ _).grown hg1 (Nat.le_refl _) (fun k hk=>by simp [Value.ownBlock] at hk))⟩
end Go.Proofs.YtiojfffgiejibaaGreatDoor
namespace Go.Proofs.YtiojfffgiejibaaGreatDoor
open Go.RowKit
theorem fill_one (zs:Array Value) (cs:List Value) (hz:zs.size=cs.length) (hp:0<cs.length):Instr.fill (fun i=>some (i*cs.length,cs.length)) zs [(0,.agg cs.toArray)]=some cs.toArray:=by
 have:=Great.fill_whole (s:=cs.length) hp [.agg cs.toArray] zs (fun v hv=>by rw [List.mem_singleton.1 hv];simp [Value.cells]) (by simp [hz])
 simpa [Value.cells] using this
theorem wpList_build_one {P:Program} {ops:Array Oper} {rest:List Oper} {op:Oper} {a:Act} {w:World} {Q:Exit→Act→World→Prop} (hgd:op.guard=none) (t e:TypeId) (x:Operand) (ho:op.op=.buildSlice t 1 #[(0,x)])
  (cs:List Value) (hx:a.eval x=.agg cs.toArray) (ie:TypeInfo) (z:Value) (hu:P.underlying t=some (.slice e)) (hie:P.info? e=some ie) (hz:ie.zero=some z) (hs:ie.size=cs.length) (hp:0<cs.length) (hl:cs.length≤16777216)
  (h:wpList P ops Q rest (a.put op.dst (.slice (some ⟨w.heap.size,0,none⟩) 1 1)) (w.alloc (.cells cs.toArray e))):wpList P ops Q (op :: rest) a w:=by
 refine wpList_buildSlice hgd t e 1 #[(0,x)] ho cs.toArray ie z hu hie hz (by rw [hs];omega) (by rw [hs];omega) ?_ h
 exact mZ130
/-- an element's cells, all at once -/
theorem Reads.elAll {α:Type} {enc:α→List Value} {k:Nat} (hk:∀ x,(enc x).length=k) {w:World} {B n:Nat} {A:Option Addr} {l:List α} (h:Reads w B k A n (cellsK enc l)) (hn:n=l.length) {i:Nat} (hi:i<n) :
  ∃ ad,A=some ad∧ad.block<B∧∀ j v,(enc (l[i]'tZ1))[j]?=some v→w.cell? ((ad.add (i*k)).add j)=some v:=by
 obtain ⟨ad,e,hb,hc⟩:=h.elK hk hn hi
 refine ⟨ad,e,hb,fun j v hv=>?_⟩
 have hj:j<k:=by
  rcases Nat.lt_or_ge j k with h | h
  ·exact h
  ·rw [List.getElem?_eq_none (by rw [hk];exact h)] at hv;cases hv
 rw [hc j hj,hv]
end Go.Proofs.YtiojfffgiejibaaGreatDoor
namespace Go.Proofs.YtiojfffgiejibaaGreatDoor
open Go.RowKit
/-- what a copy is: it stands under all that is done elsewhere -/
structure Kept {α:Type} (O:Nat→World→α→Prop):Prop where
 below:∀ b w w' y,O b w y→Below w.heap.size w w'→O b w' y
 kept:∀ b w w' y g,O b w y→w.grownBy w' (some g)→g<b→O b w' y
 mono:∀ b b' w y,O b w y→b'≤b→O b' w y
theorem Tryz.eachSnap_info:(Tryz.prog.info? 58).map (fun i=>(i.zero,i.size,i.bytes))=some (some (.agg #[.string ByteArray.empty,.int .i64 0,.slice none 0 0,.slice none 0 0,.slice none 0 0]),5,96):=tZ2
set_option maxRecDepth 100000 in
set_option maxHeartbeats 2000000 in
theorem eachSnap_any (O:Nat→World→SnapR→Prop) (hO:Kept O) (r:SnapR→SnapR→Prop) (D:SnapR→SnapR→Prop) (hD:∀ b b' w w' y z,O b w y→O b' w' z→w.heap.size≤b'→D y z) (l:List SnapR) (n:Nat) (hnl:n=l.length) (A:Option Addr) (c:Nat) (w:World) (B:Nat) (hB:B≤w.heap.size) (hr:Reads w B 5 A n (cellsK encSnap l)) (hn:n≤1000000000000)
  (hC:∀ x∈l,∀ W,Below w.heap.size w W→Calls Tryz.prog 143 #[.agg (encSnap x).toArray] W fun e w'=>∃ y,e=.returned (.agg (encSnap y).toArray)∧O W.heap.size w' y∧r x y∧Below W.heap.size W w') :
  Calls Tryz.prog 142 #[.slice A n c,.func (.func 143) #[] #[]] w fun e w'=>∃ s:FS SnapR,e=.returned s.val∧s.own w' w.heap.size 58 5 encSnap∧(∀ y∈s.l,O w.heap.size w' y)∧EachR r l s.l∧s.l.Pairwise D∧Below w.heap.size w w':=by
 obtain ⟨i0,hi0,hz0,hz1,hz2⟩:=info_parts Tryz.eachSnap_info
 have HN:=Lib.hid hnl
 have HC:=Lib.hid hC
 have HR:=Lib.hid hr
 obtain ⟨g,hg⟩:∃ g,g=w.heap.size:=⟨_,rfl⟩
 have HGG:=Lib.hid hg
 clear hnl hC hr
 go_enter Tryz.func142,Tryz.ntmps142
 go_wp2_with (refine wpList_make_own w rfl (.const (.int .i64 0)) (.tmp 9) 53 rfl w.heap.size 58 i0 _ 5 Tryz.underlying53 hi0 hz0 hz1 .i64 .i64 (n:Int) n rfl rfl rfl (by rw [hz2];omega) tZ11 (Nat.le_refl _) ?_;intro w1 hown1 hg1;have HO1:=Lib.hid hown1;have HB1:=Lib.hid (show Below w.heap.size w w1 from ⟨hg1.os,hg1.tape,hg1.output,hg1.size,fun k hk=>hg1.block k hk tZ3⟩);clear hown1 hg1)
 rw [← hg] at HO1 HB1 ⊢
 clear hg
 go_loopw [5,13] (fun o j wr=>∃ (k:Nat) (ys:List SnapR),k≤n∧j=.int .i64 (k:Int)∧o=.slice (some ⟨g,0,none⟩) k n∧Hid (ys.length=k)∧Hid (wr.ownsRow g 58 5 (.slice (some ⟨g,0,none⟩) k n) k (cellsK encSnap ys))∧Hid (∀ y∈ys,O (g+1) wr y)∧Hid (EachR r (l.take k) ys)∧Hid (ys.Pairwise D)∧Hid (Below g w wr)) (fun _ j _=>n-(intOf j).toNat)
 case atStart=>exact ⟨0,[],Nat.zero_le _,rfl,rfl,rfl,HO1.out,fun y hy=>absurd hy tZ3,by rw [List.take_zero];exact EachR.nil,List.Pairwise.nil,HB1.out⟩
 case round =>
  clear HO1 HB1
  obtain ⟨k,ys,hk,rfl,rfl,HY,HOW,HE,HEQ,HPW,HB⟩:=hrel
  by_cases hlt:k<n
  ·obtain ⟨ad,rfl,hadB,hel⟩:=Reads.elAll (enc:=encSnap) (k:=5) (fun _=>rfl) (HR.out.below (HB.out.mono tZ134)) HN.out hlt
   have hkl:k<l.length:=tZ9
   have hcx:=HC.out _ (List.getElem_mem hkl)
   have HTK:=Lib.hid (show l.take (k+1)=l.take k++[l[k]'hkl] from by rw [List.take_add_one,List.getElem?_eq_getElem hkl];rfl)
   have hki:(k:Int)<(n:Int):=tZ1
   obtain ⟨x,hx⟩:∃ x,x=l[k]'hkl:=⟨_,rfl⟩
   rw [← hx] at hel hcx HTK
   obtain ⟨cs,hcs⟩:∃ cs,cs=encSnap x:=⟨_,rfl⟩
   have hcl:cs.length=5:=by rw [hcs];rfl
   have hc1:∀ u∈cs,u.oneCell'=true:=by rw [hcs];intro u hu;simp [encSnap] at hu;rcases hu with rfl | rfl | rfl | rfl | rfl <;> rfl
   rw [← hcs] at hel hcx
   have HEL:=Lib.hid hel
   have hSB:Below w.heap.size w (wr.alloc (.cells cs.toArray 58)):=by rw [← HGG.out];exact HB.out.alloc tZ67 _
   have hcx:=hcx _ hSB
   have hOW2:=own_below HOW.out ((Below.refl wr.heap.size wr).alloc (Nat.le_refl _) (.cells cs.toArray 58))
   have HL7:Hid (∀ j v,cs[j]?=some v→(wr.alloc (.cells cs.toArray 58)).cell? ((⟨wr.heap.size,0,none⟩:Addr).add j)=some v):=by
    show ∀ j v,_→_
    intro j v hv
    have:=(Blk.new wr 58 cs.toArray).cell j
    exact mZ135
   clear hel hadB HR HC hcs hx
   go_wp2_with (first | (refine wpList_load_at rfl 58 (.tmp 15) rfl (ad.add (k*5)) rfl cs _ HEL.out Tryz.underlying58 rfl tZ44 ?_) | (refine wpList_store_new wr rfl 58 (.tmp 7) (.tmp 16) rfl 58 _ cs rfl rfl (by rw [hcl];rfl) tZ44 hc1 ?_) | (refine wpList_load_at rfl 58 (.tmp 7) rfl ⟨wr.heap.size,0,none⟩ rfl cs _ HL7.out Tryz.underlying58 rfl tZ44 ?_))
   clear HEL
   refine hcx.mono ?_
   clear hcx
   rintro e w2 ⟨y,rfl,hoy,hry,hby⟩
   obtain ⟨ds,hds⟩:∃ ds,ds=encSnap y:=⟨_,rfl⟩
   have hdl:ds.length=5:=by rw [hds];rfl
   have hd1:∀ u∈ds,u.oneCell'=true:=by rw [hds];intro u hu;simp [encSnap] at hu;rcases hu with rfl | rfl | rfl | rfl | rfl <;> rfl
   rw [← hds]
   have hgs:g<wr.heap.size:=(HOW.out.lt g rfl).2
   have hba:Below wr.heap.size wr (w2.alloc (.cells ds.toArray 58)):=((((Below.refl wr.heap.size wr).alloc (Nat.le_refl _) (.cells cs.toArray 58)).trans (hby.mono tZ3)).alloc tZ80 _)
   have HOW3:=Lib.hid (own_below HOW.out hba)
   have HB3:=Lib.hid (HB.out.trans (hba.mono tZ1))
   have HE3:Hid (∀ z∈ys++[y],O (g+1) (w2.alloc (.cells ds.toArray 58)) z):=by
    exact mZ134
   have HPW3:Hid ((ys++[y]).Pairwise D):=by
    exact mZ133
   have HEQ3:Hid (EachR r (l.take (k+1)) (ys++[y])):=tZ52
   have HY3:=Lib.hid (show (ys++[y]).length=k+1 by rw [List.length_append,HY.out];rfl)
   have hcell:∀ (j:Nat) (u:Value),ds[j]?=some u→(w2.alloc (.cells ds.toArray 58)).cell? ((⟨w2.heap.size,0,none⟩:Addr).add j)=some u:=fun j u hu=>by
    have:=(Blk.new w2 58 ds.toArray).cell j
    exact mZ132
   have HSZ3:=Lib.hid (show g≤(w2.alloc (.cells ds.toArray 58)).heap.size by have:=hba.size;omega)
   have hds':=Lib.hid hds
   clear hba hoy hry hby HOW HE HEQ HPW HY HB HTK hds
   have hi1:i0.size=ds.length:=by rw [hdl];exact hz1
   obtain ⟨W3,hW3⟩:∃ W,W=w2.alloc (.cells ds.toArray 58):=⟨_,rfl⟩
   rw [← hW3] at HOW3 HB3 HE3 hcell HSZ3
   go_wp2_with (first | (refine wpList_build_one rfl 53 58 (.tmp 20) rfl ds rfl i0 _ Tryz.underlying53 hi0 hz0 hi1 tZ1 tZ1 ?_;rw [← hW3];clear hW3) | (at_builtin;refine wpList_append_fits _ rfl (.tmp 17) (.tmp 21) 53 rfl g 58 i0 5 Tryz.underlying53 hi0 hz1 g k n _ rfl HOW3.out ⟨w2.heap.size,0,none⟩ 1 1 ds rfl tZ1 hcell hd1 tZ1 ?_;intro w4 hown4 hg4;have HO4:=Lib.hid hown4;have HG4:=Lib.hid hg4;clear hown4 hg4))
   go_roundw
   case rel =>
    refine ⟨k+1,ys++[y],by omega,by go_num,rfl,HY3.out,?_,fun z hz=>hO.kept _ _ _ _ _ (HE3.out z hz) HG4.out tZ1,HEQ3.out,HPW3.out,HB3.out.grown HG4.out HSZ3.out (fun q hq=>by simp at hq;omega)⟩
    exact mZ131
   case measure=>simp [intOf];omega
  ·have hki:¬ (k:Int)<(n:Int):=tZ1
   obtain rfl:k=n:=tZ1
   go_wp2_with fail
   go_ret
   obtain rfl:=HGG.out
   refine ⟨⟨some ⟨w.heap.size,0,none⟩,k,k,ys⟩,rfl,⟨HY.out.symm,HOW.out⟩,fun y hy=>hO.mono _ _ _ _ (HE.out y hy) tZ1,?_,HPW.out,HB.out⟩
   have:=HEQ.out
   rw [HN.out,List.take_length] at this
   exact this
theorem Tryz.eachSet_info:(Tryz.prog.info? 56).map (fun i=>(i.zero,i.size,i.bytes))=some (some (.agg #[.string ByteArray.empty,.string ByteArray.empty,.slice none 0 0,.slice none 0 0,.slice none 0 0]),5,104):=tZ2
set_option maxRecDepth 100000 in
set_option maxHeartbeats 2000000 in
theorem eachSet_any (O:Nat→World→SetR→Prop) (hO:Kept O) (r:SetR→SetR→Prop) (D:SetR→SetR→Prop) (hD:∀ b b' w w' y z,O b w y→O b' w' z→w.heap.size≤b'→D y z) (l:List SetR) (n:Nat) (hnl:n=l.length) (A:Option Addr) (c:Nat) (w:World) (B:Nat) (hB:B≤w.heap.size) (hr:Reads w B 5 A n (cellsK encSet l)) (hn:n≤1000000000000)
  (hC:∀ x∈l,∀ W,Below w.heap.size w W→Calls Tryz.prog 99 #[.agg (encSet x).toArray] W fun e w'=>∃ y,e=.returned (.agg (encSet y).toArray)∧O W.heap.size w' y∧r x y∧Below W.heap.size W w') :
  Calls Tryz.prog 98 #[.slice A n c,.func (.func 99) #[] #[]] w fun e w'=>∃ s:FS SetR,e=.returned s.val∧s.own w' w.heap.size 56 5 encSet∧(∀ y∈s.l,O w.heap.size w' y)∧EachR r l s.l∧s.l.Pairwise D∧Below w.heap.size w w':=by
 obtain ⟨i0,hi0,hz0,hz1,hz2⟩:=info_parts Tryz.eachSet_info
 have HN:=Lib.hid hnl
 have HC:=Lib.hid hC
 have HR:=Lib.hid hr
 obtain ⟨g,hg⟩:∃ g,g=w.heap.size:=⟨_,rfl⟩
 have HGG:=Lib.hid hg
 clear hnl hC hr
 go_enter Tryz.func98,Tryz.ntmps98
 go_wp2_with (refine wpList_make_own w rfl (.const (.int .i64 0)) (.tmp 9) 22 rfl w.heap.size 56 i0 _ 5 Tryz.underlying22 hi0 hz0 hz1 .i64 .i64 (n:Int) n rfl rfl rfl (by rw [hz2];omega) tZ11 (Nat.le_refl _) ?_;intro w1 hown1 hg1;have HO1:=Lib.hid hown1;have HB1:=Lib.hid (show Below w.heap.size w w1 from ⟨hg1.os,hg1.tape,hg1.output,hg1.size,fun k hk=>hg1.block k hk tZ3⟩);clear hown1 hg1)
 rw [← hg] at HO1 HB1 ⊢
 clear hg
 go_loopw [5,13] (fun o j wr=>∃ (k:Nat) (ys:List SetR),k≤n∧j=.int .i64 (k:Int)∧o=.slice (some ⟨g,0,none⟩) k n∧Hid (ys.length=k)∧Hid (wr.ownsRow g 56 5 (.slice (some ⟨g,0,none⟩) k n) k (cellsK encSet ys))∧Hid (∀ y∈ys,O (g+1) wr y)∧Hid (EachR r (l.take k) ys)∧Hid (ys.Pairwise D)∧Hid (Below g w wr)) (fun _ j _=>n-(intOf j).toNat)
 case atStart=>exact ⟨0,[],Nat.zero_le _,rfl,rfl,rfl,HO1.out,fun y hy=>absurd hy tZ3,by rw [List.take_zero];exact EachR.nil,List.Pairwise.nil,HB1.out⟩
 case round =>
  clear HO1 HB1
  obtain ⟨k,ys,hk,rfl,rfl,HY,HOW,HE,HEQ,HPW,HB⟩:=hrel
  by_cases hlt:k<n
  ·obtain ⟨ad,rfl,hadB,hel⟩:=Reads.elAll (enc:=encSet) (k:=5) (fun _=>rfl) (HR.out.below (HB.out.mono tZ134)) HN.out hlt
   have hkl:k<l.length:=tZ9
   have hcx:=HC.out _ (List.getElem_mem hkl)
   have HTK:=Lib.hid (show l.take (k+1)=l.take k++[l[k]'hkl] from by rw [List.take_add_one,List.getElem?_eq_getElem hkl];rfl)
   have hki:(k:Int)<(n:Int):=tZ1
   obtain ⟨x,hx⟩:∃ x,x=l[k]'hkl:=⟨_,rfl⟩
   rw [← hx] at hel hcx HTK
   obtain ⟨cs,hcs⟩:∃ cs,cs=encSet x:=⟨_,rfl⟩
   have hcl:cs.length=5:=by rw [hcs];rfl
   have hc1:∀ u∈cs,u.oneCell'=true:=by rw [hcs];intro u hu;simp [encSet] at hu;rcases hu with rfl | rfl | rfl | rfl | rfl <;> rfl
   rw [← hcs] at hel hcx
   have HEL:=Lib.hid hel
   have hSB:Below w.heap.size w (wr.alloc (.cells cs.toArray 56)):=by rw [← HGG.out];exact HB.out.alloc tZ67 _
   have hcx:=hcx _ hSB
   have hOW2:=own_below HOW.out ((Below.refl wr.heap.size wr).alloc (Nat.le_refl _) (.cells cs.toArray 56))
   have HL7:Hid (∀ j v,cs[j]?=some v→(wr.alloc (.cells cs.toArray 56)).cell? ((⟨wr.heap.size,0,none⟩:Addr).add j)=some v):=by
    show ∀ j v,_→_
    intro j v hv
    have:=(Blk.new wr 56 cs.toArray).cell j
    exact mZ135
   clear hel hadB HR HC hcs hx
   go_wp2_with (first | (refine wpList_load_at rfl 56 (.tmp 15) rfl (ad.add (k*5)) rfl cs _ HEL.out Tryz.underlying56 rfl tZ44 ?_) | (refine wpList_store_new wr rfl 56 (.tmp 7) (.tmp 16) rfl 56 _ cs rfl rfl (by rw [hcl];rfl) tZ44 hc1 ?_) | (refine wpList_load_at rfl 56 (.tmp 7) rfl ⟨wr.heap.size,0,none⟩ rfl cs _ HL7.out Tryz.underlying56 rfl tZ44 ?_))
   clear HEL
   refine hcx.mono ?_
   clear hcx
   rintro e w2 ⟨y,rfl,hoy,hry,hby⟩
   obtain ⟨ds,hds⟩:∃ ds,ds=encSet y:=⟨_,rfl⟩
   have hdl:ds.length=5:=by rw [hds];rfl
   have hd1:∀ u∈ds,u.oneCell'=true:=by rw [hds];intro u hu;simp [encSet] at hu;rcases hu with rfl | rfl | rfl | rfl | rfl <;> rfl
   rw [← hds]
   have hgs:g<wr.heap.size:=(HOW.out.lt g rfl).2
   have hba:Below wr.heap.size wr (w2.alloc (.cells ds.toArray 56)):=((((Below.refl wr.heap.size wr).alloc (Nat.le_refl _) (.cells cs.toArray 56)).trans (hby.mono tZ3)).alloc tZ80 _)
   have HOW3:=Lib.hid (own_below HOW.out hba)
   have HB3:=Lib.hid (HB.out.trans (hba.mono tZ1))
   have HE3:Hid (∀ z∈ys++[y],O (g+1) (w2.alloc (.cells ds.toArray 56)) z):=by
    exact mZ134
   have HPW3:Hid ((ys++[y]).Pairwise D):=by
    exact mZ133
   have HEQ3:Hid (EachR r (l.take (k+1)) (ys++[y])):=tZ52
   have HY3:=Lib.hid (show (ys++[y]).length=k+1 by rw [List.length_append,HY.out];rfl)
   have hcell:∀ (j:Nat) (u:Value),ds[j]?=some u→(w2.alloc (.cells ds.toArray 56)).cell? ((⟨w2.heap.size,0,none⟩:Addr).add j)=some u:=fun j u hu=>by
    have:=(Blk.new w2 56 ds.toArray).cell j
    exact mZ132
   have HSZ3:=Lib.hid (show g≤(w2.alloc (.cells ds.toArray 56)).heap.size by have:=hba.size;omega)
   have hds':=Lib.hid hds
   clear hba hoy hry hby HOW HE HEQ HPW HY HB HTK hds
   have hi1:i0.size=ds.length:=by rw [hdl];exact hz1
   obtain ⟨W3,hW3⟩:∃ W,W=w2.alloc (.cells ds.toArray 56):=⟨_,rfl⟩
   rw [← hW3] at HOW3 HB3 HE3 hcell HSZ3
   go_wp2_with (first | (refine wpList_build_one rfl 22 56 (.tmp 20) rfl ds rfl i0 _ Tryz.underlying22 hi0 hz0 hi1 tZ1 tZ1 ?_;rw [← hW3];clear hW3) | (at_builtin;refine wpList_append_fits _ rfl (.tmp 17) (.tmp 21) 22 rfl g 56 i0 5 Tryz.underlying22 hi0 hz1 g k n _ rfl HOW3.out ⟨w2.heap.size,0,none⟩ 1 1 ds rfl tZ1 hcell hd1 tZ1 ?_;intro w4 hown4 hg4;have HO4:=Lib.hid hown4;have HG4:=Lib.hid hg4;clear hown4 hg4))
   go_roundw
   case rel =>
    refine ⟨k+1,ys++[y],by omega,by go_num,rfl,HY3.out,?_,fun z hz=>hO.kept _ _ _ _ _ (HE3.out z hz) HG4.out tZ1,HEQ3.out,HPW3.out,HB3.out.grown HG4.out HSZ3.out (fun q hq=>by simp at hq;omega)⟩
    exact mZ131
   case measure=>simp [intOf];omega
  ·have hki:¬ (k:Int)<(n:Int):=tZ1
   obtain rfl:k=n:=tZ1
   go_wp2_with fail
   go_ret
   obtain rfl:=HGG.out
   refine ⟨⟨some ⟨w.heap.size,0,none⟩,k,k,ys⟩,rfl,⟨HY.out.symm,HOW.out⟩,fun y hy=>hO.mono _ _ _ _ (HE.out y hy) tZ1,?_,HPW.out,HB.out⟩
   have:=HEQ.out
   rw [HN.out,List.take_length] at this
   exact this
theorem Tryz.eachStage_info:(Tryz.prog.info? 77).map (fun i=>(i.zero,i.size,i.bytes))=some (some (.agg #[.string ByteArray.empty,.int .i64 0,.string ByteArray.empty,.int .i64 0,.int .i64 0,.slice none 0 0,.int .i64 0,.int .i64 0,.string ByteArray.empty,.int .u64 0,.int .u64 0,.int .u64 0,.int .u64 0,.slice none 0 0,.int .i64 0,.int .i64 0,.int .u64 0,.int .u64 0,.int .u64 0,.int .u64 0,.bool false]),21,224):=tZ2
set_option maxRecDepth 100000 in
set_option maxHeartbeats 2000000 in
theorem eachStage_any (O:Nat→World→StageR→Prop) (hO:Kept O) (r:StageR→StageR→Prop) (l:List StageR) (n:Nat) (hnl:n=l.length) (A:Option Addr) (c:Nat) (w:World) (B:Nat) (hB:B≤w.heap.size) (hr:Reads w B 21 A n (cellsK encStage l)) (hn:n≤1000000000000)
  (hC:∀ x∈l,∀ W,Below w.heap.size w W→Calls Tryz.prog 102 #[.agg (encStage x).toArray] W fun e w'=>∃ y,e=.returned (.agg (encStage y).toArray)∧O W.heap.size w' y∧r x y∧Below W.heap.size W w') :
  Calls Tryz.prog 101 #[.slice A n c,.func (.func 102) #[] #[]] w fun e w'=>∃ s:FS StageR,e=.returned s.val∧s.own w' w.heap.size 77 21 encStage∧(∀ y∈s.l,O w.heap.size w' y)∧EachR r l s.l∧Below w.heap.size w w':=by
 obtain ⟨i0,hi0,hz0,hz1,hz2⟩:=info_parts Tryz.eachStage_info
 have HN:=Lib.hid hnl
 have HC:=Lib.hid hC
 have HR:=Lib.hid hr
 obtain ⟨g,hg⟩:∃ g,g=w.heap.size:=⟨_,rfl⟩
 have HGG:=Lib.hid hg
 clear hnl hC hr
 go_enter Tryz.func101,Tryz.ntmps101
 go_wp2_with (refine wpList_make_own w rfl (.const (.int .i64 0)) (.tmp 9) 24 rfl w.heap.size 77 i0 _ 21 Tryz.underlying24 hi0 hz0 hz1 .i64 .i64 (n:Int) n rfl rfl rfl (by rw [hz2];omega) tZ11 (Nat.le_refl _) ?_;intro w1 hown1 hg1;have HO1:=Lib.hid hown1;have HB1:=Lib.hid (show Below w.heap.size w w1 from ⟨hg1.os,hg1.tape,hg1.output,hg1.size,fun k hk=>hg1.block k hk tZ3⟩);clear hown1 hg1)
 rw [← hg] at HO1 HB1 ⊢
 clear hg
 go_loopw [5,13] (fun o j wr=>∃ (k:Nat) (ys:List StageR),k≤n∧j=.int .i64 (k:Int)∧o=.slice (some ⟨g,0,none⟩) k n∧Hid (ys.length=k)∧Hid (wr.ownsRow g 77 21 (.slice (some ⟨g,0,none⟩) k n) k (cellsK encStage ys))∧Hid (∀ y∈ys,O (g+1) wr y)∧Hid (EachR r (l.take k) ys)∧Hid (Below g w wr)) (fun _ j _=>n-(intOf j).toNat)
 case atStart=>exact ⟨0,[],Nat.zero_le _,rfl,rfl,rfl,HO1.out,fun y hy=>absurd hy tZ3,by rw [List.take_zero];exact EachR.nil,HB1.out⟩
 case round =>
  clear HO1 HB1
  obtain ⟨k,ys,hk,rfl,rfl,HY,HOW,HE,HEQ,HB⟩:=hrel
  by_cases hlt:k<n
  ·obtain ⟨ad,rfl,hadB,hel⟩:=Reads.elAll (enc:=encStage) (k:=21) (fun _=>rfl) (HR.out.below (HB.out.mono tZ134)) HN.out hlt
   have hkl:k<l.length:=tZ9
   have hcx:=HC.out _ (List.getElem_mem hkl)
   have HTK:=Lib.hid (show l.take (k+1)=l.take k++[l[k]'hkl] from by rw [List.take_add_one,List.getElem?_eq_getElem hkl];rfl)
   have hki:(k:Int)<(n:Int):=tZ1
   obtain ⟨x,hx⟩:∃ x,x=l[k]'hkl:=⟨_,rfl⟩
   rw [← hx] at hel hcx HTK
   obtain ⟨cs,hcs⟩:∃ cs,cs=encStage x:=⟨_,rfl⟩
   have hcl:cs.length=21:=by rw [hcs];rfl
   have hc1:∀ u∈cs,u.oneCell'=true:=by rw [hcs];intro u hu;simp [encStage,smV] at hu;rcases hu with rfl | rfl | rfl | rfl | rfl | rfl | rfl | rfl | rfl | rfl | rfl | rfl | rfl | rfl | rfl | rfl | rfl | rfl | rfl | rfl | rfl <;> rfl
   rw [← hcs] at hel hcx
   have HEL:=Lib.hid hel
   have hSB:Below w.heap.size w (wr.alloc (.cells cs.toArray 77)):=by rw [← HGG.out];exact HB.out.alloc tZ67 _
   have hcx:=hcx _ hSB
   have hOW2:=own_below HOW.out ((Below.refl wr.heap.size wr).alloc (Nat.le_refl _) (.cells cs.toArray 77))
   have HL7:Hid (∀ j v,cs[j]?=some v→(wr.alloc (.cells cs.toArray 77)).cell? ((⟨wr.heap.size,0,none⟩:Addr).add j)=some v):=by
    show ∀ j v,_→_
    intro j v hv
    have:=(Blk.new wr 77 cs.toArray).cell j
    exact mZ135
   clear hel hadB HR HC hcs hx
   go_wp2_with (first | (refine wpList_load_at rfl 77 (.tmp 15) rfl (ad.add (k*21)) rfl cs _ HEL.out Tryz.underlying77 rfl tZ44 ?_) | (refine wpList_store_new wr rfl 77 (.tmp 7) (.tmp 16) rfl 77 _ cs rfl rfl (by rw [hcl];rfl) tZ44 hc1 ?_) | (refine wpList_load_at rfl 77 (.tmp 7) rfl ⟨wr.heap.size,0,none⟩ rfl cs _ HL7.out Tryz.underlying77 rfl tZ44 ?_))
   clear HEL
   refine hcx.mono ?_
   clear hcx
   rintro e w2 ⟨y,rfl,hoy,hry,hby⟩
   obtain ⟨ds,hds⟩:∃ ds,ds=encStage y:=⟨_,rfl⟩
   have hdl:ds.length=21:=by rw [hds];rfl
   have hd1:∀ u∈ds,u.oneCell'=true:=by rw [hds];intro u hu;simp [encStage,smV] at hu;rcases hu with rfl | rfl | rfl | rfl | rfl | rfl | rfl | rfl | rfl | rfl | rfl | rfl | rfl | rfl | rfl | rfl | rfl | rfl | rfl | rfl | rfl <;> rfl
   rw [← hds]
   have hgs:g<wr.heap.size:=(HOW.out.lt g rfl).2
   have hba:Below wr.heap.size wr (w2.alloc (.cells ds.toArray 77)):=((((Below.refl wr.heap.size wr).alloc (Nat.le_refl _) (.cells cs.toArray 77)).trans (hby.mono tZ3)).alloc tZ80 _)
   have HOW3:=Lib.hid (own_below HOW.out hba)
   have HB3:=Lib.hid (HB.out.trans (hba.mono tZ1))
   have HE3:Hid (∀ z∈ys++[y],O (g+1) (w2.alloc (.cells ds.toArray 77)) z):=by
    exact mZ134
   have HEQ3:Hid (EachR r (l.take (k+1)) (ys++[y])):=tZ52
   have HY3:=Lib.hid (show (ys++[y]).length=k+1 by rw [List.length_append,HY.out];rfl)
   have hcell:∀ (j:Nat) (u:Value),ds[j]?=some u→(w2.alloc (.cells ds.toArray 77)).cell? ((⟨w2.heap.size,0,none⟩:Addr).add j)=some u:=fun j u hu=>by
    have:=(Blk.new w2 77 ds.toArray).cell j
    exact mZ132
   have HSZ3:=Lib.hid (show g≤(w2.alloc (.cells ds.toArray 77)).heap.size by have:=hba.size;omega)
   have hds':=Lib.hid hds
   clear hba hoy hry hby HOW HE HEQ HY HB HTK hds
   have hi1:i0.size=ds.length:=by rw [hdl];exact hz1
   obtain ⟨W3,hW3⟩:∃ W,W=w2.alloc (.cells ds.toArray 77):=⟨_,rfl⟩
   rw [← hW3] at HOW3 HB3 HE3 hcell HSZ3
   go_wp2_with (first | (refine wpList_build_one rfl 24 77 (.tmp 20) rfl ds rfl i0 _ Tryz.underlying24 hi0 hz0 hi1 tZ1 tZ1 ?_;rw [← hW3];clear hW3) | (at_builtin;refine wpList_append_fits _ rfl (.tmp 17) (.tmp 21) 24 rfl g 77 i0 21 Tryz.underlying24 hi0 hz1 g k n _ rfl HOW3.out ⟨w2.heap.size,0,none⟩ 1 1 ds rfl tZ1 hcell hd1 tZ1 ?_;intro w4 hown4 hg4;have HO4:=Lib.hid hown4;have HG4:=Lib.hid hg4;clear hown4 hg4))
   go_roundw
   case rel =>
    refine ⟨k+1,ys++[y],by omega,by go_num,rfl,HY3.out,?_,fun z hz=>hO.kept _ _ _ _ _ (HE3.out z hz) HG4.out tZ1,HEQ3.out,HB3.out.grown HG4.out HSZ3.out (fun q hq=>by simp at hq;omega)⟩
    exact mZ131
   case measure=>simp [intOf];omega
  ·have hki:¬ (k:Int)<(n:Int):=tZ1
   obtain rfl:k=n:=tZ1
   go_wp2_with fail
   go_ret
   obtain rfl:=HGG.out
   refine ⟨⟨some ⟨w.heap.size,0,none⟩,k,k,ys⟩,rfl,⟨HY.out.symm,HOW.out⟩,fun y hy=>hO.mono _ _ _ _ (HE.out y hy) tZ1,?_,HB.out⟩
   have:=HEQ.out
   rw [HN.out,List.take_length] at this
   exact this
end Go.Proofs.YtiojfffgiejibaaGreatDoor
namespace Go.Proofs.YtiojfffgiejibaaGreatDoor
open Go.RowKit
def SnapsW (w:World) (lo hi:Nat) (v:Value):Prop:=∃ n xs,RowW w lo hi 58 5 v n xs∧∀ i,i<n→∃ b,xs[i*5+2]?=some b∧RowX w lo hi 97 2 b
def SetsW (w:World) (lo hi:Nat) (v:Value):Prop:=∃ n xs,RowW w lo hi 56 5 v n xs∧∀ i,i<n→∃ b s o,xs[i*5+2]?=some b∧xs[i*5+3]?=some s∧xs[i*5+4]?=some o∧RowX w lo hi 97 2 b∧SnapsW w lo hi s∧RowX w lo hi 100 2 o
theorem SnapsW.nil (w:World) (lo hi:Nat):SnapsW w lo hi (.slice none 0 0):=⟨0,[],⟨World.ownsRow_nil _ _ _ _,fun g h=>by simp [Value.ownBlock] at h⟩,fun i hi=>absurd hi tZ1⟩
section
variable {w w':World} {lo hi base size n cap g:Nat} {e:TypeId} {xs:List Value}
/-- a store into a row that is no snapshots' -/
theorem SnapsW.set (hrow:w.ownsRow base e size (.slice (some ⟨g,0,none⟩) n cap) n xs) (hne:58≠e) {v:Value} (h:SnapsW w lo hi v) (o:Nat) (cs:List Value):SnapsW (w.setCells g o cs) lo hi v:=by
 obtain ⟨m,ys,h,hs⟩:=h
 rcases h.or hrow o cs with h | ⟨he,_,_⟩
 ·exact ⟨m,ys,h,fun i hi=>let ⟨b,h1,h2⟩:=hs i hi;⟨b,h1,h2.set hrow o cs⟩⟩
 ·exact absurd he hne
/-- a store into a row that is neither sets' nor snapshots' -/
theorem SetsW.set (hrow:w.ownsRow base e size (.slice (some ⟨g,0,none⟩) n cap) n xs) (hne:58≠e) (hne2:56≠e) {v:Value} (h:SetsW w lo hi v) (o:Nat) (cs:List Value):SetsW (w.setCells g o cs) lo hi v:=by
 obtain ⟨m,ys,h,hs⟩:=h
 rcases h.or hrow o cs with h | ⟨he,_,_⟩
 ·exact ⟨m,ys,h,fun i hi=>let ⟨b,s,p,h1,h2,h3,h4,h5,h6⟩:=hs i hi;⟨b,s,p,h1,h2,h3,h4.set hrow o cs,h5.set hrow hne o cs,h6.set hrow o cs⟩⟩
 ·exact absurd he hne2
theorem SnapsW.below {v:Value} (h:SnapsW w lo hi v) (hb:Below w.heap.size w w'):SnapsW w' lo hi v:=by
 obtain ⟨n,xs,h,hs⟩:=h
 exact ⟨n,xs,⟨own_below h.1 hb,h.2⟩,fun i hi=>let ⟨b,h1,h2⟩:=hs i hi;⟨b,h1,h2.below hb⟩⟩
theorem SetsW.below {v:Value} (h:SetsW w lo hi v) (hb:Below w.heap.size w w'):SetsW w' lo hi v:=by
 obtain ⟨n,xs,h,hs⟩:=h
 exact ⟨n,xs,⟨own_below h.1 hb,h.2⟩,fun i hi=>let ⟨b,s,p,h1,h2,h3,h4,h5,h6⟩:=hs i hi;⟨b,s,p,h1,h2,h3,h4.below hb,h5.below hb,h6.below hb⟩⟩
end
section
variable {w w':World} {base lo hi:Nat}
theorem SnapO.only {x:SnapR} (h:SnapO w base x) (hb:hi≤base) (ho:OnlyIn lo hi w w'):SnapO w' base x:=⟨h.body.only hb ho,h.tags.only hb ho,h.own.only hb ho⟩
theorem SetO.only {x:SetR} (h:SetO w base x) (hb:hi≤base) (ho:OnlyIn lo hi w w'):SetO w' base x:=⟨h.body.only hb ho,h.snaps.only hb ho,fun y hy=>(h.each y hy).only hb ho,h.own.only hb ho⟩
theorem StageO.only {x:StageR} (h:StageO w base x) (hb:hi≤base) (ho:OnlyIn lo hi w w'):StageO w' base x:=⟨h.own.only hb ho,h.body.only hb ho⟩
theorem TenO.only {x:TenR} (h:TenO w base x) (hb:hi≤base) (ho:OnlyIn lo hi w w'):TenO w' base x:=⟨h.sets.only hb ho,fun y hy=>(h.eachS y hy).only hb ho,h.grants.only hb ho,h.stages.only hb ho,fun y hy=>(h.eachG y hy).only hb ho,h.log.only hb ho⟩
/-! ### a tenant of one's own lies in lo ..< hi, hi the size of the heap -/
theorem FS.own.snaps {s:FS SnapR} (h:s.own w lo 58 5 encSnap) (he:∀ y∈s.l,SnapO w lo y):SnapsW w lo w.heap.size s.val:=by
 refine ⟨_,_,RowW.of_own h.2,fun i hi=>?_⟩
 have hl:i<s.l.length:=by rw [← h.1];exact hi
 refine ⟨(s.l[i]'hl).body.val,?_,(he _ (List.getElem_mem hl)).body.rowx⟩
 rw [show i*5+2=i*5+2 from rfl,cellsK_get (k:=5) (fun x=>by cases x;rfl) s.l i hl 2 tZ1]
 rfl
end
/-- what is known of a tenant's rows while they are written over -/
structure SpI (lo hi:Nat) (S G T L:Value) (W0 w:World):Prop where
 sets:SetsW w lo hi S
 gr:RowX w lo hi 104 3 G
 st:RowX w lo hi 77 21 T
 lg:RowX w lo hi 106 4 L
 only:OnlyIn lo hi W0 w
section
variable {lo hi size n cap g:Nat} {S G T L:Value} {W0 w:World} {e:TypeId} {xs:List Value}
theorem SpI.store (h:SpI lo hi S G T L W0 w) (hrow:w.ownsRow lo e size (.slice (some ⟨g,0,none⟩) n cap) n xs) (hlo:lo≤g) (hhi:g<hi) (hW:lo≤w.heap.size) (hne:58≠e) (hne2:56≠e) (o:Nat) (cs:List Value):SpI lo hi S G T L W0 (w.setCells g o cs) :=
 ⟨h.sets.set hrow hne hne2 o cs,h.gr.set hrow o cs,h.st.set hrow o cs,h.lg.set hrow o cs,h.only.trans (.grown (stored_all cs w xs o hrow).2 hlo hhi hW)⟩
/-- set i, as it can be read now -/
theorem SetsW.at {n c:Nat} {A:Option Addr} (h:SetsW w lo hi (.slice A n c)) {i:Nat} (hi':i<n) :
  ∃ g bA bn bc sA sn sc oA on oc xs,A=some ⟨g,0,none⟩∧lo≤g∧g<hi∧w.cell? ⟨g,i*5+2,none⟩=some (.slice bA bn bc)∧w.cell? ⟨g,i*5+3,none⟩=some (.slice sA sn sc)∧w.cell? ⟨g,i*5+4,none⟩=some (.slice oA on oc) ∧
   w.there g (i*5) 5∧w.ownsRow lo 56 5 (.slice (some ⟨g,0,none⟩) n c) n xs∧(∃ ys,RowW w lo hi 97 2 (.slice bA bn bc) bn ys)∧SnapsW w lo hi (.slice sA sn sc)∧(∃ ys,RowW w lo hi 100 2 (.slice oA on oc) on ys):=by
 obtain ⟨m,xs,hr,hs⟩:=h
 obtain ⟨_,_,e,_⟩:=own_form hr.1
 injection e with _ e1 _
 subst e1
 obtain ⟨g,c',e2,hlo,hhi,_,hc,hth,hown⟩:=hr.el hi'
 injection e2 with e3 _ e4
 subst e3 e4
 obtain ⟨b,s,o,h1,h2,h3,⟨bm,bx,h4⟩,h5,⟨om,ox,h6⟩⟩:=hs i hi'
 obtain ⟨bA,bc,rfl,_⟩:=own_form h4.1
 obtain ⟨oA,oc,rfl,_⟩:=own_form h6.1
 obtain ⟨sm,sx,h7,h8⟩:=h5
 obtain ⟨sA,sc,rfl,_⟩:=own_form h7.1
 exact ⟨g,bA,bm,bc,sA,sm,sc,oA,om,oc,xs,rfl,hlo,hhi,by rw [hc _ tZ1];exact h1,by rw [hc _ tZ1];exact h2,by rw [hc _ tZ1];exact h3,hth,hown,⟨_,h4⟩,⟨_,_,h7,h8⟩,⟨_,h6⟩⟩
theorem SnapsW.at {n c:Nat} {A:Option Addr} (h:SnapsW w lo hi (.slice A n c)) {i:Nat} (hi':i<n) :
  ∃ g bA bn bc xs,A=some ⟨g,0,none⟩∧lo≤g∧g<hi∧n≤maxLen∧w.cell? ⟨g,i*5+2,none⟩=some (.slice bA bn bc)∧w.there g (i*5) 5∧w.ownsRow lo 58 5 (.slice (some ⟨g,0,none⟩) n c) n xs∧(∃ ys,RowW w lo hi 97 2 (.slice bA bn bc) bn ys):=by
 obtain ⟨m,xs,hr,hs⟩:=h
 obtain ⟨_,_,e,_⟩:=own_form hr.1
 injection e with _ e1 _
 subst e1
 obtain ⟨g,c',e2,hlo,hhi,hm,hc,hth,hown⟩:=hr.el hi'
 injection e2 with e3 _ e4
 subst e3 e4
 obtain ⟨b,h1,⟨bm,bx,h4⟩⟩:=hs i hi'
 obtain ⟨bA,bc,rfl,_⟩:=own_form h4.1
 exact ⟨g,bA,bm,bc,xs,rfl,hlo,hhi,hm,by rw [hc _ tZ1];exact h1,hth,hown,⟨_,h4⟩⟩
end
end Go.Proofs.YtiojfffgiejibaaGreatDoor
