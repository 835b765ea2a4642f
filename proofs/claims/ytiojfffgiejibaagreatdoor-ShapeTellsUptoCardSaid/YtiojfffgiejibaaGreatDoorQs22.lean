/-
  Tenants: sizes hang on the content; what may be read below a bound may be read below a higher one. slices.Clone at elements of 3 cells, by its contract.
-/
import Derived.Test.YtiojfffgiejibaaGreatDoorQsM1
import Derived.WalkKit
import Derived.WalkSpells
import Derived.Below
import Derived.Laws.OwnMore
import Derived.Deep.AppendLies
import Derived.Deep.Draws
import Derived.Laws.Rows
import Derived.Maps.AppendAt
import Derived.RegionTactic
import Derived.OwnWalk
import Derived.Deep.QuietTactic
import Derived.BigQuiet
import Derived.Lib.Hide
import Derived.Laws.CopyOwn
import Derived.IntWalk
import Derived.Test.YtiojfffgiejibaaGreatDoorRows
import Derived.Handy
import Derived.Deep.Quiet
import Derived.Orders
import Derived.Lib.SplitLaws
import Derived.Lib.LastIndexByte
import Derived.Lib.Strings
import Derived.ShutString
import Derived.Sort.Walk0
import Derived.Sort.KeysCollected
import Derived.Shelf.Strings.Search1
import Derived.Shelf.Strings.Search2
import Derived.Shelf.Strings.Search3
import Derived.Shelf.Strings.Cut
import Derived.Shelf.Strings.Count
import Derived.Shelf.LaysM
import Derived.Shelf.Strings.Shaped
import Derived.Shelf.Strings.LastIndex
import Derived.Shelf.Strings.Split
import Derived.Shelf.Strings.SplitShaped
import Derived.Shelf.Unicode.Decode
import Derived.Shelf.Strings.RuneCount
import Derived.Shelf.Strings.Explode
import Derived.Shelf.Unicode.DecodeSlow
import Derived.Shelf.Slices.Turned
import Derived.Test.YtiojfffgiejibaaGreatDoorProg
import Derived.Laws.BytesString
import Derived.Laws.IdiomStrings
import Derived.Lib.ConvBytes
import Derived.Deep.MidRow
import Derived.Test.YtiojfffgiejibaaGreatDoorQ0
import Derived.Test.YtiojfffgiejibaaGreatDoorQs1
import Derived.Test.YtiojfffgiejibaaGreatDoorQs7
import Derived.Test.YtiojfffgiejibaaGreatDoorQs10
import Derived.Test.YtiojfffgiejibaaGreatDoorQs15
import Derived.Test.YtiojfffgiejibaaGreatDoorQs20
namespace Go.Proofs.YtiojfffgiejibaaGreatDoor
open Go.RowKit
theorem blk7 {w:World} {g:Nat} {t:TypeId} {a0 a1 a2 a3 a4 a5 a6:Value} (h:Blk w g t #[a0,a1,a2,a3,a4,a5,a6]):w.cell? ⟨g,0,none⟩=some a0∧w.cell? ⟨g,1,none⟩=some a1∧w.cell? ⟨g,2,none⟩=some a2∧w.cell? ⟨g,3,none⟩=some a3∧w.cell? ⟨g,4,none⟩=some a4∧w.cell? ⟨g,5,none⟩=some a5∧w.cell? ⟨g,6,none⟩=some a6 :=
 ⟨h.cell 0,h.cell 1,h.cell 2,h.cell 3,h.cell 4,h.cell 5,h.cell 6⟩
theorem SnapR.eqv.size {x y:SnapR} {w w':World} {B B':Nat} (h:x.eqv y) (hx:x.rd w B) (hy:y.rd w' B') (hz:x.sz):y.sz :=
 h.sz hz (FS.len_eq hx.body.1 hy.body.1 h.body) (FS.len_eq hx.tags.1 hy.tags.1 h.tags) (FS.len_eq hx.own.1 hy.own.1 h.own)
theorem SetR.eqv.size {x y:SetR} {w w':World} {B B':Nat} (h:x.eqv y) (hx:x.rd w B) (hy:y.rd w' B') (hz:x.sz):y.sz:=by
 refine ⟨by rw [← h.path];exact hz.path,by rw [← h.org];exact hz.org,by rw [FS.len_eq hx.body.1 hy.body.1 h.body];exact hz.body,by rw [hy.snaps.1,← h.len,← hx.snaps.1];exact hz.snaps,fun z hm=>?_,by rw [FS.len_eq hx.own.1 hy.own.1 h.own];exact hz.own,by rw [← h.own];exact hz.props⟩
 obtain ⟨i,hi,rfl⟩:=List.getElem_of_mem hm
 have hi':i<x.snaps.l.length:=by rw [h.len];exact hi
 exact (h.each i hi' hi).size (hx.each _ (List.getElem_mem hi')) (hy.each _ hm) (hz.each _ (List.getElem_mem hi'))
theorem StageR.eqv.size {x y:StageR} {w w':World} {B B':Nat} (h:x.eqv y) (hx:x.rd w B) (hy:y.rd w' B') (hz:x.sz):y.sz :=
 ⟨by rw [← h.into];exact hz.into,by rw [← h.nm];exact hz.nm,by rw [← h.dt];exact hz.dt,by rw [FS.len_eq hx.own.1 hy.own.1 h.own];exact hz.own,by rw [← h.own];exact hz.props,by rw [FS.len_eq hx.body.1 hy.body.1 h.body];exact hz.body⟩
theorem TenR.eqv.size {x y:TenR} {w w':World} {B B':Nat} (h:x.eqv y) (hx:x.rd w B) (hy:y.rd w' B') (hz:x.sz):y.sz:=by
 refine ⟨by rw [← h.nm];exact hz.nm,by rw [hy.sets.1,← h.lenS,← hx.sets.1];exact hz.sets,fun z hm=>?_,by rw [FS.len_eq hx.grants.1 hy.grants.1 h.grants];exact hz.grants,by rw [← h.grants];exact hz.eachG,by rw [hy.stages.1,← h.lenT,← hx.stages.1];exact hz.stages,fun z hm=>?_,by rw [FS.len_eq hx.log.1 hy.log.1 h.log];exact hz.log,by rw [← h.log];exact hz.eachL⟩
 ·obtain ⟨i,hi,rfl⟩:=List.getElem_of_mem hm
  have hi':i<x.sets.l.length:=by rw [h.lenS];exact hi
  exact (h.eachS i hi' hi).size (hx.eachS _ (List.getElem_mem hi')) (hy.eachS _ hm) (hz.eachS _ (List.getElem_mem hi'))
 ·obtain ⟨i,hi,rfl⟩:=List.getElem_of_mem hm
  have hi':i<x.stages.l.length:=by rw [h.lenT];exact hi
  exact (h.eachT i hi' hi).size (hx.eachG _ (List.getElem_mem hi')) (hy.eachG _ hm) (hz.eachT _ (List.getElem_mem hi'))
theorem SnapR.rd.more {x:SnapR} {w:World} {B B':Nat} (h:x.rd w B) (hb:B≤B'):x.rd w B':=⟨h.body.more hb,h.tags.more hb,h.own.more hb⟩
theorem SetR.rd.more {x:SetR} {w:World} {B B':Nat} (h:x.rd w B) (hb:B≤B'):x.rd w B':=⟨h.body.more hb,h.snaps.more hb,fun y hy=>(h.each y hy).more hb,h.own.more hb⟩
theorem TenR.rd.more {x:TenR} {w:World} {B B':Nat} (h:x.rd w B) (hb:B≤B'):x.rd w B':=⟨h.sets.more hb,fun y hy=>(h.eachS y hy).more hb,h.grants.more hb,h.stages.more hb,fun y hy=>⟨(h.eachG y hy).own.more hb,(h.eachG y hy).body.more hb⟩,h.log.more hb⟩
end Go.Proofs.YtiojfffgiejibaaGreatDoor
namespace Go.Proofs.YtiojfffgiejibaaGreatDoor
open Go.RowKit
theorem Tryz.cloneG_info:(Tryz.prog.info? 104).map (fun i=>(i.zero,i.size,i.bytes))=some (some (.agg #[.string ByteArray.empty,.string ByteArray.empty,.int .i64 0]),3,40):=tZ2
set_option maxRecDepth 100000 in
theorem cloneG_any (xs:List Value) (n:Nat) (A:Option Addr) (c:Nat) (w:World) (B:Nat) (hr:Reads w B 3 A n xs) (hB:B≤w.heap.size) (h1:∀ u∈xs,u.oneCell'=true) (hn:n*40≤140737488355328) :
  Calls Tryz.prog 100 #[.slice A n c] w fun e w'=>∃ v,e=.returned v∧w'.ownsRow w.heap.size 104 3 v n xs∧Below w.heap.size w w':=by
 obtain ⟨i0,hi0,hz0,hz1,hz2⟩:=info_parts Tryz.cloneG_info
 rcases A with _ | ad
 ·obtain rfl:n=0:=by
   exact mZ129
  obtain rfl:xs=[]:=List.eq_nil_of_length_eq_zero tZ62
  have heq:=fun W=>Lib.run_eql_slice_nil (P:=Tryz.prog) W 23 104 none 0 c 0 0 Tryz.underlying23
  go_enter Tryz.func100,Tryz.ntmps100
  exact mZ128
 ·have heq:=fun W=>Lib.run_eql_slice_nil (P:=Tryz.prog) W 23 104 (some ad) n c 0 0 Tryz.underlying23
  have hown:(w.alloc (.cells #[] 104)).ownsRow w.heap.size 104 3 (.slice (some ⟨w.heap.size,0,none⟩) 0 0) 0 []:=World.ownsRow_made w #[] 0 (Nat.le_refl _) tZ73 rfl
  have hra:=hr.alloc hB (.cells #[] 104)
  go_enter Tryz.func100,Tryz.ntmps100
  go_wp2_with (at_builtin;(refine wpList_append_any _ rfl (.tmp 5) (.tmp 6) _ rfl w.heap.size 104 i0 _ 3 40 Tryz.underlying23 hi0 hz0 hz1 hz2 rfl tZ1 (.slice (some ⟨w.heap.size,0,none⟩) 0 0) 0 [] rfl hown B (some ad) n c xs rfl hra h1 tZ11 tZ1 tZ3 ?_);intro v1 w2 hown1 hg1 hat1)
  exact mZ127
end Go.Proofs.YtiojfffgiejibaaGreatDoor
