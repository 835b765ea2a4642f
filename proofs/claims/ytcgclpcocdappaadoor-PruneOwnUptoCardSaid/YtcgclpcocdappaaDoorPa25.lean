/-
  slices.Clone at blocks, texts, properties and entries; the page's Own of contents: by their contracts. tree.copySnap, by its contract. tree.Copy: a copy is of one content with the tenant, in memory of its own.
-/
import Derived.Test.YtcgclpcocdappaaDoorRows
import Derived.Handy
import Derived.WalkKit
import Derived.WalkSpells
import Derived.Below
import Derived.Laws.OwnMore
import Derived.Deep.AppendLies
import Derived.Deep.Draws
import Derived.Laws.Rows
import Derived.Maps.AppendAt
import Derived.RegionTactic
import Derived.OwnWalk
import Derived.Deep.QuietTactic
import Derived.BigQuiet
import Derived.Lib.Hide
import Derived.Laws.CopyOwn
import Derived.IntWalk
import Derived.Deep.DeepCutAuto
import Derived.Deep.Quiet
import Derived.Orders
import Derived.Sort.Walk0
import Derived.Sort.KeysCollected
import Derived.Laws.BytesString
import Derived.Laws.IdiomStrings
import Derived.Lib.ConvBytes
import Derived.Lib.Strings
import Derived.Deep.MidRow
import Derived.ProofKit
import Derived.OpenShut
import Derived.ShutString
import Derived.ChangeOld
import Derived.Carry
import Derived.SizedLaws
import Derived.JoinedCond
import Derived.Deep.CondSized
import Derived.Deep.Slices
import Derived.Deep.Fields
import Derived.Lib.SmallJoins
import Derived.Lib.SplitLaws
import Derived.Lib.LastIndexByte
import Derived.Shelf.Strings.Search1
import Derived.Shelf.Strings.Search2
import Derived.Shelf.Strings.Search3
import Derived.Shelf.Strings.Cut
import Derived.Shelf.Strings.Count
import Derived.Shelf.LaysM
import Derived.Shelf.Strings.Shaped
import Derived.Shelf.Strings.LastIndex
import Derived.Shelf.Strings.Split
import Derived.Shelf.Strings.SplitShaped
import Derived.Shelf.Unicode.Decode
import Derived.Shelf.Strings.RuneCount
import Derived.Shelf.Strings.Explode
import Derived.Shelf.Unicode.DecodeSlow
import Derived.Shelf.Slices.Turned
import Derived.Test.YtcgclpcocdappaaDoorProg
import Derived.Great.BuildSlice
import Derived.Test.YtcgclpcocdappaaDoorP0
import Derived.Test.YtcgclpcocdappaaDoorPa1
import Derived.Test.YtcgclpcocdappaaDoorPa5
import Derived.Test.YtcgclpcocdappaaDoorPa7
import Derived.Test.YtcgclpcocdappaaDoorPa10
import Derived.Test.YtcgclpcocdappaaDoorPa13
import Derived.Test.YtcgclpcocdappaaDoorPa17
import Derived.Test.YtcgclpcocdappaaDoorPa19
import Derived.Test.YtcgclpcocdappaaDoorPa21
import Derived.Test.YtcgclpcocdappaaDoorPa22
import Derived.Test.YtcgclpcocdappaaDoorPa23
import Derived.Test.YtcgclpcocdappaaDoorPa24
import Derived.Test.YtcgclpcocdappaaDoorPa26
import Derived.Test.YtcgclpcocdappaaDoorPa27
namespace Go.Proofs.YtcgclpcocdappaaDoor
open Go.RowKit
theorem Tryd.cloneBl_info:(Tryd.prog.info? 66).map (fun i=>(i.zero,i.size,i.bytes))=some (some (.agg #[.int .i64 0,.string ByteArray.empty]),2,24):=by kernel_rfl
set_option maxRecDepth 100000 in
theorem cloneBl_any (xs:List Value) (n:Nat) (A:Option Addr) (c:Nat) (w:World) (B:Nat) (hr:Reads w B 2 A n xs) (hB:B≤w.heap.size) (h1:∀ u∈xs,u.oneCell'=true) (hn:n*24≤140737488355328) :
  Calls Tryd.prog 60 #[.slice A n c] w fun e w'=>∃ v,e=.returned v∧w'.ownsRow w.heap.size 66 2 v n xs∧Below w.heap.size w w':=by
 obtain ⟨i0,hi0,hz0,hz1,hz2⟩:=info_parts Tryd.cloneBl_info
 rcases A with _ | ad
 ·obtain rfl:n=0:=by
   rcases Nat.eq_zero_or_pos n with h | h
   ·exact h
   ·obtain ⟨_,h,_⟩:=hr.2 h;cases h
  obtain rfl:xs=[]:=List.eq_nil_of_length_eq_zero (by simpa using hr.1)
  have heq:=fun W=>Lib.run_eql_slice_nil (P:=Tryd.prog) W 38 66 none 0 c 0 0 Tryd.underlying38
  go_enter Tryd.func60,Tryd.ntmps60
  go_wp2_with fail
  go_ret
  exact ⟨_,rfl,World.ownsRow_nil _ _ _ _,Below.refl _ _⟩
 ·have heq:=fun W=>Lib.run_eql_slice_nil (P:=Tryd.prog) W 38 66 (some ad) n c 0 0 Tryd.underlying38
  have hown:(w.alloc (.cells #[] 66)).ownsRow w.heap.size 66 2 (.slice (some ⟨w.heap.size,0,none⟩) 0 0) 0 []:=World.ownsRow_made w #[] 0 (Nat.le_refl _) (by simp [maxLen]) rfl
  have hra:=hr.alloc hB (.cells #[] 66)
  go_enter Tryd.func60,Tryd.ntmps60
  go_wp2_with (at_builtin;(refine wpList_append_any _ rfl (.tmp 5) (.tmp 6) _ rfl w.heap.size 66 i0 _ 2 24 Tryd.underlying38 hi0 hz0 hz1 hz2 rfl (by omega) (.slice (some ⟨w.heap.size,0,none⟩) 0 0) 0 [] rfl hown B (some ad) n c xs rfl hra h1 (by unfold maxLen;omega) (by omega) (by simp) ?_);intro v1 w2 hown1 hg1 hat1)
  go_ret
  refine ⟨v1,rfl,by simpa using hown1,((Below.refl _ _).alloc (Nat.le_refl _) _).grown hg1 (by simp) (fun k hk=>?_)⟩
  simp [Value.ownBlock] at hk
  omega
theorem Tryd.cloneSt_info:(Tryd.prog.info? 9).map (fun i=>(i.zero,i.size,i.bytes))=some (some (.string ByteArray.empty),1,16):=by kernel_rfl
set_option maxRecDepth 100000 in
theorem cloneSt_any (xs:List Value) (n:Nat) (A:Option Addr) (c:Nat) (w:World) (B:Nat) (hr:Reads w B 1 A n xs) (hB:B≤w.heap.size) (h1:∀ u∈xs,u.oneCell'=true) (hn:n*16≤140737488355328) :
  Calls Tryd.prog 76 #[.slice A n c] w fun e w'=>∃ v,e=.returned v∧w'.ownsRow w.heap.size 9 1 v n xs∧Below w.heap.size w w':=by
 obtain ⟨i0,hi0,hz0,hz1,hz2⟩:=info_parts Tryd.cloneSt_info
 rcases A with _ | ad
 ·obtain rfl:n=0:=by
   rcases Nat.eq_zero_or_pos n with h | h
   ·exact h
   ·obtain ⟨_,h,_⟩:=hr.2 h;cases h
  obtain rfl:xs=[]:=List.eq_nil_of_length_eq_zero (by simpa using hr.1)
  have heq:=fun W=>Lib.run_eql_slice_nil (P:=Tryd.prog) W 39 9 none 0 c 0 0 Tryd.underlying39
  go_enter Tryd.func76,Tryd.ntmps76
  go_wp2_with fail
  go_ret
  exact ⟨_,rfl,World.ownsRow_nil _ _ _ _,Below.refl _ _⟩
 ·have heq:=fun W=>Lib.run_eql_slice_nil (P:=Tryd.prog) W 39 9 (some ad) n c 0 0 Tryd.underlying39
  have hown:(w.alloc (.cells #[] 9)).ownsRow w.heap.size 9 1 (.slice (some ⟨w.heap.size,0,none⟩) 0 0) 0 []:=World.ownsRow_made w #[] 0 (Nat.le_refl _) (by simp [maxLen]) rfl
  have hra:=hr.alloc hB (.cells #[] 9)
  go_enter Tryd.func76,Tryd.ntmps76
  go_wp2_with (at_builtin;(refine wpList_append_any _ rfl (.tmp 5) (.tmp 6) _ rfl w.heap.size 9 i0 _ 1 16 Tryd.underlying39 hi0 hz0 hz1 hz2 rfl (by omega) (.slice (some ⟨w.heap.size,0,none⟩) 0 0) 0 [] rfl hown B (some ad) n c xs rfl hra h1 (by unfold maxLen;omega) (by omega) (by simp) ?_);intro v1 w2 hown1 hg1 hat1)
  go_ret
  refine ⟨v1,rfl,by simpa using hown1,((Below.refl _ _).alloc (Nat.le_refl _) _).grown hg1 (by simp) (fun k hk=>?_)⟩
  simp [Value.ownBlock] at hk
  omega
theorem Tryd.clonePr_info:(Tryd.prog.info? 68).map (fun i=>(i.zero,i.size,i.bytes))=some (some (.agg #[.string ByteArray.empty,.string ByteArray.empty]),2,32):=by kernel_rfl
set_option maxRecDepth 100000 in
theorem clonePr_any (xs:List Value) (n:Nat) (A:Option Addr) (c:Nat) (w:World) (B:Nat) (hr:Reads w B 2 A n xs) (hB:B≤w.heap.size) (h1:∀ u∈xs,u.oneCell'=true) (hn:n*32≤140737488355328) :
  Calls Tryd.prog 61 #[.slice A n c] w fun e w'=>∃ v,e=.returned v∧w'.ownsRow w.heap.size 68 2 v n xs∧Below w.heap.size w w':=by
 obtain ⟨i0,hi0,hz0,hz1,hz2⟩:=info_parts Tryd.clonePr_info
 rcases A with _ | ad
 ·obtain rfl:n=0:=by
   rcases Nat.eq_zero_or_pos n with h | h
   ·exact h
   ·obtain ⟨_,h,_⟩:=hr.2 h;cases h
  obtain rfl:xs=[]:=List.eq_nil_of_length_eq_zero (by simpa using hr.1)
  have heq:=fun W=>Lib.run_eql_slice_nil (P:=Tryd.prog) W 40 68 none 0 c 0 0 Tryd.underlying40
  go_enter Tryd.func61,Tryd.ntmps61
  go_wp2_with fail
  go_ret
  exact ⟨_,rfl,World.ownsRow_nil _ _ _ _,Below.refl _ _⟩
 ·have heq:=fun W=>Lib.run_eql_slice_nil (P:=Tryd.prog) W 40 68 (some ad) n c 0 0 Tryd.underlying40
  have hown:(w.alloc (.cells #[] 68)).ownsRow w.heap.size 68 2 (.slice (some ⟨w.heap.size,0,none⟩) 0 0) 0 []:=World.ownsRow_made w #[] 0 (Nat.le_refl _) (by simp [maxLen]) rfl
  have hra:=hr.alloc hB (.cells #[] 68)
  go_enter Tryd.func61,Tryd.ntmps61
  go_wp2_with (at_builtin;(refine wpList_append_any _ rfl (.tmp 5) (.tmp 6) _ rfl w.heap.size 68 i0 _ 2 32 Tryd.underlying40 hi0 hz0 hz1 hz2 rfl (by omega) (.slice (some ⟨w.heap.size,0,none⟩) 0 0) 0 [] rfl hown B (some ad) n c xs rfl hra h1 (by unfold maxLen;omega) (by omega) (by simp) ?_);intro v1 w2 hown1 hg1 hat1)
  go_ret
  refine ⟨v1,rfl,by simpa using hown1,((Below.refl _ _).alloc (Nat.le_refl _) _).grown hg1 (by simp) (fun k hk=>?_)⟩
  simp [Value.ownBlock] at hk
  omega
theorem Tryd.cloneEn_info:(Tryd.prog.info? 72).map (fun i=>(i.zero,i.size,i.bytes))=some (some (.agg #[.string ByteArray.empty,.int .i64 0,.string ByteArray.empty,.int .i64 0]),4,48):=by kernel_rfl
set_option maxRecDepth 100000 in
theorem cloneEn_any (xs:List Value) (n:Nat) (A:Option Addr) (c:Nat) (w:World) (B:Nat) (hr:Reads w B 4 A n xs) (hB:B≤w.heap.size) (h1:∀ u∈xs,u.oneCell'=true) (hn:n*48≤140737488355328) :
  Calls Tryd.prog 39 #[.slice A n c] w fun e w'=>∃ v,e=.returned v∧w'.ownsRow w.heap.size 72 4 v n xs∧Below w.heap.size w w':=by
 obtain ⟨i0,hi0,hz0,hz1,hz2⟩:=info_parts Tryd.cloneEn_info
 rcases A with _ | ad
 ·obtain rfl:n=0:=by
   rcases Nat.eq_zero_or_pos n with h | h
   ·exact h
   ·obtain ⟨_,h,_⟩:=hr.2 h;cases h
  obtain rfl:xs=[]:=List.eq_nil_of_length_eq_zero (by simpa using hr.1)
  have heq:=fun W=>Lib.run_eql_slice_nil (P:=Tryd.prog) W 25 72 none 0 c 0 0 Tryd.underlying25
  go_enter Tryd.func39,Tryd.ntmps39
  go_wp2_with fail
  go_ret
  exact ⟨_,rfl,World.ownsRow_nil _ _ _ _,Below.refl _ _⟩
 ·have heq:=fun W=>Lib.run_eql_slice_nil (P:=Tryd.prog) W 25 72 (some ad) n c 0 0 Tryd.underlying25
  have hown:(w.alloc (.cells #[] 72)).ownsRow w.heap.size 72 4 (.slice (some ⟨w.heap.size,0,none⟩) 0 0) 0 []:=World.ownsRow_made w #[] 0 (Nat.le_refl _) (by simp [maxLen]) rfl
  have hra:=hr.alloc hB (.cells #[] 72)
  go_enter Tryd.func39,Tryd.ntmps39
  go_wp2_with (at_builtin;(refine wpList_append_any _ rfl (.tmp 5) (.tmp 6) _ rfl w.heap.size 72 i0 _ 4 48 Tryd.underlying25 hi0 hz0 hz1 hz2 rfl (by omega) (.slice (some ⟨w.heap.size,0,none⟩) 0 0) 0 [] rfl hown B (some ad) n c xs rfl hra h1 (by unfold maxLen;omega) (by omega) (by simp) ?_);intro v1 w2 hown1 hg1 hat1)
  go_ret
  refine ⟨v1,rfl,by simpa using hown1,((Below.refl _ _).alloc (Nat.le_refl _) _).grown hg1 (by simp) (fun k hk=>?_)⟩
  simp [Value.ownBlock] at hk
  omega
set_option maxRecDepth 100000 in
theorem rownT_any (xs:List Value) (n:Nat) (A:Option Addr) (c:Nat) (w:World) (B:Nat) (hr:Reads w B 2 A n xs) (h1:∀ u∈xs,u.oneCell'=true) (hn:n≤5000000000000) :
  Calls Tryd.prog 10 #[.slice A n c] w fun e w'=>∃ v,e=.returned v∧w'.ownsRow w.heap.size 66 2 v n xs∧Below w.heap.size w w':=by
 obtain ⟨i0,hi0,hz0,hz1,hz2⟩:=info_parts Tryd.cloneBl_info
 go_enter Tryd.func10,Tryd.ntmps10
 go_wp2_with (at_builtin;(refine wpList_append_any _ rfl (.tmp 4) (.tmp 5) _ rfl w.heap.size 66 i0 _ 2 24 Tryd.underlying38 hi0 hz0 hz1 hz2 rfl (by omega) (.slice none 0 0) 0 [] rfl (World.ownsRow_nil _ _ _ _) B A n c xs rfl hr h1 (by unfold maxLen;omega) (by omega) (Nat.le_refl _) ?_);intro v1 w1 hown1 hg1 _)
 go_ret
 refine ⟨v1,rfl,by simpa using hown1,((Below.refl _ _).grown hg1 (Nat.le_refl _) (fun k hk=>by simp [Value.ownBlock] at hk))⟩
end Go.Proofs.YtcgclpcocdappaaDoor
namespace Go.Proofs.YtcgclpcocdappaaDoor
open Go.RowKit
theorem own_setCells_below {base size n:Nat} {t:TypeId} {v:Value} {xs:List Value} {g:Nat} (hg:g<base) (cs:List Value):∀ (w:World) (o:Nat),w.ownsRow base t size v n xs→(w.setCells g o cs).ownsRow base t size v n xs:=by
 induction cs with
 | nil=>intro w o h;exact h
 | cons u cs ih=>intro w o h;exact ih _ _ (own_setCell_below (p:=⟨g,o,none⟩) h hg u)
set_option maxRecDepth 100000 in
set_option maxHeartbeats 8000000 in
theorem copySnap_any (nm:BS) (gd:Int) (b1:Option Addr) (bn b3:Nat) (t1:Option Addr) (tn t3:Nat) (o1:Option Addr) (on o3:Nat) (xb xt xo:List Value) (w:World) (B:Nat) (hB:B≤w.heap.size)
  (hb:Reads w B 2 b1 bn xb) (ht:Reads w B 1 t1 tn xt) (ho:Reads w B 2 o1 on xo) (h1:∀ u∈xb,u.oneCell'=true) (h2:∀ u∈xt,u.oneCell'=true) (h3:∀ u∈xo,u.oneCell'=true) (hbn:bn≤1000000000000) (htn:tn≤1000000000000) (hon:on≤1000000000000) :
  Calls Tryd.prog 63 #[.agg #[.string ⟨nm.toArray⟩,.int .i64 gd,.slice b1 bn b3,.slice t1 tn t3,.slice o1 on o3]] w fun e w'=>∃ Ab cb At ct Ao co,e=.returned (.agg #[.string ⟨nm.toArray⟩,.int .i64 gd,.slice Ab bn cb,.slice At tn ct,.slice Ao on co])∧w'.ownsRow w.heap.size 66 2 (.slice Ab bn cb) bn xb∧w'.ownsRow w.heap.size 9 1 (.slice At tn ct) tn xt∧w'.ownsRow w.heap.size 68 2 (.slice Ao on co) on xo∧Below w.heap.size w w':=by
 have hC1:Hid (∀ W,Below w.heap.size w W→Calls Tryd.prog 60 #[.slice b1 bn b3] W fun e w'=>∃ v,e=.returned v∧w'.ownsRow W.heap.size 66 2 v bn xb∧Below W.heap.size W w'):=fun W h=>cloneBl_any xb bn b1 b3 W B (hb.below (h.mono hB)) (by have:=h.size;omega) h1 (by omega)
 have hC2:Hid (∀ W,Below w.heap.size w W→Calls Tryd.prog 76 #[.slice t1 tn t3] W fun e w'=>∃ v,e=.returned v∧w'.ownsRow W.heap.size 9 1 v tn xt∧Below W.heap.size W w'):=fun W h=>cloneSt_any xt tn t1 t3 W B (ht.below (h.mono hB)) (by have:=h.size;omega) h2 (by omega)
 have hC3:Hid (∀ W,Below w.heap.size w W→Calls Tryd.prog 61 #[.slice o1 on o3] W fun e w'=>∃ v,e=.returned v∧w'.ownsRow W.heap.size 68 2 v on xo∧Below W.heap.size W w'):=fun W h=>clonePr_any xo on o1 o3 W B (ho.below (h.mono hB)) (by have:=h.size;omega) h3 (by omega)
 clear hb ht ho h1 h2 h3
 go_enter Tryd.func63,Tryd.ntmps63
 go_upto_region 1 with (fail)
 have kB:=(Blk.new w 42 #[.string ⟨nm.toArray⟩,.int .i64 gd,.slice b1 bn b3,.slice t1 tn t3,.slice o1 on o3]).alloc (.cells #[.string ⟨#[]⟩,.int .i64 0,.slice none 0 0,.slice none 0 0,.slice none 0 0] 42)
 have kZ:=Blk.new (w.alloc (.cells #[.string ⟨nm.toArray⟩,.int .i64 gd,.slice b1 bn b3,.slice t1 tn t3,.slice o1 on o3] 42)) 42 #[.string ⟨#[]⟩,.int .i64 0,.slice none 0 0,.slice none 0 0,.slice none 0 0]
 rw [show (w.alloc (.cells #[.string ⟨nm.toArray⟩,.int .i64 gd,.slice b1 bn b3,.slice t1 tn t3,.slice o1 on o3] 42)).heap.size=w.heap.size+1 by simp] at kZ
 have hb2:=((Below.refl w.heap.size w).alloc (Nat.le_refl _) (.cells #[.string ⟨nm.toArray⟩,.int .i64 gd,.slice b1 bn b3,.slice t1 tn t3,.slice o1 on o3] 42)).alloc (by simp) (.cells #[.string ⟨#[]⟩,.int .i64 0,.slice none 0 0,.slice none 0 0,.slice none 0 0] 42)
 obtain ⟨W2,hW2⟩:∃ W,W=(w.alloc (.cells #[.string ⟨nm.toArray⟩,.int .i64 gd,.slice b1 bn b3,.slice t1 tn t3,.slice o1 on o3] 42)).alloc (.cells #[.string ⟨#[]⟩,.int .i64 0,.slice none 0 0,.slice none 0 0,.slice none 0 0] 42):=⟨_,rfl⟩
 have hsz:W2.heap.size=w.heap.size+2:=by rw [hW2];simp
 rw [← hW2] at kB kZ hb2 ⊢
 have K:=Lib.hid kB.drew
 have K2:=Lib.hid kZ.drew
 have HB:=Lib.hid hb2.drew
 have HZ:=Lib.hid (show w.heap.size+2≤W2.drew.heap.size by show _≤W2.heap.size;omega)
 have c0:=kB.cell 0
 have c1:=kB.cell 1
 have c2:=kB.cell 2
 have c3:=kB.cell 3
 have c4:=kB.cell 4
 simp only [zF,zD,zE] at c0 c1 c2 c3 c4
 clear hW2 kB kZ hb2 hsz
 go_cut [1,2] from 0 to 14 (fun s1 s2 wx=>s1=.pointer (some ⟨w.heap.size,0,none⟩)∧s2=.pointer (some ⟨w.heap.size+1,0,none⟩)∧∃ Ab cb At ct Ao co,Blk wx w.heap.size 42 #[.string ⟨nm.toArray⟩,.int .i64 gd,.slice Ab bn cb,.slice At tn ct,.slice Ao on co]∧Blk wx (w.heap.size+1) 42 #[.string ⟨#[]⟩,.int .i64 0,.slice none 0 0,.slice none 0 0,.slice none 0 0]∧wx.ownsRow (w.heap.size+2) 66 2 (.slice Ab bn cb) bn xb∧wx.ownsRow (w.heap.size+2) 9 1 (.slice At tn ct) tn xt∧wx.ownsRow (w.heap.size+2) 68 2 (.slice Ao on co) on xo∧Below w.heap.size w wx)
 case first =>
  go_region_law (first | (go_simp;with_reducible refine (hC1.out _ HB.out).mono ?_;rintro e w2 ⟨v,rfl,ho,hb⟩;obtain ⟨Ab,cb,rfl,_,_,_⟩:=own_form ho;have HOb:=Lib.hid (own_mono ho HZ.out);(try have HOt:=Lib.hid (own_below HOt.out hb));(try have HOo:=Lib.hid (own_below HOo.out hb));have HZ:=Lib.hid (Nat.le_trans HZ.out hb.size);have HB:=Lib.hid (HB.out.trans (hb.mono HB.out.size));have K2:=Lib.hid (K2.out.below hb K2.out.lt);have K:=Lib.hid (K.out.below hb K.out.lt);obtain ⟨c0,c1,c2,c3,c4⟩:=(⟨K.out.cell 0,K.out.cell 1,K.out.cell 2,K.out.cell 3,K.out.cell 4⟩:_∧_∧_∧_∧_);simp only [zF,zD,zE] at c0 c1 c2 c3 c4;have f2:=K.out.frozen 2;have f3:=K.out.frozen 3;have f4:=K.out.frozen 4;clear ho hb) | (go_simp;with_reducible refine (hC2.out _ HB.out).mono ?_;rintro e w2 ⟨v,rfl,ho,hb⟩;obtain ⟨At,ct,rfl,_,_,_⟩:=own_form ho;have HOt:=Lib.hid (own_mono ho HZ.out);(try have HOb:=Lib.hid (own_below HOb.out hb));(try have HOo:=Lib.hid (own_below HOo.out hb));have HZ:=Lib.hid (Nat.le_trans HZ.out hb.size);have HB:=Lib.hid (HB.out.trans (hb.mono HB.out.size));have K2:=Lib.hid (K2.out.below hb K2.out.lt);have K:=Lib.hid (K.out.below hb K.out.lt);obtain ⟨c0,c1,c2,c3,c4⟩:=(⟨K.out.cell 0,K.out.cell 1,K.out.cell 2,K.out.cell 3,K.out.cell 4⟩:_∧_∧_∧_∧_);simp only [zF,zD,zE] at c0 c1 c2 c3 c4;have f2:=K.out.frozen 2;have f3:=K.out.frozen 3;have f4:=K.out.frozen 4;clear ho hb) | (go_simp;with_reducible refine (hC3.out _ HB.out).mono ?_;rintro e w2 ⟨v,rfl,ho,hb⟩;obtain ⟨Ao,co,rfl,_,_,_⟩:=own_form ho;have HOo:=Lib.hid (own_mono ho HZ.out);(try have HOb:=Lib.hid (own_below HOb.out hb));(try have HOt:=Lib.hid (own_below HOt.out hb));have HZ:=Lib.hid (Nat.le_trans HZ.out hb.size);have HB:=Lib.hid (HB.out.trans (hb.mono HB.out.size));have K2:=Lib.hid (K2.out.below hb K2.out.lt);have K:=Lib.hid (K.out.below hb K.out.lt);obtain ⟨c0,c1,c2,c3,c4⟩:=(⟨K.out.cell 0,K.out.cell 1,K.out.cell 2,K.out.cell 3,K.out.cell 4⟩:_∧_∧_∧_∧_);simp only [zF,zD,zE] at c0 c1 c2 c3 c4;have f2:=K.out.frozen 2;have f3:=K.out.frozen 3;have f4:=K.out.frozen 4;clear ho hb))
  all_goals
   have k3:=((K.out.set_ 2 (.slice Ab bn cb)).set_ 3 (.slice At tn ct)).set_ 4 (.slice Ao on co)
   have kz:=((K2.out.far (p:=⟨w.heap.size,2,none⟩) (by simp) (.slice Ab bn cb)).far (p:=⟨w.heap.size,3,none⟩) (by simp) (.slice At tn ct)).far (p:=⟨w.heap.size,4,none⟩) (by simp) (.slice Ao on co)
   have q1:=own_setCell_below (p:=⟨w.heap.size,4,none⟩) (own_setCell_below (p:=⟨w.heap.size,3,none⟩) (own_setCell_below (p:=⟨w.heap.size,2,none⟩) HOb.out (by show w.heap.size<_;omega) (.slice Ab bn cb)) (by show w.heap.size<_;omega) (.slice At tn ct)) (by show w.heap.size<_;omega) (.slice Ao on co)
   have q2:=own_setCell_below (p:=⟨w.heap.size,4,none⟩) (own_setCell_below (p:=⟨w.heap.size,3,none⟩) (own_setCell_below (p:=⟨w.heap.size,2,none⟩) HOt.out (by show w.heap.size<_;omega) (.slice Ab bn cb)) (by show w.heap.size<_;omega) (.slice At tn ct)) (by show w.heap.size<_;omega) (.slice Ao on co)
   have q3:=own_setCell_below (p:=⟨w.heap.size,4,none⟩) (own_setCell_below (p:=⟨w.heap.size,3,none⟩) (own_setCell_below (p:=⟨w.heap.size,2,none⟩) HOo.out (by show w.heap.size<_;omega) (.slice Ab bn cb)) (by show w.heap.size<_;omega) (.slice At tn ct)) (by show w.heap.size<_;omega) (.slice Ao on co)
   have hbw:=((HB.out.setCell (p:=⟨w.heap.size,2,none⟩) (Nat.le_refl _) (.slice Ab bn cb)).setCell (p:=⟨w.heap.size,3,none⟩) (Nat.le_refl _) (.slice At tn ct)).setCell (p:=⟨w.heap.size,4,none⟩) (Nat.le_refl _) (.slice Ao on co)
   have HH:=Lib.hid (show _∧_∧_∧_∧_∧_ from ⟨k3,kz,q1,q2,q3,hbw⟩)
   clear k3 kz q1 q2 q3 hbw c0 c1 c2 c3 c4 f2 f3 f4
   go_wp2_with fail
   go_meet
   exact ⟨rfl,rfl,Ab,cb,At,ct,Ao,co,HH.out.1,HH.out.2.1,HH.out.2.2.1,HH.out.2.2.2.1,HH.out.2.2.2.2.1,HH.out.2.2.2.2.2⟩
 case rest =>
 obtain ⟨rfl,rfl,Ab,cb,At,ct,Ao,co,k3,kz,q1,q2,q3,hbw⟩:=hcut
 clear K K2 HB HZ hC1 hC2 hC3 c0 c1 c2 c3 c4
 obtain ⟨c0,c1,c2,c3,c4⟩:=(⟨k3.cell 0,k3.cell 1,k3.cell 2,k3.cell 3,k3.cell 4⟩:_∧_∧_∧_∧_)
 simp at c0 c1 c2 c3 c4
 have hth:=Lib.hid (kz.there 5 (by decide))
 have k4:=Blk.setCells (g:=w.heap.size+1) [.string ⟨nm.toArray⟩,.int .i64 gd,.slice Ab bn cb,.slice At tn ct,.slice Ao on co] wc [] [.string ⟨#[]⟩,.int .i64 0,.slice none 0 0,.slice none 0 0,.slice none 0 0] rfl kz
 simp only [List.length_nil,List.nil_append] at k4
 have q1:=Lib.hid (own_setCells_below (g:=w.heap.size+1) (by omega) [.string ⟨nm.toArray⟩,.int .i64 gd,.slice Ab bn cb,.slice At tn ct,.slice Ao on co] wc 0 q1)
 have q2:=Lib.hid (own_setCells_below (g:=w.heap.size+1) (by omega) [.string ⟨nm.toArray⟩,.int .i64 gd,.slice Ab bn cb,.slice At tn ct,.slice Ao on co] wc 0 q2)
 have q3:=Lib.hid (own_setCells_below (g:=w.heap.size+1) (by omega) [.string ⟨nm.toArray⟩,.int .i64 gd,.slice Ab bn cb,.slice At tn ct,.slice Ao on co] wc 0 q3)
 have hbw:=Lib.hid (below_setCells (g:=w.heap.size+1) (by omega) [.string ⟨nm.toArray⟩,.int .i64 gd,.slice Ab bn cb,.slice At tn ct,.slice Ao on co] wc 0 hbw)
 obtain ⟨W4,hW4⟩:∃ W,W=wc.setCells (w.heap.size+1) 0 (#[.string ⟨nm.toArray⟩,.int .i64 gd,.slice Ab bn cb,.slice At tn ct,.slice Ao on co]:Array Value).toList:=⟨_,rfl⟩
 rw [show ([.string ⟨nm.toArray⟩,.int .i64 gd,.slice Ab bn cb,.slice At tn ct,.slice Ao on co]:List Value)=(#[.string ⟨nm.toArray⟩,.int .i64 gd,.slice Ab bn cb,.slice At tn ct,.slice Ao on co]:Array Value).toList from rfl,← hW4] at k4 q1 q2 q3 hbw
 obtain ⟨d0,d1,d2,d3,d4⟩:=(⟨k4.cell 0,k4.cell 1,k4.cell 2,k4.cell 3,k4.cell 4⟩:_∧_∧_∧_∧_)
 simp at d0 d1 d2 d3 d4
 have HD:=Lib.hid (show _∧_∧_∧_∧_ from ⟨d0,d1,d2,d3,d4⟩)
 clear k3 kz k4 d0 d1 d2 d3 d4
 go_wp2_with (refine wpList_store_mid rfl 42 (.tmp 2) (.tmp 15) rfl (w.heap.size+1) 0 #[.string ⟨nm.toArray⟩,.int .i64 gd,.slice Ab bn cb,.slice At tn ct,.slice Ao on co] rfl rfl hth.out (by kernel_rfl) (by simp [Value.oneCell']) ?_;rw [← hW4];clear hW4)
 obtain ⟨d0,d1,d2,d3,d4⟩:=HD.out
 refine bodyPost_ret (v:=.agg #[.string ⟨nm.toArray⟩,.int .i64 gd,.slice Ab bn cb,.slice At tn ct,.slice Ao on co]) (by simp [results,Tryd.results63,go_sem,d0,d1,d2,d3,d4]) rfl ⟨Ab,cb,At,ct,Ao,co,rfl,own_mono q1.out (by omega),own_mono q2.out (by omega),own_mono q3.out (by omega),hbw.out⟩
end Go.Proofs.YtcgclpcocdappaaDoor
namespace Go.Proofs.YtcgclpcocdappaaDoor
open Go.RowKit
theorem keptSnap:Kept (fun b w (y:SnapR)=>SnapO w b y):=⟨fun _ _ _ _ h hb=>h.below hb,fun _ _ _ _ _ h hg hl=>h.kept hg hl,fun _ _ _ _ h hb=>h.mono hb⟩
theorem keptSet:Kept (fun b w (y:SetR)=>SetO w b y):=⟨fun _ _ _ _ h hb=>h.below hb,fun _ _ _ _ _ h hg hl=>h.kept hg hl,fun _ _ _ _ h hb=>h.mono hb⟩
theorem keptStage:Kept (fun b w (y:StageR)=>StageO w b y):=⟨fun _ _ _ _ h hb=>h.below hb,fun _ _ _ _ _ h hg hl=>h.kept hg hl,fun _ _ _ _ h hb=>h.mono hb⟩
theorem cells_one {α:Type} {enc:α→List Value} (h:∀ x,∀ u∈enc x,u.oneCell'=true) (l:List α):∀ u∈cellsK enc l,u.oneCell'=true:=by
 intro u hu
 obtain ⟨x,_,hx⟩:=List.mem_flatMap.1 hu
 exact h x u hx
theorem encB_one (x:BlkT):∀ u∈encB x,u.oneCell'=true:=by intro u hu;simp [encB,strV] at hu;rcases hu with rfl | rfl <;> rfl
theorem encP_one (x:BS×BS):∀ u∈encP x,u.oneCell'=true:=by intro u hu;simp [encP,strV] at hu;rcases hu with rfl | rfl <;> rfl
theorem encS_one (x:BS):∀ u∈encS x,u.oneCell'=true:=by intro u hu;simp [encS,strV] at hu;subst hu;rfl
theorem encG_one (x:GT):∀ u∈encG x,u.oneCell'=true:=by intro u hu;simp [encG,strV] at hu;rcases hu with rfl | rfl | rfl <;> rfl
theorem encE_one (x:EntryR):∀ u∈encEntry x,u.oneCell'=true:=by intro u hu;simp [encEntry,strV] at hu;rcases hu with rfl | rfl | rfl | rfl <;> rfl
/-- an owned row is one of a lower base, whatever is done to a box below it -/
theorem own_kept {W W':World} {r:Nat} {base:Nat} {e:TypeId} {k n:Nat} {v:Value} {xs:List Value} (h:W.ownsRow base e k v n xs) (hg:W.grownBy W' (some r)) (hr:r<base):W'.ownsRow base e k v n xs :=
 h.kept hg (.inr fun hh=>by have:=(h.lt _ hh).1;omega)
/-- the rows of tags of two snapshots are not one -/
def ApartT (y z:SnapR):Prop:=∀ g,y.tags.val.ownBlock=some g→z.tags.val.ownBlock≠some g
theorem apartT_of (b b':Nat) (w w':World) (y z:SnapR) (hy:SnapO w b y) (hz:SnapO w' b' z) (h:w.heap.size≤b'):ApartT y z:=fun g h1 h2=>by
 have:=hy.tags.2.lt _ h1
 have:=hz.tags.2.lt _ h2
 omega
/-- a set of one's own of which no two snapshots have one row of tags -/
def SetOT (w:World) (b:Nat) (y:SetR):Prop:=SetO w b y∧y.snaps.l.Pairwise ApartT
theorem keptSetT:Kept (fun b w (y:SetR)=>SetOT w b y):=⟨fun _ _ _ _ h hb=>⟨h.1.below hb,h.2⟩,fun _ _ _ _ _ h hg hl=>⟨h.1.kept hg hl,h.2⟩,fun _ _ _ _ h hb=>⟨h.1.mono hb,h.2⟩⟩
theorem copySnapR_any (x:SnapR) (W:World) (B:Nat) (hB:B≤W.heap.size) (hr:x.rd W B) (hz:x.sz) :
  Calls Tryd.prog 63 #[.agg (encSnap x).toArray] W fun e w'=>∃ y,e=.returned (.agg (encSnap y).toArray)∧SnapO w' W.heap.size y∧x.eqv y∧Below W.heap.size W w':=by
 obtain ⟨nm,gd,⟨b1,bn,b3,bl⟩,⟨t1,tn,t3,tl⟩,⟨o1,on,o3,ol⟩⟩:=x
 refine (copySnap_any nm gd b1 bn b3 t1 tn t3 o1 on o3 _ _ _ W B hB hr.body.2.2 hr.tags.2.2 hr.own.2.2 (cells_one encB_one _) (cells_one encS_one _) (cells_one encP_one _) hz.body hz.tags hz.own).mono ?_
 rintro e w' ⟨Ab,cb,At,ct,Ao,co,rfl,h1,h2,h3,h4⟩
 exact ⟨⟨nm,gd,⟨Ab,bn,cb,bl⟩,⟨At,tn,ct,tl⟩,⟨Ao,on,co,ol⟩⟩,rfl,⟨⟨hr.body.1,h1⟩,⟨hr.tags.1,h2⟩,⟨hr.own.1,h3⟩⟩,⟨rfl,rfl,rfl,rfl,rfl⟩,h4⟩
theorem copySetR_any (x:SetR) (w:World) (B:Nat) (hB:B≤w.heap.size) (hr:x.rd w B) (hz:x.sz) :
  Calls Tryd.prog 35 #[.agg (encSet x).toArray] w fun e w'=>∃ y,e=.returned (.agg (encSet y).toArray)∧SetOT w' w.heap.size y∧x.eqv y∧Below w.heap.size w w':=by
 obtain ⟨pa,og,⟨b1,bn,b3,bl⟩,⟨s1,sn,s3,sl⟩,⟨o1,on,o3,ol⟩⟩:=x
 have hb:=hr.body
 have hs:=hr.snaps
 have ho:=hr.own
 have hb1:bn=bl.length:=hb.1
 have hs1:sn=sl.length:=hs.1
 have ho1:on=ol.length:=ho.1
 refine (copySet_abs pa og b1 bn b3 s1 sn s3 o1 on o3 w
  (fun W v=>W.ownsRow (w.heap.size+2) 66 2 v bn (cellsK encB bl)) (fun W W' v r h hg hl=>own_kept h hg hl) (fun W hW hsz=>?_)
  (fun W v=>W.ownsRow (w.heap.size+2) 68 2 v on (cellsK encP ol)) (fun W W' v r h hg hl=>own_kept h hg hl) (fun W hW hsz=>?_)
  (fun W v=>∃ s:FS SnapR,v=s.val∧s.own W (w.heap.size+2) 42 5 encSnap∧(∀ y∈s.l,SnapO W (w.heap.size+2) y)∧EachR SnapR.eqv sl s.l∧s.l.Pairwise ApartT) (fun W W' v r h hg hl=>?_) (fun W hW hsz=>?_)).mono ?_
 ·refine (cloneBl_any _ bn b1 b3 W B (hb.2.2.below (hW.mono hB)) (by have:=hW.size;omega) (cells_one encB_one _) (by have:=hz.body;simp only at this;omega)).mono ?_
  rintro e w' ⟨v,rfl,h1,h2⟩
  obtain ⟨A,c,rfl,_⟩:=own_form h1
  exact ⟨A,bn,c,rfl,own_mono h1 hsz,h2⟩
 ·refine (clonePr_any _ on o1 o3 W B (ho.2.2.below (hW.mono hB)) (by have:=hW.size;omega) (cells_one encP_one _) (by have:=hz.own;simp only at this;omega)).mono ?_
  rintro e w' ⟨v,rfl,h1,h2⟩
  obtain ⟨A,c,rfl,_⟩:=own_form h1
  exact ⟨A,on,c,rfl,own_mono h1 hsz,h2⟩
 ·obtain ⟨s,h1,h2,h3,h4⟩:=h
  exact ⟨s,h1,h2.kept hg hl,fun y hy=>(h3 y hy).kept hg hl,h4⟩
 ·refine (eachSnap_any _ keptSnap SnapR.eqv ApartT apartT_of sl sn hs1 s1 s3 W B (by have:=hW.size;omega) (hs.2.2.below (hW.mono hB)) (by have:=hz.snaps;simp only at this;omega) (fun x hx W2 hW2=>?_)).mono ?_
  ·have hx2:x.rd W2 B:=by
    have:=hr.each x hx
    have hb2:Below B w W2:=(hW.mono hB).trans (hW2.mono (by have:=hW.size;omega))
    exact ⟨this.body.below hb2,this.tags.below hb2,this.own.below hb2⟩
   exact copySnapR_any x W2 B (by have:=hW.size;have:=hW2.size;omega) hx2 (hz.each x hx)
  ·rintro e w' ⟨s,rfl,h1,h2,h3,h5,h4⟩
   exact ⟨s.A,s.n,s.c,rfl,⟨s,rfl,h1.mono hsz,fun y hy=>(h2 y hy).mono hsz,h3,h5⟩,h4⟩
 ·rintro e w' ⟨Ab,nb,cb,Ao,no,co,Az,nz,cz,rfl,h1,h2,⟨s,h3,h4,h5,h6,hpw⟩,h7⟩
  obtain ⟨_,_,e1,_⟩:=own_form h1
  injection e1 with _ e1 _
  obtain ⟨_,_,e2,_⟩:=own_form h2
  injection e2 with _ e2 _
  subst e1 e2
  obtain ⟨A',n',c',l'⟩:=s
  injection h3 with e3 e4 e5
  subst e3 e4 e5
  exact ⟨⟨pa,og,⟨Ab,nb,cb,bl⟩,⟨Az,nz,cz,l'⟩,⟨Ao,no,co,ol⟩⟩,rfl,⟨⟨⟨hb1,own_mono h1 (by omega)⟩,h4.mono (by omega),fun y hy=>(h5 y hy).mono (by omega),⟨ho1,own_mono h2 (by omega)⟩⟩,hpw⟩,⟨rfl,rfl,rfl,h6.1,h6.2,rfl⟩,h7⟩
theorem copyStageR_any (x:StageR) (w:World) (B:Nat) (hB:B≤w.heap.size) (hr:x.rd w B) (hz:x.sz) :
  Calls Tryd.prog 38 #[.agg (encStage x).toArray] w fun e w'=>∃ y,e=.returned (.agg (encStage y).toArray)∧StageO w' w.heap.size y∧x.eqv y∧Below w.heap.size w w':=by
 obtain ⟨into,kind,nm,frm,gd,⟨o1,on,o3,ol⟩,ix,ct,dt,⟨sa,sb,sc,sd⟩,⟨b1,bn,b3,bl⟩,at_,nx,⟨ua,ub,uc,ud⟩,done⟩:=x
 have hb:=hr.body
 have ho:=hr.own
 have hb1:bn=bl.length:=hb.1
 have ho1:on=ol.length:=ho.1
 refine (copyStage_abs into kind nm frm gd o1 on o3 ix ct dt sa sb sc sd b1 bn b3 at_ nx ua ub uc ud done w
  (fun W v=>W.ownsRow (w.heap.size+2) 66 2 v bn (cellsK encB bl)) (fun W W' v r h hg hl=>own_kept h hg hl) (fun W hW hsz=>?_)
  (fun W v=>W.ownsRow (w.heap.size+2) 68 2 v on (cellsK encP ol)) (fun W W' v r h hg hl=>own_kept h hg hl) (fun W hW hsz=>?_)).mono ?_
 ·refine (cloneBl_any _ bn b1 b3 W B (hb.2.2.below (hW.mono hB)) (by have:=hW.size;omega) (cells_one encB_one _) (by have:=hz.body;simp only at this;omega)).mono ?_
  rintro e w' ⟨v,rfl,h1,h2⟩
  obtain ⟨A,c,rfl,_⟩:=own_form h1
  exact ⟨A,bn,c,rfl,own_mono h1 hsz,h2⟩
 ·refine (clonePr_any _ on o1 o3 W B (ho.2.2.below (hW.mono hB)) (by have:=hW.size;omega) (cells_one encP_one _) (by have:=hz.own;simp only at this;omega)).mono ?_
  rintro e w' ⟨v,rfl,h1,h2⟩
  obtain ⟨A,c,rfl,_⟩:=own_form h1
  exact ⟨A,on,c,rfl,own_mono h1 hsz,h2⟩
 ·rintro e w' ⟨Ab,nb,cb,Ao,no,co,rfl,h1,h2,h7⟩
  obtain ⟨_,_,e1,_⟩:=own_form h1
  injection e1 with _ e1 _
  obtain ⟨_,_,e2,_⟩:=own_form h2
  injection e2 with _ e2 _
  subst e1 e2
  exact ⟨⟨into,kind,nm,frm,gd,⟨Ao,no,co,ol⟩,ix,ct,dt,⟨sa,sb,sc,sd⟩,⟨Ab,nb,cb,bl⟩,at_,nx,⟨ua,ub,uc,ud⟩,done⟩,rfl,⟨⟨ho1,own_mono h2 (by omega)⟩,⟨hb1,own_mono h1 (by omega)⟩⟩,⟨rfl,rfl,rfl,rfl,rfl,rfl,rfl,rfl,rfl,rfl,rfl,rfl,rfl,rfl,rfl⟩,h7⟩
/-- the rows of snapshots of two sets are not one -/
def ApartS (y z:SetR):Prop:=∀ g,y.snaps.val.ownBlock=some g→z.snaps.val.ownBlock≠some g
theorem apart_of (b b':Nat) (w w':World) (y z:SetR) (hy:SetO w b y) (hz:SetO w' b' z) (h:w.heap.size≤b'):ApartS y z:=fun g h1 h2=>by
 have:=hy.snaps.2.lt _ h1
 have:=hz.snaps.2.lt _ h2
 omega
/-- two sets have not the same row of snapshots, nor two of their snapshots the same row of tags -/
def ApartU (y z:SetR):Prop:=ApartS y z∧∀ a∈y.snaps.l,∀ b∈z.snaps.l,ApartT a b
theorem apartU_of (b b':Nat) (w w':World) (y z:SetR) (hy:SetOT w b y) (hz:SetOT w' b' z) (h:w.heap.size≤b'):ApartU y z :=
 ⟨apart_of b b' w w' y z hy.1 hz.1 h,fun u hu v hv=>apartT_of b b' w w' u v (hy.1.each u hu) (hz.1.each v hv) h⟩
theorem tcopy3_any (t:TenR) (w:World) (B:Nat) (hB:B≤w.heap.size) (hr:t.rd w B) (hz:t.sz) :
  Calls Tryd.prog 14 #[t.val] w fun e w'=>∃ y:TenR,e=.returned y.val∧TenO w' w.heap.size y∧t.eqv y∧(y.sets.l.Pairwise ApartU∧∀ x∈y.sets.l,x.snaps.l.Pairwise ApartT)∧Below w.heap.size w w':=by
 obtain ⟨nm,qu,nx,⟨s1,sn,s3,sl⟩,⟨g1,gn,g3,gl⟩,⟨t1,tn,t3,tl⟩,⟨l1,ln,l3,ll⟩⟩:=t
 have hs:=hr.sets
 have hg:=hr.grants
 have ht:=hr.stages
 have hl:=hr.log
 have hs1:sn=sl.length:=hs.1
 have hg1:gn=gl.length:=hg.1
 have ht1:tn=tl.length:=ht.1
 have hl1:ln=ll.length:=hl.1
 refine (copyTen_abs nm qu nx s1 sn s3 g1 gn g3 t1 tn t3 l1 ln l3 w
  (fun W v=>∃ s:FS SetR,v=s.val∧s.own W (w.heap.size+2) 45 5 encSet∧(∀ y∈s.l,SetOT W (w.heap.size+2) y)∧EachR SetR.eqv sl s.l∧s.l.Pairwise ApartU) (fun W W' v r h hg hl=>?_) (fun W hW hsz=>?_)
  (fun W v=>W.ownsRow (w.heap.size+2) 70 3 v gn (cellsK encG gl)) (fun W W' v r h hg hl=>own_kept h hg hl) (fun W hW hsz=>?_)
  (fun W v=>∃ s:FS StageR,v=s.val∧s.own W (w.heap.size+2) 53 21 encStage∧(∀ y∈s.l,StageO W (w.heap.size+2) y)∧EachR StageR.eqv tl s.l) (fun W W' v r h hg hl=>?_) (fun W hW hsz=>?_)
  (fun W v=>W.ownsRow (w.heap.size+2) 72 4 v ln (cellsK encEntry ll)) (fun W W' v r h hg hl=>own_kept h hg hl) (fun W hW hsz=>?_)).mono ?_
 ·obtain ⟨s,h1,h2,h3,h4⟩:=h
  exact ⟨s,h1,h2.kept hg hl,fun y hy=>keptSetT.kept _ _ _ _ _ (h3 y hy) hg hl,h4⟩
 ·refine (eachSet_any _ keptSetT SetR.eqv ApartU apartU_of sl sn hs1 s1 s3 W B (by have:=hW.size;omega) (hs.2.2.below (hW.mono hB)) (by have:=hz.sets;simp only at this;omega) (fun x hx W2 hW2=>?_)).mono ?_
  ·have hb2:Below B w W2:=(hW.mono hB).trans (hW2.mono (by have:=hW.size;omega))
   have:=hr.eachS x hx
   exact copySetR_any x W2 B (by have:=hW.size;have:=hW2.size;omega) ⟨this.body.below hb2,this.snaps.below hb2,fun y hy=>⟨(this.each y hy).body.below hb2,(this.each y hy).tags.below hb2,(this.each y hy).own.below hb2⟩,this.own.below hb2⟩ (hz.eachS x hx)
  ·rintro e w' ⟨s,rfl,h1,h2,h3,h5,h4⟩
   exact ⟨s.A,s.n,s.c,rfl,⟨s,rfl,h1.mono hsz,fun y hy=>keptSetT.mono _ _ _ _ (h2 y hy) hsz,h3,h5⟩,h4⟩
 ·refine (cloneG_any _ gn g1 g3 W B (hg.2.2.below (hW.mono hB)) (by have:=hW.size;omega) (cells_one encG_one _) (by have:=hz.grants;simp only at this;omega)).mono ?_
  rintro e w' ⟨v,rfl,h1,h2⟩
  obtain ⟨A,c,rfl,_⟩:=own_form h1
  exact ⟨A,gn,c,rfl,own_mono h1 hsz,h2⟩
 ·obtain ⟨s,h1,h2,h3,h4⟩:=h
  exact ⟨s,h1,h2.kept hg hl,fun y hy=>(h3 y hy).kept hg hl,h4⟩
 ·refine (eachStage_any _ keptStage StageR.eqv tl tn ht1 t1 t3 W B (by have:=hW.size;omega) (ht.2.2.below (hW.mono hB)) (by have:=hz.stages;simp only at this;omega) (fun x hx W2 hW2=>?_)).mono ?_
  ·have hb2:Below B w W2:=(hW.mono hB).trans (hW2.mono (by have:=hW.size;omega))
   have:=hr.eachG x hx
   exact copyStageR_any x W2 B (by have:=hW.size;have:=hW2.size;omega) ⟨this.own.below hb2,this.body.below hb2⟩ (hz.eachT x hx)
  ·rintro e w' ⟨s,rfl,h1,h2,h3,h4⟩
   exact ⟨s.A,s.n,s.c,rfl,⟨s,rfl,h1.mono hsz,fun y hy=>(h2 y hy).mono hsz,h3⟩,h4⟩
 ·refine (cloneEn_any _ ln l1 l3 W B (hl.2.2.below (hW.mono hB)) (by have:=hW.size;omega) (cells_one encE_one _) (by have:=hz.log;simp only at this;omega)).mono ?_
  rintro e w' ⟨v,rfl,h1,h2⟩
  obtain ⟨A,c,rfl,_⟩:=own_form h1
  exact ⟨A,ln,c,rfl,own_mono h1 hsz,h2⟩
 ·rintro e w' ⟨Az,nz,cz,Ag,ng,cg,At,nt,ct,Al,nl,cl,rfl,⟨s,h3,h4,h5,h6,hpw⟩,h1,⟨q,k3,k4,k5,k6⟩,h2,h7⟩
  obtain ⟨_,_,e1,_⟩:=own_form h1
  injection e1 with _ e1 _
  obtain ⟨_,_,e2,_⟩:=own_form h2
  injection e2 with _ e2 _
  subst e1 e2
  obtain ⟨A',n',c',l'⟩:=s
  injection h3 with e3 e4 e5
  subst e3 e4 e5
  obtain ⟨A',n',c',q'⟩:=q
  injection k3 with e3 e4 e5
  subst e3 e4 e5
  exact ⟨⟨nm,qu,nx,⟨Az,nz,cz,l'⟩,⟨Ag,ng,cg,gl⟩,⟨At,nt,ct,q'⟩,⟨Al,nl,cl,ll⟩⟩,rfl,⟨h4.mono (by omega),fun y hy=>(h5 y hy).1.mono (by omega),⟨hg1,own_mono h1 (by omega)⟩,k4.mono (by omega),fun y hy=>(k5 y hy).mono (by omega),⟨hl1,own_mono h2 (by omega)⟩⟩,⟨rfl,rfl,rfl,h6.1,h6.2,rfl,k6.1,k6.2,rfl⟩,⟨hpw,fun y hy=>(h5 y hy).2⟩,h7⟩
theorem tcopy2_any (t:TenR) (w:World) (B:Nat) (hB:B≤w.heap.size) (hr:t.rd w B) (hz:t.sz) :
  Calls Tryd.prog 14 #[t.val] w fun e w'=>∃ y:TenR,e=.returned y.val∧TenO w' w.heap.size y∧t.eqv y∧y.sets.l.Pairwise ApartS∧Below w.heap.size w w' :=
 (tcopy3_any t w B hB hr hz).mono (by rintro e w' ⟨y,h1,h2,h3,h5,h4⟩;exact ⟨y,h1,h2,h3,h5.1.imp (fun h=>h.1),h4⟩)
theorem tcopy_any (t:TenR) (w:World) (B:Nat) (hB:B≤w.heap.size) (hr:t.rd w B) (hz:t.sz) :
  Calls Tryd.prog 14 #[t.val] w fun e w'=>∃ y:TenR,e=.returned y.val∧TenO w' w.heap.size y∧t.eqv y∧Below w.heap.size w w' :=
 (tcopy2_any t w B hB hr hz).mono (by rintro e w' ⟨y,h1,h2,h3,-,h4⟩;exact ⟨y,h1,h2,h3,h4⟩)
end Go.Proofs.YtcgclpcocdappaaDoor
