/-
  The page's New: the root alone. blocks.Put, by its contract. The plain law of contents' changes: going along two contents, and asking index by index, make the same records. names.Join. holds.All: what is held. The example of chapter 39: of three snapshots the two old ones go.
-/
import Derived.WalkKit
import Derived.WalkSpells
import Derived.Below
import Derived.Laws.OwnMore
import Derived.Deep.AppendLies
import Derived.Deep.Draws
import Derived.Laws.Rows
import Derived.Maps.AppendAt
import Derived.RegionTactic
import Derived.OwnWalk
import Derived.Deep.QuietTactic
import Derived.BigQuiet
import Derived.Lib.Hide
import Derived.Laws.CopyOwn
import Derived.IntWalk
import Derived.Test.YtcgclpcocdappaaGreatDoorRows
import Derived.Handy
import Derived.Deep.Quiet
import Derived.ProofKit
import Derived.OpenShut
import Derived.ShutString
import Derived.ChangeOld
import Derived.Carry
import Derived.SizedLaws
import Derived.JoinedCond
import Derived.Deep.CondSized
import Derived.Deep.Slices
import Derived.Deep.Fields
import Derived.Lib.SmallJoins
import Derived.Orders
import Derived.Lib.SplitLaws
import Derived.Lib.LastIndexByte
import Derived.Lib.Strings
import Derived.Sort.Walk0
import Derived.Sort.KeysCollected
import Derived.Deep.MidRow
import Derived.Shelf.Strings.Search1
import Derived.Shelf.Strings.Search2
import Derived.Shelf.Strings.Search3
import Derived.Shelf.Strings.Cut
import Derived.Shelf.Strings.Count
import Derived.Shelf.LaysM
import Derived.Shelf.Strings.Shaped
import Derived.Shelf.Strings.LastIndex
import Derived.Shelf.Strings.Split
import Derived.Shelf.Strings.SplitShaped
import Derived.Shelf.Unicode.Decode
import Derived.Shelf.Strings.RuneCount
import Derived.Shelf.Strings.Explode
import Derived.Shelf.Unicode.DecodeSlow
import Derived.Test.YtcgclpcocdappaaGreatDoorProg
import Derived.Lib.Overlaps
import Derived.Lib.AppendZerosOnto
import Derived.Deep.RegionLaw
import Derived.Laws.BytesString
import Derived.Laws.IdiomStrings
import Derived.Lib.ConvBytes
import Derived.Deep.DeepCutAuto
import Derived.Great.BuildSlice
import Derived.Lib.AppendZeros
import Derived.Test.YtcgclpcocdappaaGreatDoorCards
import Derived.Test.YtcgclpcocdappaaGreatDoorTie
import Derived.Deep.DeepHandedRow
import Derived.Lib.LaidTab
import Derived.ChangeSame
import Derived.Test.YtcgclpcocdappaaGreatDoorG0
import Derived.Test.YtcgclpcocdappaaGreatDoorGg1
import Derived.Test.YtcgclpcocdappaaGreatDoorGg3
import Derived.Test.YtcgclpcocdappaaGreatDoorGg5
import Derived.Test.YtcgclpcocdappaaGreatDoorGg6
import Derived.Test.YtcgclpcocdappaaGreatDoorGg7
import Derived.Test.YtcgclpcocdappaaGreatDoorGg8
import Derived.Test.YtcgclpcocdappaaGreatDoorGg9
import Derived.Test.YtcgclpcocdappaaGreatDoorGg11
import Derived.Test.YtcgclpcocdappaaGreatDoorGg12
import Derived.Test.YtcgclpcocdappaaGreatDoorGg19
import Derived.Test.YtcgclpcocdappaaGreatDoorGg20
import Derived.Test.YtcgclpcocdappaaGreatDoorGg21
import Derived.Test.YtcgclpcocdappaaGreatDoorGg22
import Derived.Test.YtcgclpcocdappaaGreatDoorGg24
import Derived.Test.YtcgclpcocdappaaGreatDoorGg25
import Derived.Test.YtcgclpcocdappaaGreatDoorGg27
import Derived.Test.YtcgclpcocdappaaGreatDoorGg29
import Derived.Test.YtcgclpcocdappaaGreatDoorGg30
import Derived.Test.YtcgclpcocdappaaGreatDoorGg31
import Derived.Test.YtcgclpcocdappaaGreatDoorGg34
import Derived.Test.YtcgclpcocdappaaGreatDoorGg35
import Derived.Test.YtcgclpcocdappaaGreatDoorGg37
namespace Go.Proofs.YtcgclpcocdappaaGreatDoor
open Go.RowKit
def new0C (q:Int):TenC:=⟨[116],q,1,[set0C []],[],[],[]⟩
set_option maxRecDepth 100000 in
set_option maxHeartbeats 2000000 in
theorem rnew_any (q:Int) (h0:0<q) (h1:q≤1099511627776) (w:World) :
  Calls Tryz.prog 40 #[.string ⟨#[116]⟩,.int .i64 q] w fun e w'=>∃ y:TenR,e=.returned (.tuple #[y.val,.int .i64 0])∧TenO w' w.heap.size y∧y.con=new0C q∧Below w.heap.size w w':=by
 have hb:=((Below.refl w.heap.size w).alloc (Nat.le_refl _) (.cells #[.string ⟨#[]⟩,.int .i64 0,.int .i64 0,.slice none 0 0,.slice none 0 0,.slice none 0 0,.slice none 0 0] 27))
 have kz:=Blk.new w 27 #[.string ⟨#[]⟩,.int .i64 0,.int .i64 0,.slice none 0 0,.slice none 0 0,.slice none 0 0,.slice none 0 0]
 have hsz:(w.alloc (.cells #[.string ⟨#[]⟩,.int .i64 0,.int .i64 0,.slice none 0 0,.slice none 0 0,.slice none 0 0,.slice none 0 0] 27)).heap.size=w.heap.size+1:=by simp
 obtain ⟨W1,hW1⟩:∃ W,W=(w.alloc (.cells #[.string ⟨#[]⟩,.int .i64 0,.int .i64 0,.slice none 0 0,.slice none 0 0,.slice none 0 0,.slice none 0 0] 27)):=⟨_,rfl⟩
 rw [← hW1] at hb hsz kz
 have hKz:Hid (∀ W,Below W1.heap.size W1 W→Blk W w.heap.size 27 #[.string ⟨#[]⟩,.int .i64 0,.int .i64 0,.slice none 0 0,.slice none 0 0,.slice none 0 0,.slice none 0 0]):=fun W h=>kz.below h (by omega)
 have hBW:Hid (∀ W,Below W1.heap.size W1 W→Below w.heap.size w W):=fun W h=>hb.trans (h.mono (by omega))
 have hSZ:Hid (∀ W,Below W1.heap.size W1 W→w.heap.size+1≤W.heap.size):=fun W h=>by have:=h.size;omega
 have hW0:Hid (Below W1.heap.size W1 W1):=Below.refl _ _
 have hNM:Hid (∀ W,Below W1.heap.size W1 W→Calls Tryz.prog 63 #[.string ⟨#[116]⟩] W fun e w'=>e=.returned (.bool true)∧Below W.heap.size W w'):=fun W _=>by
  have h:=refNameB_any [116] W (by decide)
  rw [show nameB [116]=true by decide +kernel] at h
  exact h
 have hAM:Hid (∀ W,Below W1.heap.size W1 W→Calls Tryz.prog 64 #[.int .i64 q,.int .i64 0] W fun e w'=>e=.returned (.bool true)∧Below W.heap.size W w'):=fun W _=>by
  have h:=refAmountB_any q 0 W
  rw [show amt q 0=true by unfold amt;simp;omega] at h
  exact h
 have hq0:¬ q=0:=by omega
 clear hb hsz kz
 go_enter Tryz.func40,Tryz.ntmps40
 have hc:=hNM.out  W1 hW0.out
 go_wp2_with fail
 rw [← hW1]
 clear hW1
 refine hc.mono ?_
 clear hc 
 rintro e w2 ⟨rfl,hb⟩
 have HW2:=Lib.hid (hW0.out.trans (hb.mono hW0.out.size))
 clear hb
 have hc:=hAM.out  w2 HW2.out
 go_wp2_with fail
 refine hc.mono ?_
 clear hc 
 rintro e w3 ⟨rfl,hb⟩
 have HW3:=Lib.hid (HW2.out.trans (hb.mono HW2.out.size))
 clear hb
 have kz:=(hKz.out w3 HW3.out).alloc (.cells #[.string ⟨#[]⟩,.string ⟨#[]⟩,.slice none 0 0,.slice none 0 0,.slice none 0 0] 42)
 have kr:=Blk.new w3 42 #[.string ⟨#[]⟩,.string ⟨#[]⟩,.slice none 0 0,.slice none 0 0,.slice none 0 0]
 have hb:=(hBW.out w3 HW3.out).alloc (by have:=hSZ.out w3 HW3.out;omega) (.cells #[.string ⟨#[]⟩,.string ⟨#[]⟩,.slice none 0 0,.slice none 0 0,.slice none 0 0] 42)
 have hszr:(w3.alloc (.cells #[.string ⟨#[]⟩,.string ⟨#[]⟩,.slice none 0 0,.slice none 0 0,.slice none 0 0] 42)).heap.size=w3.heap.size+1:=by simp
 obtain ⟨W4,hW4'⟩:∃ W,W=w3.alloc (.cells #[.string ⟨#[]⟩,.string ⟨#[]⟩,.slice none 0 0,.slice none 0 0,.slice none 0 0] 42):=⟨_,rfl⟩
 rw [← hW4'] at kz kr hb hszr
 have KZ:=Lib.hid kz
 have HB:=Lib.hid hb
 have HSZ3:=Lib.hid (show w.heap.size+1≤w3.heap.size∧W4.heap.size=w3.heap.size+1 by have:=hSZ.out w3 HW3.out;omega)
 have HO:Hid (TenO W4 w.heap.size ⟨[116],q,1,⟨some ⟨w3.heap.size,0,none⟩,1,1,[⟨[],[],⟨none,0,0,[]⟩,⟨none,0,0,[]⟩,⟨none,0,0,[]⟩⟩]⟩,⟨none,0,0,[]⟩,⟨none,0,0,[]⟩,⟨none,0,0,[]⟩⟩):=by
  show TenO _ _ _
  refine ⟨⟨rfl,own_of_row (cap:=1) (cur:=[.string ⟨#[]⟩,.string ⟨#[]⟩,.slice none 0 0,.slice none 0 0,.slice none 0 0]) kr (by have:=HSZ3.out;omega) (Nat.le_refl _) (by decide) rfl rfl⟩,fun y hy=>?_,⟨rfl,rfl,.inl ⟨rfl,rfl⟩⟩,⟨rfl,rfl,.inl ⟨rfl,rfl⟩⟩,fun y hy=>absurd hy (by simp),⟨rfl,rfl,.inl ⟨rfl,rfl⟩⟩⟩
  rw [List.mem_singleton] at hy
  subst hy
  exact ⟨⟨rfl,rfl,.inl ⟨rfl,rfl⟩⟩,⟨rfl,rfl,.inl ⟨rfl,rfl⟩⟩,fun y hy=>absurd hy (by simp),⟨rfl,rfl,.inl ⟨rfl,rfl⟩⟩⟩
 clear kz kr hb hszr
 go_upto_region 7 with (fail)
 obtain ⟨WR,hW4,hth,HL,HBW,hgw⟩:=res7 (g:=w.heap.size) [.string ⟨#[116]⟩,.int .i64 q,.int .i64 1,.slice (some ⟨w3.heap.size,0,none⟩) 1 1,.slice none 0 0,.slice none 0 0,.slice none 0 0] KZ.out HB.out (by omega)
 have HOO:=Lib.hid (TenO.keptT HO.out hgw KZ.out offT_ten)
 clear hgw
 go_wp2_with ((try rw [← hW4']);refine wpList_store_mid rfl 27 (.tmp 4) (.tmp 24) rfl (w.heap.size) 0 #[.string ⟨#[116]⟩,.int .i64 q,.int .i64 1,.slice (some ⟨w3.heap.size,0,none⟩) 1 1,.slice none 0 0,.slice none 0 0,.slice none 0 0] rfl rfl hth.out (by kernel_rfl) (by simp [Value.oneCell']) ?_;rw [← hW4];clear hW4)
 exact bodyPost_ret (v:=.tuple #[.agg #[.string ⟨#[116]⟩,.int .i64 q,.int .i64 1,.slice (some ⟨w3.heap.size,0,none⟩) 1 1,.slice none 0 0,.slice none 0 0,.slice none 0 0],.int .i64 0]) (results_cell_tmp rfl rfl HL.out) rfl ⟨⟨[116],q,1,⟨some ⟨w3.heap.size,0,none⟩,1,1,[⟨[],[],⟨none,0,0,[]⟩,⟨none,0,0,[]⟩,⟨none,0,0,[]⟩⟩]⟩,⟨none,0,0,[]⟩,⟨none,0,0,[]⟩,⟨none,0,0,[]⟩⟩,rfl,HOO.out,rfl,HBW.out⟩
end Go.Proofs.YtcgclpcocdappaaGreatDoor
namespace Go.Proofs.YtcgclpcocdappaaGreatDoor
open Go.RowKit
def cmpI (x y:Int):Int:=if x<y then -1 else if y<x then 1 else 0
theorem cmpI_neg (x y:Int):cmpI x y<0↔x<y:=by unfold cmpI;split <;> (try split) <;> omega
theorem cmpI_zero (x y:Int):cmpI x y=0↔x=y:=by unfold cmpI;split <;> (try split) <;> omega
/-! ### the plain law's words -/
def Asc (l:BL):Prop:=∀ (i j:Nat) (x y:Int×List UInt8),i<j→l[i]?=some x→l[j]?=some y→x.1<y.1
def cfB (t:Int):Int×List UInt8→Int:=fun x=>cmpI x.1 t
def putL11 (l:BL) (i:Int) (d:List UInt8):BL:=l.take (posF (cfB i) l)++[(i,d)]++l.drop (posF (cfB i) l+if atF (cfB i) l=true then 1 else 0)
end Go.Proofs.YtcgclpcocdappaaGreatDoor
namespace Go.Proofs.YtcgclpcocdappaaGreatDoor
open Go.RowKit
/-- a record of a change: kind, index, count, data -/
abbrev RL:=List (Int×Int×Int×List UInt8)
def bumpR (o:RL):RL:=match o.getLast? with
 | some r=>o.dropLast++[(r.1,r.2.1,r.2.2.1+1,r.2.2.2)]
 | none=>o
def lastIs3 (o:RL):Bool:=match o.getLast? with
 | some r=>r.1 == 3
 | none=>false
def putS (s:RL×Int) (x:Int×List UInt8):RL×Int:=(s.1++[(2,x.1,0,x.2)],s.2)
def refStep (a b:BL) (i:Int) (s:RL×Bool):RL×Bool :=
 (if (hasL a i && !hasL b i) && s.2 then bumpR s.1 else if hasL a i && !hasL b i then s.1++[(3,i,1,[])]
  else if hasL b i && (!hasL a i || getL a i != getL b i) then s.1++[(2,i,0,getL b i)] else s.1,hasL a i && !hasL b i)
def runFrom (a b:BL):Nat→Int→RL×Bool→RL×Bool
 | 0,_,s=>s
 | m+1,k,s=>runFrom a b m (k+1) (refStep a b k s)
theorem hasL_cons (x:Int×List UInt8) (l:BL) (j:Int):hasL (x :: l) j=(x.1 == j || hasL l j):=rfl
theorem getL_cons_eq (x:Int×List UInt8) (l:BL):getL (x :: l) x.1=x.2:=by simp [getL]
theorem getL_cons_ne (x:Int×List UInt8) (l:BL) (j:Int) (h:x.1≠j):getL (x :: l) j=getL l j:=by
 unfold getL
 rw [List.find?_cons_of_neg (by simpa using h)]
theorem hasL_above (l:BL) (j:Int) (h:∀ x∈l,j<x.1):hasL l j=false:=by
 unfold hasL
 rw [List.any_eq_false]
 intro x hx
 have:=h x hx
 simp
 omega
theorem Asc.tail {x:Int×List UInt8} {l:BL} (h:Asc (x :: l)):Asc l∧∀ y∈l,x.1<y.1:=by
 refine ⟨fun i j a b hij ha hb=>h (i+1) (j+1) a b (by omega) (by simpa using ha) (by simpa using hb),fun y hy=>?_⟩
 obtain ⟨i,hi⟩:=List.mem_iff_getElem?.1 hy
 exact h 0 (i+1) x y (by omega) rfl (by simpa using hi)
/-- what stands of a content from an index on -/
structure Rest (a la:BL) (k:Int):Prop where
 asc:Asc la
 from_:∀ x∈la,k≤x.1∧x.1<1024
 has:∀ j,k≤j→hasL a j=hasL la j∧getL a j=getL la j
theorem Rest.next {a la:BL} {k:Int} (h:Rest a la k) (hn:∀ x∈la,x.1≠k):Rest a la (k+1)∧hasL a k=false :=
 ⟨⟨h.asc,fun x hx=>⟨by have:=(h.from_ x hx).1;have:=hn x hx;omega,(h.from_ x hx).2⟩,fun j hj=>h.has j (by omega)⟩,
  by rw [(h.has k (Int.le_refl _)).1];exact hasL_above la k (fun x hx=>by have:=(h.from_ x hx).1;have:=hn x hx;omega)⟩
theorem Rest.take {a la:BL} {x:Int×List UInt8} {k:Int} (h:Rest a (x :: la) k) (hx:x.1=k):Rest a la (k+1)∧hasL a k=true∧getL a k=x.2:=by
 have ht:=h.asc.tail
 refine ⟨⟨ht.1,fun y hy=>⟨by have:=ht.2 y hy;omega,(h.from_ y (List.mem_cons_of_mem _ hy)).2⟩,fun j hj=>?_⟩,?_,?_⟩
 ·have:=h.has j (by omega)
  rw [this.1,this.2,hasL_cons,getL_cons_ne _ _ _ (by omega)]
  simp
  intro e
  omega
 ·rw [(h.has k (Int.le_refl _)).1,hasL_cons];simp [hx]
 ·rw [(h.has k (Int.le_refl _)).2]
  subst hx
  exact getL_cons_eq x la
def RunInv (o:RL) (last:Int) (run:Bool) (k:Int):Prop:=if run=true then last=k-1∧lastIs3 o=true else last<k-1
theorem RunInv.le {o:RL} {last:Int} {run:Bool} {k:Int} (h:RunInv o last run k):last≤k-1:=by
 unfold RunInv at h
 split at h <;> omega
end Go.Proofs.YtcgclpcocdappaaGreatDoor
namespace Go.Proofs.YtcgclpcocdappaaGreatDoor
open Go.RowKit
set_option maxRecDepth 100000 in
theorem join_any (s n:ByteArray) (w:World) (hs:s.size≤4000000000000000000) (hn:n.size≤4000000000000000000) :
  Calls Tryz.prog 79 #[.string s,.string n] w fun e w'=>e=.returned (.string ⟨(s.data.toList++64 :: n.data.toList).toArray⟩)∧w'=w:=by
 go_enter Tryz.func79,Tryz.ntmps79
 go_wp2_with fail
 go_ret
 refine ⟨congrArg Ending.returned (congrArg Value.string (eq_mk _ _ ?_)),rfl⟩
 rw [append_data,append_data,List.append_assoc]
 rfl
end Go.Proofs.YtcgclpcocdappaaGreatDoor
namespace Go.Proofs.YtcgclpcocdappaaGreatDoor
open Go.RowKit
def heldL (pa:BS) (l:List SnapR):List BS:=(l.filter fun x=>decide (0<x.tags.n)).map fun x=>pa++64 :: x.nm
def allH (l:List SetR):List BS:=l.flatMap fun s=>heldL s.path s.snaps.l
theorem allH_succ (l:List SetR) (k:Nat) (h:k<l.length):allH (l.take (k+1))=allH (l.take k)++heldL (l[k]'h).path (l[k]'h).snaps.l:=by
 unfold allH
 rw [List.take_add_one,List.getElem?_eq_getElem h,Option.toList_some,List.flatMap_append]
 simp
theorem heldL_succ (pa:BS) (l:List SnapR) (k:Nat) (h:k<l.length):heldL pa (l.take (k+1))=heldL pa (l.take k)++(if 0<(l[k]'h).tags.n then [pa++64 :: (l[k]'h).nm] else []):=by
 unfold heldL
 rw [List.take_add_one,List.getElem?_eq_getElem h,Option.toList_some,List.filter_append,List.map_append]
 congr 1
 by_cases hc:0<(l[k]'h).tags.n <;> simp [hc]
theorem heldL_le (pa:BS) (l:List SnapR) (k:Nat):(heldL pa (l.take k)).length≤(heldL pa l).length:=by
 conv=>rhs;rw [← List.take_append_drop k l]
 unfold heldL
 rw [List.filter_append,List.map_append,List.length_append]
 omega
theorem allH_le (l:List SetR) (k:Nat):(allH (l.take k)).length≤(allH l).length:=by
 conv=>rhs;rw [← List.take_append_drop k l]
 unfold allH
 rw [List.flatMap_append,List.length_append]
 omega
theorem Tryz.allStr_info:(Tryz.prog.info? 9).map (fun i=>(i.zero,i.size,i.bytes))=some (some (.string ByteArray.empty),1,16):=by kernel_rfl
set_option maxRecDepth 100000 in
set_option maxHeartbeats 4000000 in
theorem all_any (t:TenR) (w:World) (B:Nat) (hB:B≤w.heap.size) (hr:t.rd w B) (hz:t.sz) (htot:(allH t.sets.l).length≤1000000000000) :
  Calls Tryz.prog 25 #[t.val] w fun e w'=>∃ A c,e=.returned (.slice A (allH t.sets.l).length c)∧w'.ownsRow w.heap.size 9 1 (.slice A (allH t.sets.l).length c) (allH t.sets.l).length (scells (allH t.sets.l))∧Below w.heap.size w w':=by
 obtain ⟨nm,qu,nx,⟨s1,sn,s3,sl⟩,⟨g1,gn,g3,gl⟩,⟨t1,tn,t3,tl⟩,⟨l1,ln,l3,ll⟩⟩:=t
 show Calls Tryz.prog 25 #[.agg #[.string ⟨nm.toArray⟩,.int .i64 qu,.int .i64 nx,.slice s1 sn s3,.slice g1 gn g3,.slice t1 tn t3,.slice l1 ln l3]] w fun e w'=>∃ A c,e=.returned (.slice A (allH sl).length c)∧w'.ownsRow w.heap.size 9 1 (.slice A (allH sl).length c) (allH sl).length (scells (allH sl))∧Below w.heap.size w w'
 have htot:(allH sl).length≤1000000000000:=htot
 obtain ⟨i0,hi0,hz0,hz1,hz2⟩:=info_parts Tryz.allStr_info
 have hb1:=(Below.refl w.heap.size w).alloc (Nat.le_refl _) (.cells #[.string ⟨nm.toArray⟩,.int .i64 qu,.int .i64 nx,.slice s1 sn s3,.slice g1 gn g3,.slice t1 tn t3,.slice l1 ln l3] 27)
 have c3:=(Blk.new w 27 #[.string ⟨nm.toArray⟩,.int .i64 qu,.int .i64 nx,.slice s1 sn s3,.slice g1 gn g3,.slice t1 tn t3,.slice l1 ln l3]).cell 3
 simp only [zF,zD,zE] at c3
 obtain ⟨W1,hW1⟩:∃ W,W=w.alloc (.cells #[.string ⟨nm.toArray⟩,.int .i64 qu,.int .i64 nx,.slice s1 sn s3,.slice g1 gn g3,.slice t1 tn t3,.slice l1 ln l3] 27):=⟨_,rfl⟩
 have hsz1:W1.heap.size=w.heap.size+1:=by rw [hW1];simp
 rw [← hW1] at hb1 c3
 have HSN:=Lib.hid (show sn=sl.length from hr.sets.1)
 have HR:Hid (∀ W,Below W1.heap.size W1 W→TenR.rd W B ⟨nm,qu,nx,⟨s1,sn,s3,sl⟩,⟨g1,gn,g3,gl⟩,⟨t1,tn,t3,tl⟩,⟨l1,ln,l3,ll⟩⟩):=fun W h=>TenR.rd.below hr ((hb1.trans (h.mono (by omega))).mono hB)
 have HZ:=Lib.hid hz
 have HB1:=Lib.hid hb1
 have HSZ1:=Lib.hid hsz1
 have HTOT:=Lib.hid htot
 have hsn:sn≤1000000000000:=hz.sets
 clear hb1 hsz1 hr hz htot
 go_enter Tryz.func25,Tryz.ntmps25
 go_wp2_with fail
 rw [← hW1]
 clear hW1
 go_loopw [3,11] (fun o j wr=>∃ (k m:Nat) (A:Option Addr) (c:Nat),k≤sn∧j=.int .i64 (k:Int)∧o=.slice A m c∧Hid (m=(allH (sl.take k)).length)∧Hid (wr.ownsRow W1.heap.size 9 1 (.slice A m c) m (scells (allH (sl.take k))))∧Hid (Below W1.heap.size W1 wr)) (fun _ j _=>sn-(intOf j).toNat)
 case atStart=>exact ⟨0,0,none,0,Nat.zero_le _,rfl,rfl,rfl,World.ownsRow_nil _ _ _ _,Below.refl _ _⟩
 case round =>
  clear c3
  obtain ⟨wo,hwo⟩:∃ W,W=wr:=⟨_,rfl⟩
  subst hwo
  obtain ⟨k,m,A,c,hk,rfl,rfl,HM,HO,HB⟩:=hrel
  by_cases hlt:k<sn
  ·have hki:(k:Int)<(sn:Int):=by omega
   have hkl:k<sl.length:=by have:=HSN.out;omega
   obtain ⟨ad,hsa,-,p0,p1,p2,p3,p4⟩:=set_at (HR.out wo HB.out).sets.2.2 HSN.out hlt
   simp only at hsa
   subst hsa
   have HS:=Lib.hid (allH_succ sl k hkl)
   have HLE:=Lib.hid (allH_le sl (k+1))
   have hzx:=HZ.out.eachS _ (List.getElem_mem hkl)
   have HX:Hid (∀ W,Below W1.heap.size W1 W→(sl[k]'hkl).rd W B):=fun W h=>(HR.out W h).eachS _ (List.getElem_mem hkl)
   obtain ⟨x,hx⟩:∃ x,x=sl[k]'hkl:=⟨_,rfl⟩
   simp only at p0 p1 p2 p3 p4
   rw [← hx] at p0 p1 p2 p3 p4 HS hzx HX
   clear hx
   obtain ⟨pa,og,⟨bA,bn,bc,bl⟩,⟨zA,zn,zc,zl⟩,⟨oA,on,oc,ol⟩⟩:=x
   simp only at p0 p1 p2 p3 p4 HS
   have hzn:zn≤1000000000000:=hzx.snaps
   have hpl:pa.length≤4000000000:=hzx.path
   have HZX:=Lib.hid hzx
   have HZN:Hid (zn=zl.length):=(HX.out wo HB.out).snaps.1
   have kx:=Blk.new wo 42 #[.string ⟨pa.toArray⟩,.string ⟨og.toArray⟩,.slice bA bn bc,.slice zA zn zc,.slice oA on oc]
   have hba:=HB.out.alloc HB.out.size (.cells #[.string ⟨pa.toArray⟩,.string ⟨og.toArray⟩,.slice bA bn bc,.slice zA zn zc,.slice oA on oc] 42)
   have HOA:=Lib.hid (own_below HO.out ((Below.refl wo.heap.size wo).alloc (Nat.le_refl _) (.cells #[.string ⟨pa.toArray⟩,.string ⟨og.toArray⟩,.slice bA bn bc,.slice zA zn zc,.slice oA on oc] 42)))
   obtain ⟨W2,hW2⟩:∃ W,W=wo.alloc (.cells #[.string ⟨pa.toArray⟩,.string ⟨og.toArray⟩,.slice bA bn bc,.slice zA zn zc,.slice oA on oc] 42):=⟨_,rfl⟩
   have hs2:W2.heap.size=wo.heap.size+1:=by rw [hW2];simp
   have c3:=kx.cell 3
   simp only [zF,zD,zE] at c3
   rw [← hW2] at kx hba HOA
   have KX:=Lib.hid kx
   have HBA:=Lib.hid hba
   have HS2:=Lib.hid hs2
   clear kx hba hzx HO hs2
   go_wp2_with fail
   rw [← hW2]
   clear hW2 c3 p0 p1 p2 p3 p4
   go_loopw [3,18] (fun o j wr=>∃ (q m2:Nat) (A2:Option Addr) (c2:Nat),q≤zn∧j=.int .i64 (q:Int)∧o=.slice A2 m2 c2∧Hid (m2=(allH (sl.take k)++heldL pa (zl.take q)).length)∧Hid (wr.ownsRow W1.heap.size 9 1 (.slice A2 m2 c2) m2 (scells (allH (sl.take k)++heldL pa (zl.take q))))∧Hid (Blk wr wo.heap.size 42 #[.string ⟨pa.toArray⟩,.string ⟨og.toArray⟩,.slice bA bn bc,.slice zA zn zc,.slice oA on oc])∧Hid (Below W1.heap.size W1 wr)) (fun _ j _=>zn-(intOf j).toNat)
   case atStart=>exact ⟨0,m,A,c,Nat.zero_le _,rfl,rfl,by show _=_;rw [HM.out];simp [heldL],by show World.ownsRow _ _ _ _ _ _ _;simpa [heldL] using HOA.out,KX,HBA⟩
   case round =>
    clear KX HBA HOA
    obtain ⟨q,m2,A2,c2,hq,rfl,rfl,HM2,HO2,KX,HB2⟩:=hrel
    by_cases hqn:q<zn
    ·have hqi:(q:Int)<(zn:Int):=by omega
     have hql:q<zl.length:=by have:=HZN.out;omega
     obtain ⟨ad2,hsa,-,r0,r1,r2,r3,r4⟩:=snap_at (HX.out wr HB2.out).snaps.2.2 HZN.out hqn
     simp only at hsa
     subst hsa
     have HLS:=Lib.hid (heldL_succ pa zl q hql)
     have HLE2:=Lib.hid (heldL_le pa zl (q+1))
     have hzy:=HZX.out.each _ (List.getElem_mem hql)
     obtain ⟨y,hy⟩:∃ y,y=zl[q]'hql:=⟨_,rfl⟩
     simp only at r0 r1 r2 r3 r4
     rw [← hy] at r0 r1 r2 r3 r4 HLS hzy
     clear hy
     obtain ⟨ynm,ygd,⟨yb1,ybn,yb3,ybl⟩,⟨yt1,ytn,yt3,ytl⟩,⟨yo1,yon,yo3,yol⟩⟩:=y
     simp only at r0 r1 r2 r3 r4 HLS
     have hyl:ynm.length≤4000000000:=hzy.nm
     have hyt:ytn≤1000000000000:=hzy.tags
     have hba:=(Below.refl wr.heap.size wr).alloc (Nat.le_refl _) (.cells #[.string ⟨ynm.toArray⟩,.int .i64 ygd,.slice yb1 ybn yb3,.slice yt1 ytn yt3,.slice yo1 yon yo3] 57)
     have HO3:=Lib.hid (own_below HO2.out hba)
     have KX3:=Lib.hid (KX.out.alloc (.cells #[.string ⟨ynm.toArray⟩,.int .i64 ygd,.slice yb1 ybn yb3,.slice yt1 ytn yt3,.slice yo1 yon yo3] 57))
     have HB3:=Lib.hid (HB2.out.alloc HB2.out.size (.cells #[.string ⟨ynm.toArray⟩,.int .i64 ygd,.slice yb1 ybn yb3,.slice yt1 ytn yt3,.slice yo1 yon yo3] 57))
     have k0:=KX3.out.cell 0
     have y0:=(Blk.new wr 57 #[.string ⟨ynm.toArray⟩,.int .i64 ygd,.slice yb1 ybn yb3,.slice yt1 ytn yt3,.slice yo1 yon yo3]).cell 0
     have y3:=(Blk.new wr 57 #[.string ⟨ynm.toArray⟩,.int .i64 ygd,.slice yb1 ybn yb3,.slice yt1 ytn yt3,.slice yo1 yon yo3]).cell 3
     simp only [zF,zD,zE] at k0 y0 y3
     clear hzy hba HO2 KX HB2
     by_cases ht:0<ytn
     ·have hti:(0:Int)<(ytn:Int):=by omega
      have hLS:=HLS.out
      rw [if_pos ht] at hLS
      have HLS1:=Lib.hid hLS
      have hml:m2+1≤1000000000000:=by
       have h1:=HTOT.out
       have h2:=HLE.out
       rw [HS.out] at h2
       have h3:=HLE2.out
       rw [hLS] at h3
       have h4:=HM2.out
       simp only [List.length_append,List.length_cons,List.length_nil] at h2 h3 h4
       omega
      have hj:=join_any ⟨pa.toArray⟩ ⟨ynm.toArray⟩ (wr.alloc (.cells #[.string ⟨ynm.toArray⟩,.int .i64 ygd,.slice yb1 ybn yb3,.slice yt1 ytn yt3,.slice yo1 yon yo3] 57)) (by simp [ByteArray.size];omega) (by simp [ByteArray.size];omega)
      have HBS:=Lib.hid HB3.out.size
      clear HLS hLS
      go_wp2_with fail
      refine hj.mono ?_
      clear hj k0 y0 y3 r0 r1 r2 r3 r4
      rintro e w4 ⟨rfl,hw⟩
      rw [hw]
      clear hw w4
      obtain ⟨W3,hW3⟩:∃ W,W=wr.alloc (.cells #[.string ⟨ynm.toArray⟩,.int .i64 ygd,.slice yb1 ybn yb3,.slice yt1 ytn yt3,.slice yo1 yon yo3] 57):=⟨_,rfl⟩
      rw [← hW3] at HO3 KX3 HB3 HBS ⊢
      clear hW3
      obtain ⟨sv,hsv⟩:∃ v:BS,v=pa++64 :: ynm:=⟨_,rfl⟩
      rw [show ((⟨pa.toArray⟩:ByteArray).data.toList++64 :: (⟨ynm.toArray⟩:ByteArray).data.toList)=sv from hsv.symm]
      have HSV:=Lib.hid hsv
      clear hsv
      go_wp2_with (at_builtin;(refine wpList_push W3 rfl (.tmp 26) (.tmp 32) _ rfl W1.heap.size 9 i0 _ 1 16 Tryz.underlying48 hi0 hz0 hz1 hz2 rfl (by omega) (.slice A2 m2 c2) m2 _ rfl HO3.out 1 #[.string ⟨sv.toArray⟩] _ rfl rfl (by simp [Value.oneCell']) (by unfold maxLen;omega) (by omega) HBS.out ?_);intro v5 w5 ho5 hb5 hg5;obtain ⟨A5,c5,rfl,_⟩:=own_form ho5;have HO5:=Lib.hid ho5;have HB5:=Lib.hid (HB3.out.trans hb5);have KX5:=Lib.hid (KX3.out.grown hg5 (fun hh=>own_blk_ne HO3.out KX3.out (by decide) hh.symm));clear ho5 hb5 hg5 HO3 HB3 KX3)
      go_roundw
      case rel =>
       refine ⟨q+1,m2+1,A5,c5,by omega,by go_num,rfl,?_,?_,KX5,HB5⟩
       ·show _=_
        rw [HM2.out,HLS1.out]
        simp only [List.length_append,List.length_cons,List.length_nil]
        omega
       ·show World.ownsRow _ _ _ _ _ _ _
        have h:=HO5.out
        rw [HLS1.out,← List.append_assoc]
        simpa [scells,strV,HSV.out] using h
      case measure=>simp [intOf];omega
     ·have hti:¬ (0:Int)<(ytn:Int):=by omega
      have hLS:=HLS.out
      rw [if_neg ht,List.append_nil] at hLS
      have HLS1:=Lib.hid hLS
      clear HLS hLS
      go_wp2_with fail
      go_roundw
      case rel=>exact ⟨q+1,m2,A2,c2,by omega,by go_num,rfl,by show _=_;rw [HLS1.out];exact HM2.out,by show World.ownsRow _ _ _ _ _ _ _;rw [HLS1.out];exact HO3.out,KX3,HB3⟩
      case measure=>simp [intOf];omega
    ·obtain rfl:q=zn:=by omega
     go_wp2_with fail
     go_roundw
     case rel =>
      refine ⟨k+1,m2,A2,c2,by omega,by go_num,rfl,?_,?_,HB2⟩
      ·show _=_
       rw [HS.out,HM2.out,HZN.out,List.take_length]
      ·show World.ownsRow _ _ _ _ _ _ _
       have h:=HO2.out
       rw [HZN.out,List.take_length] at h
       rw [HS.out]
       exact h
     case measure=>simp [intOf];omega
  ·obtain rfl:k=sn:=by omega
   have hm:m=(allH sl).length:=by rw [HM.out,HSN.out,List.take_length]
   subst hm
   have HO9:Hid (wo.ownsRow W1.heap.size 9 1 (.slice A (allH sl).length c) (allH sl).length (scells (allH sl))):=by
    show World.ownsRow _ _ _ _ _ _ _
    have h:=HO.out
    rw [HSN.out,List.take_length] at h
    exact h
   clear HO HM
   go_wp2_with fail
   go_ret
   exact ⟨A,c,rfl,own_mono HO9.out (by have:=HSZ1.out;omega),HB1.out.trans (HB.out.mono (by have:=HSZ1.out;omega))⟩
end Go.Proofs.YtcgclpcocdappaaGreatDoor
namespace Go.Proofs.YtcgclpcocdappaaGreatDoor
open Go.RowKit
def prn1:TenC:=⟨[116],20,1,[⟨[],[],[],[⟨[97],1,[],[],[]⟩,⟨[98],2,[],[],[]⟩,⟨[99],3,[],[],[]⟩],[]⟩],[],[],[]⟩
def prn2:TenC:=⟨[116],20,1,[⟨[],[],[],[⟨[99],3,[],[],[]⟩],[]⟩],[],[],[]⟩
theorem prn1_prune:prn1.prune [] 1=(0,2,prn2):=by kernel_rfl
theorem prn1_sz:prn1.sz where
 nm:=by show (1:Nat)≤4000000000;decide
 sets:=by show (1:Nat)≤1000000000000;decide
 eachS:=by
  intro y hy
  rw [show prn1.sets=[⟨[],[],[],[⟨[97],1,[],[],[]⟩,⟨[98],2,[],[],[]⟩,⟨[99],3,[],[],[]⟩],[]⟩] from rfl,List.mem_singleton] at hy
  subst hy
  exact ⟨by decide,by decide,by decide,by decide,fun z hz=>by
   simp only [List.mem_cons,List.not_mem_nil,or_false] at hz
   rcases hz with rfl | rfl | rfl <;> exact ⟨by decide,by decide,by decide,(fun t ht=>by cases ht),by decide,(fun t ht=>by cases ht)⟩,by decide,fun t ht=>by cases ht⟩
 grants:=by show (0:Nat)≤1000000000000;decide
 eachG:=fun y hy=>by cases hy
 stages:=by show (0:Nat)≤1000000000000;decide
 eachT:=fun y hy=>by cases hy
 log:=by show (0:Nat)≤1000000000000;decide
 eachL:=fun y hy=>by cases hy
theorem alloc_set (W:World) (o:Obj) (g i:Nat) (v:Value) (h:g<W.heap.size):(W.alloc o).setCell ⟨g,i,none⟩ v=(W.setCell ⟨g,i,none⟩ v).alloc o:=by
 simp [go_sem,h]
theorem own_lit5 (W:World) (cs:Array Value) (T:TypeId) (h:cs.size=15):(W.alloc (.cells cs T)).ownsRow W.heap.size T 5 (.slice (some ⟨W.heap.size,0,none⟩) 3 3) 3 cs.toList:=by
 refine ⟨by simp [h],.inr ⟨W.heap.size,3,cs,rfl,Nat.le_refl _,heap_alloc_new W _,Nat.le_refl _,by unfold maxLen;omega,by simp [h],?_⟩⟩
 rw [List.take_of_length_le (by simp [h])]
set_option maxRecDepth 100000 in
set_option maxHeartbeats 4000000 in
theorem alive39_any (w:World) (hmx:HasMax w):Calls Tryz.prog 16 #[] w fun e w'=>e=.returned (.bool true)∧Below w.heap.size w w':=by
 go_enter Tryz.func16,Tryz.ntmps16
 go_wp2_with fail
 refine (rnew_any 20 (by decide) (by decide) _).mono ?_
 rintro e w1 ⟨y,rfl,ho,hy,hb⟩
 have HW1:=Lib.hid hb
 clear hb
 obtain ⟨mm,mq,mx,⟨m1,m2,m3,ml⟩,⟨n1,n2,n3,nl⟩,⟨p1,p2,p3,pl⟩,⟨q1,q2,q3,ql⟩⟩:=y
 simp only [TenR.val,TenR.cells,FS.val,strV]
 have hlen:ml.length=1:=by
  have h:=congrArg (fun c:TenC=>c.sets.length) hy
  simpa [TenR.con,new0C] using h
 have hml0:0<ml.length:=by omega
 have hm2:m2=1:=by have h:=ho.sets.1;simp only at h;omega
 obtain ⟨gS,csS,hA,hbg,hblk⟩:=ho.sets.blk (by show 0<m2;omega)
 replace hA:m1=some ⟨gS,0,none⟩:=hA
 subst hA
 have hx0:(ml[0]'hml0).con=set0C []:=by
  have h:=congrArg (fun c:TenC=>c.sets[0]?) hy
  simp only [TenR.con,new0C,List.getElem?_map,List.getElem?_eq_getElem hml0,Option.map_some,zE] at h
  exact Option.some.inj h
 have hpw:ml.Pairwise ApartS:=by
  match ml,hlen with
  | [z],_=>exact List.pairwise_singleton _ _
 have hgw1:gS<w1.heap.size:=hblk.lt
 have HO:=Lib.hid ho
 have HY:=Lib.hid hy
 have HX0:=Lib.hid hx0
 clear ho hy hx0 hblk
 have hbn:=(HW1.out).alloc HW1.out.size (.cells #[.string ⟨mm.toArray⟩,.int .i64 mq,.int .i64 mx,.slice (some ⟨gS,0,none⟩) m2 m3,.slice n1 n2 n3,.slice p1 p2 p3,.slice q1 q2 q3] 27)
 have kbn:=Blk.new w1 27 #[.string ⟨mm.toArray⟩,.int .i64 mq,.int .i64 mx,.slice (some ⟨gS,0,none⟩) m2 m3,.slice n1 n2 n3,.slice p1 p2 p3,.slice q1 q2 q3]
 have hsn:(w1.alloc (.cells #[.string ⟨mm.toArray⟩,.int .i64 mq,.int .i64 mx,.slice (some ⟨gS,0,none⟩) m2 m3,.slice n1 n2 n3,.slice p1 p2 p3,.slice q1 q2 q3] 27)).heap.size=w1.heap.size+1:=by simp
 have HOn:=HO.out.below ((Below.refl w1.heap.size w1).alloc (Nat.le_refl _) (.cells #[.string ⟨mm.toArray⟩,.int .i64 mq,.int .i64 mx,.slice (some ⟨gS,0,none⟩) m2 m3,.slice n1 n2 n3,.slice p1 p2 p3,.slice q1 q2 q3] 27))
 obtain ⟨By,hBy⟩:∃ g,g=w1.heap.size:=⟨_,rfl⟩
 obtain ⟨w2,hWn⟩:∃ W,W=(w1.alloc (.cells #[.string ⟨mm.toArray⟩,.int .i64 mq,.int .i64 mx,.slice (some ⟨gS,0,none⟩) m2 m3,.slice n1 n2 n3,.slice p1 p2 p3,.slice q1 q2 q3] 27)):=⟨_,rfl⟩
 rw [← hWn] at hbn kbn hsn HOn
 have HW2:=Lib.hid hbn
 rw [← hBy] at kbn
 have hKy:Hid (∀ W,Below w2.heap.size w2 W→Blk W By 27 #[.string ⟨mm.toArray⟩,.int .i64 mq,.int .i64 mx,.slice (some ⟨gS,0,none⟩) m2 m3,.slice n1 n2 n3,.slice p1 p2 p3,.slice q1 q2 q3]):=fun W h=>kbn.below h (by omega)
 have HZy:=Lib.hid (show By=w1.heap.size∧w2.heap.size=w1.heap.size+1 from ⟨hBy,hsn⟩)
 have HO:=Lib.hid HOn
 clear hbn kbn hsn HOn
 have hal:=(Below.refl w2.heap.size w2).alloc (Nat.le_refl _) (.cells #[.string ⟨#[97]⟩,.int .i64 1,.slice none 0 0,.slice none 0 0,.slice none 0 0,.string ⟨#[98]⟩,.int .i64 2,.slice none 0 0,.slice none 0 0,.slice none 0 0,.string ⟨#[99]⟩,.int .i64 3,.slice none 0 0,.slice none 0 0,.slice none 0 0] 57)
 have hg0:∀ row,w2.grownBy (w2.alloc (.cells #[.string ⟨#[97]⟩,.int .i64 1,.slice none 0 0,.slice none 0 0,.slice none 0 0,.string ⟨#[98]⟩,.int .i64 2,.slice none 0 0,.slice none 0 0,.slice none 0 0,.string ⟨#[99]⟩,.int .i64 3,.slice none 0 0,.slice none 0 0,.slice none 0 0] 57)) row:=fun row=>⟨hal.os,hal.tape,hal.output,hal.size,fun k hk _=>hal.block k hk⟩
 have hAs:=HO.out.aside hpw 0 hml0 (hg0 _)
 obtain ⟨-,hlt,hfz,-,-,-,hcS,-⟩:=row_cells hAs.sets hml0 rfl
 have hfz:=hfz (0*5+3)
 simp only [Nat.zero_mul,Nat.zero_add] at hcS hfz
 have hgw2:gS<w2.heap.size:=by have h:=HZy.out;omega
 have hst:=hAs.store ⟨some ⟨w2.heap.size,0,none⟩,3,3,[⟨[97],1,⟨none,0,0,[]⟩,⟨none,0,0,[]⟩,⟨none,0,0,[]⟩⟩,⟨[98],2,⟨none,0,0,[]⟩,⟨none,0,0,[]⟩,⟨none,0,0,[]⟩⟩,⟨[99],3,⟨none,0,0,[]⟩,⟨none,0,0,[]⟩,⟨none,0,0,[]⟩⟩]⟩ ⟨rfl,own_mono (own_lit5 w2 #[.string ⟨#[97]⟩,.int .i64 1,.slice none 0 0,.slice none 0 0,.slice none 0 0,.string ⟨#[98]⟩,.int .i64 2,.slice none 0 0,.slice none 0 0,.slice none 0 0,.string ⟨#[99]⟩,.int .i64 3,.slice none 0 0,.slice none 0 0,.slice none 0 0] 57 rfl) (by have:=HW2.out.size;omega)⟩ (fun z hz=>by
  simp only [List.mem_cons,List.not_mem_nil,or_false] at hz
  rcases hz with rfl | rfl | rfl <;> exact ⟨⟨rfl,World.ownsRow_nil _ _ _ _⟩,⟨rfl,World.ownsRow_nil _ _ _ _⟩,⟨rfl,World.ownsRow_nil _ _ _ _⟩⟩) (gS:=gS) rfl
 have kk:=((hKy.out w2 (Below.refl _ _)).alloc (.cells #[.string ⟨#[97]⟩,.int .i64 1,.slice none 0 0,.slice none 0 0,.slice none 0 0,.string ⟨#[98]⟩,.int .i64 2,.slice none 0 0,.slice none 0 0,.slice none 0 0,.string ⟨#[99]⟩,.int .i64 3,.slice none 0 0,.slice none 0 0,.slice none 0 0] 57)).far (p:=⟨gS,3,none⟩) (by have h:=HZy.out;simp only;omega) (.slice (some ⟨w2.heap.size,0,none⟩) 3 3)
 have hW4b:=(HW2.out.alloc HW2.out.size (.cells #[.string ⟨#[97]⟩,.int .i64 1,.slice none 0 0,.slice none 0 0,.slice none 0 0,.string ⟨#[98]⟩,.int .i64 2,.slice none 0 0,.slice none 0 0,.slice none 0 0,.string ⟨#[99]⟩,.int .i64 3,.slice none 0 0,.slice none 0 0,.slice none 0 0] 57)).setCell (p:=⟨gS,3,none⟩) (by simp only;omega) (.slice (some ⟨w2.heap.size,0,none⟩) 3 3)
 obtain ⟨YP,hYP⟩:∃ t:TenR,t=TenR.putS ⟨mm,mq,mx,⟨some ⟨gS,0,none⟩,m2,m3,ml⟩,⟨n1,n2,n3,nl⟩,⟨p1,p2,p3,pl⟩,⟨q1,q2,q3,ql⟩⟩ 0 ((ml[0]'hml0).withSn ⟨some ⟨w2.heap.size,0,none⟩,3,3,[⟨[97],1,⟨none,0,0,[]⟩,⟨none,0,0,[]⟩,⟨none,0,0,[]⟩⟩,⟨[98],2,⟨none,0,0,[]⟩,⟨none,0,0,[]⟩,⟨none,0,0,[]⟩⟩,⟨[99],3,⟨none,0,0,[]⟩,⟨none,0,0,[]⟩,⟨none,0,0,[]⟩⟩]⟩):=⟨_,rfl⟩
 have hyo:TenO ((w2.alloc (.cells #[.string ⟨#[97]⟩,.int .i64 1,.slice none 0 0,.slice none 0 0,.slice none 0 0,.string ⟨#[98]⟩,.int .i64 2,.slice none 0 0,.slice none 0 0,.slice none 0 0,.string ⟨#[99]⟩,.int .i64 3,.slice none 0 0,.slice none 0 0,.slice none 0 0] 57)).setCell ⟨gS,3,none⟩ (.slice (some ⟨w2.heap.size,0,none⟩) 3 3)) w.heap.size YP:=by rw [hYP];exact hst.1
 have hyc:YP.con=prn1:=by
  rw [hYP,TenR.con_putS,HY.out,withSn_con,HX0.out]
  rfl
 have hyv:YP.val=.agg #[.string ⟨mm.toArray⟩,.int .i64 mq,.int .i64 mx,.slice (some ⟨gS,0,none⟩) m2 m3,.slice n1 n2 n3,.slice p1 p2 p3,.slice q1 q2 q3]:=by rw [hYP];rfl
 have hk3:=(hKy.out w2 (Below.refl _ _)).cell 3
 simp only [zF,zD,zE] at hk3
 obtain ⟨w4,hw4⟩:∃ W,W=((w2.alloc (.cells #[.string ⟨#[97]⟩,.int .i64 1,.slice none 0 0,.slice none 0 0,.slice none 0 0,.string ⟨#[98]⟩,.int .i64 2,.slice none 0 0,.slice none 0 0,.slice none 0 0,.string ⟨#[99]⟩,.int .i64 3,.slice none 0 0,.slice none 0 0,.slice none 0 0] 57)).setCell ⟨gS,3,none⟩ (.slice (some ⟨w2.heap.size,0,none⟩) 3 3)):=⟨_,rfl⟩
 have hyo4:TenO w4 w.heap.size YP:=by rw [hw4];exact hyo
 have hW4c:Below w.heap.size w w4:=by rw [hw4];exact hW4b
 rw [← hw4] at kk
 obtain ⟨c0,c1,c2,c3,c4,c5,c6⟩:=(⟨kk.cell 0,kk.cell 1,kk.cell 2,kk.cell 3,kk.cell 4,kk.cell 5,kk.cell 6⟩:_∧_∧_∧_∧_∧_∧_)
 simp only [zF,zD,zE] at c0 c1 c2 c3 c4 c5 c6
 have hCR:=prune_any YP [] 1 w4 w4.heap.size (Nat.le_refl _) hyo4.rd (TenR.sz_of hyo4.rd (by rw [hyc];exact prn1_sz)) (hmx.below hW4c)
 rw [hyc,prn1_prune,hyv] at hCR
 have HCR:Hid (Calls Tryz.prog 17 #[.agg #[.string ⟨mm.toArray⟩,.int .i64 mq,.int .i64 mx,.slice (some ⟨gS,0,none⟩) m2 m3,.slice n1 n2 n3,.slice p1 p2 p3,.slice q1 q2 q3],.string ⟨#[]⟩,.int .i64 1] w4 (PrunePost w4 (0,2,prn2))):=hCR
 have HW4:=Lib.hid hW4c
 have hn0:(0:Int)<(m2:Int):=by omega
 clear hm2 hgw1 hbg
 clear hCR hyo4 hW4c hyo hyc hyv hYP hst hAs hal hg0 hW4b kk hlen hpw hlt
 go_upto_region 2 with (refine wpList_store_new w1 rfl 27 (.tmp 1) (.tmp 8) rfl 27 [.string ⟨#[]⟩,.int .i64 0,.int .i64 0,.slice none 0 0,.slice none 0 0,.slice none 0 0,.slice none 0 0] [.string ⟨mm.toArray⟩,.int .i64 mq,.int .i64 mx,.slice (some ⟨gS,0,none⟩) m2 m3,.slice n1 n2 n3,.slice p1 p2 p3,.slice q1 q2 q3] rfl rfl rfl (by kernel_rfl) (by simp [Value.oneCell']) ?_;rw [show ([.string ⟨mm.toArray⟩,.int .i64 mq,.int .i64 mx,.slice (some ⟨gS,0,none⟩) m2 m3,.slice n1 n2 n3,.slice p1 p2 p3,.slice q1 q2 q3]:List Value).toArray=#[.string ⟨mm.toArray⟩,.int .i64 mq,.int .i64 mx,.slice (some ⟨gS,0,none⟩) m2 m3,.slice n1 n2 n3,.slice p1 p2 p3,.slice q1 q2 q3] from rfl,← hWn,← hBy];clear hWn hBy)
 go_upto_region 3 with (fail)
 rw [← alloc_set _ _ _ _ _ hgw2,← hw4]
 clear hw4 hk3 hcS hfz
 go_wp2_with fail
 refine HCR.out.mono ?_
 clear HCR c0 c1 c2 c3 c4 c5 c6
 rintro e w5 ⟨v,ni,rfl,hb,⟨h1,-⟩ | ⟨-,rfl,u,rfl,hou,hu⟩⟩
 ·exact absurd (show (0:Int)=0 from rfl) h1
 have HW5:=Lib.hid (HW4.out.trans (hb.mono HW4.out.size))
 have HOU:=Lib.hid hou
 have HU:Hid (u.con=prn2):=hu
 clear hb hou hu
 obtain ⟨am,aq,ax,⟨a1,a2,a3,al⟩,⟨f1,f2,f3,fl⟩,⟨i1,i2,i3,il⟩,⟨j1,j2,j3,jl⟩⟩:=u
 simp only [TenR.val,TenR.cells,FS.val,strV]
 have hbn:=(HW5.out).alloc HW5.out.size (.cells #[.string ⟨am.toArray⟩,.int .i64 aq,.int .i64 ax,.slice a1 a2 a3,.slice f1 f2 f3,.slice i1 i2 i3,.slice j1 j2 j3] 27)
 have kbn:=Blk.new w5 27 #[.string ⟨am.toArray⟩,.int .i64 aq,.int .i64 ax,.slice a1 a2 a3,.slice f1 f2 f3,.slice i1 i2 i3,.slice j1 j2 j3]
 have hsn:(w5.alloc (.cells #[.string ⟨am.toArray⟩,.int .i64 aq,.int .i64 ax,.slice a1 a2 a3,.slice f1 f2 f3,.slice i1 i2 i3,.slice j1 j2 j3] 27)).heap.size=w5.heap.size+1:=by simp
 have HOUn:=HOU.out.below ((Below.refl w5.heap.size w5).alloc (Nat.le_refl _) (.cells #[.string ⟨am.toArray⟩,.int .i64 aq,.int .i64 ax,.slice a1 a2 a3,.slice f1 f2 f3,.slice i1 i2 i3,.slice j1 j2 j3] 27))
 obtain ⟨Ba,hBa⟩:∃ g,g=w5.heap.size:=⟨_,rfl⟩
 obtain ⟨w6,hWn⟩:∃ W,W=(w5.alloc (.cells #[.string ⟨am.toArray⟩,.int .i64 aq,.int .i64 ax,.slice a1 a2 a3,.slice f1 f2 f3,.slice i1 i2 i3,.slice j1 j2 j3] 27)):=⟨_,rfl⟩
 rw [← hWn] at hbn kbn hsn HOUn
 have HW6:=Lib.hid hbn
 rw [← hBa] at kbn
 have hKa:Hid (∀ W,Below w6.heap.size w6 W→Blk W Ba 27 #[.string ⟨am.toArray⟩,.int .i64 aq,.int .i64 ax,.slice a1 a2 a3,.slice f1 f2 f3,.slice i1 i2 i3,.slice j1 j2 j3]):=fun W h=>kbn.below h (by omega)
 have HZa:=Lib.hid (show Ba=w5.heap.size∧w6.heap.size=w5.heap.size+1 from ⟨hBa,hsn⟩)
 have HOU:=Lib.hid HOUn
 clear hbn kbn hsn HOUn
 have hlen:al.length=1:=by
  have h:=congrArg (fun c:TenC=>c.sets.length) HU.out
  simpa [TenR.con,prn2] using h
 have hal0:0<al.length:=by omega
 obtain ⟨x,hx⟩:∃ x,x=al[0]'hal0:=⟨_,rfl⟩
 have hxn:x.snaps.n=1:=by
  have h:=congrArg (fun c:TenC=>(c.sets[0]?).map fun s=>s.snaps.length) HU.out
  simp only [TenR.con,List.getElem?_map,List.getElem?_eq_getElem hal0,← hx] at h
  have h2:=((HOU.out.eachS _ (List.getElem_mem hal0))).snaps.1
  simp only [← hx] at h2
  rw [h2]
  simpa [SetR.con,prn2] using h
 have ha2:a2=1:=by have h:=HOU.out.sets.1;simp only at h;omega
 obtain ⟨ad,rfl,-,-,-,-,q3,-⟩:=set_at HOU.out.rd.sets.2.2 HOU.out.sets.1 (i:=0) (show 0<a2 by omega)
 simp only [← hx] at q3
 replace q3:w6.cell? ⟨ad.block,ad.off+3,none⟩=some (.slice x.snaps.A x.snaps.n x.snaps.c):=by simpa [Addr.add] using q3
 have kk:=hKa.out w6 (Below.refl _ _)
 have d3:=kk.cell 3
 simp only [zF,zD,zE] at d3
 have hn1:((x.snaps.n:Int) == 1)=true:=by rw [hxn];rfl
 have hn2:(0:Int)<(a2:Int):=by omega
 clear kk hlen hxn ha2 hx HOU HU HO HY hKy
 go_wp2_with (refine wpList_store_new w5 rfl 27 (.tmp 3) (.tmp 21) rfl 27 [.string ⟨#[]⟩,.int .i64 0,.int .i64 0,.slice none 0 0,.slice none 0 0,.slice none 0 0,.slice none 0 0] [.string ⟨am.toArray⟩,.int .i64 aq,.int .i64 ax,.slice (some ad) a2 a3,.slice f1 f2 f3,.slice i1 i2 i3,.slice j1 j2 j3] rfl rfl rfl (by kernel_rfl) (by simp [Value.oneCell']) ?_;rw [show ([.string ⟨am.toArray⟩,.int .i64 aq,.int .i64 ax,.slice (some ad) a2 a3,.slice f1 f2 f3,.slice i1 i2 i3,.slice j1 j2 j3]:List Value).toArray=#[.string ⟨am.toArray⟩,.int .i64 aq,.int .i64 ax,.slice (some ad) a2 a3,.slice f1 f2 f3,.slice i1 i2 i3,.slice j1 j2 j3] from rfl,← hWn,← hBa];clear hWn hBa)
 exact bodyPost_ret (v:=.bool true) (by simp [results,Tryz.results16,go_sem]) rfl ⟨rfl,HW6.out⟩
end Go.Proofs.YtcgclpcocdappaaGreatDoor
