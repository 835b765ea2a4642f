/-
  snaps.Rename: a snapshot of another name.
-/
import Derived.WalkKit
import Derived.WalkSpells
import Derived.Below
import Derived.Laws.OwnMore
import Derived.Deep.AppendLies
import Derived.Deep.Draws
import Derived.Laws.Rows
import Derived.Maps.AppendAt
import Derived.RegionTactic
import Derived.OwnWalk
import Derived.Deep.QuietTactic
import Derived.BigQuiet
import Derived.Lib.Hide
import Derived.Laws.CopyOwn
import Derived.IntWalk
import Derived.Test.YtcgclpcocdappaaGreatDoorRows
import Derived.Handy
import Derived.Lib.AppendZeros
import Derived.ProofKit
import Derived.Deep.Quiet
import Derived.OpenShut
import Derived.ShutString
import Derived.ChangeOld
import Derived.Carry
import Derived.SizedLaws
import Derived.JoinedCond
import Derived.Deep.CondSized
import Derived.Deep.Slices
import Derived.Deep.Fields
import Derived.Lib.SmallJoins
import Derived.Orders
import Derived.Lib.SplitLaws
import Derived.Lib.LastIndexByte
import Derived.Lib.Strings
import Derived.Deep.RegionLaw
import Derived.Sort.Walk0
import Derived.Sort.KeysCollected
import Derived.Shelf.SlIter.Nil
import Derived.Shelf.SortM.Plain
import Derived.Shelf.SortM.SortNone
import Derived.Maps.OwnSet
import Derived.Maps.StringElems
import Derived.Deep.MidRow
import Derived.Shelf.Strings.Search1
import Derived.Shelf.Strings.Search2
import Derived.Shelf.Strings.Search3
import Derived.Shelf.Strings.Cut
import Derived.Shelf.Strings.Count
import Derived.Shelf.LaysM
import Derived.Shelf.Strings.Shaped
import Derived.Shelf.Strings.LastIndex
import Derived.Shelf.Strings.Split
import Derived.Shelf.Strings.SplitShaped
import Derived.Shelf.Unicode.Decode
import Derived.Shelf.Strings.RuneCount
import Derived.Shelf.Strings.Explode
import Derived.Shelf.Unicode.DecodeSlow
import Derived.Test.YtcgclpcocdappaaGreatDoorProg
import Derived.Lib.Overlaps
import Derived.Lib.AppendZerosOnto
import Derived.Laws.BytesString
import Derived.Laws.IdiomStrings
import Derived.Lib.ConvBytes
import Derived.Deep.DeepCutAuto
import Derived.Great.BuildSlice
import Derived.Test.YtcgclpcocdappaaGreatDoorJ0
import Derived.Test.YtcgclpcocdappaaGreatDoorJbkv1
import Derived.Test.YtcgclpcocdappaaGreatDoorJbkv2
import Derived.Test.YtcgclpcocdappaaGreatDoorJbkv3
import Derived.Test.YtcgclpcocdappaaGreatDoorJbkv4
import Derived.Test.YtcgclpcocdappaaGreatDoorJbkv5
import Derived.Test.YtcgclpcocdappaaGreatDoorJbkv6
import Derived.Test.YtcgclpcocdappaaGreatDoorJbkv7
import Derived.Test.YtcgclpcocdappaaGreatDoorJbkv8
import Derived.Test.YtcgclpcocdappaaGreatDoorJbkv10
import Derived.Test.YtcgclpcocdappaaGreatDoorJbkv14
import Derived.Test.YtcgclpcocdappaaGreatDoorJbkv15
import Derived.Test.YtcgclpcocdappaaGreatDoorJbkv16
import Derived.Test.YtcgclpcocdappaaGreatDoorJbkv17
import Derived.Test.YtcgclpcocdappaaGreatDoorJbkv18
import Derived.Test.YtcgclpcocdappaaGreatDoorJbkv19
import Derived.Test.YtcgclpcocdappaaGreatDoorJbkv20
import Derived.Test.YtcgclpcocdappaaGreatDoorJbkv21
import Derived.Test.YtcgclpcocdappaaGreatDoorJbkv22
import Derived.Test.YtcgclpcocdappaaGreatDoorJbkv27
import Derived.Test.YtcgclpcocdappaaGreatDoorJbv1
import Derived.Test.YtcgclpcocdappaaGreatDoorJbv2
import Derived.Test.YtcgclpcocdappaaGreatDoorJkv1
import Derived.Test.YtcgclpcocdappaaGreatDoorJv3
import Derived.Test.YtcgclpcocdappaaGreatDoorJv5
namespace Go.Proofs.YtcgclpcocdappaaGreatDoor
open Go.RowKit
def SetR.from_ (a b:BS) (x:SetR):SetR:=⟨x.path,if x.org=a then b else x.org,x.body,x.snaps,x.own⟩
def fromsR (a b:BS) (l:List SetR) (j:Nat):List SetR:=(l.take j).map (SetR.from_ a b)++l.drop j
theorem fromsR_at (a b:BS) (l:List SetR) (j:Nat) (hj:j<l.length):(fromsR a b l j)[j]?=some (l[j]'hj):=by
 unfold fromsR
 rw [List.getElem?_append_right (by rw [List.length_map,List.length_take];omega),List.length_map,List.length_take,Nat.min_eq_left (by omega),Nat.sub_self,List.getElem?_drop,Nat.add_zero,List.getElem?_eq_getElem hj]
theorem fromsR_set (a b:BS) (l:List SetR) (j:Nat) (hj:j<l.length):(fromsR a b l j).set j ((l[j]'hj).from_ a b)=fromsR a b l (j+1):=by
 unfold fromsR
 rw [List.set_append_right _ _ (by rw [List.length_map,List.length_take];omega),List.length_map,List.length_take,Nat.min_eq_left (by omega),Nat.sub_self,List.drop_eq_getElem_cons hj,zB,List.take_succ_eq_append_getElem hj,List.map_append,List.append_assoc]
 rfl
theorem fromsR_same (a b:BS) (l:List SetR) (j:Nat) (hj:j<l.length) (h:¬ (l[j]'hj).org=a):fromsR a b l j=fromsR a b l (j+1):=by
 rw [← fromsR_set a b l j hj]
 have e:(l[j]'hj).from_ a b=l[j]'hj:=by
  unfold SetR.from_
  rw [if_neg h]
 have h1:=fromsR_at a b l j hj
 obtain ⟨hl,h2⟩:=List.getElem?_eq_some_iff.1 h1
 rw [e,← h2,List.set_getElem_self]
theorem fromsR_all (a b:BS) (l:List SetR):fromsR a b l l.length=l.map (SetR.from_ a b):=by
 unfold fromsR
 rw [List.take_length,List.drop_length,List.append_nil]
theorem SetO.from_ {w:World} {base:Nat} {x:SetR} (h:SetO w base x) (a b:BS):SetO w base (x.from_ a b):=⟨h.body,h.snaps,h.each,h.own⟩
def TenR.froms (t:TenR) (a b:BS) (j:Nat):TenR:=⟨t.nm,t.quota,t.next,⟨t.sets.A,t.sets.n,t.sets.c,fromsR a b t.sets.l j⟩,t.grants,t.stages,t.log⟩
theorem froms_con (t:TenR) (a b:BS):(t.froms a b t.sets.l.length).con=t.con.froms a b:=by
 unfold TenR.froms TenR.con TenC.froms
 simp only [fromsR_all,List.map_map]
 rfl
theorem named_con (x:SetR) (z:SnapR) (i:Nat) (tq:BS):(x.withSn ⟨x.snaps.A,x.snaps.n,x.snaps.c,x.snaps.l.set i ⟨tq,z.gd,z.body,z.tags,z.own⟩⟩).con=x.con.named i z.con tq:=by
 unfold SetR.withSn SetR.con SetC.named
 simp only [List.map_set]
 rfl
set_option maxRecDepth 100000 in
set_option maxHeartbeats 8000000 in
theorem rename_any (t:TenR) (p n:BS) (tq:BS) (w:World) (B:Nat) (hB:B≤w.heap.size) (hr:t.rd w B) (hz:t.sz) (hp:p.length≤3000000000) (hn:n.length≤500000000) (htq:tq.length≤500000000) (hmx:HasMax w) :
  Calls Tryz.prog 28 #[t.val,.string ⟨p.toArray⟩,.string ⟨n.toArray⟩,.string ⟨tq.toArray⟩] w (TenPost w (t.con.rename p n tq)):=by
 obtain ⟨V,hV⟩:∃ V,V=t.con.rename p n tq:=⟨_,rfl⟩
 rw [← hV]
 obtain ⟨R,hR⟩:∃ R,R=t.con.foundS p n (!nameB tq):=⟨_,rfl⟩
 have hway:=found_way t t.sets.l rfl p n (!nameB tq) R hR
 have hcz:=TenC.sz_of hr hz
 obtain ⟨nm,qu,nx,⟨s1,sn,s3,sl⟩,⟨gA,gN,gC,gL⟩,⟨t1,tn,t3,tl⟩,⟨l1,ln,l3,ll⟩⟩:=t
 show Calls Tryz.prog 28 #[.agg #[.string ⟨nm.toArray⟩,.int .i64 qu,.int .i64 nx,.slice s1 sn s3,.slice gA gN gC,.slice t1 tn t3,.slice l1 ln l3],.string ⟨p.toArray⟩,.string ⟨n.toArray⟩,.string ⟨tq.toArray⟩] w _
 have hb:=(((Below.refl w.heap.size w).alloc (Nat.le_refl _) (.cells #[.string ⟨nm.toArray⟩,.int .i64 qu,.int .i64 nx,.slice s1 sn s3,.slice gA gN gC,.slice t1 tn t3,.slice l1 ln l3] 27)).alloc (by simp) (.cells #[.string ⟨#[]⟩,.int .i64 0,.int .i64 0,.slice none 0 0,.slice none 0 0,.slice none 0 0,.slice none 0 0] 27))
 have kt:=Blk.new w 27 #[.string ⟨nm.toArray⟩,.int .i64 qu,.int .i64 nx,.slice s1 sn s3,.slice gA gN gC,.slice t1 tn t3,.slice l1 ln l3]
 replace kt:=kt.alloc (.cells #[.string ⟨#[]⟩,.int .i64 0,.int .i64 0,.slice none 0 0,.slice none 0 0,.slice none 0 0,.slice none 0 0] 27)
 have kz:=Blk.new (w.alloc (.cells #[.string ⟨nm.toArray⟩,.int .i64 qu,.int .i64 nx,.slice s1 sn s3,.slice gA gN gC,.slice t1 tn t3,.slice l1 ln l3] 27)) 27 #[.string ⟨#[]⟩,.int .i64 0,.int .i64 0,.slice none 0 0,.slice none 0 0,.slice none 0 0,.slice none 0 0]
 rw [show (w.alloc (.cells #[.string ⟨nm.toArray⟩,.int .i64 qu,.int .i64 nx,.slice s1 sn s3,.slice gA gN gC,.slice t1 tn t3,.slice l1 ln l3] 27)).heap.size=w.heap.size+1 by simp] at kz
 have hsz:((w.alloc (.cells #[.string ⟨nm.toArray⟩,.int .i64 qu,.int .i64 nx,.slice s1 sn s3,.slice gA gN gC,.slice t1 tn t3,.slice l1 ln l3] 27)).alloc (.cells #[.string ⟨#[]⟩,.int .i64 0,.int .i64 0,.slice none 0 0,.slice none 0 0,.slice none 0 0,.slice none 0 0] 27)).heap.size=w.heap.size+2:=by simp
 obtain ⟨W1,hW1⟩:∃ W,W=((w.alloc (.cells #[.string ⟨nm.toArray⟩,.int .i64 qu,.int .i64 nx,.slice s1 sn s3,.slice gA gN gC,.slice t1 tn t3,.slice l1 ln l3] 27)).alloc (.cells #[.string ⟨#[]⟩,.int .i64 0,.int .i64 0,.slice none 0 0,.slice none 0 0,.slice none 0 0,.slice none 0 0] 27)):=⟨_,rfl⟩
 rw [← hW1] at hb hsz kt kz
 have hKt:Hid (∀ W,Below W1.heap.size W1 W→Blk W w.heap.size 27 #[.string ⟨nm.toArray⟩,.int .i64 qu,.int .i64 nx,.slice s1 sn s3,.slice gA gN gC,.slice t1 tn t3,.slice l1 ln l3]):=fun W h=>kt.below h (by omega)
 have hKz:Hid (∀ W,Below W1.heap.size W1 W→Blk W (w.heap.size+1) 27 #[.string ⟨#[]⟩,.int .i64 0,.int .i64 0,.slice none 0 0,.slice none 0 0,.slice none 0 0,.slice none 0 0]):=fun W h=>kz.below h (by omega)
 have hBW:Hid (∀ W,Below W1.heap.size W1 W→Below w.heap.size w W):=fun W h=>hb.trans (h.mono (by omega))
 have hSZ:Hid (∀ W,Below W1.heap.size W1 W→w.heap.size+2≤W.heap.size):=fun W h=>by have:=h.size;omega
 have hW0:Hid (Below W1.heap.size W1 W1):=Below.refl _ _
 have hrw:Hid (∀ W,Below W1.heap.size W1 W→TenR.rd W B ⟨nm,qu,nx,⟨s1,sn,s3,sl⟩,⟨gA,gN,gC,gL⟩,⟨t1,tn,t3,tl⟩,⟨l1,ln,l3,ll⟩⟩∧B≤W.heap.size∧HasMax W):=fun W h =>
  ⟨TenR.rd.below hr ((hBW.out W h).mono hB),by have:=hSZ.out W h;omega,hmx.below (hBW.out W h)⟩
 obtain ⟨C,hC⟩:∃ C,C=TenR.con ⟨nm,qu,nx,⟨s1,sn,s3,sl⟩,⟨gA,gN,gC,gL⟩,⟨t1,tn,t3,tl⟩,⟨l1,ln,l3,ll⟩⟩:=⟨_,rfl⟩
 have hHC:=Lib.hid hC
 rw [← hC] at hR hway hcz hV
 simp only at hway
 have HR:=Lib.hid hR
 have HV:=Lib.hid hV
 have HCZ:=Lib.hid hcz
 have HZ:=Lib.hid hz
 have HP:=Lib.hid hp
 obtain ⟨a0,k0,e0⟩:=R
 obtain ⟨bB,hbB⟩:∃ b,b=nameB tq:=⟨_,rfl⟩
 rw [← hbB] at hR hway
 obtain ⟨TV,hTV⟩:∃ v,v=Value.agg #[.string ⟨nm.toArray⟩,.int .i64 qu,.int .i64 nx,.slice s1 sn s3,.slice gA gN gC,.slice t1 tn t3,.slice l1 ln l3]:=⟨_,rfl⟩
 have HTV:=Lib.hid hTV
 have hNM:Hid (∀ W,Below W1.heap.size W1 W→Calls Tryz.prog 83 #[.string ⟨tq.toArray⟩] W fun e w'=>e=.returned (.bool bB)∧Below W.heap.size W w'):=fun W h=>by
  rw [hbB]
  exact name_any ⟨tq.toArray⟩ W
 have hFO:Hid (∀ W,Below W1.heap.size W1 W→∀ A c,W.ownsRow W1.heap.size 4 1 (.slice A 1 c) 1 [.bool bB]→Calls Tryz.prog 55 #[TV,.string ⟨p.toArray⟩,.string ⟨n.toArray⟩,.slice A 1 c] W fun e w'=>e=.returned (.tuple #[.int .i64 a0,.int .i64 k0,.int .i64 e0])∧Below W.heap.size W w'):=fun W h A c how=>by
  have h0:=hrw.out W h
  have h1:=found_any ⟨nm,qu,nx,⟨s1,sn,s3,sl⟩,⟨gA,gN,gC,gL⟩,⟨t1,tn,t3,tl⟩,⟨l1,ln,l3,ll⟩⟩ p n [bB] A 1 c W W.heap.size (Nat.le_refl _) (h0.1.more h0.2.1) hz (by omega) h0.2.2 rfl (by decide) (Reads.of_own how)
  rw [foundS_con,← hC,show [bB].contains false=!bB from by cases bB <;> rfl,← hR] at h1
  rw [hTV]
  exact h1
 have hCP:Hid (∀ W,Below W1.heap.size W1 W→Calls Tryz.prog 44 #[.agg #[.string ⟨nm.toArray⟩,.int .i64 qu,.int .i64 nx,.slice s1 sn s3,.slice gA gN gC,.slice t1 tn t3,.slice l1 ln l3]] W fun e w'=>∃ y:TenR,e=.returned y.val∧TenO w' W.heap.size y∧TenR.eqv ⟨nm,qu,nx,⟨s1,sn,s3,sl⟩,⟨gA,gN,gC,gL⟩,⟨t1,tn,t3,tl⟩,⟨l1,ln,l3,ll⟩⟩ y∧y.sets.l.Pairwise ApartS∧Below W.heap.size W w'):=fun W h =>
  tcopy2_any ⟨nm,qu,nx,⟨s1,sn,s3,sl⟩,⟨gA,gN,gC,gL⟩,⟨t1,tn,t3,tl⟩,⟨l1,ln,l3,ll⟩⟩ W B (hrw.out W h).2.1 (hrw.out W h).1 hz
 have hSN:=Lib.hid (show sn=sl.length from hr.sets.1)
 have HBB:=Lib.hid hbB
 have HNL:=Lib.hid hn
 have HTL:=Lib.hid htq
 have hJN:Hid (∀ W,Calls Tryz.prog 79 #[.string ⟨p.toArray⟩,.string ⟨n.toArray⟩] W fun e w'=>e=.returned (.string ⟨(p++64 :: n).toArray⟩)∧w'=W):=fun W=>join_any ⟨p.toArray⟩ ⟨n.toArray⟩ W (by show p.toArray.size≤_;simp;omega) (by show n.toArray.size≤_;simp;omega)
 have hJT:Hid (∀ W,Calls Tryz.prog 79 #[.string ⟨p.toArray⟩,.string ⟨tq.toArray⟩] W fun e w'=>e=.returned (.string ⟨(p++64 :: tq).toArray⟩)∧w'=W):=fun W=>join_any ⟨p.toArray⟩ ⟨tq.toArray⟩ W (by show p.toArray.size≤_;simp;omega) (by show tq.toArray.size≤_;simp;omega)
 clear hb hsz kt kz hr hp hmx hV hC hz hcz hR hn htq hbB hTV
 go_enter Tryz.func28,Tryz.ntmps28
 have hS0:Hid (∀ W,Below W1.heap.size W1 W→W.cell? ⟨w.heap.size,0,none⟩=some (.string ⟨nm.toArray⟩)∧W.cell? ⟨w.heap.size,1,none⟩=some (.int .i64 qu)∧W.cell? ⟨w.heap.size,2,none⟩=some (.int .i64 nx)∧W.cell? ⟨w.heap.size,3,none⟩=some (.slice s1 sn s3)∧W.cell? ⟨w.heap.size,4,none⟩=some (.slice gA gN gC)∧W.cell? ⟨w.heap.size,5,none⟩=some (.slice t1 tn t3)∧W.cell? ⟨w.heap.size,6,none⟩=some (.slice l1 ln l3)):=fun W h=>blk7 (hKt.out W h)
 go_upto_region 1 with (fail)
 rw [← hW1]
 clear hW1
 refine wp_region_good2 (by kernel_rfl) (by kernel_rfl) [(fun v _=>v=TV),
  (fun v _=>v=.string ⟨p.toArray⟩),
  (fun v _=>v=.string ⟨n.toArray⟩),
  (fun v _=>v=.string ⟨tq.toArray⟩),
  (fun v _=>v=.bool bB),
  (fun v W=>∃ A c,v=.slice A 1 c∧W.ownsRow W1.heap.size 4 1 (v) 1 [.bool bB]),
  (fun v _=>v=.tuple #[.int .i64 a0,.int .i64 k0,.int .i64 e0]),
  (fun v _=>v=.tuple #[.int .i64 a0,.int .i64 k0,.int .i64 e0]),
  (fun v _=>v=.int .i64 a0),
  (fun v _=>v=.int .i64 k0),
  (fun v _=>v=.int .i64 e0),
  (fun v _=>v=.int .i64 a0),
  (fun v _=>v=.int .i64 k0),
  (fun v _=>v=.int .i64 e0)] ?_ ?_ ?_
 ·repeat' (first | exact stays_nil | refine stays_cons ?_ ?_ | exact Stays.pure | exact (fun v W W' h hb=>let ⟨A,c,h1,h2⟩:=h;⟨A,c,h1,own_below h2 hb⟩))
 ·intro i oo ho m2 W hb0 hmi hcl hdeps AA KK hA hK
  rcases i with _ | _ | _ | _ | _ | _ | _ | _ | _ | _ | _ | _ | _ | _ | i
  ·injection ho with ho;subst ho
   have ef4:AA.tmps[4]?.getD undef=.pointer (some ⟨w.heap.size,0,none⟩):=tF hA
   clear hA hdeps hcl hmi
   obtain ⟨c0,c1,c2,c3,c4,c5,c6⟩:=hS0.out W hb0
   have hK0:KK (AA.put (some 16) _) _:=hK (TV) _ (Below.refl _ _) (Eq.refl _)
   clear hK
   rw [HTV.out] at hK0
   go_simp
   exact hK0
  ·injection ho with ho;subst ho
   have ef1:AA.tmps[1]?.getD undef=.string ⟨p.toArray⟩:=tF hA
   exact zP
  ·injection ho with ho;subst ho
   have ef2:AA.tmps[2]?.getD undef=.string ⟨n.toArray⟩:=tF hA
   exact zP
  ·injection ho with ho;subst ho
   have ef3:AA.tmps[3]?.getD undef=.string ⟨tq.toArray⟩:=tF hA
   exact zP
  ·injection ho with ho;subst ho
   have e3:=eD hdeps hA 3 19
   clear hA hdeps hcl hmi
   have hKK:=hK
   clear hK
   go_simp
   refine (hNM.out W hb0).mono ?_
   rintro e w5 ⟨rfl,hbn⟩
   exact hKK _ _ hbn (Eq.refl _)
  ·injection ho with ho;subst ho
   have e4:=eD hdeps hA 4 20
   clear hA hdeps hcl hmi
   have hK0:KK (AA.put (some 21) _) _:=hK (.slice (some ⟨W.heap.size,0,none⟩) 1 1) (W.alloc (.cells #[.bool bB] 4)) ((Below.refl _ _).alloc (Nat.le_refl _) _) ⟨_,_,rfl,own_mono (own_lit W #[.bool bB] 4 1 rfl (by decide)) hb0.size⟩
   clear hK
   go_simp
   exact hK0
  ·injection ho with ho;subst ho
   have e0:=eD hdeps hA 0 16
   have e1:=eD hdeps hA 1 17
   have e2:=eD hdeps hA 2 18
   obtain ⟨x5,hx5,hg5⟩:=hdeps ⟨5,.data⟩ (by simp) rfl
   have hg5:∃ A c,x5=.slice A 1 c∧W.ownsRow W1.heap.size 4 1 (x5) 1 [.bool bB]:=hg5
   have hk5:=hg5
   obtain ⟨A5,c5,rfl,how5⟩:=hg5
   have e5:AA.tmps[21]?.getD undef=.slice A5 1 c5:=tO hA hx5
   clear hA hdeps hcl hmi hx5
   have hKK:=hK
   clear hK
   go_simp
   refine (hFO.out W hb0 _ _ how5).mono ?_
   rintro e w5 ⟨rfl,hbn⟩
   exact hKK _ _ hbn (Eq.refl _)
  ·injection ho with ho;subst ho
   have e6:=eD hdeps hA 6 22
   exact zP
  ·injection ho with ho;subst ho
   have e7:=eD hdeps hA 7 15
   exact zP
  ·injection ho with ho;subst ho
   have e7:=eD hdeps hA 7 15
   exact zP
  ·injection ho with ho;subst ho
   have e7:=eD hdeps hA 7 15
   exact zP
  ·injection ho with ho;subst ho
   have e8:=eD hdeps hA 8 23
   exact zP
  ·injection ho with ho;subst ho
   have e9:=eD hdeps hA 9 24
   exact zP
  ·injection ho with ho;subst ho
   have e10:=eD hdeps hA 10 25
   exact zP
  ·simp at ho
 ·intro m W hbx hall
  have m0:=dV (hall 0 (by simp))
  have m1:=dV (hall 1 (by simp))
  have m2:=dV (hall 2 (by simp))
  have m3:=dV (hall 3 (by simp))
  have m4:=dV (hall 4 (by simp))
  obtain ⟨x5,m5,g5⟩:=hall 5 (by simp)
  replace g5:∃ A c,x5=.slice A 1 c∧W.ownsRow W1.heap.size 4 1 (x5) 1 [.bool bB]:=g5
  have m6:=dV (hall 6 (by simp))
  have m7:=dV (hall 7 (by simp))
  have m8:=dV (hall 8 (by simp))
  have m9:=dV (hall 9 (by simp))
  have m10:=dV (hall 10 (by simp))
  have m11:=dV (hall 11 (by simp))
  have m12:=dV (hall 12 (by simp))
  have m13:=dV (hall 13 (by simp))
  rw [frameM_all (by kernel_rfl) [TV,.string ⟨p.toArray⟩,.string ⟨n.toArray⟩,.string ⟨tq.toArray⟩,.bool bB,x5,.tuple #[.int .i64 a0,.int .i64 k0,.int .i64 e0],.tuple #[.int .i64 a0,.int .i64 k0,.int .i64 e0],.int .i64 a0,.int .i64 k0,.int .i64 e0,.int .i64 a0,.int .i64 k0,.int .i64 e0] rfl (fun i hi=>by rcases i with _ | _ | _ | _ | _ | _ | _ | _ | _ | _ | _ | _ | _ | _ | i <;> first | assumption | (simp at hi;omega))]
  clear hall m0 m1 m2 m3 m4 m5 m6 m7 m8 m9 m10 m11 m12 m13
  simp only [putAll,Act.put,zA,zC,zB]
  obtain ⟨w2,hw2⟩:∃ w2,w2=W:=⟨_,rfl⟩
  subst hw2
  have HW2:=Lib.hid hbx
  clear hbx hS0
  rcases hway with ⟨a,kk,E,hE,hRe⟩ | ⟨k,i,hkl,hil,hRe,hat,hgk,hgi,hnm⟩
  ·obtain ⟨rfl,rfl,rfl⟩:a0=a∧k0=kk∧e0=E:=by injection hRe with h1 h2;injection h2 with h2 h3;exact ⟨h1,h2,h3⟩
   clear hRe
   have hne:e0≠0:=by rcases hE with h | h | h <;> rw [h] <;> decide
   have hneb:(e0 == 0)=false:=by simpa using hne
   have HX:Hid (V=(e0,C)):=by show _=_;rw [HV.out];exact rename_bad HR.out.symm hne
   have HNE:=Lib.hid hne
   clear HV HR hE hne
   have KZ:=Lib.hid (hKz.out w2 HW2.out)
   have HB:=Lib.hid (hBW.out w2 HW2.out)
   obtain ⟨WR,hW4,hth,HL,HBW,hgw⟩:=res7 (g:=(w.heap.size+1)) [.string ⟨#[]⟩,.int .i64 0,.int .i64 0,.slice none 0 0,.slice none 0 0,.slice none 0 0,.slice none 0 0] KZ.out HB.out (by omega)
   clear hgw
   go_wp2_with (refine wpList_store_mid rfl 27 (.tmp 8) (.tmp 28) rfl ((w.heap.size+1)) 0 #[.string ⟨#[]⟩,.int .i64 0,.int .i64 0,.slice none 0 0,.slice none 0 0,.slice none 0 0,.slice none 0 0] rfl rfl hth.out (by kernel_rfl) (by simp [Value.oneCell']) ?_;rw [← hW4];clear hW4)
   exact bodyPost_ret (v:=.tuple #[.agg #[.string ⟨#[]⟩,.int .i64 0,.int .i64 0,.slice none 0 0,.slice none 0 0,.slice none 0 0,.slice none 0 0],.int .i64 e0]) (results_cell_tmp rfl rfl HL.out) rfl (tenPost_err HX.out HNE.out HBW.out)
  ·obtain ⟨rfl,rfl,rfl⟩:a0=(k:Int)∧k0=(i:Int)∧e0=0:=by injection hRe with h1 h2;injection h2 with h2 h3;exact ⟨h1,h2,h3⟩
   clear hRe
   have HX0:Hid (V=if 0≤(sl[k]'hkl).con.findN tq then (6,C) else (0,(C.putS k ((sl[k]'hkl).con.named i ((sl[k]'hkl).snaps.l[i]'hil).con tq)).froms (p++64 :: n) (p++64 :: tq))):=by show _=_;rw [HV.out];exact rename_at HR.out.symm hgk hgi
   clear HV HR
   have hrk:=(hrw.out w2 HW2.out).1
   have hks:k<sn:=by have:=hSN.out;omega
   have hki:(k:Int)<(sn:Int):=by omega
   have hk0:(0:Int)≤(k:Int):=by omega
   obtain ⟨ad,hsa,-,fa0,fa1,fa2,fa3,fa4⟩:=set_at hrk.sets.2.2 hSN.out hks
   simp only at hsa
   have hx:=hrk.eachS _ (List.getElem_mem hkl)
   have hzx:=HZ.out.eachS _ (List.getElem_mem hkl)
   obtain ⟨x,hxx⟩:∃ x,x=sl[k]'hkl:=⟨_,rfl⟩
   simp only [← hxx] at fa0 fa1 fa2 fa3 fa4 hx hzx hgk hil hgi hnm
   have hin:i<x.snaps.n:=by rw [hx.snaps.1];exact hil
   have hii:(i:Int)<(x.snaps.n:Int):=by omega
   have hi0:(0:Int)≤(i:Int):=by omega
   obtain ⟨az,hza,-,fb0,fb1,fb2,fb3,fb4⟩:=snap_at hx.snaps.2.2 hx.snaps.1 hin
   obtain ⟨zz,hzz⟩:∃ z,z=x.snaps.l[i]'hil:=⟨_,rfl⟩
   have hxi:=hx.each _ (List.getElem_mem hil)
   have hzi:=hzx.each _ (List.getElem_mem hil)
   simp only [← hzz] at fb0 fb1 fb2 fb3 fb4 hgi hnm hxi hzi
   have hHX0:V=if 0≤findN x.snaps.l tq then (6,C) else (0,(C.putS k (x.con.named i (x.snaps.l[i]'hil).con tq)).froms (p++64 :: n) (p++64 :: tq)):=by have h:=HX0.out;rw [findN_con];simpa only [hxx] using h
   rw [← hzz] at hHX0
   have HXa:=Lib.hid hHX0
   clear hHX0 HX0
   obtain ⟨F2,hF2⟩:∃ F,F=findN x.snaps.l tq:=⟨_,rfl⟩
   have hSA:Hid (∀ W,Below W1.heap.size W1 W→Calls Tryz.prog 84 #[.agg #[.string ⟨x.path.toArray⟩,.string ⟨x.org.toArray⟩,.slice x.body.A x.body.n x.body.c,.slice x.snaps.A x.snaps.n x.snaps.c,.slice x.own.A x.own.n x.own.c],.string ⟨tq.toArray⟩] W fun e w'=>e=.returned (.int .i64 F2)∧Below W.heap.size W w'):=fun W h=>by
    have h0:=(hrw.out W h).1.eachS _ (List.getElem_mem hkl)
    simp only [← hxx] at h0
    rw [hF2]
    exact snapAt_any _ _ _ _ x.snaps.l x.snaps.n h0.snaps.1 x.snaps.A x.snaps.c tq W B h0.snaps.2.2 (hrw.out W h).2.1 (by have:=hzx.snaps;omega)
   rw [← hF2] at HXa
   have HZI:=Lib.hid hzx.snaps
   have HGK:=Lib.hid hgk
   have HXN:=Lib.hid hx.snaps.1
   have HIL:=Lib.hid hil
   have HZC:Hid (x.con.snaps[i]?=some zz.con):=hgi
   subst hsa
   clear hF2 hxx hzz hx hzx hxi hzi hrk hin hgi hgk hnm fb0 fb1 fb2 fb3 fb4 hza
   have hc:=hSA.out w2 HW2.out
   have kk:=hKt.out w2 HW2.out
   obtain ⟨c0,c1,c2,c3,c4,c5,c6⟩:=(⟨kk.cell 0,kk.cell 1,kk.cell 2,kk.cell 3,kk.cell 4,kk.cell 5,kk.cell 6⟩:_∧_∧_∧_∧_∧_∧_)
   simp only [zF,zD,zE] at c0 c1 c2 c3 c4 c5 c6
   clear kk
   clear hSA
   go_wp2_with fail
   refine hc.mono ?_
   clear hc c0 c1 c2 c3 c4 c5 c6 fa0 fa1 fa2 fa3 fa4
   rintro e w3 ⟨rfl,hb⟩
   have HW3:=Lib.hid (HW2.out.trans (hb.mono HW2.out.size))
   clear hb
   by_cases hf:0≤F2
   ·have HX:=Lib.hid (HXa.out.trans (if_pos hf))
    clear HXa HGK HZC HXN
    have KZ:=Lib.hid (hKz.out w3 HW3.out)
    have HB:=Lib.hid (hBW.out w3 HW3.out)
    clear HIL
    obtain ⟨WR,hW4,hth,HL,HBW,hgw⟩:=res7 (g:=(w.heap.size+1)) [.string ⟨#[]⟩,.int .i64 0,.int .i64 0,.slice none 0 0,.slice none 0 0,.slice none 0 0,.slice none 0 0] KZ.out HB.out (by omega)
    clear hgw
    go_wp2_with (refine wpList_store_mid rfl 27 (.tmp 8) (.tmp 38) rfl ((w.heap.size+1)) 0 #[.string ⟨#[]⟩,.int .i64 0,.int .i64 0,.slice none 0 0,.slice none 0 0,.slice none 0 0,.slice none 0 0] rfl rfl hth.out (by kernel_rfl) (by simp [Value.oneCell']) ?_;rw [← hW4];clear hW4)
    exact bodyPost_ret (v:=.tuple #[.agg #[.string ⟨#[]⟩,.int .i64 0,.int .i64 0,.slice none 0 0,.slice none 0 0,.slice none 0 0,.slice none 0 0],.int .i64 6]) (results_cell_tmp rfl rfl HL.out) rfl (tenPost_err HX.out (by decide) HBW.out)
   ·have HX:=Lib.hid (HXa.out.trans (if_neg hf))
    clear HXa
    have hc:=hCP.out w3 HW3.out
    have kk:=hKt.out w3 HW3.out
    obtain ⟨c0,c1,c2,c3,c4,c5,c6⟩:=(⟨kk.cell 0,kk.cell 1,kk.cell 2,kk.cell 3,kk.cell 4,kk.cell 5,kk.cell 6⟩:_∧_∧_∧_∧_∧_∧_)
    simp only [zF,zD,zE] at c0 c1 c2 c3 c4 c5 c6
    clear kk
    clear hCP
    go_wp2_with fail
    refine hc.mono ?_
    clear hc c0 c1 c2 c3 c4 c5 c6
    rintro e w6 ⟨y,rfl,ho6,he6,hpw,hb6⟩
    have HW6:=Lib.hid (HW3.out.trans (hb6.mono HW3.out.size))
    have HCON:=Lib.hid ((TenR.eqv_iff _ _).1 he6)
    have hlen:y.sets.n=sn:=by
     have h1:=he6.lenS
     have h2:=ho6.sets.1
     have:=hSN.out
     simp only at h1
     omega
    obtain ⟨mm,mq,mx,⟨m1,m2,m3,ml⟩,⟨n1,n2,n3,nl⟩,⟨p1,p2,p3,pl⟩,⟨q1,q2,q3,ql⟩⟩:=y
    replace hlen:m2=sn:=hlen
    replace hpw:ml.Pairwise ApartS:=hpw
    have hms:m2=ml.length:=ho6.sets.1
    have hkm:k<m2:=by have:=hSN.out;omega
    have hkml:k<ml.length:=by omega
    obtain ⟨gS,csS,hA,hbg,hblk⟩:=ho6.sets.blk (by show 0<m2;omega)
    replace hA:m1=some ⟨gS,0,none⟩:=hA
    subst hA
    have hgS6:=hblk.lt
    simp only [TenR.val,TenR.cells,FS.val,strV]
    clear hf
    have hszc:=hSZ.out w3 HW3.out
    have hszn:=hSZ.out w6 HW6.out
    have hb67:=(Below.refl w6.heap.size w6).alloc (Nat.le_refl _) (.cells #[.string ⟨mm.toArray⟩,.int .i64 mq,.int .i64 mx,.slice (some ⟨gS,0,none⟩) m2 m3,.slice n1 n2 n3,.slice p1 p2 p3,.slice q1 q2 q3] 27)
    have ho7:=ho6.below hb67
    have k7:=Blk.new w6 27 #[.string ⟨mm.toArray⟩,.int .i64 mq,.int .i64 mx,.slice (some ⟨gS,0,none⟩) m2 m3,.slice n1 n2 n3,.slice p1 p2 p3,.slice q1 q2 q3]
    have kz7:=(hKz.out w6 HW6.out).alloc (.cells #[.string ⟨mm.toArray⟩,.int .i64 mq,.int .i64 mx,.slice (some ⟨gS,0,none⟩) m2 m3,.slice n1 n2 n3,.slice p1 p2 p3,.slice q1 q2 q3] 27)
    have hbw7:=(hBW.out w6 HW6.out).alloc (by omega) (.cells #[.string ⟨mm.toArray⟩,.int .i64 mq,.int .i64 mx,.slice (some ⟨gS,0,none⟩) m2 m3,.slice n1 n2 n3,.slice p1 p2 p3,.slice q1 q2 q3] 27)
    have hw17:=HW6.out.alloc HW6.out.size (.cells #[.string ⟨mm.toArray⟩,.int .i64 mq,.int .i64 mx,.slice (some ⟨gS,0,none⟩) m2 m3,.slice n1 n2 n3,.slice p1 p2 p3,.slice q1 q2 q3] 27)
    have hsz7:(w6.alloc (.cells #[.string ⟨mm.toArray⟩,.int .i64 mq,.int .i64 mx,.slice (some ⟨gS,0,none⟩) m2 m3,.slice n1 n2 n3,.slice p1 p2 p3,.slice q1 q2 q3] 27)).heap.size=w6.heap.size+1:=by simp
    obtain ⟨g5,hg5⟩:∃ g,g=w6.heap.size:=⟨_,rfl⟩
    obtain ⟨w7,hW7⟩:∃ W,W=w6.alloc (.cells #[.string ⟨mm.toArray⟩,.int .i64 mq,.int .i64 mx,.slice (some ⟨gS,0,none⟩) m2 m3,.slice n1 n2 n3,.slice p1 p2 p3,.slice q1 q2 q3] 27):=⟨_,rfl⟩
    rw [← hW7] at ho7 k7 kz7 hbw7 hw17 hsz7
    rw [← hg5] at k7 hsz7
    have HW7:=Lib.hid hw17
    have K7:=Lib.hid k7
    have KZ7:=Lib.hid kz7
    have HB7:=Lib.hid hbw7
    have HO7:=Lib.hid ho7
    have HPW:=Lib.hid hpw
    have HKM:=Lib.hid hkml
    have HG5:=Lib.hid (show gS<g5∧w3.heap.size≤gS∧g5<w7.heap.size∧w3.heap.size≤w7.heap.size∧w.heap.size+2≤w3.heap.size by omega)
    have hyc:Hid (TenR.con ⟨mm,mq,mx,⟨some ⟨gS,0,none⟩,m2,m3,ml⟩,⟨n1,n2,n3,nl⟩,⟨p1,p2,p3,pl⟩,⟨q1,q2,q3,ql⟩⟩=C):=by show _=_;rw [hHC.out];exact HCON.out.symm
    have hkm2:(k:Int)<(m2:Int):=by omega
    obtain ⟨xk,hxk⟩:∃ x,x=ml[k]'hkml:=⟨_,rfl⟩
    have HXK:=Lib.hid hxk
    have hxcon:xk.con=x.con:=by
     have h:=congrArg (fun c:TenC=>c.sets[k]?) hyc.out
     simp only [TenR.con,List.getElem?_map,List.getElem?_eq_getElem hkml,Option.map_some] at h
     rw [← hxk] at h
     exact Option.some.inj (h.trans HGK.out)
    have HXC:=Lib.hid hxcon
    have hsx7:=ho7.eachS _ (List.getElem_mem hkml)
    simp only [← hxk] at hsx7
    have HSX:=Lib.hid hsx7
    obtain ⟨hbg7,hltS,hfzS,-,-,-,hcS,-⟩:=row_cells ho7.sets hkml rfl
    simp only [← hxk] at hcS
    have hzcon:xk.con.snaps[i]?=some zz.con:=by rw [hxcon];exact HZC.out
    have hxs:xk.snaps.l.length=x.snaps.l.length:=by have h:=congrArg (fun c:SetC=>c.snaps.length) hxcon;simpa [SetR.con] using h
    have hxil:i<xk.snaps.l.length:=by omega
    have hxn:i<xk.snaps.n:=by have:=hsx7.snaps.1;omega
    obtain ⟨gZ,csZ,hAZ,hbZ,hkZ⟩:=hsx7.snaps.blk (by omega)
    obtain ⟨zk,hzk⟩:∃ z,z=xk.snaps.l[i]'hxil:=⟨_,rfl⟩
    have hzkc:zk.con=zz.con:=by
     have h:xk.con.snaps[i]?=some zk.con:=by
      show (xk.snaps.l.map SnapR.con)[i]?=_
      rw [List.getElem?_map,List.getElem?_eq_getElem hxil,hzk]
      rfl
     rw [hzcon] at h
     exact (Option.some.inj h).symm
    rw [hAZ] at hcS
    obtain ⟨az,hza,-,fz0,-,-,-,-⟩:=snap_at hsx7.snaps.rd.2.2 hsx7.snaps.1 hxn
    rw [hAZ] at hza
    injection hza with hza
    subst hza
    rw [addr_add0] at fz0
    obtain ⟨zv0,hzv0⟩:∃ v,v=Value.string ⟨(xk.snaps.l[i]'(by have:=hsx7.snaps.1;omega)).nm.toArray⟩:=⟨_,rfl⟩
    rw [← hzv0] at fz0
    clear hzv0
    have hfzZ:=hkZ.frozen (i*5)
    have hxin:(i:Int)<(xk.snaps.n:Int):=by omega
    obtain ⟨hown8,hg8⟩:=hsx7.snaps.field (fun _=>rfl) hAZ i 0 (by decide) (⟨tq,zk.gd,zk.body,zk.tags,zk.own⟩:SnapR) (.string ⟨tq.toArray⟩) (fun z hz=>by rw [List.getElem?_eq_getElem hxil,← hzk] at hz;cases hz;rfl)
    have hgZ:w7.grownBy (w7.setCell ⟨gZ,i*5+0,none⟩ (.string ⟨tq.toArray⟩)) (ml[k]'hkml).snaps.val.ownBlock:=by simp only [← hxk];rw [show xk.snaps.val.ownBlock=some gZ from by show (Value.slice xk.snaps.A _ _).ownBlock=_;rw [hAZ];rfl];exact hg8
    have hAs:=ho7.aside hpw k hkml hgZ
    have hTO:=hAs.place ⟨xk.snaps.A,xk.snaps.n,xk.snaps.c,xk.snaps.l.set i ⟨tq,zk.gd,zk.body,zk.tags,zk.own⟩⟩ hown8 (fun z hz=>by
     have ho:=hAs.olds
     simp only [← hxk] at ho
     rcases List.mem_or_eq_of_mem_set hz with hz | rfl
     ·exact ho z hz
     ·have h:=ho zk (by rw [hzk];exact List.getElem_mem _)
      exact ⟨h.body,h.tags,h.own⟩) (by simp only [← hxk];rfl)
    simp only [← hxk] at hTO
    have hTC:TenR.con (TenR.putS ⟨mm,mq,mx,⟨some ⟨gS,0,none⟩,m2,m3,ml⟩,⟨n1,n2,n3,nl⟩,⟨p1,p2,p3,pl⟩,⟨q1,q2,q3,ql⟩⟩ k (xk.withSn ⟨xk.snaps.A,xk.snaps.n,xk.snaps.c,xk.snaps.l.set i ⟨tq,zk.gd,zk.body,zk.tags,zk.own⟩⟩))=C.putS k (x.con.named i zz.con tq):=by
     rw [TenR.con_putS,hyc.out,named_con xk zk i tq,hxcon,hzkc]
    have k8:=k7.far (p:=⟨gZ,i*5+0,none⟩) (by have:=hkZ.lt;intro e;exact own_ne hsx7.snaps k7 (by decide) (by rw [show xk.snaps.val.ownBlock=some gZ from by show (Value.slice xk.snaps.A _ _).ownBlock=_;rw [hAZ];rfl];exact congrArg some e)) (.string ⟨tq.toArray⟩)
    have hw18:=hw17.setCell (p:=⟨gZ,i*5+0,none⟩) (by have:=HW3.out.size;simp only;omega) (.string ⟨tq.toArray⟩)
    obtain ⟨ss,hss⟩:∃ l:List SetR,l=ml.set k (xk.withSn ⟨xk.snaps.A,xk.snaps.n,xk.snaps.c,xk.snaps.l.set i ⟨tq,zk.gd,zk.body,zk.tags,zk.own⟩⟩):=⟨_,rfl⟩
    have hTO:TenO (w7.setCell ⟨gZ,i*5+0,none⟩ (.string ⟨tq.toArray⟩)) w3.heap.size ⟨mm,mq,mx,⟨some ⟨gS,0,none⟩,m2,m3,ss⟩,⟨n1,n2,n3,nl⟩,⟨p1,p2,p3,pl⟩,⟨q1,q2,q3,ql⟩⟩:=by rw [hss];exact hTO
    have hTC:TenR.con ⟨mm,mq,mx,⟨some ⟨gS,0,none⟩,m2,m3,ss⟩,⟨n1,n2,n3,nl⟩,⟨p1,p2,p3,pl⟩,⟨q1,q2,q3,ql⟩⟩=C.putS k (x.con.named i zz.con tq):=by rw [hss];exact hTC
    have hsl:m2=ss.length:=by rw [hss,List.length_set];exact hms
    obtain ⟨w8,hW8⟩:∃ W,W=w7.setCell ⟨gZ,i*5,none⟩ (.string ⟨tq.toArray⟩):=⟨_,rfl⟩
    have hW8':w8=w7.setCell ⟨gZ,i*5+0,none⟩ (.string ⟨tq.toArray⟩):=hW8
    rw [← hW8'] at hTO k8 hw18
    have HTO:=Lib.hid hTO
    have HTC:=Lib.hid hTC
    have HSL:=Lib.hid hsl
    have K8:=Lib.hid k8
    have HW8:=Lib.hid hw18
    have HM:=Lib.hid (show m2≤1000000000000 by have:=HZ.out.sets;simp only at this;omega)
    have HX2:Hid (V=(0,(TenR.con ⟨mm,mq,mx,⟨some ⟨gS,0,none⟩,m2,m3,ss⟩,⟨n1,n2,n3,nl⟩,⟨p1,p2,p3,pl⟩,⟨q1,q2,q3,ql⟩⟩).froms (p++64 :: n) (p++64 :: tq))):=by show _=_;rw [HTC.out];exact HX.out
    have HSS:=Lib.hid (show W1.heap.size≤w3.heap.size from HW3.out.size)
    have d3:=k7.cell 3
    simp only [zF,zD,zE] at d3
    have d8:=k8.cell 3
    simp only [zF,zD,zE] at d8
    clear ho6 he6 hb6 hlen hms hbg hblk hgS6 hszc hszn hb67 ho7 k7 kz7 hbw7 hw17 hsz7 hxk hxcon hsx7 hxs hxil hxn hAZ hbZ hkZ hzk hzkc hzcon hown8 hg8 hgZ hAs hTO hTC hsl hW8' k8 hw18 hss hpw HCON hkm hfzS hltS hbg7 HZC HGK HXN HIL HX hii hil hi0 hks
    go_wp2_with (first | (refine wpList_store_new w6 rfl 27 (.tmp 13) (.tmp 40) rfl 27 [.string ⟨#[]⟩,.int .i64 0,.int .i64 0,.slice none 0 0,.slice none 0 0,.slice none 0 0,.slice none 0 0] [.string ⟨mm.toArray⟩,.int .i64 mq,.int .i64 mx,.slice (some ⟨gS,0,none⟩) m2 m3,.slice n1 n2 n3,.slice p1 p2 p3,.slice q1 q2 q3] rfl rfl rfl (by kernel_rfl) (by simp [Value.oneCell']) ?_;rw [show ([.string ⟨mm.toArray⟩,.int .i64 mq,.int .i64 mx,.slice (some ⟨gS,0,none⟩) m2 m3,.slice n1 n2 n3,.slice p1 p2 p3,.slice q1 q2 q3]:List Value).toArray=#[.string ⟨mm.toArray⟩,.int .i64 mq,.int .i64 mx,.slice (some ⟨gS,0,none⟩) m2 m3,.slice n1 n2 n3,.slice p1 p2 p3,.slice q1 q2 q3] from rfl,← hW7,← hg5];clear hW7 hg5) | (fail))
    rw [← hW8]
    clear hW8
    have HD8:=Lib.hid d8
    clear d3 d8 fz0 hfzZ hxin hcS
    go_loopw [54] (fun a wr=>∃ j:Nat,j≤m2∧a=.int .i64 (j:Int)∧Hid (TenO wr w3.heap.size (TenR.froms ⟨mm,mq,mx,⟨some ⟨gS,0,none⟩,m2,m3,ss⟩,⟨n1,n2,n3,nl⟩,⟨p1,p2,p3,pl⟩,⟨q1,q2,q3,ql⟩⟩ (p++64 :: n) (p++64 :: tq) j))∧Hid (Below W1.heap.size W1 wr)∧Hid (Blk wr g5 27 #[.string ⟨mm.toArray⟩,.int .i64 mq,.int .i64 mx,.slice (some ⟨gS,0,none⟩) m2 m3,.slice n1 n2 n3,.slice p1 p2 p3,.slice q1 q2 q3])) (fun a _=>m2-(intOf a).toNat)
    case atStart=>exact ⟨0,Nat.zero_le _,rfl,HTO.out,HW8.out,K8.out⟩
    case round =>
     clear HTO HW8 K8
     obtain ⟨j,hj,rfl,HT,HWR,HK⟩:=hrel
     have hmm:=HM.out
     have d3:=HK.out.cell 3
     simp only [zF,zD,zE] at d3
     by_cases hlt:j<m2
     ·have hji:(j:Int)<(m2:Int):=by omega
      have hj0:(0:Int)≤(j:Int):=by omega
      have hjl:j<ss.length:=by have:=HSL.out;omega
      have HAT:=fromsR_at (p++64 :: n) (p++64 :: tq) ss j hjl
      obtain ⟨hl2,e2⟩:=List.getElem?_eq_some_iff.1 HAT
      have hl3:j<(TenR.froms ⟨mm,mq,mx,⟨some ⟨gS,0,none⟩,m2,m3,ss⟩,⟨n1,n2,n3,nl⟩,⟨p1,p2,p3,pl⟩,⟨q1,q2,q3,ql⟩⟩ (p++64 :: n) (p++64 :: tq) j).sets.l.length:=hl2
      obtain ⟨hbS,hltS,hfzS,-,f1,-,-,-⟩:=row_cells HT.out.sets hl3 rfl
      obtain ⟨xj,hxj⟩:∃ x,x=ss[j]'hjl:=⟨_,rfl⟩
      have e2:(TenR.froms ⟨mm,mq,mx,⟨some ⟨gS,0,none⟩,m2,m3,ss⟩,⟨n1,n2,n3,nl⟩,⟨p1,p2,p3,pl⟩,⟨q1,q2,q3,ql⟩⟩ (p++64 :: n) (p++64 :: tq) j).sets.l[j]'hl3=xj:=by rw [hxj];exact e2
      rw [e2] at f1
      have HSJ:=HT.out.eachS _ (List.getElem_mem hl3)
      rw [e2] at HSJ
      have HSJ:=Lib.hid HSJ
      obtain ⟨og,hog⟩:∃ o,o=xj.org:=⟨_,rfl⟩
      rw [← hog] at f1
      have hfS:=hfzS (j*5+1)
      have HXJ:=Lib.hid hxj
      have HOG:=Lib.hid hog
      have HL3:=Lib.hid hl3
      have HAT':Hid ((TenR.froms ⟨mm,mq,mx,⟨some ⟨gS,0,none⟩,m2,m3,ss⟩,⟨n1,n2,n3,nl⟩,⟨p1,p2,p3,pl⟩,⟨q1,q2,q3,ql⟩⟩ (p++64 :: n) (p++64 :: tq) j).sets.l[j]?=some xj):=by show _=_;rw [hxj];exact HAT
      have HE2:=Lib.hid e2
      have HBS:=Lib.hid (show w3.heap.size≤gS∧gS<wr.heap.size from ⟨hbS,hltS⟩)
      clear hxj hog hbS hltS hfzS
      by_cases ho:og=(p++64 :: n)
      ·subst ho
       have hS:Hid (∀ W,Below wr.heap.size wr W→W.cell? ⟨g5,3,none⟩=some (.slice (some ⟨gS,0,none⟩) m2 m3)∧W.cell? ⟨gS,j*5+1,none⟩=some (.string ⟨(p++64 :: n).toArray⟩)∧W.frozen? ⟨gS,j*5+1,none⟩=false):=fun W h=>⟨(HK.out.below h HK.out.lt).cell 3,(h.cell (p:=⟨gS,j*5+1,none⟩) HBS.out.2).trans f1,(World.frozen?_of_block (a:=⟨gS,j*5+1,none⟩) (h.block gS HBS.out.2)).trans hfS⟩
       go_wp2_with fail
       go_quiet (exact (hJN.out _).quiet_of_same)
       go_upto_region 12 with (fail)
       have hqb:Below wr.heap.size wr (wr.drewN nq):=below_drewN (Below.refl _ _) _
       refine wp_region_store 8 [] (by kernel_rfl) (by kernel_rfl) [(fun v _=>v=.pointer (some ⟨g5,3,none⟩)),
         (fun v _=>v=.slice (some ⟨gS,0,none⟩) m2 m3),
         (fun v _=>v=.int .i64 (j:Int)),
         (fun v _=>v=.string ⟨p.toArray⟩),
         (fun v _=>v=.string ⟨tq.toArray⟩),
         (fun v _=>v=.string ⟨(p++64 :: tq).toArray⟩),
         (fun v _=>v=.pointer (some ⟨gS,j*5,none⟩)),
         (fun v _=>v=.pointer (some ⟨gS,j*5+1,none⟩)),
         (fun _ _=>True)] ?_ (early1 (by kernel_rfl)) ?_ ?_ (fun W W'=>W'=W.setCell ⟨gS,j*5+1,none⟩ (.string ⟨(p++64 :: tq).toArray⟩)) ?_ (by decide) (fun _ _=>trivial) ?_
       ·repeat' (first | exact stays_nil | refine stays_cons ?_ ?_ | exact Stays.pure | exact Stays.pure)
       ·intro i oo ho hiS hil mf W hb0 hmi hcl hdeps AA KK hA hK
        rcases i with _ | _ | _ | _ | _ | _ | _ | _ | _ | i
        ·injection ho with ho;subst ho
         have ef13:AA.tmps[13]?.getD undef=.pointer (some ⟨g5,0,none⟩):=tF hA
         exact zP
        ·injection ho with ho;subst ho
         have e0:=eD hdeps hA 0 67
         obtain ⟨r1,r2,r3⟩:=hS.out W (hqb.trans (show Below wr.heap.size (wr.drewN nq) W from hb0))
         exact zP
        ·injection ho with ho;subst ho
         have ef14:AA.tmps[14]?.getD undef=.int .i64 (j:Int):=tF hA
         exact zP
        ·injection ho with ho;subst ho
         have ef1:AA.tmps[1]?.getD undef=.string ⟨p.toArray⟩:=tF hA
         exact zP
        ·injection ho with ho;subst ho
         have ef3:AA.tmps[3]?.getD undef=.string ⟨tq.toArray⟩:=tF hA
         exact zP
        ·injection ho with ho;subst ho
         have e3:=eD hdeps hA 3 70
         have e4:=eD hdeps hA 4 71
         clear hA hdeps hcl hmi hiS hil
         have hKK:=hK
         clear hK
         go_simp
         refine (hJT.out W).mono ?_
         rintro e w5 ⟨rfl,hw5⟩
         rw [hw5]
         exact hKK _ _ (Below.refl _ _) (Eq.refl _)
        ·injection ho with ho;subst ho
         have e1:=eD hdeps hA 1 68
         have e2:=eD hdeps hA 2 69
         exact zP
        ·injection ho with ho;subst ho
         have e6:=eD hdeps hA 6 73
         exact zP
        ·exact absurd rfl hiS
        ·simp at ho
       ·intro i oo ho hil mf W W9 hmi hdeps AA KK hA hK
        rcases i with _ | _ | _ | _ | _ | _ | _ | _ | _ | i
        ·exact absurd hil (by decide)
        ·exact absurd hil (by decide)
        ·exact absurd hil (by decide)
        ·exact absurd hil (by decide)
        ·exact absurd hil (by decide)
        ·exact absurd hil (by decide)
        ·exact absurd hil (by decide)
        ·exact absurd hil (by decide)
        ·exact absurd hil (by decide)
        ·exact absurd hil (by simp)
       ·intro oo ho mf W hb0 hmi hdeps AA KK hA hK
        injection ho with ho;subst ho
        have e5:=eD hdeps hA 5 72
        have e7:=eD hdeps hA 7 74
        clear hA hdeps hmi
        obtain ⟨r1,r2,r3⟩:=hS.out W (hqb.trans (show Below wr.heap.size (wr.drewN nq) W from hb0))
        have hK0:KK (AA.put none undef) _:=hK (W.setCell ⟨gS,j*5+1,none⟩ (.string ⟨(p++64 :: tq).toArray⟩)) rfl
        clear hK
        go_simp
        exact hK0
       ·intro mf W9 W hb9 hR hall hSm
        have zm0:=dV (hall 0 (by simp) (by decide))
        have zm1:=dV (hall 1 (by simp) (by decide))
        have zm2:=dV (hall 2 (by simp) (by decide))
        have zm3:=dV (hall 3 (by simp) (by decide))
        have zm4:=dV (hall 4 (by simp) (by decide))
        have zm5:=dV (hall 5 (by simp) (by decide))
        have zm6:=dV (hall 6 (by simp) (by decide))
        have zm7:=dV (hall 7 (by simp) (by decide))
        rw [frameM_all (by kernel_rfl) [.pointer (some ⟨g5,3,none⟩),.slice (some ⟨gS,0,none⟩) m2 m3,.int .i64 (j:Int),.string ⟨p.toArray⟩,.string ⟨tq.toArray⟩,.string ⟨(p++64 :: tq).toArray⟩,.pointer (some ⟨gS,j*5,none⟩),.pointer (some ⟨gS,j*5+1,none⟩),undef] rfl (fun i hi=>by rcases i with _ | _ | _ | _ | _ | _ | _ | _ | _ | i <;> first | assumption | (simp at hi;omega))]
        clear hall hSm zm0 zm1 zm2 zm3 zm4 zm5 zm6 zm7
        simp only [putAll,Act.put,zA,zC,zB]
        have hR:W=W9.setCell ⟨gS,j*5+1,none⟩ (.string ⟨(p++64 :: tq).toArray⟩):=hR
        subst hR
        have hb9:=hqb.trans (show Below wr.heap.size (wr.drewN nq) W9 from hb9)
        have hown:TenO (W9.setCell ⟨gS,j*5+1,none⟩ (.string ⟨(p++64 :: tq).toArray⟩)) w3.heap.size (TenR.froms ⟨mm,mq,mx,⟨some ⟨gS,0,none⟩,m2,m3,ss⟩,⟨n1,n2,n3,nl⟩,⟨p1,p2,p3,pl⟩,⟨q1,q2,q3,ql⟩⟩ (p++64 :: n) (p++64 :: tq) (j+1)):=by
         obtain ⟨g,hg1,_,hg3,_⟩:=TenO.setF (HT.out.below hb9) j 1 HL3.out (by decide) (xj.from_ (p++64 :: n) (p++64 :: tq)) (.string ⟨(p++64 :: tq).toArray⟩) (fun z hz=>by
          rw [HAT'.out] at hz
          injection hz with hz
          subst hz
          unfold SetR.from_
          rw [if_pos HOG.out.symm]
          rfl) (HSJ.out.from_ (p++64 :: n) (p++64 :: tq) |>.below hb9)
         have hg1:some (⟨gS,0,none⟩:Addr)=some ⟨g,0,none⟩:=hg1
         injection hg1 with hg1
         injection hg1 with hg1
         subst hg1
         have e:(TenR.froms ⟨mm,mq,mx,⟨some ⟨gS,0,none⟩,m2,m3,ss⟩,⟨n1,n2,n3,nl⟩,⟨p1,p2,p3,pl⟩,⟨q1,q2,q3,ql⟩⟩ (p++64 :: n) (p++64 :: tq) j).putS j (xj.from_ (p++64 :: n) (p++64 :: tq))=TenR.froms ⟨mm,mq,mx,⟨some ⟨gS,0,none⟩,m2,m3,ss⟩,⟨n1,n2,n3,nl⟩,⟨p1,p2,p3,pl⟩,⟨q1,q2,q3,ql⟩⟩ (p++64 :: n) (p++64 :: tq) (j+1):=by
          unfold TenR.putS TenR.froms
          simp only
          rw [HXJ.out,fromsR_set]
         rw [← e]
         exact hg3
        have hwr:Below W1.heap.size W1 (W9.setCell ⟨gS,j*5+1,none⟩ (.string ⟨(p++64 :: tq).toArray⟩)):=by
         exact (HWR.out.trans (hb9.mono HWR.out.size)).setCell (p:=⟨gS,j*5+1,none⟩) (by have:=HBS.out;have:=HSS.out;simp only;omega) _
        have hkr:Blk (W9.setCell ⟨gS,j*5+1,none⟩ (.string ⟨(p++64 :: tq).toArray⟩)) g5 27 #[.string ⟨mm.toArray⟩,.int .i64 mq,.int .i64 mx,.slice (some ⟨gS,0,none⟩) m2 m3,.slice n1 n2 n3,.slice p1 p2 p3,.slice q1 q2 q3]:=by
         exact (HK.out.below hb9 HK.out.lt).far (p:=⟨gS,j*5+1,none⟩) (by have:=HG5.out;simp only;omega) _
        have HO1:=Lib.hid hown
        have HO2:=Lib.hid hwr
        have HO3:=Lib.hid hkr
        clear hown hwr hkr hS
        go_wp2_with fail
        go_roundw
        case rel=>exact ⟨j+1,by omega,by go_num,HO1.out,HO2.out,HO3.out⟩
        case measure=>simp [intOf];omega
      ·have ho1:(og == (p++64 :: n))=false:=by simpa using ho
       have ho2:(og.toArray == (p++64 :: n).toArray)=false:=by simpa using ho
       go_wp2_with fail
       go_quiet (exact (hJN.out _).quiet_of_same)
       go_wp2_with fail
       go_roundw
       case rel =>
        refine ⟨j+1,by omega,by go_num,?_,Lib.hid (below_drewN HWR.out _),?_⟩
        ·have h:=fromsR_same (p++64 :: n) (p++64 :: tq) ss j hjl (by rw [← HXJ.out,← HOG.out];exact ho)
         show TenO _ _ (TenR.froms ⟨mm,mq,mx,⟨some ⟨gS,0,none⟩,m2,m3,ss⟩,⟨n1,n2,n3,nl⟩,⟨p1,p2,p3,pl⟩,⟨q1,q2,q3,ql⟩⟩ (p++64 :: n) (p++64 :: tq) (j+1))
         unfold TenR.froms
         simp only
         rw [← h]
         exact HT.out.below (below_drewN (Below.refl _ _) _)
        ·exact HK.out.below (below_drewN (Below.refl _ _) _) HK.out.lt
       case measure=>simp [intOf];omega
     ·obtain rfl:m2=j:=by omega
      have HYC:Hid (TenR.con (TenR.froms ⟨mm,mq,mx,⟨some ⟨gS,0,none⟩,m2,m3,ss⟩,⟨n1,n2,n3,nl⟩,⟨p1,p2,p3,pl⟩,⟨q1,q2,q3,ql⟩⟩ (p++64 :: n) (p++64 :: tq) m2)=(TenR.con ⟨mm,mq,mx,⟨some ⟨gS,0,none⟩,m2,m3,ss⟩,⟨n1,n2,n3,nl⟩,⟨p1,p2,p3,pl⟩,⟨q1,q2,q3,ql⟩⟩).froms (p++64 :: n) (p++64 :: tq)):=by
       show _=_
       have h:=froms_con ⟨mm,mq,mx,⟨some ⟨gS,0,none⟩,m2,m3,ss⟩,⟨n1,n2,n3,nl⟩,⟨p1,p2,p3,pl⟩,⟨q1,q2,q3,ql⟩⟩ (p++64 :: n) (p++64 :: tq)
       rw [show (TenR.sets ⟨mm,mq,mx,⟨some ⟨gS,0,none⟩,m2,m3,ss⟩,⟨n1,n2,n3,nl⟩,⟨p1,p2,p3,pl⟩,⟨q1,q2,q3,ql⟩⟩).l.length=m2 from HSL.out.symm] at h
       exact h
      obtain ⟨d0,d1,d2,d3,d4,d5,d6⟩:=(⟨HK.out.cell 0,HK.out.cell 1,HK.out.cell 2,HK.out.cell 3,HK.out.cell 4,HK.out.cell 5,HK.out.cell 6⟩:_∧_∧_∧_∧_∧_∧_)
      simp only [zF,zD,zE] at d0 d1 d2 d3 d4 d5 d6
      have KZ:=Lib.hid (hKz.out wr HWR.out)
      have HB:=Lib.hid (hBW.out wr HWR.out)
      obtain ⟨WR,hW4,hth,HL,HBW,hgw⟩:=res7 (g:=(w.heap.size+1)) [.string ⟨mm.toArray⟩,.int .i64 mq,.int .i64 mx,.slice (some ⟨gS,0,none⟩) m2 m3,.slice n1 n2 n3,.slice p1 p2 p3,.slice q1 q2 q3] KZ.out HB.out (by omega)
      have HOO:=Lib.hid ((TenO.keptT HT.out hgw KZ.out offT_ten).mono (base':=w.heap.size) (by have:=HG5.out;omega))
      clear hgw
      go_wp2_with (refine wpList_store_mid rfl 27 (.tmp 8) (.tmp 76) rfl ((w.heap.size+1)) 0 #[.string ⟨mm.toArray⟩,.int .i64 mq,.int .i64 mx,.slice (some ⟨gS,0,none⟩) m2 m3,.slice n1 n2 n3,.slice p1 p2 p3,.slice q1 q2 q3] rfl rfl hth.out (by kernel_rfl) (by simp [Value.oneCell']) ?_;rw [← hW4];clear hW4)
      exact bodyPost_ret (v:=.tuple #[.agg #[.string ⟨mm.toArray⟩,.int .i64 mq,.int .i64 mx,.slice (some ⟨gS,0,none⟩) m2 m3,.slice n1 n2 n3,.slice p1 p2 p3,.slice q1 q2 q3],.int .i64 0]) (results_cell_tmp rfl rfl HL.out) rfl (tenPost_ok HX2.out HBW.out (TenR.froms ⟨mm,mq,mx,⟨some ⟨gS,0,none⟩,m2,m3,ss⟩,⟨n1,n2,n3,nl⟩,⟨p1,p2,p3,pl⟩,⟨q1,q2,q3,ql⟩⟩ (p++64 :: n) (p++64 :: tq) m2) HOO.out HYC.out)
end Go.Proofs.YtcgclpcocdappaaGreatDoor
