/-
  HoldsTells: any tenant with a tag more, without one, whether a snapshot is held, and all that are, are as the page says: the law's walk.
-/
import Derived.Test.YtiojfffgiejibaaGreatDoorTtM1
import Derived.WalkKit
import Derived.WalkSpells
import Derived.Below
import Derived.Laws.OwnMore
import Derived.Deep.AppendLies
import Derived.Deep.Draws
import Derived.Laws.Rows
import Derived.Maps.AppendAt
import Derived.RegionTactic
import Derived.OwnWalk
import Derived.Deep.QuietTactic
import Derived.BigQuiet
import Derived.Lib.Hide
import Derived.Laws.CopyOwn
import Derived.IntWalk
import Derived.Test.YtiojfffgiejibaaGreatDoorRows
import Derived.Handy
import Derived.Lib.AppendZeros
import Derived.ProofKit
import Derived.Deep.Quiet
import Derived.OpenShut
import Derived.ShutString
import Derived.ChangeOld
import Derived.Carry
import Derived.SizedLaws
import Derived.JoinedCond
import Derived.Deep.CondSized
import Derived.Deep.Slices
import Derived.Deep.Fields
import Derived.Lib.SmallJoins
import Derived.Deep.RegionLaw
import Derived.Orders
import Derived.Lib.SplitLaws
import Derived.Lib.LastIndexByte
import Derived.Lib.Strings
import Derived.Sort.Walk0
import Derived.Sort.KeysCollected
import Derived.Shelf.SlIter.Nil
import Derived.Shelf.SortM.Plain
import Derived.Shelf.SortM.SortNone
import Derived.Maps.OwnSet
import Derived.Maps.StringElems
import Derived.Deep.MidRow
import Derived.Shelf.Strings.Search1
import Derived.Shelf.Strings.Search2
import Derived.Shelf.Strings.Search3
import Derived.Shelf.Strings.Cut
import Derived.Shelf.Strings.Count
import Derived.Shelf.LaysM
import Derived.Shelf.Strings.Shaped
import Derived.Shelf.Strings.LastIndex
import Derived.Shelf.Strings.Split
import Derived.Shelf.Strings.SplitShaped
import Derived.Shelf.Unicode.Decode
import Derived.Shelf.Strings.RuneCount
import Derived.Shelf.Strings.Explode
import Derived.Shelf.Unicode.DecodeSlow
import Derived.Shelf.Slices.Turned
import Derived.Test.YtiojfffgiejibaaGreatDoorProg
import Derived.Lib.Overlaps
import Derived.Lib.AppendZerosOnto
import Derived.Laws.BytesString
import Derived.Laws.IdiomStrings
import Derived.Lib.ConvBytes
import Derived.Deep.DeepCutAuto
import Derived.Great.BuildSlice
import Derived.Test.YtiojfffgiejibaaGreatDoorT0
import Derived.Test.YtiojfffgiejibaaGreatDoorTt1
import Derived.Test.YtiojfffgiejibaaGreatDoorTt5
import Derived.Test.YtiojfffgiejibaaGreatDoorTt7
import Derived.Test.YtiojfffgiejibaaGreatDoorTt8
import Derived.Test.YtiojfffgiejibaaGreatDoorTt10
import Derived.Test.YtiojfffgiejibaaGreatDoorTt11
import Derived.Test.YtiojfffgiejibaaGreatDoorTt12
import Derived.Test.YtiojfffgiejibaaGreatDoorTt16
import Derived.Test.YtiojfffgiejibaaGreatDoorTt17
import Derived.Test.YtiojfffgiejibaaGreatDoorTt19
import Derived.Test.YtiojfffgiejibaaGreatDoorTt20
import Derived.Test.YtiojfffgiejibaaGreatDoorTt21
import Derived.Test.YtiojfffgiejibaaGreatDoorTt24
import Derived.Test.YtiojfffgiejibaaGreatDoorTt27
import Derived.Test.YtiojfffgiejibaaGreatDoorTt30
import Derived.Test.YtiojfffgiejibaaGreatDoorTt32
import Derived.Test.YtiojfffgiejibaaGreatDoorTt34
import Derived.Test.YtiojfffgiejibaaGreatDoorTt37
import Derived.Test.YtiojfffgiejibaaGreatDoorTt39
import Derived.Test.YtiojfffgiejibaaGreatDoorTt40
import Derived.Test.YtiojfffgiejibaaGreatDoorTt41
import Derived.Test.YtiojfffgiejibaaGreatDoorTt42
import Derived.Test.YtiojfffgiejibaaGreatDoorTt43
import Derived.Test.YtiojfffgiejibaaGreatDoorTt44
import Derived.Test.YtiojfffgiejibaaGreatDoorTt45
namespace Go.Proofs.YtiojfffgiejibaaGreatDoor
open Go.RowKit
theorem Tryz.htlStr_info:(Tryz.prog.info? 9).map (fun i=>(i.zero,i.size,i.bytes))=some (some (.string ByteArray.empty),1,16):=tZ2
set_option maxRecDepth 100000 in
set_option maxHeartbeats 16000000 in
theorem holdsTells_any (t:TenR) (p n tg:BS) (w:World) (hr:t.rd w w.heap.size) (hz:t.sz) (hst:t.stages.n≤500000000000) (htb0:∀ s∈t.sets.l,∀ x∈s.snaps.l,x.tags.n≤100000000000) (htot0:(allH t.sets.l).length≤2000000000000) (hp:p.length≤3000000000) (hn:n.length≤3000000000) (htg:tg.length≤4000000000) (hmx:HasMax w) :
  Calls Tryz.prog 6 #[t.val,.string ⟨p.toArray⟩,.string ⟨n.toArray⟩,.string ⟨tg.toArray⟩] w fun e w'=>e=.returned (.bool true)∧Below w.heap.size w w':=by
 have hcz:=TenC.sz_of hr hz
 have htb:∀ s∈t.con.sets,∀ x∈s.snaps,x.tags.length≤100000000000:=by
  intro s hs x hx
  obtain ⟨s',hs',rfl⟩:=List.mem_map.1 hs
  obtain ⟨x',hx',rfl⟩:=List.mem_map.1 hx
  show x'.tags.l.length≤_
  rw [← ((hr.eachS s' hs').each x' hx').tags.1]
  exact htb0 s' hs' x' hx'
 obtain ⟨i0,hi0,hz0,hz1,hz2⟩:=info_parts Tryz.htlStr_info
 obtain ⟨nm,qu,nx,⟨s1,sn,s3,sl⟩,⟨gA,gN,gC,gL⟩,⟨t1,tn,t3,tl⟩,⟨l1,ln,l3,ll⟩⟩:=t
 show Calls Tryz.prog 6 #[.agg #[.string ⟨nm.toArray⟩,.int .i64 qu,.int .i64 nx,.slice s1 sn s3,.slice gA gN gC,.slice t1 tn t3,.slice l1 ln l3],.string ⟨p.toArray⟩,.string ⟨n.toArray⟩,.string ⟨tg.toArray⟩] w _
 have hb:=((Below.refl w.heap.size w).alloc (Nat.le_refl _) (.cells #[.string ⟨nm.toArray⟩,.int .i64 qu,.int .i64 nx,.slice s1 sn s3,.slice gA gN gC,.slice t1 tn t3,.slice l1 ln l3] 27))
 have kt:=Blk.new w 27 #[.string ⟨nm.toArray⟩,.int .i64 qu,.int .i64 nx,.slice s1 sn s3,.slice gA gN gC,.slice t1 tn t3,.slice l1 ln l3]
 have hsz:(w.alloc (.cells #[.string ⟨nm.toArray⟩,.int .i64 qu,.int .i64 nx,.slice s1 sn s3,.slice gA gN gC,.slice t1 tn t3,.slice l1 ln l3] 27)).heap.size=w.heap.size+1:=tZ4
 obtain ⟨W1,hW1⟩:∃ W,W=(w.alloc (.cells #[.string ⟨nm.toArray⟩,.int .i64 qu,.int .i64 nx,.slice s1 sn s3,.slice gA gN gC,.slice t1 tn t3,.slice l1 ln l3] 27)):=⟨_,rfl⟩
 rw [← hW1] at hb hsz kt
 have hKt:Hid (∀ W,Below W1.heap.size W1 W→Blk W w.heap.size 27 #[.string ⟨nm.toArray⟩,.int .i64 qu,.int .i64 nx,.slice s1 sn s3,.slice gA gN gC,.slice t1 tn t3,.slice l1 ln l3]):=fun W h=>kt.below h tZ1
 have hBW:Hid (∀ W,Below W1.heap.size W1 W→Below w.heap.size w W):=fun W h=>hb.trans (h.mono tZ1)
 have hSZ:Hid (∀ W,Below W1.heap.size W1 W→w.heap.size+1≤W.heap.size):=fun W h=>by have:=h.size;omega
 have hW0:Hid (Below W1.heap.size W1 W1):=Below.refl _ _
 have hrw:Hid (∀ W,Below W1.heap.size W1 W→TenR.rd W w.heap.size ⟨nm,qu,nx,⟨s1,sn,s3,sl⟩,⟨gA,gN,gC,gL⟩,⟨t1,tn,t3,tl⟩,⟨l1,ln,l3,ll⟩⟩∧w.heap.size≤W.heap.size∧HasMax W):=fun W h =>
  ⟨TenR.rd.below hr (hBW.out W h),by have:=hSZ.out W h;omega,hmx.below (hBW.out W h)⟩
 obtain ⟨C,hC⟩:∃ C,C=TenR.con ⟨nm,qu,nx,⟨s1,sn,s3,sl⟩,⟨gA,gN,gC,gL⟩,⟨t1,tn,t3,tl⟩,⟨l1,ln,l3,ll⟩⟩:=⟨_,rfl⟩
 rw [← hC] at hcz htb
 have hAL:Hid (∀ W,Below W1.heap.size W1 W→Calls Tryz.prog 39 #[] W fun e w'=>e=.returned (.bool true)∧Below W.heap.size W w'):=fun W h=>alive18_any W (hrw.out W h).2.2
 have hNU:Hid (∀ n W,Calls Tryz.prog 35 #[.int .i64 n] W fun e w'=>e=.returned (.int .i64 n)∧Below W.heap.size W w'):=fun n W=>(num18_any n W).mono (by rintro e w' ⟨h1,rfl⟩;exact ⟨h1,Below.refl _ _⟩)
 obtain ⟨F,hF⟩:∃ F,F=findS sl p:=⟨_,rfl⟩
 obtain ⟨HH,hHH⟩:∃ b,b=heldB sl p n:=⟨_,rfl⟩
 have HF0:Hid (F<0→HH=false):=fun h=>by rw [hHH];exact heldB_none sl p n (by rw [← hF];exact h)
 have HFK:Hid (∀ (k:Nat) (hk:k<sl.length),F=(k:Int)→HH=match (sl[k]'hk).snaps.l.find? (fun x=>x.nm == n) with
  | none=>false
  | some x=>decide (0<x.tags.n)):=fun k hk h=>by rw [hHH];exact heldB_some sl p n k hk (by rw [← hF];exact h)
 have HFL:Hid (F<(sl.length:Int)):=by show _<_;rw [hF];exact findS_lt sl p
 have hFI:Hid (∀ W,Below W1.heap.size W1 W→Calls Tryz.prog 33 #[.agg #[.string ⟨nm.toArray⟩,.int .i64 qu,.int .i64 nx,.slice s1 sn s3,.slice gA gN gC,.slice t1 tn t3,.slice l1 ln l3],.string ⟨p.toArray⟩] W fun e w'=>e=.returned (.int .i64 F)∧Below W.heap.size W w'):=fun W h=>by
  rw [hF]
  exact refFind_any _ _ _ _ _ _ sl sn hr.sets.1 s1 s3 p W w.heap.size (hrw.out W h).1.sets.2.2 (hrw.out W h).2.1 tZ29
 have hHE:Hid (∀ W,Below W1.heap.size W1 W→Calls Tryz.prog 38 #[.agg #[.string ⟨nm.toArray⟩,.int .i64 qu,.int .i64 nx,.slice s1 sn s3,.slice gA gN gC,.slice t1 tn t3,.slice l1 ln l3],.string ⟨p.toArray⟩,.string ⟨n.toArray⟩] W fun e w'=>e=.returned (.bool HH)∧Below W.heap.size W w'):=fun W h=>by
  rw [hHH]
  exact held_any ⟨nm,qu,nx,⟨s1,sn,s3,sl⟩,⟨gA,gN,gC,gL⟩,⟨t1,tn,t3,tl⟩,⟨l1,ln,l3,ll⟩⟩ p n W w.heap.size (hrw.out W h).2.1 (hrw.out W h).1 hz
 have htot:(allH sl).length≤2000000000000:=htot0
 obtain ⟨mF,hmF⟩:∃ m,m=(allH sl).length:=⟨_,rfl⟩
 have HMF:=Lib.hid hmF
 have HTOT:=Lib.hid htot
 have hALLC:Hid (∀ W,Below W1.heap.size W1 W→Calls Tryz.prog 37 #[.agg #[.string ⟨nm.toArray⟩,.int .i64 qu,.int .i64 nx,.slice s1 sn s3,.slice gA gN gC,.slice t1 tn t3,.slice l1 ln l3]] W fun e w'=>∃ A c,e=.returned (.slice A mF c)∧w'.ownsRow W.heap.size 9 1 (.slice A mF c) mF (scells (allH sl))∧Below W.heap.size W w'):=fun W h=>by
  rw [hmF]
  exact all_any ⟨nm,qu,nx,⟨s1,sn,s3,sl⟩,⟨gA,gN,gC,gL⟩,⟨t1,tn,t3,tl⟩,⟨l1,ln,l3,ll⟩⟩ W w.heap.size (hrw.out W h).2.1 (hrw.out W h).1 hz (by show (allH sl).length≤_;omega)
 have HSN:=Lib.hid (show sn=sl.length from hr.sets.1)
 have HZ:=Lib.hid hz
 obtain ⟨⟨Ea,Ca⟩,hV1⟩:∃ V:Int×TenC,V=C.hold p n tg:=⟨_,rfl⟩
 have hZa:Hid ((tenOr (Ea,Ca)).sz):=by rw [hV1];exact tenOr_sz ((tag_sz hcz htb p n tg htg).1)
 obtain ⟨⟨Ec,Cc⟩,hV2⟩:∃ V:Int×TenC,V=C.release p n tg:=⟨_,rfl⟩
 have hZc:Hid ((tenOr (Ec,Cc)).sz):=by rw [hV2];exact tenOr_sz ((tag_sz hcz htb p n tg htg).2)
 have hCa:Hid (∀ W,Below W1.heap.size W1 W→Calls Tryz.prog 30 #[.agg #[.string ⟨nm.toArray⟩,.int .i64 qu,.int .i64 nx,.slice s1 sn s3,.slice gA gN gC,.slice t1 tn t3,.slice l1 ln l3],.string ⟨p.toArray⟩,.string ⟨n.toArray⟩,.string ⟨tg.toArray⟩] W (TenPost W (Ea,Ca))):=fun W h=>by
  rw [hV1,hC]
  exact hold_any ⟨nm,qu,nx,⟨s1,sn,s3,sl⟩,⟨gA,gN,gC,gL⟩,⟨t1,tn,t3,tl⟩,⟨l1,ln,l3,ll⟩⟩ p n tg W w.heap.size (hrw.out W h).2.1 (hrw.out W h).1 hz hp (hrw.out W h).2.2
 have hCb:Hid (∀ W,Below W1.heap.size W1 W→Calls Tryz.prog 31 #[.agg #[.string ⟨nm.toArray⟩,.int .i64 qu,.int .i64 nx,.slice s1 sn s3,.slice gA gN gC,.slice t1 tn t3,.slice l1 ln l3],.string ⟨p.toArray⟩,.string ⟨n.toArray⟩,.string ⟨tg.toArray⟩,.bool true] W (TenPost W (Ea,Ca))):=fun W h=>by
  rw [hV1,hC]
  exact rtag_any ⟨nm,qu,nx,⟨s1,sn,s3,sl⟩,⟨gA,gN,gC,gL⟩,⟨t1,tn,t3,tl⟩,⟨l1,ln,l3,ll⟩⟩ p n tg true W w.heap.size (hrw.out W h).2.1 (hrw.out W h).1 hz hst hp hn htg
 have hCc:Hid (∀ W,Below W1.heap.size W1 W→Calls Tryz.prog 32 #[.agg #[.string ⟨nm.toArray⟩,.int .i64 qu,.int .i64 nx,.slice s1 sn s3,.slice gA gN gC,.slice t1 tn t3,.slice l1 ln l3],.string ⟨p.toArray⟩,.string ⟨n.toArray⟩,.string ⟨tg.toArray⟩] W (TenPost W (Ec,Cc))):=fun W h=>by
  rw [hV2,hC]
  exact rel_any ⟨nm,qu,nx,⟨s1,sn,s3,sl⟩,⟨gA,gN,gC,gL⟩,⟨t1,tn,t3,tl⟩,⟨l1,ln,l3,ll⟩⟩ p n tg W w.heap.size (hrw.out W h).2.1 (hrw.out W h).1 hz hp (hrw.out W h).2.2
 have hCd:Hid (∀ W,Below W1.heap.size W1 W→Calls Tryz.prog 31 #[.agg #[.string ⟨nm.toArray⟩,.int .i64 qu,.int .i64 nx,.slice s1 sn s3,.slice gA gN gC,.slice t1 tn t3,.slice l1 ln l3],.string ⟨p.toArray⟩,.string ⟨n.toArray⟩,.string ⟨tg.toArray⟩,.bool false] W (TenPost W (Ec,Cc))):=fun W h=>by
  rw [hV2,hC]
  exact rtag_any ⟨nm,qu,nx,⟨s1,sn,s3,sl⟩,⟨gA,gN,gC,gL⟩,⟨t1,tn,t3,tl⟩,⟨l1,ln,l3,ll⟩⟩ p n tg false W w.heap.size (hrw.out W h).2.1 (hrw.out W h).1 hz hst hp hn htg
 clear hb hsz kt hr hz hp hn htg hmx hC hcz hst htb htb0 htot htot0 hmF hF hHH hV1 hV2
 go_enter Tryz.func6,Tryz.ntmps6
 have hc:=hCa.out W1 hW0.out
 have kk:=hKt.out _ hW0.out
 obtain ⟨c0,c1,c2,c3,c4,c5,c6⟩:=(⟨kk.cell 0,kk.cell 1,kk.cell 2,kk.cell 3,kk.cell 4,kk.cell 5,kk.cell 6⟩:_∧_∧_∧_∧_∧_∧_)
 simp only [zF,zD,zE] at c0 c1 c2 c3 c4 c5 c6
 clear kk
 go_wp2_with fail
 rw [← hW1]
 clear hW1
 refine hc.mono ?_
 clear hc c0 c1 c2 c3 c4 c5 c6
 rintro e w2 hone
 obtain ⟨y,rfl,hb,hrd,hcn⟩:=hone.all
 have H1_2:=Lib.hid (hW0.out.trans (hb.mono hW0.out.size))
 clear hb
 have HRD:=Lib.hid hrd
 have HCN:=Lib.hid hcn
 clear hrd hcn hone
 obtain ⟨av0,av1,av2,⟨av3,av4,av5,al0⟩,⟨av6,av7,av8,al1⟩,⟨av9,av10,av11,al2⟩,⟨av12,av13,av14,al3⟩⟩:=y
 simp only [TenR.val,TenR.cells,FS.val,strV]
 have hn1:=(H1_2.out).alloc H1_2.out.size (.cells #[.string ⟨av0.toArray⟩,.int .i64 av1,.int .i64 av2,.slice av3 av4 av5,.slice av6 av7 av8,.slice av9 av10 av11,.slice av12 av13 av14] 27)
 have kbn:=Blk.new w2 27 #[.string ⟨av0.toArray⟩,.int .i64 av1,.int .i64 av2,.slice av3 av4 av5,.slice av6 av7 av8,.slice av9 av10 av11,.slice av12 av13 av14]
 have hsn:(w2.alloc (.cells #[.string ⟨av0.toArray⟩,.int .i64 av1,.int .i64 av2,.slice av3 av4 av5,.slice av6 av7 av8,.slice av9 av10 av11,.slice av12 av13 av14] 27)).heap.size=w2.heap.size+1:=tZ4
 have hbo:=((Below.refl w2.heap.size w2).alloc (Nat.le_refl _) (.cells #[.string ⟨av0.toArray⟩,.int .i64 av1,.int .i64 av2,.slice av3 av4 av5,.slice av6 av7 av8,.slice av9 av10 av11,.slice av12 av13 av14] 27))
 obtain ⟨Ba,hBa⟩:∃ g,g=w2.heap.size:=⟨_,rfl⟩
 obtain ⟨w3,hWn⟩:∃ W,W=(w2.alloc (.cells #[.string ⟨av0.toArray⟩,.int .i64 av1,.int .i64 av2,.slice av3 av4 av5,.slice av6 av7 av8,.slice av9 av10 av11,.slice av12 av13 av14] 27)):=⟨_,rfl⟩
 rw [← hWn] at kbn hsn hbo hn1
 rw [← hBa] at kbn
 have hSa:Hid (∀ W,Below w3.heap.size w3 W→W.cell? ⟨Ba,0,none⟩=some (.string ⟨av0.toArray⟩)∧W.cell? ⟨Ba,1,none⟩=some (.int .i64 av1)∧W.cell? ⟨Ba,2,none⟩=some (.int .i64 av2)∧W.cell? ⟨Ba,3,none⟩=some (.slice av3 av4 av5)∧W.cell? ⟨Ba,4,none⟩=some (.slice av6 av7 av8)∧W.cell? ⟨Ba,5,none⟩=some (.slice av9 av10 av11)∧W.cell? ⟨Ba,6,none⟩=some (.slice av12 av13 av14)):=fun W h=>blk7 (kbn.below h tZ1)
 have H1_3:=Lib.hid hn1
 have H3_3:Hid (Below w3.heap.size w3 w3):=Below.refl _ _
 have hYa:Hid (SaysT (.agg #[.string ⟨av0.toArray⟩,.int .i64 av1,.int .i64 av2,.slice av3 av4 av5,.slice av6 av7 av8,.slice av9 av10 av11,.slice av12 av13 av14]) w3 (tenOr (Ea,Ca))):=⟨⟨av0,av1,av2,⟨av3,av4,av5,al0⟩,⟨av6,av7,av8,al1⟩,⟨av9,av10,av11,al2⟩,⟨av12,av13,av14,al3⟩⟩,rfl,HCN.out,fun W h=>(HRD.out.below (hbo.trans (h.mono tZ1))).more tZ1⟩
 clear HRD HCN
 clear kbn hsn hbo hn1
 have hc:=hCb.out w3 H1_3.out
 have kk:=hKt.out _ H1_3.out
 obtain ⟨c0,c1,c2,c3,c4,c5,c6⟩:=(⟨kk.cell 0,kk.cell 1,kk.cell 2,kk.cell 3,kk.cell 4,kk.cell 5,kk.cell 6⟩:_∧_∧_∧_∧_∧_∧_)
 simp only [zF,zD,zE] at c0 c1 c2 c3 c4 c5 c6
 clear kk
 go_wp2_with (refine wpList_store_new w2 rfl 27 (.tmp 9) (.tmp 29) rfl 27 [.string ⟨#[]⟩,.int .i64 0,.int .i64 0,.slice none 0 0,.slice none 0 0,.slice none 0 0,.slice none 0 0] [.string ⟨av0.toArray⟩,.int .i64 av1,.int .i64 av2,.slice av3 av4 av5,.slice av6 av7 av8,.slice av9 av10 av11,.slice av12 av13 av14] rfl rfl rfl tZ2 tZ5 ?_;rw [show ([.string ⟨av0.toArray⟩,.int .i64 av1,.int .i64 av2,.slice av3 av4 av5,.slice av6 av7 av8,.slice av9 av10 av11,.slice av12 av13 av14]:List Value).toArray=#[.string ⟨av0.toArray⟩,.int .i64 av1,.int .i64 av2,.slice av3 av4 av5,.slice av6 av7 av8,.slice av9 av10 av11,.slice av12 av13 av14] from rfl,← hWn,← hBa];clear hWn hBa)
 refine hc.mono ?_
 clear hc c0 c1 c2 c3 c4 c5 c6
 rintro e w4 hone
 obtain ⟨y,rfl,hb,hrd,hcn⟩:=hone.all
 have H1_4:=Lib.hid (H1_3.out.trans (hb.mono H1_3.out.size))
 have H3_4:=Lib.hid (H3_3.out.trans (hb.mono H3_3.out.size))
 clear hb
 have HRD:=Lib.hid hrd
 have HCN:=Lib.hid hcn
 clear hrd hcn hone
 obtain ⟨bv0,bv1,bv2,⟨bv3,bv4,bv5,bl0⟩,⟨bv6,bv7,bv8,bl1⟩,⟨bv9,bv10,bv11,bl2⟩,⟨bv12,bv13,bv14,bl3⟩⟩:=y
 simp only [TenR.val,TenR.cells,FS.val,strV]
 have hn1:=(H1_4.out).alloc H1_4.out.size (.cells #[.string ⟨bv0.toArray⟩,.int .i64 bv1,.int .i64 bv2,.slice bv3 bv4 bv5,.slice bv6 bv7 bv8,.slice bv9 bv10 bv11,.slice bv12 bv13 bv14] 27)
 have hn3:=(H3_4.out).alloc H3_4.out.size (.cells #[.string ⟨bv0.toArray⟩,.int .i64 bv1,.int .i64 bv2,.slice bv3 bv4 bv5,.slice bv6 bv7 bv8,.slice bv9 bv10 bv11,.slice bv12 bv13 bv14] 27)
 have kbn:=Blk.new w4 27 #[.string ⟨bv0.toArray⟩,.int .i64 bv1,.int .i64 bv2,.slice bv3 bv4 bv5,.slice bv6 bv7 bv8,.slice bv9 bv10 bv11,.slice bv12 bv13 bv14]
 have hsn:(w4.alloc (.cells #[.string ⟨bv0.toArray⟩,.int .i64 bv1,.int .i64 bv2,.slice bv3 bv4 bv5,.slice bv6 bv7 bv8,.slice bv9 bv10 bv11,.slice bv12 bv13 bv14] 27)).heap.size=w4.heap.size+1:=tZ4
 have hbo:=((Below.refl w4.heap.size w4).alloc (Nat.le_refl _) (.cells #[.string ⟨bv0.toArray⟩,.int .i64 bv1,.int .i64 bv2,.slice bv3 bv4 bv5,.slice bv6 bv7 bv8,.slice bv9 bv10 bv11,.slice bv12 bv13 bv14] 27))
 obtain ⟨Bb,hBb⟩:∃ g,g=w4.heap.size:=⟨_,rfl⟩
 obtain ⟨w5,hWn⟩:∃ W,W=(w4.alloc (.cells #[.string ⟨bv0.toArray⟩,.int .i64 bv1,.int .i64 bv2,.slice bv3 bv4 bv5,.slice bv6 bv7 bv8,.slice bv9 bv10 bv11,.slice bv12 bv13 bv14] 27)):=⟨_,rfl⟩
 rw [← hWn] at kbn hsn hbo hn1 hn3
 rw [← hBb] at kbn
 have hSb:Hid (∀ W,Below w5.heap.size w5 W→W.cell? ⟨Bb,0,none⟩=some (.string ⟨bv0.toArray⟩)∧W.cell? ⟨Bb,1,none⟩=some (.int .i64 bv1)∧W.cell? ⟨Bb,2,none⟩=some (.int .i64 bv2)∧W.cell? ⟨Bb,3,none⟩=some (.slice bv3 bv4 bv5)∧W.cell? ⟨Bb,4,none⟩=some (.slice bv6 bv7 bv8)∧W.cell? ⟨Bb,5,none⟩=some (.slice bv9 bv10 bv11)∧W.cell? ⟨Bb,6,none⟩=some (.slice bv12 bv13 bv14)):=fun W h=>blk7 (kbn.below h tZ1)
 have H1_5:=Lib.hid hn1
 have H3_5:=Lib.hid hn3
 have H5_5:Hid (Below w5.heap.size w5 w5):=Below.refl _ _
 have hYb:Hid (SaysT (.agg #[.string ⟨bv0.toArray⟩,.int .i64 bv1,.int .i64 bv2,.slice bv3 bv4 bv5,.slice bv6 bv7 bv8,.slice bv9 bv10 bv11,.slice bv12 bv13 bv14]) w5 (tenOr (Ea,Ca))):=⟨⟨bv0,bv1,bv2,⟨bv3,bv4,bv5,bl0⟩,⟨bv6,bv7,bv8,bl1⟩,⟨bv9,bv10,bv11,bl2⟩,⟨bv12,bv13,bv14,bl3⟩⟩,rfl,HCN.out,fun W h=>(HRD.out.below (hbo.trans (h.mono tZ1))).more tZ1⟩
 clear HRD HCN
 clear kbn hsn hbo hn1 hn3
 have hc:=hCc.out w5 H1_5.out
 have kk:=hKt.out _ H1_5.out
 obtain ⟨c0,c1,c2,c3,c4,c5,c6⟩:=(⟨kk.cell 0,kk.cell 1,kk.cell 2,kk.cell 3,kk.cell 4,kk.cell 5,kk.cell 6⟩:_∧_∧_∧_∧_∧_∧_)
 simp only [zF,zD,zE] at c0 c1 c2 c3 c4 c5 c6
 clear kk
 go_wp2_with (refine wpList_store_new w4 rfl 27 (.tmp 11) (.tmp 37) rfl 27 [.string ⟨#[]⟩,.int .i64 0,.int .i64 0,.slice none 0 0,.slice none 0 0,.slice none 0 0,.slice none 0 0] [.string ⟨bv0.toArray⟩,.int .i64 bv1,.int .i64 bv2,.slice bv3 bv4 bv5,.slice bv6 bv7 bv8,.slice bv9 bv10 bv11,.slice bv12 bv13 bv14] rfl rfl rfl tZ2 tZ5 ?_;rw [show ([.string ⟨bv0.toArray⟩,.int .i64 bv1,.int .i64 bv2,.slice bv3 bv4 bv5,.slice bv6 bv7 bv8,.slice bv9 bv10 bv11,.slice bv12 bv13 bv14]:List Value).toArray=#[.string ⟨bv0.toArray⟩,.int .i64 bv1,.int .i64 bv2,.slice bv3 bv4 bv5,.slice bv6 bv7 bv8,.slice bv9 bv10 bv11,.slice bv12 bv13 bv14] from rfl,← hWn,← hBb];clear hWn hBb)
 refine hc.mono ?_
 clear hc c0 c1 c2 c3 c4 c5 c6
 rintro e w6 hone
 obtain ⟨y,rfl,hb,hrd,hcn⟩:=hone.all
 have H1_6:=Lib.hid (H1_5.out.trans (hb.mono H1_5.out.size))
 have H3_6:=Lib.hid (H3_5.out.trans (hb.mono H3_5.out.size))
 have H5_6:=Lib.hid (H5_5.out.trans (hb.mono H5_5.out.size))
 clear hb
 have HRD:=Lib.hid hrd
 have HCN:=Lib.hid hcn
 clear hrd hcn hone
 obtain ⟨cv0,cv1,cv2,⟨cv3,cv4,cv5,cl0⟩,⟨cv6,cv7,cv8,cl1⟩,⟨cv9,cv10,cv11,cl2⟩,⟨cv12,cv13,cv14,cl3⟩⟩:=y
 simp only [TenR.val,TenR.cells,FS.val,strV]
 have hn1:=(H1_6.out).alloc H1_6.out.size (.cells #[.string ⟨cv0.toArray⟩,.int .i64 cv1,.int .i64 cv2,.slice cv3 cv4 cv5,.slice cv6 cv7 cv8,.slice cv9 cv10 cv11,.slice cv12 cv13 cv14] 27)
 have hn3:=(H3_6.out).alloc H3_6.out.size (.cells #[.string ⟨cv0.toArray⟩,.int .i64 cv1,.int .i64 cv2,.slice cv3 cv4 cv5,.slice cv6 cv7 cv8,.slice cv9 cv10 cv11,.slice cv12 cv13 cv14] 27)
 have hn5:=(H5_6.out).alloc H5_6.out.size (.cells #[.string ⟨cv0.toArray⟩,.int .i64 cv1,.int .i64 cv2,.slice cv3 cv4 cv5,.slice cv6 cv7 cv8,.slice cv9 cv10 cv11,.slice cv12 cv13 cv14] 27)
 have kbn:=Blk.new w6 27 #[.string ⟨cv0.toArray⟩,.int .i64 cv1,.int .i64 cv2,.slice cv3 cv4 cv5,.slice cv6 cv7 cv8,.slice cv9 cv10 cv11,.slice cv12 cv13 cv14]
 have hsn:(w6.alloc (.cells #[.string ⟨cv0.toArray⟩,.int .i64 cv1,.int .i64 cv2,.slice cv3 cv4 cv5,.slice cv6 cv7 cv8,.slice cv9 cv10 cv11,.slice cv12 cv13 cv14] 27)).heap.size=w6.heap.size+1:=tZ4
 have hbo:=((Below.refl w6.heap.size w6).alloc (Nat.le_refl _) (.cells #[.string ⟨cv0.toArray⟩,.int .i64 cv1,.int .i64 cv2,.slice cv3 cv4 cv5,.slice cv6 cv7 cv8,.slice cv9 cv10 cv11,.slice cv12 cv13 cv14] 27))
 obtain ⟨Bc,hBc⟩:∃ g,g=w6.heap.size:=⟨_,rfl⟩
 obtain ⟨w7,hWn⟩:∃ W,W=(w6.alloc (.cells #[.string ⟨cv0.toArray⟩,.int .i64 cv1,.int .i64 cv2,.slice cv3 cv4 cv5,.slice cv6 cv7 cv8,.slice cv9 cv10 cv11,.slice cv12 cv13 cv14] 27)):=⟨_,rfl⟩
 rw [← hWn] at kbn hsn hbo hn1 hn3 hn5
 rw [← hBc] at kbn
 have hSc:Hid (∀ W,Below w7.heap.size w7 W→W.cell? ⟨Bc,0,none⟩=some (.string ⟨cv0.toArray⟩)∧W.cell? ⟨Bc,1,none⟩=some (.int .i64 cv1)∧W.cell? ⟨Bc,2,none⟩=some (.int .i64 cv2)∧W.cell? ⟨Bc,3,none⟩=some (.slice cv3 cv4 cv5)∧W.cell? ⟨Bc,4,none⟩=some (.slice cv6 cv7 cv8)∧W.cell? ⟨Bc,5,none⟩=some (.slice cv9 cv10 cv11)∧W.cell? ⟨Bc,6,none⟩=some (.slice cv12 cv13 cv14)):=fun W h=>blk7 (kbn.below h tZ1)
 have H1_7:=Lib.hid hn1
 have H3_7:=Lib.hid hn3
 have H5_7:=Lib.hid hn5
 have H7_7:Hid (Below w7.heap.size w7 w7):=Below.refl _ _
 have hYc:Hid (SaysT (.agg #[.string ⟨cv0.toArray⟩,.int .i64 cv1,.int .i64 cv2,.slice cv3 cv4 cv5,.slice cv6 cv7 cv8,.slice cv9 cv10 cv11,.slice cv12 cv13 cv14]) w7 (tenOr (Ec,Cc))):=⟨⟨cv0,cv1,cv2,⟨cv3,cv4,cv5,cl0⟩,⟨cv6,cv7,cv8,cl1⟩,⟨cv9,cv10,cv11,cl2⟩,⟨cv12,cv13,cv14,cl3⟩⟩,rfl,HCN.out,fun W h=>(HRD.out.below (hbo.trans (h.mono tZ1))).more tZ1⟩
 clear HRD HCN
 clear kbn hsn hbo hn1 hn3 hn5
 have hc:=hCd.out w7 H1_7.out
 have kk:=hKt.out _ H1_7.out
 obtain ⟨c0,c1,c2,c3,c4,c5,c6⟩:=(⟨kk.cell 0,kk.cell 1,kk.cell 2,kk.cell 3,kk.cell 4,kk.cell 5,kk.cell 6⟩:_∧_∧_∧_∧_∧_∧_)
 simp only [zF,zD,zE] at c0 c1 c2 c3 c4 c5 c6
 clear kk
 go_wp2_with (refine wpList_store_new w6 rfl 27 (.tmp 13) (.tmp 45) rfl 27 [.string ⟨#[]⟩,.int .i64 0,.int .i64 0,.slice none 0 0,.slice none 0 0,.slice none 0 0,.slice none 0 0] [.string ⟨cv0.toArray⟩,.int .i64 cv1,.int .i64 cv2,.slice cv3 cv4 cv5,.slice cv6 cv7 cv8,.slice cv9 cv10 cv11,.slice cv12 cv13 cv14] rfl rfl rfl tZ2 tZ5 ?_;rw [show ([.string ⟨cv0.toArray⟩,.int .i64 cv1,.int .i64 cv2,.slice cv3 cv4 cv5,.slice cv6 cv7 cv8,.slice cv9 cv10 cv11,.slice cv12 cv13 cv14]:List Value).toArray=#[.string ⟨cv0.toArray⟩,.int .i64 cv1,.int .i64 cv2,.slice cv3 cv4 cv5,.slice cv6 cv7 cv8,.slice cv9 cv10 cv11,.slice cv12 cv13 cv14] from rfl,← hWn,← hBc];clear hWn hBc)
 refine hc.mono ?_
 clear hc c0 c1 c2 c3 c4 c5 c6
 rintro e w8 hone
 obtain ⟨y,rfl,hb,hrd,hcn⟩:=hone.all
 have H1_8:=Lib.hid (H1_7.out.trans (hb.mono H1_7.out.size))
 have H3_8:=Lib.hid (H3_7.out.trans (hb.mono H3_7.out.size))
 have H5_8:=Lib.hid (H5_7.out.trans (hb.mono H5_7.out.size))
 have H7_8:=Lib.hid (H7_7.out.trans (hb.mono H7_7.out.size))
 clear hb
 have HRD:=Lib.hid hrd
 have HCN:=Lib.hid hcn
 clear hrd hcn hone
 obtain ⟨dv0,dv1,dv2,⟨dv3,dv4,dv5,dl0⟩,⟨dv6,dv7,dv8,dl1⟩,⟨dv9,dv10,dv11,dl2⟩,⟨dv12,dv13,dv14,dl3⟩⟩:=y
 simp only [TenR.val,TenR.cells,FS.val,strV]
 have hn1:=(H1_8.out).alloc H1_8.out.size (.cells #[.string ⟨dv0.toArray⟩,.int .i64 dv1,.int .i64 dv2,.slice dv3 dv4 dv5,.slice dv6 dv7 dv8,.slice dv9 dv10 dv11,.slice dv12 dv13 dv14] 27)
 have hn3:=(H3_8.out).alloc H3_8.out.size (.cells #[.string ⟨dv0.toArray⟩,.int .i64 dv1,.int .i64 dv2,.slice dv3 dv4 dv5,.slice dv6 dv7 dv8,.slice dv9 dv10 dv11,.slice dv12 dv13 dv14] 27)
 have hn5:=(H5_8.out).alloc H5_8.out.size (.cells #[.string ⟨dv0.toArray⟩,.int .i64 dv1,.int .i64 dv2,.slice dv3 dv4 dv5,.slice dv6 dv7 dv8,.slice dv9 dv10 dv11,.slice dv12 dv13 dv14] 27)
 have hn7:=(H7_8.out).alloc H7_8.out.size (.cells #[.string ⟨dv0.toArray⟩,.int .i64 dv1,.int .i64 dv2,.slice dv3 dv4 dv5,.slice dv6 dv7 dv8,.slice dv9 dv10 dv11,.slice dv12 dv13 dv14] 27)
 have kbn:=Blk.new w8 27 #[.string ⟨dv0.toArray⟩,.int .i64 dv1,.int .i64 dv2,.slice dv3 dv4 dv5,.slice dv6 dv7 dv8,.slice dv9 dv10 dv11,.slice dv12 dv13 dv14]
 have hsn:(w8.alloc (.cells #[.string ⟨dv0.toArray⟩,.int .i64 dv1,.int .i64 dv2,.slice dv3 dv4 dv5,.slice dv6 dv7 dv8,.slice dv9 dv10 dv11,.slice dv12 dv13 dv14] 27)).heap.size=w8.heap.size+1:=tZ4
 have hbo:=((Below.refl w8.heap.size w8).alloc (Nat.le_refl _) (.cells #[.string ⟨dv0.toArray⟩,.int .i64 dv1,.int .i64 dv2,.slice dv3 dv4 dv5,.slice dv6 dv7 dv8,.slice dv9 dv10 dv11,.slice dv12 dv13 dv14] 27))
 obtain ⟨Bd,hBd⟩:∃ g,g=w8.heap.size:=⟨_,rfl⟩
 obtain ⟨w9,hWn⟩:∃ W,W=(w8.alloc (.cells #[.string ⟨dv0.toArray⟩,.int .i64 dv1,.int .i64 dv2,.slice dv3 dv4 dv5,.slice dv6 dv7 dv8,.slice dv9 dv10 dv11,.slice dv12 dv13 dv14] 27)):=⟨_,rfl⟩
 rw [← hWn] at kbn hsn hbo hn1 hn3 hn5 hn7
 rw [← hBd] at kbn
 have hSd:Hid (∀ W,Below w9.heap.size w9 W→W.cell? ⟨Bd,0,none⟩=some (.string ⟨dv0.toArray⟩)∧W.cell? ⟨Bd,1,none⟩=some (.int .i64 dv1)∧W.cell? ⟨Bd,2,none⟩=some (.int .i64 dv2)∧W.cell? ⟨Bd,3,none⟩=some (.slice dv3 dv4 dv5)∧W.cell? ⟨Bd,4,none⟩=some (.slice dv6 dv7 dv8)∧W.cell? ⟨Bd,5,none⟩=some (.slice dv9 dv10 dv11)∧W.cell? ⟨Bd,6,none⟩=some (.slice dv12 dv13 dv14)):=fun W h=>blk7 (kbn.below h tZ1)
 have H1_9:=Lib.hid hn1
 have H3_9:=Lib.hid hn3
 have H5_9:=Lib.hid hn5
 have H7_9:=Lib.hid hn7
 have H9_9:Hid (Below w9.heap.size w9 w9):=Below.refl _ _
 have hYd:Hid (SaysT (.agg #[.string ⟨dv0.toArray⟩,.int .i64 dv1,.int .i64 dv2,.slice dv3 dv4 dv5,.slice dv6 dv7 dv8,.slice dv9 dv10 dv11,.slice dv12 dv13 dv14]) w9 (tenOr (Ec,Cc))):=⟨⟨dv0,dv1,dv2,⟨dv3,dv4,dv5,dl0⟩,⟨dv6,dv7,dv8,dl1⟩,⟨dv9,dv10,dv11,dl2⟩,⟨dv12,dv13,dv14,dl3⟩⟩,rfl,HCN.out,fun W h=>(HRD.out.below (hbo.trans (h.mono tZ1))).more tZ1⟩
 clear HRD HCN
 clear kbn hsn hbo hn1 hn3 hn5 hn7
 have hXa:Hid (∀ W,Below w9.heap.size w9 W→Below w3.heap.size w3 W):=fun W h=>H3_9.out.trans (h.mono H3_9.out.size)
 have hXb:Hid (∀ W,Below w9.heap.size w9 W→Below w5.heap.size w5 W):=fun W h=>H5_9.out.trans (h.mono H5_9.out.size)
 have hXc:Hid (∀ W,Below w9.heap.size w9 W→Below w7.heap.size w7 W):=fun W h=>H7_9.out.trans (h.mono H7_9.out.size)
 have hXd:Hid (∀ W,Below w9.heap.size w9 W→Below w9.heap.size w9 W):=fun W h=>H9_9.out.trans (h.mono H9_9.out.size)
 have hEa:Hid (∀ W,Below w9.heap.size w9 W→Calls Tryz.prog 13 #[.agg #[.string ⟨av0.toArray⟩,.int .i64 av1,.int .i64 av2,.slice av3 av4 av5,.slice av6 av7 av8,.slice av9 av10 av11,.slice av12 av13 av14],.agg #[.string ⟨bv0.toArray⟩,.int .i64 bv1,.int .i64 bv2,.slice bv3 bv4 bv5,.slice bv6 bv7 bv8,.slice bv9 bv10 bv11,.slice bv12 bv13 bv14]] W fun e w'=>e=.returned (.bool true)∧Below W.heap.size W w'):=fun W h=>same_said hYa.out hYb.out hZa.out (hXa.out W h) (hXb.out W h)
 have hEc:Hid (∀ W,Below w9.heap.size w9 W→Calls Tryz.prog 13 #[.agg #[.string ⟨cv0.toArray⟩,.int .i64 cv1,.int .i64 cv2,.slice cv3 cv4 cv5,.slice cv6 cv7 cv8,.slice cv9 cv10 cv11,.slice cv12 cv13 cv14],.agg #[.string ⟨dv0.toArray⟩,.int .i64 dv1,.int .i64 dv2,.slice dv3 dv4 dv5,.slice dv6 dv7 dv8,.slice dv9 dv10 dv11,.slice dv12 dv13 dv14]] W fun e w'=>e=.returned (.bool true)∧Below W.heap.size W w'):=fun W h=>same_said hYc.out hYd.out hZc.out (hXc.out W h) (hXd.out W h)
 have hB1:Hid (∀ W,Below w9.heap.size w9 W→Below W1.heap.size W1 W):=fun W h=>H1_9.out.trans (h.mono H1_9.out.size)
 have hm2:mF≤2000000000000:=by have:=HMF.out;have:=HTOT.out;omega
 have hsn:sn≤1000000000000:=by have:=HZ.out.sets;simp only at this;omega
 have hcur:w.heap.size+1≤w9.heap.size:=by have:=hSZ.out w9 H1_9.out;omega
 have hT3:Hid (∀ W,Below w9.heap.size w9 W→W.cell? ⟨w.heap.size,3,none⟩=some (.slice s1 sn s3)):=fun W h=>(hKt.out W (hB1.out W h)).cell 3
 have hRD:Hid (∀ W,Below w9.heap.size w9 W→TenR.rd W w.heap.size ⟨nm,qu,nx,⟨s1,sn,s3,sl⟩,⟨gA,gN,gC,gL⟩,⟨t1,tn,t3,tl⟩,⟨l1,ln,l3,ll⟩⟩):=fun W h=>(hrw.out W (hB1.out W h)).1
 go_wp2_with (refine wpList_store_new w8 rfl 27 (.tmp 15) (.tmp 53) rfl 27 [.string ⟨#[]⟩,.int .i64 0,.int .i64 0,.slice none 0 0,.slice none 0 0,.slice none 0 0,.slice none 0 0] [.string ⟨dv0.toArray⟩,.int .i64 dv1,.int .i64 dv2,.slice dv3 dv4 dv5,.slice dv6 dv7 dv8,.slice dv9 dv10 dv11,.slice dv12 dv13 dv14] rfl rfl rfl tZ2 tZ5 ?_;rw [show ([.string ⟨dv0.toArray⟩,.int .i64 dv1,.int .i64 dv2,.slice dv3 dv4 dv5,.slice dv6 dv7 dv8,.slice dv9 dv10 dv11,.slice dv12 dv13 dv14]:List Value).toArray=#[.string ⟨dv0.toArray⟩,.int .i64 dv1,.int .i64 dv2,.slice dv3 dv4 dv5,.slice dv6 dv7 dv8,.slice dv9 dv10 dv11,.slice dv12 dv13 dv14] from rfl,← hWn,← hBd];clear hWn hBd)
 go_loopw [17,18,19] (fun o b j wr=>∃ (k m:Nat) (A:Option Addr) (c:Nat) (hv:Bool),k≤sn∧j=.int .i64 (k:Int)∧o=.slice A m c∧b=.bool hv∧Hid (m=(allH (sl.take k)).length)∧Hid (hv=if F<(k:Int) then HH else false)∧Hid (wr.ownsRow w9.heap.size 9 1 (.slice A m c) m (scells (allH (sl.take k))))∧Hid (Below w9.heap.size w9 wr)) (fun _ _ j _=>sn-(intOf j).toNat)
 case atStart =>
  refine ⟨0,0,none,0,false,Nat.zero_le _,rfl,rfl,rfl,rfl,?_,World.ownsRow_nil _ _ _ _,Below.refl _ _⟩
  show _=_
  by_cases h:F<((0:Nat):Int)
  ·rw [if_pos h,HF0.out tZ1]
  ·rw [if_neg h]
 case round =>
  obtain ⟨wo,hwo⟩:∃ W,W=wr:=⟨_,rfl⟩
  subst hwo
  obtain ⟨k,m,A,c,hv,hk,rfl,rfl,rfl,HM,HV,HO,HB⟩:=hrel
  have t3:=hT3.out wo HB.out
  by_cases hlt:k<sn
  ·have hki:(k:Int)<(sn:Int):=tZ1
   have hk0:(0:Int)≤(k:Int):=tZ1
   have hkl:k<sl.length:=tZ55
   obtain ⟨ad,hsa,-,p0,p1,p2,p3,p4⟩:=set_at (hRD.out wo HB.out).sets.2.2 HSN.out hlt
   simp only at hsa
   subst hsa
   have HS:=Lib.hid (allH_succ sl k hkl)
   have HLE:=Lib.hid (allH_le sl (k+1))
   have hzx:=HZ.out.eachS _ (List.getElem_mem hkl)
   have HX:Hid (∀ W,Below w9.heap.size w9 W→(sl[k]'hkl).rd W w.heap.size):=fun W h=>(hRD.out W h).eachS _ (List.getElem_mem hkl)
   have HFX:Hid (F=(k:Int)→HH=match (sl[k]'hkl).snaps.l.find? (fun x=>x.nm == n) with
    | none=>false
    | some x=>decide (0<x.tags.n)):=HFK.out k hkl
   obtain ⟨x,hx⟩:∃ x,x=sl[k]'hkl:=⟨_,rfl⟩
   simp only at p0 p1 p2 p3 p4
   rw [← hx] at p0 p1 p2 p3 p4 HS hzx HX HFX
   clear hx
   obtain ⟨pa,og,⟨bA,bn,bc,bl⟩,⟨zA,zn,zc,zl⟩,⟨oA,on,oc,ol⟩⟩:=x
   simp only at p0 p1 p2 p3 p4 HS HFX
   have hzn:zn≤1000000000000:=hzx.snaps
   have hpl:pa.length≤4000000000:=hzx.path
   have HZX:=Lib.hid hzx
   have HZN:Hid (zn=zl.length):=(HX.out wo HB.out).snaps.1
   have kx:=Blk.new wo 56 #[.string ⟨pa.toArray⟩,.string ⟨og.toArray⟩,.slice bA bn bc,.slice zA zn zc,.slice oA on oc]
   have hba:=HB.out.alloc HB.out.size (.cells #[.string ⟨pa.toArray⟩,.string ⟨og.toArray⟩,.slice bA bn bc,.slice zA zn zc,.slice oA on oc] 56)
   have HOA:=Lib.hid (own_below HO.out ((Below.refl wo.heap.size wo).alloc (Nat.le_refl _) (.cells #[.string ⟨pa.toArray⟩,.string ⟨og.toArray⟩,.slice bA bn bc,.slice zA zn zc,.slice oA on oc] 56)))
   obtain ⟨g2,hg2⟩:∃ g,g=wo.heap.size:=⟨_,rfl⟩
   obtain ⟨W2,hW2⟩:∃ W,W=(wo.alloc (.cells #[.string ⟨pa.toArray⟩,.string ⟨og.toArray⟩,.slice bA bn bc,.slice zA zn zc,.slice oA on oc] 56)):=⟨_,rfl⟩
   have HG2:Hid (w9.heap.size≤g2):=by show _≤_;have:=HB.out.size;omega
   rw [← hW2] at kx hba HOA
   rw [← hg2] at kx
   have KX:=Lib.hid kx
   have HBA:=Lib.hid hba
   clear kx hba hzx HO
   go_wp2_with fail
   rw [← hW2,← hg2]
   clear hW2 hg2 p0 p1 p2 p3 p4 t3
   go_loopw [17,21] (fun o j wr=>∃ (q m2:Nat) (A2:Option Addr) (c2:Nat),q≤zn∧j=.int .i64 (q:Int)∧o=.slice A2 m2 c2∧Hid (m2=(allH (sl.take k)++heldL pa (zl.take q)).length)∧Hid (wr.ownsRow w9.heap.size 9 1 (.slice A2 m2 c2) m2 (scells (allH (sl.take k)++heldL pa (zl.take q))))∧Hid (Blk wr g2 56 #[.string ⟨pa.toArray⟩,.string ⟨og.toArray⟩,.slice bA bn bc,.slice zA zn zc,.slice oA on oc])∧Hid (Below w9.heap.size w9 wr)) (fun _ j _=>zn-(intOf j).toNat)
   case atStart=>exact ⟨0,m,A,c,Nat.zero_le _,rfl,rfl,by show _=_;rw [HM.out];simp [heldL],by show World.ownsRow _ _ _ _ _ _ _;simpa [heldL] using HOA.out,KX,HBA⟩
   case round =>
    clear KX HBA HOA
    obtain ⟨q,m2,A2,c2,hq,rfl,rfl,HM2,HO2,KX,HB2⟩:=hrel
    have k3:=KX.out.cell 3
    simp only [zF,zD,zE] at k3
    by_cases hqn:q<zn
    ·have hqi:(q:Int)<(zn:Int):=tZ1
     have hq0:(0:Int)≤(q:Int):=tZ1
     have hql:q<zl.length:=tZ73
     obtain ⟨ad2,hsa,hadB,r0,r1,r2,r3,r4⟩:=snap_at (HX.out wr HB2.out).snaps.2.2 HZN.out hqn
     simp only at hsa
     subst hsa
     have HLS:=Lib.hid (heldL_succ pa zl q hql)
     have HLE2:=Lib.hid (heldL_le pa zl (q+1))
     have hzy:=HZX.out.each _ (List.getElem_mem hql)
     obtain ⟨y,hy⟩:∃ y,y=zl[q]'hql:=⟨_,rfl⟩
     simp only at r0 r1 r2 r3 r4
     rw [← hy] at r0 r1 r2 r3 r4 HLS hzy
     clear hy
     obtain ⟨ynm,ygd,⟨yb1,ybn,yb3,ybl⟩,⟨yt1,ytn,yt3,ytl⟩,⟨yo1,yon,yo3,yol⟩⟩:=y
     simp only at r0 r1 r2 r3 r4 HLS
     have hyl:ynm.length≤4000000000:=hzy.nm
     have hyt:ytn≤1000000000000:=hzy.tags
     clear hzy
     by_cases ht:0<ytn
     ·have hti:(0:Int)<(ytn:Int):=tZ1
      have hLS:=HLS.out
      rw [if_pos ht] at hLS
      have HLS1:=Lib.hid hLS
      have hml:m2+1≤2000000000000:=by
       exact mZ216
      have hS:Hid (∀ W,Below wr.heap.size wr W→W.cell? ⟨g2,0,none⟩=some (.string ⟨pa.toArray⟩)∧W.cell? ⟨g2,3,none⟩=some (.slice (some ad2) zn zc)∧W.cell? (ad2.add (q*5))=some (.string ⟨ynm.toArray⟩)):=fun W h=>⟨(KX.out.below h KX.out.lt).cell 0,(KX.out.below h KX.out.lt).cell 3,(h.cell (p:=ad2.add (q*5)) (by have:=HB2.out.size;have:=hadB;have e:(ad2.add (q*5)).block=ad2.block:=tZ159;omega)).trans r0⟩
      clear HLS hLS r0 r1 r2 r4 hyt hadB
      go_upto_region 15 with (fail)
      clear r3 k3 hti ht
      refine wp_region_two 12 13 [] tZ2 tZ2 tZ2 tZ3 tZ3 tZ3 [(fun v _=>v=.slice A2 m2 c2),
        (fun v _=>v=.pointer (some ⟨g2,0,none⟩)),
        (fun v _=>v=.string ⟨pa.toArray⟩),
        (fun v _=>v=.string ((⟨pa.toArray⟩:ByteArray)++(⟨#[64]⟩:ByteArray))),
        (fun v _=>v=.pointer (some ⟨g2,3,none⟩)),
        (fun v _=>v=.slice (some ad2) zn zc),
        (fun v _=>v=.int .i64 (q:Int)),
        (fun v _=>v=.pointer (some (ad2.add (q*5)))),
        (fun v _=>v=.pointer (some (ad2.add (q*5)))),
        (fun v _=>v=.string ⟨ynm.toArray⟩),
        (fun v _=>v=.string (((⟨pa.toArray⟩:ByteArray)++(⟨#[64]⟩:ByteArray))++(⟨ynm.toArray⟩:ByteArray))),
        (fun v W=>∃ vb,v=.slice (some ⟨vb,0,none⟩) 1 1∧Reads W W.heap.size 1 (some ⟨vb,0,none⟩) 1 [.string (((⟨pa.toArray⟩:ByteArray)++(⟨#[64]⟩:ByteArray))++(⟨ynm.toArray⟩:ByteArray))]),
        (fun _ _=>True),
        (fun _ _=>True)] ?_ (early2 tZ2) ?_ (fun W9 u W=>∃ A1 c1,u=.slice A1 (m2+1) c1∧W.ownsRow w9.heap.size 9 1 u (m2+1) (scells (allH (sl.take k)++heldL pa (zl.take q))++[.string (((⟨pa.toArray⟩:ByteArray)++(⟨#[64]⟩:ByteArray))++(⟨ynm.toArray⟩:ByteArray))])∧W9.grownBy W (Value.slice A2 m2 c2).ownBlock) ?_ ?_ ?_
      ·repeat' (first | exact stays_nil | refine stays_cons ?_ ?_ | exact Stays.pure | exact (fun v W W' h hb=>let ⟨b,h1,h2⟩:=h;⟨b,h1,(h2.below hb).more hb.size⟩))
      ·intro i oo ho hiS hiL hil mf W hb0 hmi hcl hdeps AA KK hA hK
       rcases i with _ | _ | _ | _ | _ | _ | _ | _ | _ | _ | _ | _ | _ | _ | i
       ·injection ho with ho;subst ho
        have q12:=none_up hcl (j:=12) rfl (e:=⟨0,.data⟩) tZ4 rfl hmi
        have q13:=none_up hcl (j:=13) rfl (e:=⟨12,.data⟩) tZ4 rfl q12
        have ef17:AA.tmps[17]?.getD undef=.slice A2 m2 c2:=by rw [hA];exact tmps_pre2 (i:=13) tZ2 q13
        clear q12 q13
        exact zP
       ·exact mZ217
       ·injection ho with ho;subst ho
        have e1:=eD hdeps hA 1 83
        obtain ⟨r1,r2,r3⟩:=hS.out W hb0
        exact zP
       ·injection ho with ho;subst ho
        have e2:=eD hdeps hA 2 84
        clear hA hdeps hcl hmi hiS hiL hil
        have hK0:KK (AA.put (some 85) _) _:=hK (.string ((⟨pa.toArray⟩:ByteArray)++(⟨#[64]⟩:ByteArray))) _ (Below.refl _ _) (Eq.refl _)
        clear hK
        go_simp
        rw [if_neg tZ1]
        go_simp
        exact hK0
       ·exact mZ217
       ·injection ho with ho;subst ho
        have e4:=eD hdeps hA 4 86
        obtain ⟨r1,r2,r3⟩:=hS.out W hb0
        exact zP
       ·injection ho with ho;subst ho
        have ef21:AA.tmps[21]?.getD undef=.int .i64 (q:Int):=tF hA
        exact zP
       ·injection ho with ho;subst ho
        have e5:=eD hdeps hA 5 87
        have e6:=eD hdeps hA 6 88
        exact zP
       ·injection ho with ho;subst ho
        have e7:=eD hdeps hA 7 89
        exact zP
       ·injection ho with ho;subst ho
        have e8:=eD hdeps hA 8 90
        obtain ⟨r1,r2,r3⟩:=hS.out W hb0
        exact zP
       ·injection ho with ho;subst ho
        have e3:=eD hdeps hA 3 85
        have e9:=eD hdeps hA 9 91
        clear hA hdeps hcl hmi hiS hiL hil
        have hK0:KK (AA.put (some 92) _) _:=hK (.string (((⟨pa.toArray⟩:ByteArray)++(⟨#[64]⟩:ByteArray))++(⟨ynm.toArray⟩:ByteArray))) _ (Below.refl _ _) (Eq.refl _)
        clear hK
        go_simp
        rw [if_neg tZ1]
        go_simp
        exact hK0
       ·injection ho with ho;subst ho
        have e10:=eD hdeps hA 10 92
        clear hA hdeps hcl hmi hiS hiL hil
        have hK0:KK (AA.put (some 93) _) _:=hK (.slice (some ⟨W.heap.size,0,none⟩) 1 1) (W.alloc (.cells #[.string (((⟨pa.toArray⟩:ByteArray)++(⟨#[64]⟩:ByteArray))++(⟨ynm.toArray⟩:ByteArray))] 9)) ((Below.refl _ _).alloc (Nat.le_refl _) _) ⟨_,rfl,(Reads.lit W #[.string (((⟨pa.toArray⟩:ByteArray)++(⟨#[64]⟩:ByteArray))++(⟨ynm.toArray⟩:ByteArray))] 9 (n:=1) (size:=1) rfl).more tZ4⟩
        exact mZ90
       ·exact absurd rfl hiS
       ·exact absurd rfl hiL
       ·simp at ho
      ·intro i oo ho hiS hiL hil mf W9 W hb9 hmi hcl hdeps hRW AA KK hA hK
       rcases i with _ | _ | _ | _ | _ | _ | _ | _ | _ | _ | _ | _ | _ | _ | i
       ·exact mZ166
       ·exact mZ166
       ·exact mZ166
       ·exact mZ166
       ·exact mZ166
       ·exact mZ166
       ·exact mZ166
       ·exact mZ166
       ·exact mZ166
       ·exact mZ166
       ·exact mZ166
       ·exact mZ166
       ·exact absurd rfl hiS
       ·exact absurd rfl hiL
       ·simp at ho
      ·intro oo ho mf W hb0 hmi hcl hdeps AA KK hA hK
       injection ho with ho;subst ho
       have e0:=eD hdeps hA 0 82
       obtain ⟨x11,hx11,hg11⟩:=hdeps ⟨11,.data⟩ tZ4 rfl
       have hg11:∃ vb,x11=.slice (some ⟨vb,0,none⟩) 1 1∧Reads W W.heap.size 1 (some ⟨vb,0,none⟩) 1 [.string (((⟨pa.toArray⟩:ByteArray)++(⟨#[64]⟩:ByteArray))++(⟨ynm.toArray⟩:ByteArray))]:=hg11
       obtain ⟨vb11,rfl,hk11⟩:=hg11
       have e11:AA.tmps[93]?.getD undef=.slice (some ⟨vb11,0,none⟩) 1 1:=tO hA hx11
       clear hA hdeps hmi hcl
       have hown:=own_below HO2.out hb0
       have hKK:=Lib.hid hK
       clear hK
       refine step_append_any W rfl (.tmp 82) (.tmp 93) 51 rfl w9.heap.size 9 i0 _ 1 16 Tryz.underlying51 hi0 hz0 hz1 hz2 rfl tZ3 (.slice A2 m2 c2) m2 _ ?_ hown W.heap.size (some ⟨vb11,0,none⟩) 1 1 _ ?_ hk11 tZ5 tZ12 tZ1 (by have:=hb0.size;have:=HB2.out.size;omega) ?_
       ·simpa [Act.eval] using e0
       ·simpa [Act.eval] using e11
       ·intro v' w' h1 h2 h3
        obtain ⟨v1,v3,rfl,_⟩:=own_form h1
        exact hKK.out _ _ ⟨v1,v3,rfl,h1,h2⟩
      ·intro oo ho mf W9 W uS hb9 hmi hall hSm hR AA KK hA hK
       injection ho with ho;subst ho
       have zm0:=dV (hall 0 tZ4 tZ3 tZ3)
       have zm1:=dV (hall 1 tZ4 tZ3 tZ3)
       have zm2:=dV (hall 2 tZ4 tZ3 tZ3)
       have zm3:=dV (hall 3 tZ4 tZ3 tZ3)
       have zm4:=dV (hall 4 tZ4 tZ3 tZ3)
       have zm5:=dV (hall 5 tZ4 tZ3 tZ3)
       have zm6:=dV (hall 6 tZ4 tZ3 tZ3)
       have zm7:=dV (hall 7 tZ4 tZ3 tZ3)
       have zm8:=dV (hall 8 tZ4 tZ3 tZ3)
       have zm9:=dV (hall 9 tZ4 tZ3 tZ3)
       have zm10:=dV (hall 10 tZ4 tZ3 tZ3)
       obtain ⟨x11,zm11,hg11⟩:=hall 11 tZ4 tZ3 tZ3
       have hg11:∃ vb,x11=.slice (some ⟨vb,0,none⟩) 1 1∧Reads W9 W9.heap.size 1 (some ⟨vb,0,none⟩) 1 [.string (((⟨pa.toArray⟩:ByteArray)++(⟨#[64]⟩:ByteArray))++(⟨ynm.toArray⟩:ByteArray))]:=hg11
       obtain ⟨vb11,rfl,hk11⟩:=hg11
       obtain ⟨v1,v3,rfl,hv,hg⟩:=hR
       have e12:AA.tmps[94]?.getD undef=.slice v1 (m2+1) v3:=tO hA hSm
       have ho9:=own_below HO2.out hb9
       have HO5:Hid (W.ownsRow w9.heap.size 9 1 (.slice v1 (m2+1) v3) (m2+1) (scells (allH (sl.take k)++heldL pa (zl.take q))++[.string ⟨(pa++64 :: ynm).toArray⟩])):=by
        show World.ownsRow _ _ _ _ _ _ _
        rw [← cat_at]
        exact hv
       have HB5:Hid (Below w9.heap.size w9 W):=(HB2.out.trans (hb9.mono HB2.out.size)).grown hg (by have:=HB2.out.size;have:=hb9.size;omega) (fun g hgg=>by have:=(ho9.lt _ hgg).1;omega)
       have HK5:Hid (Blk W g2 56 #[.string ⟨pa.toArray⟩,.string ⟨og.toArray⟩,.slice bA bn bc,.slice (some ad2) zn zc,.slice oA on oc]):=(KX.out.below hb9 KX.out.lt).grown hg (fun hh=>own_blk_ne ho9 (KX.out.below hb9 KX.out.lt) tZ3 hh.symm)
       clear ho9 hv hg hb9
       have hK0:=hK (.slice v1 (m2+1) v3) (W)
       clear hA hK hall hmi
       go_simp
       refine hK0 ?_
       clear hK0 e12
       rw [frameM_all tZ2 [.slice A2 m2 c2,.pointer (some ⟨g2,0,none⟩),.string ⟨pa.toArray⟩,.string ((⟨pa.toArray⟩:ByteArray)++(⟨#[64]⟩:ByteArray)),.pointer (some ⟨g2,3,none⟩),.slice (some ad2) zn zc,.int .i64 (q:Int),.pointer (some (ad2.add (q*5))),.pointer (some (ad2.add (q*5))),.string ⟨ynm.toArray⟩,.string (((⟨pa.toArray⟩:ByteArray)++(⟨#[64]⟩:ByteArray))++(⟨ynm.toArray⟩:ByteArray)),.slice (some ⟨vb11,0,none⟩) 1 1,.slice v1 (m2+1) v3,.slice v1 (m2+1) v3] rfl (fun i hi=>by rcases i with _ | _ | _ | _ | _ | _ | _ | _ | _ | _ | _ | _ | _ | _ | i <;> first | (rw [upd_self];rfl) | (rw [upd_ne _ _ tZ3];assumption) | (simp at hi;omega))]
       clear hSm zm0 zm1 zm2 zm3 zm4 zm5 zm6 zm7 zm8 zm9 zm10 zm11
       simp only [putAll,Act.put,List.setIfInBounds_toArray,zC,zB]
       go_wp2_with fail
       go_roundw
       case rel =>
        refine ⟨q+1,m2+1,v1,v3,by omega,by go_num,rfl,?_,?_,HK5,HB5⟩
        ·exact mZ215
        ·show World.ownsRow _ _ _ _ _ _ _
         have h:=HO5.out
         rw [HLS1.out,← List.append_assoc]
         simpa [scells,strV] using h
       case measure=>simp [intOf];omega
     ·have hti:¬ (0:Int)<(ytn:Int):=tZ1
      have hLS:=HLS.out
      rw [if_neg ht,List.append_nil] at hLS
      have HLS1:=Lib.hid hLS
      clear HLS hLS
      go_wp2_with fail
      go_roundw
      case rel=>exact ⟨q+1,m2,A2,c2,by omega,by go_num,rfl,by show _=_;rw [HLS1.out];exact HM2.out,by show World.ownsRow _ _ _ _ _ _ _;rw [HLS1.out];exact HO2.out,KX,HB2⟩
      case measure=>simp [intOf];omega
    ·obtain rfl:q=zn:=tZ1
     have HMk:Hid (m2=(allH (sl.take (k+1))).length):=by
      show _=_
      rw [HS.out,HM2.out,HZN.out,List.take_length]
     have HOk:Hid (wr.ownsRow w9.heap.size 9 1 (.slice A2 m2 c2) m2 (scells (allH (sl.take (k+1))))):=by
      exact mZ214
     have hc:=hFI.out wr (hB1.out wr HB2.out)
     obtain ⟨c0,c1,c2',c3,c4,c5,c6⟩:=blk7 (hKt.out wr (hB1.out wr HB2.out))
     clear HM2 HO2
     go_wp2_with fail
     refine hc.mono ?_
     clear hc c0 c1 c2' c3 c4 c5 c6 k3
     rintro e w5 ⟨rfl,hb⟩
     have HB5:=Lib.hid (HB2.out.trans (hb.mono HB2.out.size))
     have HO5:=Lib.hid (own_below HOk.out hb)
     have K5:=Lib.hid (KX.out.below hb KX.out.lt)
     clear hb KX HOk HB2
     by_cases hkF:(k:Int)=F
     ·have hkb:((k:Int) == F)=true:=by simpa using hkF
      have HHX:=Lib.hid (HFX.out hkF.symm)
      have hx5:=(HX.out w5 HB5.out).snaps
      have hc:=refSnap_any (.string ⟨pa.toArray⟩) (.string ⟨og.toArray⟩) (.slice bA bn bc) (.slice oA on oc) zl q HZN.out zA zc n w5 w.heap.size hx5.2.2 (by have:=HB5.out.size;omega) tZ1
      obtain ⟨c0,c1,c2',c3,c4⟩:=(⟨K5.out.cell 0,K5.out.cell 1,K5.out.cell 2,K5.out.cell 3,K5.out.cell 4⟩:_∧_∧_∧_∧_)
      simp only [zF,zD,zE] at c0 c1 c2' c3 c4
      obtain ⟨Z,hZ⟩:∃ z,z=findN zl n:=⟨_,rfl⟩
      rw [← hZ] at hc
      have HVn:Hid (HH=if F<((k+1:Nat):Int) then HH else false):=by show _=_;rw [if_pos tZ1]
      clear hx5 hkF
      go_wp2_with fail
      refine hc.mono ?_
      clear hc c0 c1 c2' c3 c4 hkb
      rintro e w6 ⟨rfl,hb⟩
      have HB6:=Lib.hid (HB5.out.trans (hb.mono HB5.out.size))
      have HO6:=Lib.hid (own_below HO5.out hb)
      have K6:=Lib.hid (K5.out.below hb K5.out.lt)
      clear hb K5 HO5 HB5
      rcases firstI_cases (fun x:SnapR=>x.nm == n) zl with ⟨h1,h2⟩ | ⟨i,hil,h1,h2⟩
      ·have h1:Z=-1:=hZ.trans h1
       subst h1
       have HHF:Hid (HH=false):=by show _=_;rw [HHX.out,h2]
       clear hZ h2 HHX
       go_wp2_with fail
       go_roundw
       case rel=>exact ⟨k+1,m2,A2,c2,false,by omega,by go_num,rfl,rfl,HMk,by show _=_;exact HHF.out.symm.trans HVn.out,HO6,HB6⟩
       case measure=>simp [intOf];omega
      ·have h1:Z=(i:Int):=hZ.trans h1
       subst h1
       have HHF:Hid (HH=decide (0<(zl[i]'hil).tags.n)):=by show _=_;rw [HHX.out,h2]
       have hin:i<q:=tZ73
       have hii:(i:Int)<(q:Int):=tZ1
       have hi0':(0:Int)≤(i:Int):=tZ1
       obtain ⟨ad2,hsa,-,r0,r1,r2,r3,r4⟩:=snap_at (HX.out w6 HB6.out).snaps.2.2 HZN.out hin
       simp only at hsa
       subst hsa
       simp only at r3
       obtain ⟨y,hy⟩:∃ y,y=zl[i]'hil:=⟨_,rfl⟩
       rw [← hy] at r3 HHF
       have hyt:y.tags.n≤1000000000000:=by rw [hy];exact (HZX.out.each _ (List.getElem_mem hil)).tags
       have k3:=K6.out.cell 3
       simp only [zF,zD,zE] at k3
       clear hZ h2 HHX hy r0 r1 r2 r4
       by_cases ht:0<y.tags.n
       ·have hti:(0:Int)<(y.tags.n:Int):=tZ1
        have HHT:Hid (HH=true):=tZ134
        have HTD:=Lib.hid (decide_eq_true ht)
        clear HHF ht
        go_wp2_with fail
        go_roundw
        case rel=>exact ⟨k+1,m2,A2,c2,true,by omega,by go_num,rfl,congrArg Value.bool HTD.out,HMk,by show _=_;exact HHT.out.symm.trans HVn.out,HO6,HB6⟩
        case measure=>simp [intOf];omega
       ·have hti:¬ (0:Int)<(y.tags.n:Int):=tZ1
        have HHT:Hid (HH=false):=tZ134
        have HTD:=Lib.hid (decide_eq_false ht)
        clear HHF ht
        go_wp2_with fail
        go_roundw
        case rel=>exact ⟨k+1,m2,A2,c2,false,by omega,by go_num,rfl,congrArg Value.bool HTD.out,HMk,by show _=_;exact HHT.out.symm.trans HVn.out,HO6,HB6⟩
        case measure=>simp [intOf];omega
     ·have hkb:((k:Int) == F)=false:=by simpa using hkF
      have HVn:Hid (hv=if F<((k+1:Nat):Int) then HH else false):=by
       show _=_
       rw [HV.out]
       by_cases h:F<(k:Int)
       ·rw [if_pos h,if_pos tZ1]
       ·rw [if_neg h,if_neg tZ1]
      go_wp2_with fail
      go_roundw
      case rel=>exact ⟨k+1,m2,A2,c2,hv,by omega,by go_num,rfl,rfl,HMk,HVn,HO5,HB5⟩
      case measure=>simp [intOf];omega
  ·obtain rfl:k=sn:=tZ1
   have hmm:m=mF:=by rw [HM.out,HMF.out,HSN.out,List.take_length]
   subst hmm
   have hvv:hv=HH:=by rw [HV.out,if_pos (by have:=HFL.out;have:=HSN.out;omega)]
   subst hvv
   have HOW:Hid (wo.ownsRow w9.heap.size 9 1 (.slice A m c) m (scells (allH sl))):=by
    show World.ownsRow _ _ _ _ _ _ _
    have h:=HO.out
    rw [HSN.out,List.take_length] at h
    rw [HSN.out] at *
    exact h
   have G0:=HB
   clear HM HV HO HF0 HFK
   have J0:Hid (Below wo.heap.size wo wo):=Below.refl _ _
   obtain ⟨c0,c1,c2,c3,c4,c5,c6⟩:=hSa.out wo (hXa.out wo G0.out)
   obtain ⟨d0,d1,d2,d3,d4,d5,d6⟩:=hSb.out wo (hXb.out wo G0.out)
   have hc:=hEa.out wo G0.out
   go_wp2_with fail
   refine hc.mono ?_
   clear hc c0 c1 c2 c3 c4 c5 c6 d0 d1 d2 d3 d4 d5 d6
   rintro e v1 ⟨rfl,hb⟩
   have G1:=Lib.hid (G0.out.trans (hb.mono G0.out.size))
   have J1:=Lib.hid (J0.out.trans (hb.mono J0.out.size))
   clear hb
   have hc:=hNU.out Ea v1
   go_wp2_with fail
   refine hc.mono ?_
   clear hc
   rintro e v2 ⟨rfl,hb⟩
   have G2:=Lib.hid (G1.out.trans (hb.mono G1.out.size))
   have J2:=Lib.hid (J1.out.trans (hb.mono J1.out.size))
   clear hb
   obtain ⟨c0,c1,c2,c3,c4,c5,c6⟩:=hSc.out v2 (hXc.out v2 G2.out)
   obtain ⟨d0,d1,d2,d3,d4,d5,d6⟩:=hSd.out v2 (hXd.out v2 G2.out)
   have hc:=hEc.out v2 G2.out
   go_wp2_with fail
   refine hc.mono ?_
   clear hc c0 c1 c2 c3 c4 c5 c6 d0 d1 d2 d3 d4 d5 d6
   rintro e v3 ⟨rfl,hb⟩
   have G3:=Lib.hid (G2.out.trans (hb.mono G2.out.size))
   have J3:=Lib.hid (J2.out.trans (hb.mono J2.out.size))
   clear hb
   have hc:=hNU.out Ec v3
   go_wp2_with fail
   refine hc.mono ?_
   clear hc
   rintro e v4 ⟨rfl,hb⟩
   have G4:=Lib.hid (G3.out.trans (hb.mono G3.out.size))
   have J4:=Lib.hid (J3.out.trans (hb.mono J3.out.size))
   clear hb
   have hc:=hALLC.out v4 (hB1.out v4 G4.out)
   obtain ⟨c0,c1,c2,c3,c4,c5,c6⟩:=blk7 (hKt.out v4 (hB1.out v4 G4.out))
   go_wp2_with fail
   refine hc.mono ?_
   clear hc c0 c1 c2 c3 c4 c5 c6
   rintro e v5 ⟨A9,c9,rfl,ho9,hb⟩
   have HO9:=Lib.hid ho9
   clear ho9
   have G5:=Lib.hid (G4.out.trans (hb.mono G4.out.size))
   have J5:=Lib.hid (J4.out.trans (hb.mono J4.out.size))
   clear hb
   have hc:Calls Tryz.prog 36 #[.slice A9 m c9,.slice A m c] v5 fun e w'=>e=.returned (.bool true)∧Below v5.heap.size v5 w' :=
    (texts_any (allH sl) (allH sl) m m HMF.out HMF.out A9 A c9 c v5 _ _ (Reads.of_own HO9.out) (Reads.of_own (own_below HOW.out J5.out)) tZ1 tZ1).mono (by rintro e w' ⟨rfl,q,rfl⟩;exact ⟨by simp,below_drewN (Below.refl _ _) q⟩)
   go_wp2_with fail
   refine hc.mono ?_
   clear hc
   rintro e v6 ⟨rfl,hb⟩
   have G6:=Lib.hid (G5.out.trans (hb.mono G5.out.size))
   have J6:=Lib.hid (J5.out.trans (hb.mono J5.out.size))
   clear hb
   have hc:=hHE.out v6 (hB1.out v6 G6.out)
   obtain ⟨c0,c1,c2,c3,c4,c5,c6⟩:=blk7 (hKt.out v6 (hB1.out v6 G6.out))
   go_wp2_with fail
   refine hc.mono ?_
   clear hc c0 c1 c2 c3 c4 c5 c6
   rintro e v7 ⟨rfl,hb⟩
   have G7:=Lib.hid (G6.out.trans (hb.mono G6.out.size))
   have J7:=Lib.hid (J6.out.trans (hb.mono J6.out.size))
   clear hb
   have hc:=hAL.out v7 (hB1.out v7 G7.out)
   go_wp2_with fail
   refine hc.mono ?_
   clear hc
   rintro e v8 ⟨rfl,hb⟩
   have G8:=Lib.hid (G7.out.trans (hb.mono G7.out.size))
   have J8:=Lib.hid (J7.out.trans (hb.mono J7.out.size))
   clear hb
   go_wp2_with fail
   go_ret
   exact ⟨rfl,hBW.out _ (hB1.out _ G8.out)⟩
end Go.Proofs.YtiojfffgiejibaaGreatDoor
