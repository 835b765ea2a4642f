/-
  tree.copySnap, by its contract. usage.Fits: is what a tenant is charged for at most its quota?
-/
import Derived.Test.YtiojfffgiejibaaGreatDoorQsM1
import Derived.Deep.DeepCutAuto
import Derived.WalkKit
import Derived.WalkSpells
import Derived.Below
import Derived.Laws.OwnMore
import Derived.Deep.AppendLies
import Derived.Deep.Draws
import Derived.Laws.Rows
import Derived.Maps.AppendAt
import Derived.RegionTactic
import Derived.OwnWalk
import Derived.Deep.QuietTactic
import Derived.BigQuiet
import Derived.Lib.Hide
import Derived.Laws.CopyOwn
import Derived.IntWalk
import Derived.Test.YtiojfffgiejibaaGreatDoorRows
import Derived.Handy
import Derived.Deep.Quiet
import Derived.Orders
import Derived.Sort.Walk0
import Derived.Sort.KeysCollected
import Derived.Laws.BytesString
import Derived.Laws.IdiomStrings
import Derived.Lib.ConvBytes
import Derived.Lib.Strings
import Derived.Deep.MidRow
import Derived.Lib.SplitLaws
import Derived.Lib.LastIndexByte
import Derived.ShutString
import Derived.Shelf.Strings.Search1
import Derived.Shelf.Strings.Search2
import Derived.Shelf.Strings.Search3
import Derived.Shelf.Strings.Cut
import Derived.Shelf.Strings.Count
import Derived.Shelf.LaysM
import Derived.Shelf.Strings.Shaped
import Derived.Shelf.Strings.LastIndex
import Derived.Shelf.Strings.Split
import Derived.Shelf.Strings.SplitShaped
import Derived.Shelf.Unicode.Decode
import Derived.Shelf.Strings.RuneCount
import Derived.Shelf.Strings.Explode
import Derived.Shelf.Unicode.DecodeSlow
import Derived.Shelf.Slices.Turned
import Derived.Test.YtiojfffgiejibaaGreatDoorProg
import Derived.Great.BuildSlice
import Derived.Test.YtiojfffgiejibaaGreatDoorQ0
import Derived.Test.YtiojfffgiejibaaGreatDoorQs1
import Derived.Test.YtiojfffgiejibaaGreatDoorQs5
import Derived.Test.YtiojfffgiejibaaGreatDoorQs7
import Derived.Test.YtiojfffgiejibaaGreatDoorQs10
import Derived.Test.YtiojfffgiejibaaGreatDoorQs11
import Derived.Test.YtiojfffgiejibaaGreatDoorQs12
import Derived.Test.YtiojfffgiejibaaGreatDoorQs16
import Derived.Test.YtiojfffgiejibaaGreatDoorQs17
import Derived.Test.YtiojfffgiejibaaGreatDoorQs19
import Derived.Test.YtiojfffgiejibaaGreatDoorQs20
import Derived.Test.YtiojfffgiejibaaGreatDoorQs21
namespace Go.Proofs.YtiojfffgiejibaaGreatDoor
open Go.RowKit
theorem own_setCells_below {base size n:Nat} {t:TypeId} {v:Value} {xs:List Value} {g:Nat} (hg:g<base) (cs:List Value):∀ (w:World) (o:Nat),w.ownsRow base t size v n xs→(w.setCells g o cs).ownsRow base t size v n xs:=by
 induction cs with
 | nil=>intro w o h;exact h
 | cons u cs ih=>intro w o h;exact ih _ _ (own_setCell_below (p:=⟨g,o,none⟩) h hg u)
set_option maxRecDepth 100000 in
set_option maxHeartbeats 8000000 in
theorem copySnap_any (nm:BS) (gd:Int) (b1:Option Addr) (bn b3:Nat) (t1:Option Addr) (tn t3:Nat) (o1:Option Addr) (on o3:Nat) (xb xt xo:List Value) (w:World) (B:Nat) (hB:B≤w.heap.size)
  (hb:Reads w B 2 b1 bn xb) (ht:Reads w B 1 t1 tn xt) (ho:Reads w B 2 o1 on xo) (h1:∀ u∈xb,u.oneCell'=true) (h2:∀ u∈xt,u.oneCell'=true) (h3:∀ u∈xo,u.oneCell'=true) (hbn:bn≤1000000000000) (htn:tn≤1000000000000) (hon:on≤1000000000000) :
  Calls Tryz.prog 143 #[.agg #[.string ⟨nm.toArray⟩,.int .i64 gd,.slice b1 bn b3,.slice t1 tn t3,.slice o1 on o3]] w fun e w'=>∃ Ab cb At ct Ao co,e=.returned (.agg #[.string ⟨nm.toArray⟩,.int .i64 gd,.slice Ab bn cb,.slice At tn ct,.slice Ao on co])∧w'.ownsRow w.heap.size 97 2 (.slice Ab bn cb) bn xb∧w'.ownsRow w.heap.size 9 1 (.slice At tn ct) tn xt∧w'.ownsRow w.heap.size 100 2 (.slice Ao on co) on xo∧Below w.heap.size w w':=by
 have hC1:Hid (∀ W,Below w.heap.size w W→Calls Tryz.prog 69 #[.slice b1 bn b3] W fun e w'=>∃ v,e=.returned v∧w'.ownsRow W.heap.size 97 2 v bn xb∧Below W.heap.size W w'):=fun W h=>cloneBl_any xb bn b1 b3 W B (hb.below (h.mono hB)) tZ103 h1 tZ1
 have hC2:Hid (∀ W,Below w.heap.size w W→Calls Tryz.prog 83 #[.slice t1 tn t3] W fun e w'=>∃ v,e=.returned v∧w'.ownsRow W.heap.size 9 1 v tn xt∧Below W.heap.size W w'):=fun W h=>cloneSt_any xt tn t1 t3 W B (ht.below (h.mono hB)) tZ103 h2 tZ1
 have hC3:Hid (∀ W,Below w.heap.size w W→Calls Tryz.prog 70 #[.slice o1 on o3] W fun e w'=>∃ v,e=.returned v∧w'.ownsRow W.heap.size 100 2 v on xo∧Below W.heap.size W w'):=fun W h=>clonePr_any xo on o1 o3 W B (ho.below (h.mono hB)) tZ103 h3 tZ1
 clear hb ht ho h1 h2 h3
 go_enter Tryz.func143,Tryz.ntmps143
 go_upto_region 1 with (fail)
 have kB:=(Blk.new w 58 #[.string ⟨nm.toArray⟩,.int .i64 gd,.slice b1 bn b3,.slice t1 tn t3,.slice o1 on o3]).alloc (.cells #[.string ⟨#[]⟩,.int .i64 0,.slice none 0 0,.slice none 0 0,.slice none 0 0] 58)
 have kZ:=Blk.new (w.alloc (.cells #[.string ⟨nm.toArray⟩,.int .i64 gd,.slice b1 bn b3,.slice t1 tn t3,.slice o1 on o3] 58)) 58 #[.string ⟨#[]⟩,.int .i64 0,.slice none 0 0,.slice none 0 0,.slice none 0 0]
 rw [show (w.alloc (.cells #[.string ⟨nm.toArray⟩,.int .i64 gd,.slice b1 bn b3,.slice t1 tn t3,.slice o1 on o3] 58)).heap.size=w.heap.size+1 by simp] at kZ
 have hb2:=((Below.refl w.heap.size w).alloc (Nat.le_refl _) (.cells #[.string ⟨nm.toArray⟩,.int .i64 gd,.slice b1 bn b3,.slice t1 tn t3,.slice o1 on o3] 58)).alloc tZ3 (.cells #[.string ⟨#[]⟩,.int .i64 0,.slice none 0 0,.slice none 0 0,.slice none 0 0] 58)
 obtain ⟨W2,hW2⟩:∃ W,W=(w.alloc (.cells #[.string ⟨nm.toArray⟩,.int .i64 gd,.slice b1 bn b3,.slice t1 tn t3,.slice o1 on o3] 58)).alloc (.cells #[.string ⟨#[]⟩,.int .i64 0,.slice none 0 0,.slice none 0 0,.slice none 0 0] 58):=⟨_,rfl⟩
 have hsz:W2.heap.size=w.heap.size+2:=tZ40
 rw [← hW2] at kB kZ hb2 ⊢
 have K:=Lib.hid kB.drew
 have K2:=Lib.hid kZ.drew
 have HB:=Lib.hid hb2.drew
 have HZ:=Lib.hid (show w.heap.size+2≤W2.drew.heap.size by show _≤W2.heap.size;omega)
 have c0:=kB.cell 0
 have c1:=kB.cell 1
 have c2:=kB.cell 2
 have c3:=kB.cell 3
 have c4:=kB.cell 4
 simp only [zF,zD,zE] at c0 c1 c2 c3 c4
 clear hW2 kB kZ hb2 hsz
 go_cut [1,2] from 0 to 14 (fun s1 s2 wx=>s1=.pointer (some ⟨w.heap.size,0,none⟩)∧s2=.pointer (some ⟨w.heap.size+1,0,none⟩)∧∃ Ab cb At ct Ao co,Blk wx w.heap.size 58 #[.string ⟨nm.toArray⟩,.int .i64 gd,.slice Ab bn cb,.slice At tn ct,.slice Ao on co]∧Blk wx (w.heap.size+1) 58 #[.string ⟨#[]⟩,.int .i64 0,.slice none 0 0,.slice none 0 0,.slice none 0 0]∧wx.ownsRow (w.heap.size+2) 97 2 (.slice Ab bn cb) bn xb∧wx.ownsRow (w.heap.size+2) 9 1 (.slice At tn ct) tn xt∧wx.ownsRow (w.heap.size+2) 100 2 (.slice Ao on co) on xo∧Below w.heap.size w wx)
 case first =>
  go_region_law (first | (go_simp;with_reducible refine (hC1.out _ HB.out).mono ?_;rintro e w2 ⟨v,rfl,ho,hb⟩;obtain ⟨Ab,cb,rfl,_,_,_⟩:=own_form ho;have HOb:=Lib.hid (own_mono ho HZ.out);(try have HOt:=Lib.hid (own_below HOt.out hb));(try have HOo:=Lib.hid (own_below HOo.out hb));have HZ:=Lib.hid (Nat.le_trans HZ.out hb.size);have HB:=Lib.hid (HB.out.trans (hb.mono HB.out.size));have K2:=Lib.hid (K2.out.below hb K2.out.lt);have K:=Lib.hid (K.out.below hb K.out.lt);obtain ⟨c0,c1,c2,c3,c4⟩:=(⟨K.out.cell 0,K.out.cell 1,K.out.cell 2,K.out.cell 3,K.out.cell 4⟩:_∧_∧_∧_∧_);simp only [zF,zD,zE] at c0 c1 c2 c3 c4;have f2:=K.out.frozen 2;have f3:=K.out.frozen 3;have f4:=K.out.frozen 4;clear ho hb) | (go_simp;with_reducible refine (hC2.out _ HB.out).mono ?_;rintro e w2 ⟨v,rfl,ho,hb⟩;obtain ⟨At,ct,rfl,_,_,_⟩:=own_form ho;have HOt:=Lib.hid (own_mono ho HZ.out);(try have HOb:=Lib.hid (own_below HOb.out hb));(try have HOo:=Lib.hid (own_below HOo.out hb));have HZ:=Lib.hid (Nat.le_trans HZ.out hb.size);have HB:=Lib.hid (HB.out.trans (hb.mono HB.out.size));have K2:=Lib.hid (K2.out.below hb K2.out.lt);have K:=Lib.hid (K.out.below hb K.out.lt);obtain ⟨c0,c1,c2,c3,c4⟩:=(⟨K.out.cell 0,K.out.cell 1,K.out.cell 2,K.out.cell 3,K.out.cell 4⟩:_∧_∧_∧_∧_);simp only [zF,zD,zE] at c0 c1 c2 c3 c4;have f2:=K.out.frozen 2;have f3:=K.out.frozen 3;have f4:=K.out.frozen 4;clear ho hb) | (go_simp;with_reducible refine (hC3.out _ HB.out).mono ?_;rintro e w2 ⟨v,rfl,ho,hb⟩;obtain ⟨Ao,co,rfl,_,_,_⟩:=own_form ho;have HOo:=Lib.hid (own_mono ho HZ.out);(try have HOb:=Lib.hid (own_below HOb.out hb));(try have HOt:=Lib.hid (own_below HOt.out hb));have HZ:=Lib.hid (Nat.le_trans HZ.out hb.size);have HB:=Lib.hid (HB.out.trans (hb.mono HB.out.size));have K2:=Lib.hid (K2.out.below hb K2.out.lt);have K:=Lib.hid (K.out.below hb K.out.lt);obtain ⟨c0,c1,c2,c3,c4⟩:=(⟨K.out.cell 0,K.out.cell 1,K.out.cell 2,K.out.cell 3,K.out.cell 4⟩:_∧_∧_∧_∧_);simp only [zF,zD,zE] at c0 c1 c2 c3 c4;have f2:=K.out.frozen 2;have f3:=K.out.frozen 3;have f4:=K.out.frozen 4;clear ho hb))
  all_goals
   have k3:=((K.out.set_ 2 (.slice Ab bn cb)).set_ 3 (.slice At tn ct)).set_ 4 (.slice Ao on co)
   have kz:=((K2.out.far (p:=⟨w.heap.size,2,none⟩) tZ3 (.slice Ab bn cb)).far (p:=⟨w.heap.size,3,none⟩) tZ3 (.slice At tn ct)).far (p:=⟨w.heap.size,4,none⟩) tZ3 (.slice Ao on co)
   have q1:=own_setCell_below (p:=⟨w.heap.size,4,none⟩) (own_setCell_below (p:=⟨w.heap.size,3,none⟩) (own_setCell_below (p:=⟨w.heap.size,2,none⟩) HOb.out tZ37 (.slice Ab bn cb)) tZ37 (.slice At tn ct)) tZ37 (.slice Ao on co)
   have q2:=own_setCell_below (p:=⟨w.heap.size,4,none⟩) (own_setCell_below (p:=⟨w.heap.size,3,none⟩) (own_setCell_below (p:=⟨w.heap.size,2,none⟩) HOt.out tZ37 (.slice Ab bn cb)) tZ37 (.slice At tn ct)) tZ37 (.slice Ao on co)
   have q3:=own_setCell_below (p:=⟨w.heap.size,4,none⟩) (own_setCell_below (p:=⟨w.heap.size,3,none⟩) (own_setCell_below (p:=⟨w.heap.size,2,none⟩) HOo.out tZ37 (.slice Ab bn cb)) tZ37 (.slice At tn ct)) tZ37 (.slice Ao on co)
   have hbw:=((HB.out.setCell (p:=⟨w.heap.size,2,none⟩) (Nat.le_refl _) (.slice Ab bn cb)).setCell (p:=⟨w.heap.size,3,none⟩) (Nat.le_refl _) (.slice At tn ct)).setCell (p:=⟨w.heap.size,4,none⟩) (Nat.le_refl _) (.slice Ao on co)
   have HH:=Lib.hid (show _∧_∧_∧_∧_∧_ from ⟨k3,kz,q1,q2,q3,hbw⟩)
   clear k3 kz q1 q2 q3 hbw c0 c1 c2 c3 c4 f2 f3 f4
   go_wp2_with fail
   go_meet
   exact ⟨rfl,rfl,Ab,cb,At,ct,Ao,co,HH.out.1,HH.out.2.1,HH.out.2.2.1,HH.out.2.2.2.1,HH.out.2.2.2.2.1,HH.out.2.2.2.2.2⟩
 case rest =>
 obtain ⟨rfl,rfl,Ab,cb,At,ct,Ao,co,k3,kz,q1,q2,q3,hbw⟩:=hcut
 clear K K2 HB HZ hC1 hC2 hC3 c0 c1 c2 c3 c4
 obtain ⟨c0,c1,c2,c3,c4⟩:=(⟨k3.cell 0,k3.cell 1,k3.cell 2,k3.cell 3,k3.cell 4⟩:_∧_∧_∧_∧_)
 simp at c0 c1 c2 c3 c4
 have hth:=Lib.hid (kz.there 5 tZ4)
 have k4:=Blk.setCells (g:=w.heap.size+1) [.string ⟨nm.toArray⟩,.int .i64 gd,.slice Ab bn cb,.slice At tn ct,.slice Ao on co] wc [] [.string ⟨#[]⟩,.int .i64 0,.slice none 0 0,.slice none 0 0,.slice none 0 0] rfl kz
 simp only [List.length_nil,List.nil_append] at k4
 have q1:=Lib.hid (own_setCells_below (g:=w.heap.size+1) tZ1 [.string ⟨nm.toArray⟩,.int .i64 gd,.slice Ab bn cb,.slice At tn ct,.slice Ao on co] wc 0 q1)
 have q2:=Lib.hid (own_setCells_below (g:=w.heap.size+1) tZ1 [.string ⟨nm.toArray⟩,.int .i64 gd,.slice Ab bn cb,.slice At tn ct,.slice Ao on co] wc 0 q2)
 have q3:=Lib.hid (own_setCells_below (g:=w.heap.size+1) tZ1 [.string ⟨nm.toArray⟩,.int .i64 gd,.slice Ab bn cb,.slice At tn ct,.slice Ao on co] wc 0 q3)
 have hbw:=Lib.hid (below_setCells (g:=w.heap.size+1) tZ1 [.string ⟨nm.toArray⟩,.int .i64 gd,.slice Ab bn cb,.slice At tn ct,.slice Ao on co] wc 0 hbw)
 obtain ⟨W4,hW4⟩:∃ W,W=wc.setCells (w.heap.size+1) 0 (#[.string ⟨nm.toArray⟩,.int .i64 gd,.slice Ab bn cb,.slice At tn ct,.slice Ao on co]:Array Value).toList:=⟨_,rfl⟩
 rw [show ([.string ⟨nm.toArray⟩,.int .i64 gd,.slice Ab bn cb,.slice At tn ct,.slice Ao on co]:List Value)=(#[.string ⟨nm.toArray⟩,.int .i64 gd,.slice Ab bn cb,.slice At tn ct,.slice Ao on co]:Array Value).toList from rfl,← hW4] at k4 q1 q2 q3 hbw
 obtain ⟨d0,d1,d2,d3,d4⟩:=(⟨k4.cell 0,k4.cell 1,k4.cell 2,k4.cell 3,k4.cell 4⟩:_∧_∧_∧_∧_)
 simp at d0 d1 d2 d3 d4
 have HD:=Lib.hid (show _∧_∧_∧_∧_ from ⟨d0,d1,d2,d3,d4⟩)
 clear k3 kz k4 d0 d1 d2 d3 d4
 go_wp2_with (refine wpList_store_mid rfl 58 (.tmp 2) (.tmp 15) rfl (w.heap.size+1) 0 #[.string ⟨nm.toArray⟩,.int .i64 gd,.slice Ab bn cb,.slice At tn ct,.slice Ao on co] rfl rfl hth.out tZ2 tZ5 ?_;rw [← hW4];clear hW4)
 obtain ⟨d0,d1,d2,d3,d4⟩:=HD.out
 refine bodyPost_ret (v:=.agg #[.string ⟨nm.toArray⟩,.int .i64 gd,.slice Ab bn cb,.slice At tn ct,.slice Ao on co]) (by simp [results,Tryz.results143,go_sem,d0,d1,d2,d3,d4]) rfl ⟨Ab,cb,At,ct,Ao,co,rfl,own_mono q1.out tZ1,own_mono q2.out tZ1,own_mono q3.out tZ1,hbw.out⟩
end Go.Proofs.YtiojfffgiejibaaGreatDoor
namespace Go.Proofs.YtiojfffgiejibaaGreatDoor
open Go.RowKit
theorem ubody_any (A:Option Addr) (n c:Nat) (w:World) (hn:n≤5000000000000):Calls Tryz.prog 169 #[.slice A n c] w fun e w'=>e=.returned (.int .i64 ((n:Int)+1))∧w'=w:=by
 have hw:IntKind.i64.wrap ((n:Int)+1)=(n:Int)+1:=IntWalk.i64_in _ tZ1
 go_enter Tryz.func169,Tryz.ntmps169
 go_wp2_with fail
 go_ret
 exact ⟨rfl,rfl⟩
set_option maxRecDepth 100000 in
theorem uadd_any (g:Nat) (T:TypeId) (S q:Int) (A:Option Addr) (n c:Nat) (w:World) (hk:Blk w g T #[.int .i64 S,.int .i64 q]) (hn:n≤5000000000000) (h0:0≤S) (h1:S≤4000000000000000000) :
  Calls Tryz.prog 152 #[.pointer (some ⟨g,0,none⟩),.slice A n c] w fun e w'=>e=.returned (.tuple #[])∧Blk w' g T #[.int .i64 (S+((n:Int)+1)),.int .i64 q]∧OnlyIn g (g+1) w w':=by
 have hw:IntKind.i64.wrap (S+((n:Int)+1))=S+((n:Int)+1):=IntWalk.i64_in _ tZ1
 have c0:=hk.drew.cell 0
 have f0:=hk.drew.frozen 0
 simp only [zF,zE] at c0
 have hst:Blk (w.drew.setCell ⟨g,0,none⟩ (.int .i64 (S+((n:Int)+1)))) g T #[.int .i64 (S+((n:Int)+1)),.int .i64 q]:=hk.drew.set_ 0 _
 have HST:=Lib.hid hst
 have HO:Hid (OnlyIn g (g+1) w (w.drew.setCell ⟨g,0,none⟩ (.int .i64 (S+((n:Int)+1))))):=(OnlyIn.of_below (Below.refl _ _).drew (Nat.le_of_lt hk.lt)).trans (OnlyIn.grown (grown_box _ _ _ _) (Nat.le_refl _) tZ1 (Nat.le_of_lt hk.lt))
 clear hst hk
 go_enter Tryz.func152,Tryz.ntmps152
 go_region_with (refine (ubody_any A n c _ hn).mono ?_;rintro e w2 ⟨rfl,rfl⟩)
 all_goals
  go_wp2_with fail
  go_end0
  exact ⟨rfl,HST.out,HO.out⟩
def sumB (l:List SnapR) (k:Nat):Int:=((l.take k).map fun x=>(x.body.n:Int)+1).sum
theorem sumB_zero (l:List SnapR):sumB l 0=0:=by simp [sumB]
theorem sumB_succ (l:List SnapR) (k:Nat) (h:k<l.length):sumB l (k+1)=sumB l k+(((l[k]'h).body.n:Int)+1):=by
 unfold sumB
 exact mZ136
theorem sumB_mono (l:List SnapR) (k:Nat):0≤sumB l k∧sumB l k≤sumB l l.length:=by
 have h0:∀ k,0≤sumB l k:=by
  intro k
  unfold sumB
  induction l.take k with
  | nil=>simp
  | cons x r ih=>simp only [List.map_cons,List.sum_cons];omega
 refine ⟨h0 k,?_⟩
 have h1:sumB l l.length=sumB l k+((l.drop k).map fun x=>(x.body.n:Int)+1).sum:=by
  unfold sumB
  exact mZ137
 have h2:0≤((l.drop k).map fun x=>(x.body.n:Int)+1).sum:=by
  induction l.drop k with
  | nil=>simp
  | cons x r ih=>simp only [List.map_cons,List.sum_cons];omega
 omega
/-- what a set adds -/
def setSum (x:SetR):Int:=((x.body.n:Int)+1)+sumB x.snaps.l x.snaps.l.length
set_option maxRecDepth 100000 in
set_option maxHeartbeats 2000000 in
theorem ubodies_any (x:SetR) (g:Nat) (T:TypeId) (S q:Int) (w:World) (B:Nat) (hr:x.rd w B) (hz:x.sz) (hB:B≤g) (hk:Blk w g T #[.int .i64 S,.int .i64 q]) (h0:0≤S) (h1:S+setSum x≤4000000000000000000) :
  Calls Tryz.prog 168 #[.agg (encSet x).toArray,.func (.func 152) #[.pointer (some ⟨g,0,none⟩)] #[]] w fun e w'=>e=.returned (.tuple #[])∧Blk w' g T #[.int .i64 (S+setSum x),.int .i64 q]∧OnlyIn g (g+1) w w':=by
 obtain ⟨pa,og,⟨bA,bn,bc,bl⟩,⟨zA,zn,zc,zl⟩,⟨oA,on,oc,ol⟩⟩:=x
 have hsm:setSum ⟨pa,og,⟨bA,bn,bc,bl⟩,⟨zA,zn,zc,zl⟩,⟨oA,on,oc,ol⟩⟩=((bn:Int)+1)+sumB zl zl.length:=rfl
 rw [hsm] at h1 ⊢
 have HZN:Hid (zn=zl.length):=hr.snaps.1
 have hmn:bn≤1000000000000:=hz.body
 have hzn:zn≤1000000000000:=hz.snaps
 have hm:=sumB_mono zl
 have hgw:=hk.lt
 have kx:=Blk.new w 56 #[.string ⟨pa.toArray⟩,.string ⟨og.toArray⟩,.slice bA bn bc,.slice zA zn zc,.slice oA on oc]
 obtain ⟨W1,hW1⟩:∃ W,W=w.alloc (.cells #[.string ⟨pa.toArray⟩,.string ⟨og.toArray⟩,.slice bA bn bc,.slice zA zn zc,.slice oA on oc] 56):=⟨_,rfl⟩
 have hs1:W1.heap.size=w.heap.size+1:=tZ32
 have hb1:Below w.heap.size w W1:=by rw [hW1];exact (Below.refl _ _).alloc (Nat.le_refl _) _
 rw [← hW1] at kx
 have HR:Hid (∀ W,OnlyIn g (g+1) W1 W→SetR.rd W B ⟨pa,og,⟨bA,bn,bc,bl⟩,⟨zA,zn,zc,zl⟩,⟨oA,on,oc,ol⟩⟩):=by
  show ∀ W,_→_
  intro W hW
  have hb:Below B w W:=(hb1.mono tZ1).trans (hW.low.mono hB)
  exact ⟨hr.body.below hb,hr.snaps.below hb,fun y hy=>⟨(hr.each y hy).body.below hb,(hr.each y hy).tags.below hb,(hr.each y hy).own.below hb⟩,hr.own.below hb⟩
 have HX:Hid (∀ W,OnlyIn g (g+1) W1 W→W.cell? ⟨w.heap.size,2,none⟩=some (.slice bA bn bc)∧W.cell? ⟨w.heap.size,3,none⟩=some (.slice zA zn zc)):=by
  show ∀ W,_→_
  intro W hW
  have hb:Blk W w.heap.size 56 #[.string ⟨pa.toArray⟩,.string ⟨og.toArray⟩,.slice bA bn bc,.slice zA zn zc,.slice oA on oc]:=(hW.high _ tZ1 tZ1).trans kx
  exact ⟨hb.cell 2,hb.cell 3⟩
 have HZ:=Lib.hid hz
 have hcl:=uadd_any g T S q bA bn bc W1 (hk.below hb1 hgw) tZ1 h0 (by have:=(hm zl.length).1;omega)
 obtain ⟨c2,c3⟩:=HX.out W1 (OnlyIn.refl _ _ _)
 have HO0:Hid (OnlyIn g (g+1) w W1):=OnlyIn.of_below hb1 tZ1
 have HM:=Lib.hid hm
 have HH1:=Lib.hid h1
 clear kx hr hz hk hb1 hsm hm
 show Calls Tryz.prog 168 #[.agg #[.string ⟨pa.toArray⟩,.string ⟨og.toArray⟩,.slice bA bn bc,.slice zA zn zc,.slice oA on oc],.func (.func 152) #[.pointer (some ⟨g,0,none⟩)] #[]] w _
 go_enter Tryz.func168,Tryz.ntmps168
 go_wp2_with fail
 rw [← hW1]
 clear hW1
 refine hcl.mono ?_
 clear hcl c2 c3
 rintro e w2 ⟨rfl,hk2,ho2⟩
 have HK2:=Lib.hid hk2
 have HO2:=Lib.hid ho2
 clear hk2 ho2
 obtain ⟨c2,c3⟩:=HX.out w2 HO2.out
 go_wp2_with fail
 go_loopw [13] (fun j wr=>∃ k:Nat,k≤zn∧j=.int .i64 (k:Int)∧Hid (Blk wr g T #[.int .i64 (S+((bn:Int)+1)+sumB zl k),.int .i64 q])∧Hid (OnlyIn g (g+1) W1 wr)) (fun j _=>zn-(intOf j).toNat)
 case atStart=>exact ⟨0,Nat.zero_le _,rfl,by show Blk _ _ _ _;rw [sumB_zero,Int.add_zero];exact HK2.out,HO2.out⟩
 case round =>
  clear HK2 HO2 c2 c3
  obtain ⟨k,hk,rfl,HK,HO⟩:=hrel
  obtain ⟨c2,c3⟩:=HX.out wr HO.out
  by_cases hlt:k<zn
  ·have hki:(k:Int)<(zn:Int):=tZ1
   have hkl:k<zl.length:=tZ99
   obtain ⟨ad,hsa,-,r0,r1,r2,r3,r4⟩:=snap_at (HR.out wr HO.out).snaps.2.2 HZN.out hlt
   simp only at hsa
   subst hsa
   have hsz:=HZ.out.each _ (List.getElem_mem hkl)
   have hss:=sumB_succ zl k hkl
   obtain ⟨y,hy⟩:∃ y,y=zl[k]'hkl:=⟨_,rfl⟩
   simp only at r0 r1 r2 r3 r4
   rw [← hy] at r0 r1 r2 r3 r4 hsz hss
   clear hy
   obtain ⟨ynm,ygd,⟨yb1,ybn,yb3,ybl⟩,⟨yt1,ytn,yt3,ytl⟩,⟨yo1,yon,yo3,yol⟩⟩:=y
   simp only at r0 r1 r2 r3 r4
   have hyn:ybn≤1000000000000:=hsz.body
   have HSS:Hid (sumB zl (k+1)=sumB zl k+((ybn:Int)+1)):=hss
   have hbd:0≤S+((bn:Int)+1)+sumB zl k∧S+((bn:Int)+1)+sumB zl k≤4000000000000000000:=by
    have h1:=HM.out k
    have h2:=HH1.out
    omega
   have hgs:=HK.out.lt
   have hcl:=uadd_any g T (S+((bn:Int)+1)+sumB zl k) q yb1 ybn yb3 (wr.alloc (.cells #[.string ⟨ynm.toArray⟩,.int .i64 ygd,.slice yb1 ybn yb3,.slice yt1 ytn yt3,.slice yo1 yon yo3] 58)) (HK.out.alloc _) tZ1 hbd.1 hbd.2
   have HOA:Hid (OnlyIn g (g+1) W1 (wr.alloc (.cells #[.string ⟨ynm.toArray⟩,.int .i64 ygd,.slice yb1 ybn yb3,.slice yt1 ytn yt3,.slice yo1 yon yo3] 58))):=HO.out.trans (OnlyIn.of_below ((Below.refl wr.heap.size wr).alloc (Nat.le_refl _) _) tZ1)
   clear hsz hss hbd HK HO
   go_wp2_with fail
   refine hcl.mono ?_
   clear hcl r0 r1 r2 r3 r4
   rintro e w3 ⟨rfl,hk3,ho3⟩
   have HK3:Hid (Blk w3 g T #[.int .i64 (S+((bn:Int)+1)+sumB zl (k+1)),.int .i64 q]):=by
    show Blk _ _ _ _
    rw [HSS.out,← Int.add_assoc]
    exact hk3
   have HO3:=Lib.hid (HOA.out.trans ho3)
   clear hk3 ho3 HOA HSS
   go_wp2_with fail
   go_roundw
   case rel=>exact ⟨k+1,by omega,by go_num,HK3,HO3⟩
   case measure=>simp [intOf];omega
  ·obtain rfl:k=zn:=tZ1
   go_wp2_with fail
   go_end0
   refine ⟨rfl,?_,HO0.out.trans HO.out⟩
   have h:=HK.out
   rw [← Int.add_assoc,← HZN.out]
   exact h
set_option maxRecDepth 100000 in
theorem uset_any (x:SetR) (g:Nat) (T:TypeId) (S q:Int) (w:World) (B:Nat) (hr:x.rd w B) (hz:x.sz) (hB:B≤g) (hk:Blk w g T #[.int .i64 S,.int .i64 q]) (h0:0≤S) (h1:S+setSum x≤4000000000000000000) :
  Calls Tryz.prog 151 #[.pointer (some ⟨g,0,none⟩),.agg (encSet x).toArray] w fun e w'=>e=.returned (.tuple #[])∧Blk w' g T #[.int .i64 (S+setSum x),.int .i64 q]∧OnlyIn g (g+1) w w':=by
 have hb1:Below w.heap.size w (w.alloc (.cells (encSet x).toArray 56)):=(Below.refl _ _).alloc (Nat.le_refl _) _
 have hgw:=hk.lt
 have hcl:=ubodies_any x g T S q (w.alloc (.cells (encSet x).toArray 56)) B ⟨hr.body.below (hb1.mono tZ1),hr.snaps.below (hb1.mono tZ1),fun y hy=>⟨(hr.each y hy).body.below (hb1.mono tZ1),(hr.each y hy).tags.below (hb1.mono tZ1),(hr.each y hy).own.below (hb1.mono tZ1)⟩,hr.own.below (hb1.mono tZ1)⟩ hz hB (hk.alloc _) h0 h1
 obtain ⟨sm,hsm⟩:∃ v,v=setSum x:=⟨_,rfl⟩
 rw [← hsm] at hcl ⊢
 have HO0:Hid (OnlyIn g (g+1) w (w.alloc (.cells (encSet x).toArray 56))):=OnlyIn.of_below hb1 tZ1
 clear hb1 hk hr hz hsm h1
 obtain ⟨pa,og,⟨bA,bn,bc,bl⟩,⟨zA,zn,zc,zl⟩,⟨oA,on,oc,ol⟩⟩:=x
 have hcl2:Calls Tryz.prog 168 #[.agg #[.string ⟨pa.toArray⟩,.string ⟨og.toArray⟩,.slice bA bn bc,.slice zA zn zc,.slice oA on oc],.func (.func 152) #[.pointer (some ⟨g,0,none⟩)] #[]] (w.alloc (.cells #[.string ⟨pa.toArray⟩,.string ⟨og.toArray⟩,.slice bA bn bc,.slice zA zn zc,.slice oA on oc] 56)) _:=hcl
 have HO1:Hid (OnlyIn g (g+1) w (w.alloc (.cells #[.string ⟨pa.toArray⟩,.string ⟨og.toArray⟩,.slice bA bn bc,.slice zA zn zc,.slice oA on oc] 56))):=HO0.out
 clear hcl HO0
 show Calls Tryz.prog 151 #[.pointer (some ⟨g,0,none⟩),.agg #[.string ⟨pa.toArray⟩,.string ⟨og.toArray⟩,.slice bA bn bc,.slice zA zn zc,.slice oA on oc]] w _
 go_enter Tryz.func151,Tryz.ntmps151
 go_wp2_with fail
 refine hcl2.mono ?_
 clear hcl2
 rintro e w2 ⟨rfl,hk2,ho2⟩
 go_wp2_with fail
 go_end0
 exact ⟨rfl,hk2,HO1.out.trans ho2⟩
def sumS (l:List SetR) (k:Nat):Int:=((l.take k).map setSum).sum
def sumG (l:List StageR) (k:Nat):Int:=((l.take k).map fun x=>(x.body.n:Int)+1).sum
theorem setSum_nonneg (x:SetR):0≤setSum x:=by
 have:=(sumB_mono x.snaps.l x.snaps.l.length).1
 unfold setSum
 omega
theorem sum_nonneg {α:Type} (f:α→Int) (hf:∀ a,0≤f a) (l:List α):0≤(l.map f).sum:=by
 induction l with
 | nil=>simp
 | cons x r ih=>have:=hf x;simp only [List.map_cons,List.sum_cons];omega
theorem sumS_succ (l:List SetR) (k:Nat) (h:k<l.length):sumS l (k+1)=sumS l k+setSum (l[k]'h):=by
 unfold sumS
 exact mZ136
theorem sumG_succ (l:List StageR) (k:Nat) (h:k<l.length):sumG l (k+1)=sumG l k+(((l[k]'h).body.n:Int)+1):=by
 unfold sumG
 exact mZ136
theorem sumS_mono (l:List SetR) (k:Nat):0≤sumS l k∧sumS l k≤sumS l l.length:=by
 refine ⟨sum_nonneg _ setSum_nonneg _,?_⟩
 have h1:sumS l l.length=sumS l k+((l.drop k).map setSum).sum:=by
  unfold sumS
  exact mZ137
 have:=sum_nonneg _ setSum_nonneg (l.drop k)
 omega
theorem sumG_mono (l:List StageR) (k:Nat):0≤sumG l k∧sumG l k≤sumG l l.length:=by
 refine ⟨sum_nonneg _ (fun _=>by omega) _,?_⟩
 have h1:sumG l l.length=sumG l k+((l.drop k).map fun x=>(x.body.n:Int)+1).sum:=by
  unfold sumG
  exact mZ137
 have:=sum_nonneg (fun x:StageR=>(x.body.n:Int)+1) (fun _=>by omega) (l.drop k)
 omega
/-- what a tenant is charged for, as it lies -/
def tenSum (t:TenR):Int:=sumS t.sets.l t.sets.l.length+sumG t.stages.l t.stages.l.length
set_option maxRecDepth 100000 in
set_option maxHeartbeats 4000000 in
theorem counted_any (t:TenR) (w:World) (B:Nat) (hB:B≤w.heap.size) (hr:t.rd w B) (hz:t.sz) (hs:tenSum t≤4000000000000000000) :
  Calls Tryz.prog 111 #[t.val] w fun e w'=>∃ g,e=.returned (.pointer (some ⟨g,0,none⟩))∧Blk w' g 176 #[.int .i64 (tenSum t),.int .i64 t.quota]∧Below w.heap.size w w':=by
 obtain ⟨nm,qu,nx,⟨s1,sn,s3,sl⟩,⟨g1,gn,g3,gl⟩,⟨t1,tn,t3,tl⟩,⟨l1,ln,l3,ll⟩⟩:=t
 have hts:tenSum ⟨nm,qu,nx,⟨s1,sn,s3,sl⟩,⟨g1,gn,g3,gl⟩,⟨t1,tn,t3,tl⟩,⟨l1,ln,l3,ll⟩⟩=sumS sl sl.length+sumG tl tl.length:=rfl
 rw [hts] at hs ⊢
 show Calls Tryz.prog 111 #[.agg #[.string ⟨nm.toArray⟩,.int .i64 qu,.int .i64 nx,.slice s1 sn s3,.slice g1 gn g3,.slice t1 tn t3,.slice l1 ln l3]] w _
 have HSN:Hid (sn=sl.length):=hr.sets.1
 have HTN:Hid (tn=tl.length):=hr.stages.1
 have hsn:sn≤1000000000000:=hz.sets
 have htn:tn≤1000000000000:=hz.stages
 have hb2:=((Below.refl w.heap.size w).alloc (Nat.le_refl _) (.cells #[.string ⟨nm.toArray⟩,.int .i64 qu,.int .i64 nx,.slice s1 sn s3,.slice g1 gn g3,.slice t1 tn t3,.slice l1 ln l3] 27)).alloc tZ3 (.cells #[.int .i64 0,.int .i64 qu] 176)
 have kT:=(Blk.new w 27 #[.string ⟨nm.toArray⟩,.int .i64 qu,.int .i64 nx,.slice s1 sn s3,.slice g1 gn g3,.slice t1 tn t3,.slice l1 ln l3]).alloc (.cells #[.int .i64 0,.int .i64 qu] 176)
 have kU:=Blk.new (w.alloc (.cells #[.string ⟨nm.toArray⟩,.int .i64 qu,.int .i64 nx,.slice s1 sn s3,.slice g1 gn g3,.slice t1 tn t3,.slice l1 ln l3] 27)) 176 #[.int .i64 0,.int .i64 qu]
 rw [show (w.alloc (.cells #[.string ⟨nm.toArray⟩,.int .i64 qu,.int .i64 nx,.slice s1 sn s3,.slice g1 gn g3,.slice t1 tn t3,.slice l1 ln l3] 27)).heap.size=w.heap.size+1 by simp] at kU
 obtain ⟨W2,hW2⟩:∃ W,W=(w.alloc (.cells #[.string ⟨nm.toArray⟩,.int .i64 qu,.int .i64 nx,.slice s1 sn s3,.slice g1 gn g3,.slice t1 tn t3,.slice l1 ln l3] 27)).alloc (.cells #[.int .i64 0,.int .i64 qu] 176):=⟨_,rfl⟩
 have hsz:W2.heap.size=w.heap.size+2:=tZ40
 rw [← hW2] at hb2 kT kU
 have HR:Hid (∀ W,OnlyIn (w.heap.size+1) (w.heap.size+1+1) W2 W→TenR.rd W B ⟨nm,qu,nx,⟨s1,sn,s3,sl⟩,⟨g1,gn,g3,gl⟩,⟨t1,tn,t3,tl⟩,⟨l1,ln,l3,ll⟩⟩):=by
  show ∀ W,_→_
  intro W hW
  exact TenR.rd.below hr ((hb2.trans (hW.low.mono tZ1)).mono hB)
 have HX:Hid (∀ W,OnlyIn (w.heap.size+1) (w.heap.size+1+1) W2 W→W.cell? ⟨w.heap.size,3,none⟩=some (.slice s1 sn s3)∧W.cell? ⟨w.heap.size,5,none⟩=some (.slice t1 tn t3)):=by
  show ∀ W,_→_
  intro W hW
  have hk:=kT.below hW.low tZ1
  exact ⟨hk.cell 3,hk.cell 5⟩
 have HB2:=Lib.hid hb2
 have HZ:=Lib.hid hz
 have HS:=Lib.hid hs
 have HSZ:=Lib.hid hsz
 have HKU:=Lib.hid kU
 clear hb2 kT kU hz hr hts hs hsz
 go_enter Tryz.func111,Tryz.ntmps111
 go_wp2_with fail
 rw [← hW2]
 clear hW2
 go_loopw [15] (fun j wr=>∃ k:Nat,k≤sn∧j=.int .i64 (k:Int)∧Hid (Blk wr (w.heap.size+1) 176 #[.int .i64 (sumS sl k),.int .i64 qu])∧Hid (OnlyIn (w.heap.size+1) (w.heap.size+1+1) W2 wr)) (fun j _=>sn-(intOf j).toNat)
 case atStart=>exact ⟨0,Nat.zero_le _,rfl,by show Blk _ _ _ _;simpa [sumS] using HKU.out,OnlyIn.refl _ _ _⟩
 case round =>
  obtain ⟨k,hk,rfl,HK,HO⟩:=hrel
  by_cases hlt:k<sn
  ·have hki:(k:Int)<(sn:Int):=tZ1
   have hkl:k<sl.length:=tZ79
   obtain ⟨ad,hsa,-,p0,p1,p2,p3,p4⟩:=set_at (HR.out wr HO.out).sets.2.2 HSN.out hlt
   simp only at hsa
   subst hsa
   have hss:=sumS_succ sl k hkl
   have hmo:=(sumS_mono sl (k+1)).2
   have hm0:=(sumS_mono sl k).1
   have hg0:=(sumG_mono tl tl.length).1
   have hrx:=(HR.out wr HO.out).eachS _ (List.getElem_mem hkl)
   have hzx:=HZ.out.eachS _ (List.getElem_mem hkl)
   obtain ⟨x,hx⟩:∃ x,x=sl[k]'hkl:=⟨_,rfl⟩
   simp only at p0 p1 p2 p3 p4
   rw [← hx] at p0 p1 p2 p3 p4 hss hrx hzx
   clear hx
   have hgs:=HK.out.lt
   have hba:=(Below.refl wr.heap.size wr).alloc (Nat.le_refl _) (.cells (encSet x).toArray 56)
   have hcl:=uset_any x (w.heap.size+1) 176 (sumS sl k) qu (wr.alloc (.cells (encSet x).toArray 56)).drew B ⟨hrx.body.below (hba.drew.mono tZ1),hrx.snaps.below (hba.drew.mono tZ1),fun y hy=>⟨(hrx.each y hy).body.below (hba.drew.mono tZ1),(hrx.each y hy).tags.below (hba.drew.mono tZ1),(hrx.each y hy).own.below (hba.drew.mono tZ1)⟩,hrx.own.below (hba.drew.mono tZ1)⟩ hzx tZ1 (HK.out.alloc _).drew hm0 (by rw [← hss];have:=HS.out;omega)
   have HOA:Hid (OnlyIn (w.heap.size+1) (w.heap.size+1+1) W2 (wr.alloc (.cells (encSet x).toArray 56)).drew):=HO.out.trans (OnlyIn.of_below hba.drew tZ1)
   rw [← hss] at hcl
   obtain ⟨S1,hS1⟩:∃ v,v=sumS sl (k+1):=⟨_,rfl⟩
   rw [← hS1] at hcl
   have HS1:=Lib.hid hS1
   have kx:=(Blk.new wr 56 (encSet x).toArray)
   clear hss hmo hm0 hg0 hrx hzx hba HK HO hS1
   obtain ⟨pa,og,⟨bA,bn,bc,bl⟩,⟨zA,zn,zc,zl⟩,⟨oA,on,oc,ol⟩⟩:=x
   have hcl2:Calls Tryz.prog 151 #[.pointer (some ⟨w.heap.size+1,0,none⟩),.agg #[.string ⟨pa.toArray⟩,.string ⟨og.toArray⟩,.slice bA bn bc,.slice zA zn zc,.slice oA on oc]] (wr.alloc (.cells #[.string ⟨pa.toArray⟩,.string ⟨og.toArray⟩,.slice bA bn bc,.slice zA zn zc,.slice oA on oc] 56)).drew _:=hcl
   have HOB:Hid (OnlyIn (w.heap.size+1) (w.heap.size+1+1) W2 (wr.alloc (.cells #[.string ⟨pa.toArray⟩,.string ⟨og.toArray⟩,.slice bA bn bc,.slice zA zn zc,.slice oA on oc] 56)).drew):=HOA.out
   clear hcl HOA kx
   simp only at p0 p1 p2 p3 p4
   obtain ⟨c3,c5⟩:=(HX.out W2 (OnlyIn.refl _ _ _))
   go_wp2_with fail
   go_region_with (refine hcl2.mono ?_;rintro e w3 ⟨rfl,hk3,ho3⟩)
   all_goals
    have HK3:Hid (Blk w3 (w.heap.size+1) 176 #[.int .i64 (sumS sl (k+1)),.int .i64 qu]):=by
     show Blk _ _ _ _
     rw [← HS1.out]
     exact hk3
    have HO3:=Lib.hid (HOB.out.trans ho3)
    clear hk3 ho3 HOB HS1
    go_wp2_with fail
    go_roundw
    case rel=>exact ⟨k+1,by omega,by go_num,HK3,HO3⟩
    case measure=>simp [intOf];omega
  ·obtain rfl:k=sn:=tZ1
   have HK1:Hid (Blk wr (w.heap.size+1) 176 #[.int .i64 (sumS sl sl.length+sumG tl 0),.int .i64 qu]):=by
    show Blk _ _ _ _
    have h:=HK.out
    rw [HSN.out] at h
    simpa [sumG] using h
   obtain ⟨c3,c5⟩:=HX.out wr HO.out
   clear HK
   go_wp2_with fail
   go_loopw [28] (fun j wq=>∃ k:Nat,k≤tn∧j=.int .i64 (k:Int)∧Hid (Blk wq (w.heap.size+1) 176 #[.int .i64 (sumS sl sl.length+sumG tl k),.int .i64 qu])∧Hid (OnlyIn (w.heap.size+1) (w.heap.size+1+1) W2 wq)) (fun j _=>tn-(intOf j).toNat)
   case atStart=>exact ⟨0,Nat.zero_le _,rfl,HK1,HO⟩
   case round =>
    clear HK1 HO c3 c5
    obtain ⟨m,hm,rfl,HK,HO⟩:=hrel
    by_cases hlt:m<tn
    ·have hki:(m:Int)<(tn:Int):=tZ1
     have hkl:m<tl.length:=tZ78
     obtain ⟨ad,hsa,-,hel⟩:=Reads.elAll (enc:=encStage) (k:=21) (fun _=>rfl) (HR.out wr HO.out).stages.2.2 HTN.out hlt
     simp only at hsa
     subst hsa
     have hss:=sumG_succ tl m hkl
     have hmo:=(sumG_mono tl (m+1)).2
     have hm0:=(sumG_mono tl m).1
     have hg0:=(sumS_mono sl sl.length).1
     have hzx:=HZ.out.eachT _ (List.getElem_mem hkl)
     obtain ⟨x,hx⟩:∃ x,x=tl[m]'hkl:=⟨_,rfl⟩
     simp only at hel
     rw [← hx] at hel hss hzx
     clear hx
     obtain ⟨qinto,qkind,qnm,qfrm,qgd,⟨qo1,qon,qo3,qol⟩,qix,qct,qdt,⟨qsa,qsb,qsc,qsd⟩,⟨qb1,qbn,qb3,qbl⟩,qat,qnx,⟨qua,qub,quc,qud⟩,qdone⟩:=x
     have HEL:Hid (∀ j v,([.string ⟨qinto.toArray⟩,.int .i64 qkind,.string ⟨qnm.toArray⟩,.int .i64 qfrm,.int .i64 qgd,.slice qo1 qon qo3,.int .i64 qix,.int .i64 qct,.string ⟨qdt.toArray⟩,.int .u64 qsa,.int .u64 qsb,.int .u64 qsc,.int .u64 qsd,.slice qb1 qbn qb3,.int .i64 qat,.int .i64 qnx,.int .u64 qua,.int .u64 qub,.int .u64 quc,.int .u64 qud,.bool qdone]:List Value)[j]?=some v→wr.cell? ((ad.add (m*21)).add j)=some v):=hel
     have hqn:qbn≤1000000000000:=hzx.body
     have HSS:Hid (sumG tl (m+1)=sumG tl m+((qbn:Int)+1)):=hss
     have hgs:=HK.out.lt
     have hba:=(Below.refl wr.heap.size wr).alloc (Nat.le_refl _) (.cells #[.string ⟨qinto.toArray⟩,.int .i64 qkind,.string ⟨qnm.toArray⟩,.int .i64 qfrm,.int .i64 qgd,.slice qo1 qon qo3,.int .i64 qix,.int .i64 qct,.string ⟨qdt.toArray⟩,.int .u64 qsa,.int .u64 qsb,.int .u64 qsc,.int .u64 qsd,.slice qb1 qbn qb3,.int .i64 qat,.int .i64 qnx,.int .u64 qua,.int .u64 qub,.int .u64 quc,.int .u64 qud,.bool qdone] 77)
     have hcl:=uadd_any (w.heap.size+1) 176 (sumS sl sl.length+sumG tl m) qu qb1 qbn qb3 (wr.alloc (.cells #[.string ⟨qinto.toArray⟩,.int .i64 qkind,.string ⟨qnm.toArray⟩,.int .i64 qfrm,.int .i64 qgd,.slice qo1 qon qo3,.int .i64 qix,.int .i64 qct,.string ⟨qdt.toArray⟩,.int .u64 qsa,.int .u64 qsb,.int .u64 qsc,.int .u64 qsd,.slice qb1 qbn qb3,.int .i64 qat,.int .i64 qnx,.int .u64 qua,.int .u64 qub,.int .u64 quc,.int .u64 qud,.bool qdone] 77)).drew (HK.out.alloc _).drew tZ1 tZ1 (by have:=HS.out;omega)
     have HOA:Hid (OnlyIn (w.heap.size+1) (w.heap.size+1+1) W2 (wr.alloc (.cells #[.string ⟨qinto.toArray⟩,.int .i64 qkind,.string ⟨qnm.toArray⟩,.int .i64 qfrm,.int .i64 qgd,.slice qo1 qon qo3,.int .i64 qix,.int .i64 qct,.string ⟨qdt.toArray⟩,.int .u64 qsa,.int .u64 qsb,.int .u64 qsc,.int .u64 qsd,.slice qb1 qbn qb3,.int .i64 qat,.int .i64 qnx,.int .u64 qua,.int .u64 qub,.int .u64 quc,.int .u64 qud,.bool qdone] 77)).drew):=HO.out.trans (OnlyIn.of_below hba.drew tZ1)
     have e13:=(Blk.new wr 77 #[.string ⟨qinto.toArray⟩,.int .i64 qkind,.string ⟨qnm.toArray⟩,.int .i64 qfrm,.int .i64 qgd,.slice qo1 qon qo3,.int .i64 qix,.int .i64 qct,.string ⟨qdt.toArray⟩,.int .u64 qsa,.int .u64 qsb,.int .u64 qsc,.int .u64 qsd,.slice qb1 qbn qb3,.int .i64 qat,.int .i64 qnx,.int .u64 qua,.int .u64 qub,.int .u64 quc,.int .u64 qud,.bool qdone]).drew.cell 13
     simp only [zF,zD,zE] at e13
     clear hss hmo hm0 hg0 hzx hba HK HO hel
     go_wp2_with (first | (refine wpList_load_at rfl 77 (.tmp 30) rfl (ad.add (m*21)) rfl [.string ⟨qinto.toArray⟩,.int .i64 qkind,.string ⟨qnm.toArray⟩,.int .i64 qfrm,.int .i64 qgd,.slice qo1 qon qo3,.int .i64 qix,.int .i64 qct,.string ⟨qdt.toArray⟩,.int .u64 qsa,.int .u64 qsb,.int .u64 qsc,.int .u64 qsd,.slice qb1 qbn qb3,.int .i64 qat,.int .i64 qnx,.int .u64 qua,.int .u64 qub,.int .u64 quc,.int .u64 qud,.bool qdone] _ HEL.out Tryz.underlying77 rfl tZ2 ?_) | (refine wpList_store_new wr rfl 77 (.tmp 7) (.tmp 31) rfl 77 _ [.string ⟨qinto.toArray⟩,.int .i64 qkind,.string ⟨qnm.toArray⟩,.int .i64 qfrm,.int .i64 qgd,.slice qo1 qon qo3,.int .i64 qix,.int .i64 qct,.string ⟨qdt.toArray⟩,.int .u64 qsa,.int .u64 qsb,.int .u64 qsc,.int .u64 qsd,.slice qb1 qbn qb3,.int .i64 qat,.int .i64 qnx,.int .u64 qua,.int .u64 qub,.int .u64 quc,.int .u64 qud,.bool qdone] rfl rfl rfl tZ2 tZ5 ?_))
     go_region_with (refine hcl.mono ?_;rintro e w3 ⟨rfl,hk3,ho3⟩)
     all_goals
      have HK3:Hid (Blk w3 (w.heap.size+1) 176 #[.int .i64 (sumS sl sl.length+sumG tl (m+1)),.int .i64 qu]):=by
       show Blk _ _ _ _
       rw [HSS.out,← Int.add_assoc]
       exact hk3
      have HO3:=Lib.hid (HOA.out.trans ho3)
      clear hk3 ho3 HOA HSS e13 HEL
      go_wp2_with fail
      go_roundw
      case rel=>exact ⟨m+1,by omega,by go_num,HK3,HO3⟩
      case measure=>simp [intOf];omega
    ·obtain rfl:m=tn:=tZ1
     go_wp2_with fail
     go_ret
     refine ⟨w.heap.size+1,rfl,?_,HB2.out.trans (HO.out.low.mono tZ1)⟩
     have h:=HK.out
     rw [HTN.out] at h
     exact h
set_option maxRecDepth 100000 in
theorem uover_any (g:Nat) (S q:Int) (w:World) (hk:Blk w g 176 #[.int .i64 S,.int .i64 q]) :
  Calls Tryz.prog 112 #[.pointer (some ⟨g,0,none⟩)] w fun e w'=>e=.returned (.bool (decide (q<S)))∧Below w.heap.size w w':=by
 have c0:=hk.cell 0
 have c1:=hk.cell 1
 simp only [zF,zD,zE] at c0 c1
 clear hk
 by_cases h:q<S
 ·have hd:Hid (decide (q<S)=true):=decide_eq_true h
  exact mZ138
 ·have hd:Hid (decide (q<S)=false):=decide_eq_false h
  exact mZ138
set_option maxRecDepth 100000 in
set_option maxHeartbeats 2000000 in
theorem fits_any (t:TenR) (w:World) (B:Nat) (hB:B≤w.heap.size) (hr:t.rd w B) (hz:t.sz) (hs:tenSum t≤4000000000000000000) :
  Calls Tryz.prog 59 #[t.val] w fun e w'=>e=.returned (.bool (decide (tenSum t≤t.quota)))∧Below w.heap.size w w':=by
 have hba:=(Below.refl w.heap.size w).alloc (Nat.le_refl _) (.cells t.cells.toArray 27)
 have hc:=counted_any t (w.alloc (.cells t.cells.toArray 27)) B tZ7 (TenR.rd.below hr (hba.mono hB)) hz hs
 have kT:=Blk.new w 27 t.cells.toArray
 obtain ⟨S,hS⟩:∃ S,S=tenSum t:=⟨_,rfl⟩
 rw [← hS] at hc ⊢
 clear hS hr hz hs
 obtain ⟨nm,qu,nx,⟨s1,sn,s3,sl⟩,⟨g1,gn,g3,gl⟩,⟨t1,tn,t3,tl⟩,⟨l1,ln,l3,ll⟩⟩:=t
 have hc2:Calls Tryz.prog 111 #[.agg #[.string ⟨nm.toArray⟩,.int .i64 qu,.int .i64 nx,.slice s1 sn s3,.slice g1 gn g3,.slice t1 tn t3,.slice l1 ln l3]] (w.alloc (.cells #[.string ⟨nm.toArray⟩,.int .i64 qu,.int .i64 nx,.slice s1 sn s3,.slice g1 gn g3,.slice t1 tn t3,.slice l1 ln l3] 27)) _:=hc
 have HBA:Hid (Below w.heap.size w (w.alloc (.cells #[.string ⟨nm.toArray⟩,.int .i64 qu,.int .i64 nx,.slice s1 sn s3,.slice g1 gn g3,.slice t1 tn t3,.slice l1 ln l3] 27))):=hba
 clear hc hba kT
 show Calls Tryz.prog 59 #[.agg #[.string ⟨nm.toArray⟩,.int .i64 qu,.int .i64 nx,.slice s1 sn s3,.slice g1 gn g3,.slice t1 tn t3,.slice l1 ln l3]] w fun e w'=>e=.returned (.bool (decide (S≤qu)))∧Below w.heap.size w w'
 go_enter Tryz.func59,Tryz.ntmps59
 go_wp2_with fail
 refine hc2.mono ?_
 clear hc2
 rintro e w2 ⟨g,rfl,hk,hb2⟩
 have ho:=uover_any g S qu w2 hk
 have HB2:=Lib.hid (HBA.out.trans (hb2.mono HBA.out.size))
 clear hk hb2 HBA
 have hq:(!decide (qu<S))=decide (S≤qu):=by
  by_cases h:qu<S
  ·simp [h,Int.not_le.2 h]
  ·simp [h,Int.not_lt.1 h]
 go_wp2_with fail
 refine ho.mono ?_
 clear ho
 rintro e w3 ⟨rfl,hb3⟩
 go_wp2_with fail
 go_ret
 exact ⟨by rw [← hq];rfl,HB2.out.trans (hb3.mono HB2.out.size)⟩
end Go.Proofs.YtiojfffgiejibaaGreatDoor
