/-
  godownref14.Own: a tenant in memory of its own, of one content.
-/
import Derived.Test.YtiojfffgiejibaaGreatDoorQsM1
import Derived.WalkKit
import Derived.WalkSpells
import Derived.Below
import Derived.Laws.OwnMore
import Derived.Deep.AppendLies
import Derived.Deep.Draws
import Derived.Laws.Rows
import Derived.Maps.AppendAt
import Derived.RegionTactic
import Derived.OwnWalk
import Derived.Deep.QuietTactic
import Derived.BigQuiet
import Derived.Lib.Hide
import Derived.Laws.CopyOwn
import Derived.IntWalk
import Derived.Test.YtiojfffgiejibaaGreatDoorRows
import Derived.Handy
import Derived.Deep.Quiet
import Derived.ProofKit
import Derived.OpenShut
import Derived.ShutString
import Derived.ChangeOld
import Derived.Carry
import Derived.SizedLaws
import Derived.JoinedCond
import Derived.Deep.CondSized
import Derived.Deep.Slices
import Derived.Deep.Fields
import Derived.Lib.SmallJoins
import Derived.Orders
import Derived.Lib.SplitLaws
import Derived.Lib.LastIndexByte
import Derived.Lib.Strings
import Derived.Sort.Walk0
import Derived.Sort.KeysCollected
import Derived.Deep.MidRow
import Derived.Shelf.Strings.Search1
import Derived.Shelf.Strings.Search2
import Derived.Shelf.Strings.Search3
import Derived.Shelf.Strings.Cut
import Derived.Shelf.Strings.Count
import Derived.Shelf.LaysM
import Derived.Shelf.Strings.Shaped
import Derived.Shelf.Strings.LastIndex
import Derived.Shelf.Strings.Split
import Derived.Shelf.Strings.SplitShaped
import Derived.Shelf.Unicode.Decode
import Derived.Shelf.Strings.RuneCount
import Derived.Shelf.Strings.Explode
import Derived.Shelf.Unicode.DecodeSlow
import Derived.Shelf.Slices.Turned
import Derived.Test.YtiojfffgiejibaaGreatDoorProg
import Derived.Laws.BytesString
import Derived.Laws.IdiomStrings
import Derived.Lib.ConvBytes
import Derived.Deep.DeepCutAuto
import Derived.Great.BuildSlice
import Derived.Test.YtiojfffgiejibaaGreatDoorQ0
import Derived.Test.YtiojfffgiejibaaGreatDoorQs1
import Derived.Test.YtiojfffgiejibaaGreatDoorQs5
import Derived.Test.YtiojfffgiejibaaGreatDoorQs7
import Derived.Test.YtiojfffgiejibaaGreatDoorQs10
import Derived.Test.YtiojfffgiejibaaGreatDoorQs11
import Derived.Test.YtiojfffgiejibaaGreatDoorQs12
import Derived.Test.YtiojfffgiejibaaGreatDoorQs15
import Derived.Test.YtiojfffgiejibaaGreatDoorQs16
import Derived.Test.YtiojfffgiejibaaGreatDoorQs17
import Derived.Test.YtiojfffgiejibaaGreatDoorQs18
import Derived.Test.YtiojfffgiejibaaGreatDoorQs19
import Derived.Test.YtiojfffgiejibaaGreatDoorQs20
import Derived.Test.YtiojfffgiejibaaGreatDoorQs21
import Derived.Test.YtiojfffgiejibaaGreatDoorQs22
import Derived.Test.YtiojfffgiejibaaGreatDoorQs26
namespace Go.Proofs.YtiojfffgiejibaaGreatDoor
open Go.RowKit
theorem below_made {W W2:World} {T:TypeId} {g:Nat} (hs:W.heap.size=g) (hg:(W.alloc (.cells #[] T)).grownBy W2 (Value.ownBlock (.slice (some ⟨g,0,none⟩) 0 0))):Below W.heap.size W W2:=by
 subst hs
 refine ((Below.refl _ _).alloc (Nat.le_refl _) _).grown hg tZ3 (fun k hk=>?_)
 simp [Value.ownBlock] at hk
 omega
theorem made_own {W:World} {T:TypeId} {g k base:Nat} (hs:W.heap.size=g) (hb:base≤g):(W.alloc (.cells #[] T)).ownsRow base T k (.slice (some ⟨g,0,none⟩) 0 0) 0 []:=by
 subst hs
 exact World.ownsRow_made W #[] 0 hb tZ73 tZ3
theorem size_set (W:World) (p:Addr) (u:Value):(W.setCell p u).heap.size=W.heap.size:=by simp [World.setCell]
/-- rows of unlike element types are unlike blocks -/
theorem own_apart {W W':World} {base base2:Nat} {e e2:TypeId} {k k2 n n2:Nat} {v u:Value} {xs ys:List Value} (h:W.ownsRow base e k v n xs) (h2:W.ownsRow base2 e2 k2 u n2 ys) (hne:e≠e2) (hg:W.grownBy W' u.ownBlock):W'.ownsRow base e k v n xs:=by
 refine h.kept hg ?_
 cases hv:v.ownBlock with
 | none=>exact .inl rfl
 | some g =>
  refine .inr fun hu=>hne ?_
  have k1:∃ cur,Blk W g e cur:=by
   rcases h.2 with ⟨rfl,_⟩ | ⟨g',cap',cur,rfl,_,hg',_⟩
   ·simp [Value.ownBlock] at hv
   ·have:g'=g:=by simpa [Value.ownBlock] using hv
    subst this
    exact ⟨cur,hg'⟩
  have k2:∃ cur,Blk W g e2 cur:=by
   rcases h2.2 with ⟨rfl,_⟩ | ⟨g',cap',cur,rfl,_,hg',_⟩
   ·simp [Value.ownBlock] at hu
   ·have:g'=g:=by simpa [Value.ownBlock] using hu.symm
    subst this
    exact ⟨cur,hg'⟩
  obtain ⟨c1,k1⟩:=k1
  obtain ⟨c2,k2⟩:=k2
  unfold Blk at k1 k2
  rw [k1] at k2
  injection k2 with k2
  injection k2
theorem blk_apart {W W':World} {base2 g:Nat} {e e2:TypeId} {k2 n2:Nat} {u:Value} {ys:List Value} {cs:Array Value} (h:Blk W g e cs) (h2:W.ownsRow base2 e2 k2 u n2 ys) (hne:e2≠e) (hg:W.grownBy W' u.ownBlock):Blk W' g e cs :=
 h.grown hg fun hh=>own_blk_ne h2 h hne hh.symm
theorem SnapO.apart {W W':World} {base base2:Nat} {u:Value} {n2 k2:Nat} {ys:List Value} {x:SnapR} {e2:TypeId} (h:SnapO W base x) (h2:W.ownsRow base2 e2 k2 u n2 ys) (hb:97≠e2) (hs:9≠e2) (hp:100≠e2) (hg:W.grownBy W' u.ownBlock):SnapO W' base x :=
 ⟨⟨h.body.1,own_apart h.body.2 h2 hb hg⟩,⟨h.tags.1,own_apart h.tags.2 h2 hs hg⟩,⟨h.own.1,own_apart h.own.2 h2 hp hg⟩⟩
theorem SetO.apart {W W':World} {base base2:Nat} {u:Value} {n2 k2:Nat} {ys:List Value} {x:SetR} {e2:TypeId} (h:SetO W base x) (h2:W.ownsRow base2 e2 k2 u n2 ys) (hb:97≠e2) (hn:58≠e2) (hs:9≠e2) (hp:100≠e2) (hg:W.grownBy W' u.ownBlock):SetO W' base x :=
 ⟨⟨h.body.1,own_apart h.body.2 h2 hb hg⟩,⟨h.snaps.1,own_apart h.snaps.2 h2 hn hg⟩,fun y hy=>(h.each y hy).apart h2 hb hs hp hg,⟨h.own.1,own_apart h.own.2 h2 hp hg⟩⟩
theorem StageO.apart {W W':World} {base base2:Nat} {u:Value} {n2 k2:Nat} {ys:List Value} {x:StageR} {e2:TypeId} (h:StageO W base x) (h2:W.ownsRow base2 e2 k2 u n2 ys) (hb:97≠e2) (hp:100≠e2) (hg:W.grownBy W' u.ownBlock):StageO W' base x :=
 ⟨⟨h.own.1,own_apart h.own.2 h2 hp hg⟩,⟨h.body.1,own_apart h.body.2 h2 hb hg⟩⟩
/-- what lies ready of a tenant: sets and grants -/
structure PartO (W:World) (base:Nat) (S:FS SetR) (G:FS GT):Prop where
 sets:S.own W base 56 5 encSet
 each:∀ y∈S.l,SetO W base y
 gr:G.own W base 104 3 encG
theorem FS.own.setb {α:Type} {w:World} {base k:Nat} {t:TypeId} {enc:α→List Value} {s:FS α} (h:s.own w base t k enc) {p:Addr} (hp:p.block<base) (u:Value):s.own (w.setCell p u) base t k enc:=⟨h.1,own_setCell_below h.2 hp u⟩
theorem SnapO.setb {w:World} {base:Nat} {x:SnapR} (h:SnapO w base x) {p:Addr} (hp:p.block<base) (u:Value):SnapO (w.setCell p u) base x:=⟨h.body.setb hp u,h.tags.setb hp u,h.own.setb hp u⟩
theorem SetO.setb {w:World} {base:Nat} {x:SetR} (h:SetO w base x) {p:Addr} (hp:p.block<base) (u:Value):SetO (w.setCell p u) base x:=⟨h.body.setb hp u,h.snaps.setb hp u,fun y hy=>(h.each y hy).setb hp u,h.own.setb hp u⟩
theorem StageO.setb {w:World} {base:Nat} {x:StageR} (h:StageO w base x) {p:Addr} (hp:p.block<base) (u:Value):StageO (w.setCell p u) base x:=⟨h.own.setb hp u,h.body.setb hp u⟩
/-- a box that is being filled: nothing below it has changed -/
structure BoxSt (wi W:World) (d:Nat) (T:TypeId) (cs:Array Value):Prop where
 blk:Blk W d T cs
 low:Below d wi W
 lt:d+1≤W.heap.size
theorem BoxSt.step {wi W W':World} {d:Nat} {T:TypeId} {cs:Array Value} (h:BoxSt wi W d T cs) (hb:Below W.heap.size W W'):BoxSt wi W' d T cs:=⟨h.blk.below hb h.blk.lt,h.low.trans (hb.mono (by have:=h.lt;omega)),Nat.le_trans h.lt hb.size⟩
theorem BoxSt.set {wi W:World} {d:Nat} {T:TypeId} {cs:Array Value} (h:BoxSt wi W d T cs) (i:Nat) (u:Value):BoxSt wi (W.setCell ⟨d,i,none⟩ u) d T (cs.setIfInBounds i u):=⟨h.blk.set_ i u,h.low.setCell (Nat.le_refl _) u,by rw [size_set];exact h.lt⟩
theorem BoxSt.made {wi W:World} {d:Nat} {T:TypeId} {cs:Array Value} (h:BoxSt wi W d T cs) (o:Obj):BoxSt wi (W.alloc o) d T cs:=⟨h.blk.alloc o,h.low.alloc (by have:=h.lt;omega) o,by have:=h.lt;simp;omega⟩
theorem BoxSt.new {wi:World} {d:Nat} {T:TypeId} {cs:Array Value} (hd:wi.heap.size=d):BoxSt wi (wi.alloc (.cells cs T)) d T cs:=by
 subst hd
 exact ⟨Blk.new wi T cs,(Below.refl _ _).alloc (Nat.le_refl _) _,by simp⟩
theorem BoxSt.reads {wi W:World} {d:Nat} {T:TypeId} {cs:Array Value} (h:BoxSt wi W d T cs) {B k n:Nat} {A:Option Addr} {xs:List Value} (hr:Reads wi B k A n xs) (hB:B≤d):Reads W B k A n xs:=hr.below (h.low.mono hB)
theorem BoxSt.made_own {wi W:World} {d:Nat} {T:TypeId} {cs:Array Value} (h:BoxSt wi W d T cs) {e:TypeId} {g k:Nat} (hg:W.heap.size=g):(W.alloc (.cells #[] e)).ownsRow (d+1) e k (.slice (some ⟨g,0,none⟩) 0 0) 0 []:=by
 subst hg
 exact World.ownsRow_made W #[] 0 h.lt tZ73 tZ3
theorem own_box {W W':World} {d i:Nat} {u:Value} {e:TypeId} {k n:Nat} {v:Value} {xs:List Value} (h:W.ownsRow (d+1) e k v n xs) (hb:Below (W.setCell ⟨d,i,none⟩ u).heap.size (W.setCell ⟨d,i,none⟩ u) W'):W'.ownsRow (d+1) e k v n xs:=own_below (own_setCell_below h (p:=⟨d,i,none⟩) (by show d<_;omega) u) hb
theorem PartO.apart {W W':World} {base base2:Nat} {u:Value} {n2 k2:Nat} {ys:List Value} {S:FS SetR} {G:FS GT} (h:PartO W base S G) (h2:W.ownsRow base2 77 k2 u n2 ys) (hg:W.grownBy W' u.ownBlock):PartO W' base S G :=
 ⟨⟨h.sets.1,own_apart h.sets.2 h2 tZ4 hg⟩,fun y hy=>(h.each y hy).apart h2 tZ4 tZ4 tZ4 tZ4 hg,⟨h.gr.1,own_apart h.gr.2 h2 tZ4 hg⟩⟩
theorem PartO.below {W W':World} {base:Nat} {S:FS SetR} {G:FS GT} (h:PartO W base S G) (hb:Below W.heap.size W W'):PartO W' base S G:=⟨h.sets.below hb,fun y hy=>(h.each y hy).below hb,h.gr.below hb⟩
theorem PartO.setb {W:World} {base:Nat} {S:FS SetR} {G:FS GT} (h:PartO W base S G) {p:Addr} (hp:p.block<base) (u:Value):PartO (W.setCell p u) base S G:=⟨h.sets.setb hp u,fun y hy=>(h.each y hy).setb hp u,h.gr.setb hp u⟩
theorem PartO.only {W W':World} {base lo hi:Nat} {S:FS SetR} {G:FS GT} (h:PartO W base S G) (hb:hi≤base) (ho:OnlyIn lo hi W W'):PartO W' base S G:=⟨h.sets.only hb ho,fun y hy=>(h.each y hy).only hb ho,h.gr.only hb ho⟩
theorem grown_cells (g:Nat) (cs:List Value):∀ (W:World) (o:Nat),W.grownBy (W.setCells g o cs) (some g):=by
 exact mZ142
theorem PartO.kept {W W':World} {base g:Nat} {S:FS SetR} {G:FS GT} (h:PartO W base S G) (hg:W.grownBy W' (some g)) (hb:g<base):PartO W' base S G:=⟨h.sets.kept hg hb,fun y hy=>(h.each y hy).kept hg hb,h.gr.kept hg hb⟩
theorem below_nil {W W':World} (hg:W.grownBy W' (Value.ownBlock (.slice none 0 0))):Below W.heap.size W W':=(Below.refl _ _).grown hg (Nat.le_refl _) (fun k hk=>by simp [Value.ownBlock] at hk)
set_option maxRecDepth 100000 in
set_option maxHeartbeats 8000000 in
theorem own14A_any (nm:BS) (qu nx:Int) (s1:Option Addr) (sn s3:Nat) (sl:List SetR) (g1:Option Addr) (gn g3:Nat) (gl:List GT) (t1:Option Addr) (tn t3:Nat) (tl:List StageR) (l1:Option Addr) (ln l3:Nat) (ll:List EntryR) (w:World) (B:Nat) (hB:B≤w.heap.size)
  (hr:TenR.rd w B ⟨nm,qu,nx,⟨s1,sn,s3,sl⟩,⟨g1,gn,g3,gl⟩,⟨t1,tn,t3,tl⟩,⟨l1,ln,l3,ll⟩⟩) (hz:TenR.sz ⟨nm,qu,nx,⟨s1,sn,s3,sl⟩,⟨g1,gn,g3,gl⟩,⟨t1,tn,t3,tl⟩,⟨l1,ln,l3,ll⟩⟩) (htn:tn≤500000000000) :
  Calls Tryz.prog 17 #[.agg #[.string ⟨nm.toArray⟩,.int .i64 qu,.int .i64 nx,.slice s1 sn s3,.slice g1 gn g3,.slice t1 tn t3,.slice l1 ln l3]] w fun e w'=>∃ y:TenR,e=.returned y.val∧TenO w' w.heap.size y∧TenR.eqv ⟨nm,qu,nx,⟨s1,sn,s3,sl⟩,⟨g1,gn,g3,gl⟩,⟨t1,tn,t3,tl⟩,⟨l1,ln,l3,ll⟩⟩ y∧y.sets.l.Pairwise ApartS∧Below w.heap.size w w':=by
 obtain ⟨p0,hp0,hpz,hp1,hp2⟩:=info_parts Tryz.clonePr_info
 obtain ⟨x0,hx0,hxz,hx1,hx2⟩:=info_parts Tryz.cloneSt_info
 obtain ⟨n0,hn0,hnz,hn1,hn2⟩:=info_parts Tryz.eachSnap_info
 obtain ⟨q0,hq0,hqz,hq1,hq2⟩:=info_parts Tryz.eachSet_info
 obtain ⟨y0,hy0,hyz,hy1,hy2⟩:=info_parts Tryz.cloneG_info
 obtain ⟨z0,hz0,hzz,hz1,hz2⟩:=info_parts Tryz.eachStage_info
 obtain ⟨e0,he0,hez,he1,he2⟩:=info_parts Tryz.cloneEn_info
 have HTN:Hid (tn=tl.length):=hr.stages.1
 have HGN:Hid (gn=gl.length):=hr.grants.1
 have HLN:Hid (ln=ll.length):=hr.log.1
 have hgn:gn≤1000000000000:=hz.grants
 have hln:ln≤1000000000000:=hz.log
 have HSN:Hid (sn=sl.length):=hr.sets.1
 have hsn:sn≤1000000000000:=hz.sets
 have hba:=((((Below.refl w.heap.size w).alloc (Nat.le_refl _) (.cells #[.string ⟨nm.toArray⟩,.int .i64 qu,.int .i64 nx,.slice s1 sn s3,.slice g1 gn g3,.slice t1 tn t3,.slice l1 ln l3] 27)).alloc tZ3 (.cells #[.string ⟨#[]⟩,.int .i64 0,.int .i64 0,.slice none 0 0,.slice none 0 0,.slice none 0 0,.slice none 0 0] 27)).alloc tZ7 (.cells #[.string ⟨nm.toArray⟩,.int .i64 qu,.int .i64 nx,.slice none 0 0,.slice none 0 0,.slice none 0 0,.slice none 0 0] 27))
 have ka:=((Blk.new w 27 #[.string ⟨nm.toArray⟩,.int .i64 qu,.int .i64 nx,.slice s1 sn s3,.slice g1 gn g3,.slice t1 tn t3,.slice l1 ln l3]).alloc (.cells #[.string ⟨#[]⟩,.int .i64 0,.int .i64 0,.slice none 0 0,.slice none 0 0,.slice none 0 0,.slice none 0 0] 27)).alloc (.cells #[.string ⟨nm.toArray⟩,.int .i64 qu,.int .i64 nx,.slice none 0 0,.slice none 0 0,.slice none 0 0,.slice none 0 0] 27)
 have kb:=(Blk.new (w.alloc (.cells #[.string ⟨nm.toArray⟩,.int .i64 qu,.int .i64 nx,.slice s1 sn s3,.slice g1 gn g3,.slice t1 tn t3,.slice l1 ln l3] 27)) 27 #[.string ⟨#[]⟩,.int .i64 0,.int .i64 0,.slice none 0 0,.slice none 0 0,.slice none 0 0,.slice none 0 0]).alloc (.cells #[.string ⟨nm.toArray⟩,.int .i64 qu,.int .i64 nx,.slice none 0 0,.slice none 0 0,.slice none 0 0,.slice none 0 0] 27)
 have kc:=Blk.new ((w.alloc (.cells #[.string ⟨nm.toArray⟩,.int .i64 qu,.int .i64 nx,.slice s1 sn s3,.slice g1 gn g3,.slice t1 tn t3,.slice l1 ln l3] 27)).alloc (.cells #[.string ⟨#[]⟩,.int .i64 0,.int .i64 0,.slice none 0 0,.slice none 0 0,.slice none 0 0,.slice none 0 0] 27)) 27 #[.string ⟨nm.toArray⟩,.int .i64 qu,.int .i64 nx,.slice none 0 0,.slice none 0 0,.slice none 0 0,.slice none 0 0]
 rw [show (w.alloc (.cells #[.string ⟨nm.toArray⟩,.int .i64 qu,.int .i64 nx,.slice s1 sn s3,.slice g1 gn g3,.slice t1 tn t3,.slice l1 ln l3] 27)).heap.size=w.heap.size+1 by simp] at kb
 rw [show ((w.alloc (.cells #[.string ⟨nm.toArray⟩,.int .i64 qu,.int .i64 nx,.slice s1 sn s3,.slice g1 gn g3,.slice t1 tn t3,.slice l1 ln l3] 27)).alloc (.cells #[.string ⟨#[]⟩,.int .i64 0,.int .i64 0,.slice none 0 0,.slice none 0 0,.slice none 0 0,.slice none 0 0] 27)).heap.size=w.heap.size+2 by simp] at kc
 obtain ⟨W3,hW3⟩:∃ W,W=((w.alloc (.cells #[.string ⟨nm.toArray⟩,.int .i64 qu,.int .i64 nx,.slice s1 sn s3,.slice g1 gn g3,.slice t1 tn t3,.slice l1 ln l3] 27)).alloc (.cells #[.string ⟨#[]⟩,.int .i64 0,.int .i64 0,.slice none 0 0,.slice none 0 0,.slice none 0 0,.slice none 0 0] 27)).alloc (.cells #[.string ⟨nm.toArray⟩,.int .i64 qu,.int .i64 nx,.slice none 0 0,.slice none 0 0,.slice none 0 0,.slice none 0 0] 27):=⟨_,rfl⟩
 rw [← hW3] at hba ka kb kc
 have HI0:Hid (Blk W3 w.heap.size 27 #[.string ⟨nm.toArray⟩,.int .i64 qu,.int .i64 nx,.slice s1 sn s3,.slice g1 gn g3,.slice t1 tn t3,.slice l1 ln l3]∧Blk W3 (w.heap.size+1) 27 #[.string ⟨#[]⟩,.int .i64 0,.int .i64 0,.slice none 0 0,.slice none 0 0,.slice none 0 0,.slice none 0 0]∧Blk W3 (w.heap.size+1+1) 27 #[.string ⟨nm.toArray⟩,.int .i64 qu,.int .i64 nx,.slice none 0 0,.slice none 0 0,.slice none 0 0,.slice none 0 0]∧Below w.heap.size w W3):=⟨ka,kb,kc,hba⟩
 have HR:Hid (∀ W,Below w.heap.size w W→TenR.rd W B ⟨nm,qu,nx,⟨s1,sn,s3,sl⟩,⟨g1,gn,g3,gl⟩,⟨t1,tn,t3,tl⟩,⟨l1,ln,l3,ll⟩⟩):=fun W hW=>TenR.rd.below hr (hW.mono hB)
 clear hba ka kb kc hr
 go_enter Tryz.func17,Tryz.ntmps17
 go_wp2_with fail
 rw [← hW3]
 clear hW3
 go_loopw [4] (fun a wo=>∃ (k:Nat) (ys:List SetR) (A:Option Addr) (c:Nat),k≤sn∧a=.int .i64 (k:Int)∧Hid (ys.length=k)∧Hid (Blk wo w.heap.size 27 #[.string ⟨nm.toArray⟩,.int .i64 qu,.int .i64 nx,.slice s1 sn s3,.slice g1 gn g3,.slice t1 tn t3,.slice l1 ln l3])∧Hid (Blk wo (w.heap.size+1) 27 #[.string ⟨#[]⟩,.int .i64 0,.int .i64 0,.slice none 0 0,.slice none 0 0,.slice none 0 0,.slice none 0 0])∧Hid (Blk wo (w.heap.size+1+1) 27 #[.string ⟨nm.toArray⟩,.int .i64 qu,.int .i64 nx,.slice A k c,.slice none 0 0,.slice none 0 0,.slice none 0 0])∧Hid (wo.ownsRow (w.heap.size+3) 56 5 (.slice A k c) k (cellsK encSet ys))∧Hid (∀ y∈ys,SetO wo (w.heap.size+3) y)∧Hid (EachR SetR.eqv (sl.take k) ys)∧Hid (ys.Pairwise ApartS)∧Hid (Below w.heap.size w wo)) (fun a _=>sn-(intOf a).toNat)
 case atStart=>exact ⟨0,[],none,0,Nat.zero_le _,rfl,rfl,HI0.out.1,HI0.out.2.1,HI0.out.2.2.1,World.ownsRow_nil _ _ _ _,fun z hz=>absurd hz tZ3,EachR.nil,List.Pairwise.nil,HI0.out.2.2.2⟩
 case round =>
  clear HI0
  obtain ⟨wo,hwo⟩:∃ W,W=wr:=⟨_,rfl⟩
  subst hwo
  obtain ⟨k,ys,A,c,hk,rfl,HYL,K0,K1,K2,HOW,HYS,HYE,HPW,HB⟩:=hrel
  have c3:=K0.out.cell 3
  simp only [zF,zD,zE] at c3
  have hrw:=HR.out wo HB.out
  by_cases hlt:k<sn
  ·have hki:(k:Int)<(sn:Int):=tZ1
   have hkl:k<sl.length:=tZ79
   obtain ⟨ad,rfl,hadB,p0,p1,p2,p3,p4⟩:=set_at hrw.sets.2.2 HSN.out hlt
   have HTK:=Lib.hid (show sl.take (k+1)=sl.take k++[sl[k]'hkl] from by rw [List.take_add_one,List.getElem?_eq_getElem hkl];rfl)
   have HXR:Hid (∀ W,Below wo.heap.size wo W→(sl[k]'hkl).rd W B):=by
    show ∀ W,_→_
    intro W hW
    exact (HR.out W (HB.out.trans (hW.mono tZ56))).eachS _ (List.getElem_mem hkl)
   have HXZ:=Lib.hid (hz.eachS _ (List.getElem_mem hkl))
   have HF:Hid (∀ W,Below wo.heap.size wo W→W.cell? ⟨w.heap.size,3,none⟩=some (.slice (some ad) sn s3)∧W.cell? ⟨(ad.add (k*5)).block,(ad.add (k*5)).off+3,none⟩=some (.slice (sl[k]'hkl).snaps.A (sl[k]'hkl).snaps.n (sl[k]'hkl).snaps.c)):=by
    show ∀ W,_→_
    intro W hW
    have hb0:=K0.out.below hW K0.out.lt
    obtain ⟨ad',e',_,_,_,_,q3,_⟩:=set_at (HR.out W (HB.out.trans (hW.mono tZ56))).sets.2.2 HSN.out hlt
    injection e' with e'
    subst e'
    exact ⟨hb0.cell 3,q3⟩
   obtain ⟨x,hx⟩:∃ x,x=sl[k]'hkl:=⟨_,rfl⟩
   simp only at p0 p1 p2 p3 p4
   rw [← hx] at p0 p1 p2 p3 p4 HTK HXR HXZ HF
   clear hx
   obtain ⟨pa,og,⟨bA,bn,bc,bl⟩,⟨zA,zn,zc,zl⟩,⟨oA,on,oc,ol⟩⟩:=x
   simp only at p0 p1 p2 p3 p4 HF
   have hrx:=HXR.out wo (Below.refl _ _)
   have hxn1:bn≤1000000000000:=HXZ.out.body
   have hxn2:zn≤1000000000000:=HXZ.out.snaps
   have hxn3:on≤1000000000000:=HXZ.out.own
   have HZN:Hid (zn=zl.length):=hrx.snaps.1
   have HBw:Hid (B≤wo.heap.size):=by { show B≤_;have:=HB.out.size;omega }
   have HBl0:=HBw
   have HT0:=Lib.hid (BoxSt.new (wi:=wo) (cs:=#[.string ⟨pa.toArray⟩,.string ⟨og.toArray⟩,.slice bA bn bc,.slice zA zn zc,.slice oA on oc]) (T:=56) rfl)
   have hcl:=rownT_any (cellsK encB bl) bn bA bc (wo.alloc (.cells #[.string ⟨pa.toArray⟩,.string ⟨og.toArray⟩,.slice bA bn bc,.slice zA zn zc,.slice oA on oc] 56)) B (HT0.out.reads hrx.body.2.2 HBw.out) (cells_one encB_one _) tZ1
   clear hadB hrw
   go_wp2_with fail
   refine hcl.mono ?_
   clear hcl p0 p1 p2 p3 p4 c3
   rintro e w1 ⟨v1,rfl,ho1,hb1⟩
   obtain ⟨A1,c1,rfl,_⟩:=own_form ho1
   have HO1:Hid (w1.ownsRow (wo.heap.size+1) 97 2 (.slice A1 bn c1) bn (cellsK encB bl)):=own_mono ho1 tZ3
   have HT1:=Lib.hid (HT0.out.step hb1)
   have e2:=HT1.out.blk.cell 2
   simp only [zF,zD,zE] at e2
   have f2:=HT1.out.blk.frozen 2
   have HXp0:Hid (BoxSt wo (w1.setCell ⟨wo.heap.size,2,none⟩ (.slice A1 bn c1)) wo.heap.size 56 #[.string ⟨pa.toArray⟩,.string ⟨og.toArray⟩,.slice A1 bn c1,.slice zA zn zc,.slice oA on oc]):=HT1.out.set 2 (.slice A1 bn c1)
   have e4:=(HXp0.out.made (.cells #[] 100)).blk.cell 4
   simp only [zF,zD,zE] at e4
   have HWp0:Hid (((w1.setCell ⟨wo.heap.size,2,none⟩ (.slice A1 bn c1)).alloc (.cells #[] 100)).ownsRow (wo.heap.size+1) 100 2 (.slice (some ⟨w1.heap.size,0,none⟩) 0 0) 0 []):=HXp0.out.made_own (size_set _ _ _)
   have HRp0:Hid (Reads ((w1.setCell ⟨wo.heap.size,2,none⟩ (.slice A1 bn c1)).alloc (.cells #[] 100)) B 2 oA on (cellsK encP ol)):=(HXp0.out.made (.cells #[] 100)).reads hrx.own.2.2 HBl0.out
   have HSp0:Hid (wo.heap.size+1≤((w1.setCell ⟨wo.heap.size,2,none⟩ (.slice A1 bn c1)).alloc (.cells #[] 100)).heap.size):=(HXp0.out.made (.cells #[] 100)).lt
   clear ho1 hb1 HT0
   go_wp2_with (first | (at_builtin;(refine wpList_append_any _ rfl (.tmp 31) (.tmp 33) _ rfl (wo.heap.size+1) 100 p0 _ 2 32 Tryz.underlying54 hp0 hpz hp1 hp2 rfl tZ1 (.slice (some ⟨w1.heap.size,0,none⟩) 0 0) 0 [] rfl HWp0.out B oA on oc _ rfl HRp0.out (cells_one encP_one _) tZ11 tZ1 HSp0.out ?_);intro v2 w2 ho2 hg2 _;rw [Nat.zero_add,List.nil_append] at ho2;obtain ⟨A2,c2,rfl,_⟩:=own_form ho2;have hb2:=below_made (size_set _ _ _) hg2;have HO1:=Lib.hid (own_box HO1.out hb2);have HO2:=Lib.hid ho2;have HT2:=Lib.hid (HXp0.out.step hb2);have e4:=HT2.out.blk.cell 4;simp only [zF,zD,zE] at e4;have f4:=HT2.out.blk.frozen 4;have HX4:Hid (BoxSt wo (w2.setCell ⟨wo.heap.size,4,none⟩ (.slice A2 on c2)) wo.heap.size 56 #[.string ⟨pa.toArray⟩,.string ⟨og.toArray⟩,.slice A1 bn c1,.slice zA zn zc,.slice A2 on c2]):=HT2.out.set 4 (.slice A2 on c2);have e3:=HX4.out.blk.cell 3;simp only [zF,zD,zE] at e3;have f3:=HX4.out.blk.frozen 3;have HX5:Hid (BoxSt wo ((w2.setCell ⟨wo.heap.size,4,none⟩ (.slice A2 on c2)).setCell ⟨wo.heap.size,3,none⟩ (.slice none 0 0)) wo.heap.size 56 #[.string ⟨pa.toArray⟩,.string ⟨og.toArray⟩,.slice A1 bn c1,.slice none 0 0,.slice A2 on c2]):=HX4.out.set 3 (.slice none 0 0);have HS0:Hid (Blk ((w2.setCell ⟨wo.heap.size,4,none⟩ (.slice A2 on c2)).setCell ⟨wo.heap.size,3,none⟩ (.slice none 0 0)) wo.heap.size 56 #[.string ⟨pa.toArray⟩,.string ⟨og.toArray⟩,.slice A1 bn c1,.slice none 0 0,.slice A2 on c2]∧((w2.setCell ⟨wo.heap.size,4,none⟩ (.slice A2 on c2)).setCell ⟨wo.heap.size,3,none⟩ (.slice none 0 0)).ownsRow (wo.heap.size+1) 97 2 (.slice A1 bn c1) bn (cellsK encB bl)∧((w2.setCell ⟨wo.heap.size,4,none⟩ (.slice A2 on c2)).setCell ⟨wo.heap.size,3,none⟩ (.slice none 0 0)).ownsRow (wo.heap.size+1) 100 2 (.slice A2 on c2) on (cellsK encP ol)∧Below wo.heap.size wo ((w2.setCell ⟨wo.heap.size,4,none⟩ (.slice A2 on c2)).setCell ⟨wo.heap.size,3,none⟩ (.slice none 0 0))):=⟨HX5.out.blk,own_setCell_below (own_setCell_below HO1.out (p:=⟨wo.heap.size,4,none⟩) tZ33 _) (p:=⟨wo.heap.size,3,none⟩) tZ33 _,own_setCell_below (own_setCell_below HO2.out (p:=⟨wo.heap.size,4,none⟩) tZ33 _) (p:=⟨wo.heap.size,3,none⟩) tZ33 _,HX5.out.low⟩;clear ho2 hg2 hb2 HT1 HXp0 HWp0 HRp0 HSp0 HX4 HX5 HT2 HO1 HO2))
   go_loopw [6] (fun a wr=>∃ (m:Nat) (zs:List SnapR) (Az:Option Addr) (cz:Nat),m≤zn∧a=.int .i64 (m:Int)∧Hid (zs.length=m)∧Hid (Blk wr wo.heap.size 56 #[.string ⟨pa.toArray⟩,.string ⟨og.toArray⟩,.slice A1 bn c1,.slice Az m cz,.slice A2 on c2])∧Hid (wr.ownsRow (wo.heap.size+1) 97 2 (.slice A1 bn c1) bn (cellsK encB bl))∧Hid (wr.ownsRow (wo.heap.size+1) 100 2 (.slice A2 on c2) on (cellsK encP ol))∧Hid (wr.ownsRow (wo.heap.size+1) 58 5 (.slice Az m cz) m (cellsK encSnap zs))∧Hid (∀ z∈zs,SnapO wr (wo.heap.size+1) z)∧Hid (EachR SnapR.eqv (zl.take m) zs)∧Hid (Below wo.heap.size wo wr)) (fun a _=>zn-(intOf a).toNat)
   case atStart=>exact ⟨0,[],none,0,Nat.zero_le _,rfl,rfl,HS0.out.1,HS0.out.2.1,HS0.out.2.2.1,World.ownsRow_nil _ _ _ _,fun z hz=>absurd hz tZ3,EachR.nil,HS0.out.2.2.2⟩
   case round =>
    clear HS0
    obtain ⟨m,zs,Az,cz,hm,rfl,HZL,HKB,HOA,HOB,HZ,HZS,HZE,HBI⟩:=hrel
    obtain ⟨c3,s3c⟩:=HF.out wr HBI.out
    by_cases hmn:m<zn
    ·have hmi:(m:Int)<(zn:Int):=tZ1
     have hml:m<zl.length:=tZ99
     obtain ⟨ad2,rfl,hadB2,r0,r1,r2,r3,r4⟩:=snap_at (HXR.out wr HBI.out).snaps.2.2 HZN.out hmn
     have hry:=(HXR.out wr HBI.out).each _ (List.getElem_mem hml)
     have hysz:=HXZ.out.each _ (List.getElem_mem hml)
     have HTK:=Lib.hid (show zl.take (m+1)=zl.take m++[zl[m]'hml] from by rw [List.take_add_one,List.getElem?_eq_getElem hml];rfl)
     obtain ⟨y,hy⟩:∃ y,y=zl[m]'hml:=⟨_,rfl⟩
     simp only at r0 r1 r2 r3 r4 hry hysz
     rw [← hy] at r0 r1 r2 r3 r4 hry hysz HTK
     clear hy
     obtain ⟨ynm,ygd,⟨yb1,ybn,yb3,ybl⟩,⟨yt1,ytn,yt3,ytl⟩,⟨yo1,yon,yo3,yol⟩⟩:=y
     simp only at r0 r1 r2 r3 r4
     have hyn1:ybn≤1000000000000:=hysz.body
     have hyn2:ytn≤1000000000000:=hysz.tags
     have hyn3:yon≤1000000000000:=hysz.own
     have HBlp0:Hid (B≤wr.heap.size):=by { show B≤_;have h1:=HBI.out.size;have h2:=HBw.out;omega }
     have HBl0:=HBlp0
     have HT0:=Lib.hid (BoxSt.new (wi:=wr) (cs:=#[.string ⟨ynm.toArray⟩,.int .i64 ygd,.slice yb1 ybn yb3,.slice yt1 ytn yt3,.slice yo1 yon yo3]) (T:=58) rfl)
     have hcl:=rownT_any (cellsK encB ybl) ybn yb1 yb3 (wr.alloc (.cells #[.string ⟨ynm.toArray⟩,.int .i64 ygd,.slice yb1 ybn yb3,.slice yt1 ytn yt3,.slice yo1 yon yo3] 58)) B (HT0.out.reads hry.body.2.2 HBlp0.out) (cells_one encB_one _) tZ1
     clear hadB2 hysz
     go_wp2_with fail
     refine hcl.mono ?_
     clear hcl r0 r1 r2 r3 r4
     rintro e w1 ⟨v1,rfl,ho1,hb1⟩
     obtain ⟨B1,d1,rfl,_⟩:=own_form ho1
     have HO1:Hid (w1.ownsRow (wr.heap.size+1) 97 2 (.slice B1 ybn d1) ybn (cellsK encB ybl)):=own_mono ho1 tZ3
     have HT1:=Lib.hid (HT0.out.step hb1)
     have e2:=HT1.out.blk.cell 2
     simp only [zF,zD,zE] at e2
     have f2:=HT1.out.blk.frozen 2
     have HXp0:Hid (BoxSt wr (w1.setCell ⟨wr.heap.size,2,none⟩ (.slice B1 ybn d1)) wr.heap.size 58 #[.string ⟨ynm.toArray⟩,.int .i64 ygd,.slice B1 ybn d1,.slice yt1 ytn yt3,.slice yo1 yon yo3]):=HT1.out.set 2 (.slice B1 ybn d1)
     have e4:=(HXp0.out.made (.cells #[] 100)).blk.cell 4
     simp only [zF,zD,zE] at e4
     have HWp0:Hid (((w1.setCell ⟨wr.heap.size,2,none⟩ (.slice B1 ybn d1)).alloc (.cells #[] 100)).ownsRow (wr.heap.size+1) 100 2 (.slice (some ⟨w1.heap.size,0,none⟩) 0 0) 0 []):=HXp0.out.made_own (size_set _ _ _)
     have HRp0:Hid (Reads ((w1.setCell ⟨wr.heap.size,2,none⟩ (.slice B1 ybn d1)).alloc (.cells #[] 100)) B 2 yo1 yon (cellsK encP yol)):=(HXp0.out.made (.cells #[] 100)).reads hry.own.2.2 HBl0.out
     have HSp0:Hid (wr.heap.size+1≤((w1.setCell ⟨wr.heap.size,2,none⟩ (.slice B1 ybn d1)).alloc (.cells #[] 100)).heap.size):=(HXp0.out.made (.cells #[] 100)).lt
     clear ho1 hb1 HT0
     go_wp2_with (first | (at_builtin;(refine wpList_append_any _ rfl (.tmp 61) (.tmp 63) _ rfl (wr.heap.size+1) 100 p0 _ 2 32 Tryz.underlying54 hp0 hpz hp1 hp2 rfl tZ1 (.slice (some ⟨w1.heap.size,0,none⟩) 0 0) 0 [] rfl HWp0.out B yo1 yon yo3 _ rfl HRp0.out (cells_one encP_one _) tZ11 tZ1 HSp0.out ?_);intro v2 w2 ho2 hg2 _;rw [Nat.zero_add,List.nil_append] at ho2;obtain ⟨B2,d2,rfl,_⟩:=own_form ho2;have hb2:=below_made (size_set _ _ _) hg2;have HO1:=Lib.hid (own_box HO1.out hb2);have HO2:=Lib.hid ho2;have HT2:=Lib.hid (HXp0.out.step hb2);have e4:=HT2.out.blk.cell 4;simp only [zF,zD,zE] at e4;have f4:=HT2.out.blk.frozen 4;have HXt0:Hid (BoxSt wr (w2.setCell ⟨wr.heap.size,4,none⟩ (.slice B2 yon d2)) wr.heap.size 58 #[.string ⟨ynm.toArray⟩,.int .i64 ygd,.slice B1 ybn d1,.slice yt1 ytn yt3,.slice B2 yon d2]):=HT2.out.set 4 (.slice B2 yon d2);have e3:=(HXt0.out.made (.cells #[] 9)).blk.cell 3;simp only [zF,zD,zE] at e3;have HWt0:Hid (((w2.setCell ⟨wr.heap.size,4,none⟩ (.slice B2 yon d2)).alloc (.cells #[] 9)).ownsRow (wr.heap.size+1) 9 1 (.slice (some ⟨w2.heap.size,0,none⟩) 0 0) 0 []):=HXt0.out.made_own (size_set _ _ _);have HRt0:Hid (Reads ((w2.setCell ⟨wr.heap.size,4,none⟩ (.slice B2 yon d2)).alloc (.cells #[] 9)) B 1 yt1 ytn (cellsK encS ytl)):=(HXt0.out.made (.cells #[] 9)).reads hry.tags.2.2 HBl0.out;have HSt0:Hid (wr.heap.size+1≤((w2.setCell ⟨wr.heap.size,4,none⟩ (.slice B2 yon d2)).alloc (.cells #[] 9)).heap.size):=(HXt0.out.made (.cells #[] 9)).lt;clear ho2 hg2 hb2 HT1 HXp0 HWp0 HRp0 HSp0) | (at_builtin;(refine wpList_append_any _ rfl (.tmp 66) (.tmp 68) _ rfl (wr.heap.size+1) 9 x0 _ 1 16 Tryz.underlying51 hx0 hxz hx1 hx2 rfl tZ1 (.slice (some ⟨w2.heap.size,0,none⟩) 0 0) 0 [] rfl HWt0.out B yt1 ytn yt3 _ rfl HRt0.out (cells_one encS_one _) tZ11 tZ1 HSt0.out ?_);intro v3 w3 ho3 hg3 _;rw [Nat.zero_add,List.nil_append] at ho3;obtain ⟨B3,d3,rfl,_⟩:=own_form ho3;have hb3:=below_made (size_set _ _ _) hg3;have HO1:=Lib.hid (own_box HO1.out hb3);have HO2:=Lib.hid (own_box HO2.out hb3);have HO3:=Lib.hid ho3;have HT3:=Lib.hid (HXt0.out.step hb3);have e3:=HT3.out.blk.cell 3;simp only [zF,zD,zE] at e3;have f3:=HT3.out.blk.frozen 3;have HX3:Hid (BoxSt wr (w3.setCell ⟨wr.heap.size,3,none⟩ (.slice B3 ytn d3)) wr.heap.size 58 #[.string ⟨ynm.toArray⟩,.int .i64 ygd,.slice B1 ybn d1,.slice B3 ytn d3,.slice B2 yon d2]):=HT3.out.set 3 (.slice B3 ytn d3);have k0:=HX3.out.blk.cell 0;have k1:=HX3.out.blk.cell 1;have k2:=HX3.out.blk.cell 2;have k3:=HX3.out.blk.cell 3;have k4:=HX3.out.blk.cell 4;simp only [zF,zD,zE] at k0 k1 k2 k3 k4;have kb:=HKB.out.below HX3.out.low HKB.out.lt;have kb3:=kb.cell 3;simp only [zF,zD,zE] at kb3;have HZ3:Hid ((w3.setCell ⟨wr.heap.size,3,none⟩ (.slice B3 ytn d3)).ownsRow (wo.heap.size+1) 58 5 (.slice Az m cz) m (cellsK encSnap zs)):=own_below HZ.out HX3.out.low;have HBS:Hid (wo.heap.size+1≤(w3.setCell ⟨wr.heap.size,3,none⟩ (.slice B3 ytn d3)).heap.size):=by { show _≤_;have h1:=HX3.out.lt;have h2:=HKB.out.lt;omega };clear ho3 hg3 hb3 HT2 HXt0 HWt0 HRt0 HSt0 kb) | (at_builtin;(refine wpList_push _ rfl (.tmp 72) (.tmp 74) _ rfl (wo.heap.size+1) 58 n0 _ 5 96 Tryz.underlying53 hn0 hnz hn1 hn2 rfl tZ1 (.slice Az m cz) m _ rfl HZ3.out 1 #[.string ⟨ynm.toArray⟩,.int .i64 ygd,.slice B1 ybn d1,.slice B3 ytn d3,.slice B2 yon d2] _ (by rw [size_set];rfl) rfl tZ5 tZ11 tZ1 HBS.out ?_);intro v5 w5 ho5 hb5 hg5;have ho5:w5.ownsRow (wo.heap.size+1) 58 5 v5 (m+1) (cellsK encSnap (zs++[⟨ynm,ygd,⟨B1,ybn,d1,ybl⟩,⟨B3,ytn,d3,ytl⟩,⟨B2,yon,d2,yol⟩⟩])):=by { rw [cellsK_append,cellsK_one];exact ho5 };obtain ⟨A5,d5,rfl,_⟩:=own_form ho5;have hS3:SnapO (w3.setCell ⟨wr.heap.size,3,none⟩ (.slice B3 ytn d3)) (wr.heap.size+1) ⟨ynm,ygd,⟨B1,ybn,d1,ybl⟩,⟨B3,ytn,d3,ytl⟩,⟨B2,yon,d2,yol⟩⟩:=⟨⟨hry.body.1,own_setCell_below HO1.out (p:=⟨wr.heap.size,3,none⟩) tZ58 _⟩,⟨hry.tags.1,own_setCell_below HO3.out (p:=⟨wr.heap.size,3,none⟩) tZ58 _⟩,⟨hry.own.1,own_setCell_below HO2.out (p:=⟨wr.heap.size,3,none⟩) tZ58 _⟩⟩;have hS5:SnapO w5 (wo.heap.size+1) ⟨ynm,ygd,⟨B1,ybn,d1,ybl⟩,⟨B3,ytn,d3,ytl⟩,⟨B2,yon,d2,yol⟩⟩:=(hS3.apart HZ3.out tZ4 tZ4 tZ4 hg5).mono (by have:=HKB.out.lt;omega);have hZS:∀ z∈zs++[⟨ynm,ygd,⟨B1,ybn,d1,ybl⟩,⟨B3,ytn,d3,ytl⟩,⟨B2,yon,d2,yol⟩⟩],SnapO (w5.setCell ⟨wo.heap.size,3,none⟩ (.slice A5 (m+1) d5)) (wo.heap.size+1) z:=fun z hz=>(List.mem_append.1 hz).elim (fun hz=>(((HZS.out z hz).below HX3.out.low).apart HZ3.out tZ4 tZ4 tZ4 hg5).setb (p:=⟨wo.heap.size,3,none⟩) tZ33 _) (fun hz=>by rw [List.mem_singleton.1 hz];exact hS5.setb (p:=⟨wo.heap.size,3,none⟩) tZ33 _);have kb5:Blk w5 wo.heap.size 56 #[.string ⟨pa.toArray⟩,.string ⟨og.toArray⟩,.slice A1 bn c1,.slice Az m cz,.slice A2 on c2]:=blk_apart (HKB.out.below HX3.out.low HKB.out.lt) HZ3.out tZ4 hg5;have gz3:=kb5.cell 3;simp only [zF,zD,zE] at gz3;have hz3:=kb5.frozen 3;have HG:Hid (Blk (w5.setCell ⟨wo.heap.size,3,none⟩ (.slice A5 (m+1) d5)) wo.heap.size 56 #[.string ⟨pa.toArray⟩,.string ⟨og.toArray⟩,.slice A1 bn c1,.slice A5 (m+1) d5,.slice A2 on c2]∧(w5.setCell ⟨wo.heap.size,3,none⟩ (.slice A5 (m+1) d5)).ownsRow (wo.heap.size+1) 97 2 (.slice A1 bn c1) bn (cellsK encB bl)∧(w5.setCell ⟨wo.heap.size,3,none⟩ (.slice A5 (m+1) d5)).ownsRow (wo.heap.size+1) 100 2 (.slice A2 on c2) on (cellsK encP ol)∧(w5.setCell ⟨wo.heap.size,3,none⟩ (.slice A5 (m+1) d5)).ownsRow (wo.heap.size+1) 58 5 (.slice A5 (m+1) d5) (m+1) (cellsK encSnap (zs++[⟨ynm,ygd,⟨B1,ybn,d1,ybl⟩,⟨B3,ytn,d3,ytl⟩,⟨B2,yon,d2,yol⟩⟩]))∧Below wo.heap.size wo (w5.setCell ⟨wo.heap.size,3,none⟩ (.slice A5 (m+1) d5))):=⟨kb5.set_ 3 _,own_setCell_below (own_apart (own_below HOA.out HX3.out.low) HZ3.out tZ4 hg5) (p:=⟨wo.heap.size,3,none⟩) tZ33 _,own_setCell_below (own_apart (own_below HOB.out HX3.out.low) HZ3.out tZ4 hg5) (p:=⟨wo.heap.size,3,none⟩) tZ33 _,own_setCell_below ho5 (p:=⟨wo.heap.size,3,none⟩) tZ33 _,((HBI.out.trans (HX3.out.low.mono (by have:=HKB.out.lt;omega))).trans (hb5.mono tZ1)).setCell (Nat.le_refl _) _⟩;have HZS5:=Lib.hid hZS;clear ho5 hb5 hg5 hS3 hS5 hZS kb5 HX3 HO1 HO2 HO3 HT3 HZ3 HZ HZS HKB HOA HOB HBI k0 k1 k2 k3 k4 kb3 e3 f3))
     go_roundw
     case rel=>exact ⟨m+1,_,A5,d5,by omega,by go_num,(show _=_ by rw [List.length_append,HZL.out];rfl),HG.out.1,HG.out.2.1,HG.out.2.2.1,HG.out.2.2.2.1,HZS5.out,(show EachR _ _ _ by rw [HTK.out];exact HZE.out.snoc ⟨rfl,rfl,rfl,rfl,rfl⟩),HG.out.2.2.2.2⟩
     case measure=>simp [intOf];omega
    ·have hmi:¬ (m:Int)<(zn:Int):=tZ1
     obtain rfl:m=zn:=tZ1
     have kb2:=K2.out.below HBI.out K2.out.lt
     have j3:=kb2.cell 3
     simp only [zF,zD,zE] at j3
     have k0:=HKB.out.cell 0
     have k1:=HKB.out.cell 1
     have k2:=HKB.out.cell 2
     have k3:=HKB.out.cell 3
     have k4:=HKB.out.cell 4
     simp only [zF,zD,zE] at k0 k1 k2 k3 k4
     have HSW:Hid (wr.ownsRow (w.heap.size+3) 56 5 (.slice A k c) k (cellsK encSet ys)):=own_below HOW.out HBI.out
     have HBS:Hid ((w.heap.size+3)≤wr.heap.size):=by { show _≤_;have h1:=K2.out.lt;have h2:=HBI.out.size;omega }
     have HEX:Hid (EachR SnapR.eqv zl zs):=by
      show EachR _ _ _
      have:=HZE.out
      rw [HZN.out,List.take_length] at this
      exact this
     clear kb2 hmn hm HZE
     go_wp2_with (at_builtin;(refine wpList_push _ rfl (.tmp 78) (.tmp 80) _ rfl (w.heap.size+3) 56 q0 _ 5 104 Tryz.underlying22 hq0 hqz hq1 hq2 rfl tZ1 (.slice A k c) k _ rfl HSW.out 1 #[.string ⟨pa.toArray⟩,.string ⟨og.toArray⟩,.slice A1 bn c1,.slice Az m cz,.slice A2 on c2] _ rfl rfl tZ5 tZ11 tZ1 HBS.out ?_);intro v5 w5 ho5 hb5 hg5;have ho5:w5.ownsRow (w.heap.size+3) 56 5 v5 (k+1) (cellsK encSet (ys++[⟨pa,og,⟨A1,bn,c1,bl⟩,⟨Az,m,cz,zs⟩,⟨A2,on,c2,ol⟩⟩])):=by { rw [cellsK_append,cellsK_one];exact ho5 };obtain ⟨A5,d5,rfl,_⟩:=own_form ho5;have hS3:SetO wr (wo.heap.size+1) ⟨pa,og,⟨A1,bn,c1,bl⟩,⟨Az,m,cz,zs⟩,⟨A2,on,c2,ol⟩⟩:=⟨⟨HXR.out wo (Below.refl _ _) |>.body.1,HOA.out⟩,⟨HZL.out.symm,HZ.out⟩,HZS.out,⟨HXR.out wo (Below.refl _ _) |>.own.1,HOB.out⟩⟩;have hS5:SetO w5 (w.heap.size+3) ⟨pa,og,⟨A1,bn,c1,bl⟩,⟨Az,m,cz,zs⟩,⟨A2,on,c2,ol⟩⟩:=(hS3.apart HSW.out tZ4 tZ4 tZ4 tZ4 hg5).mono (by have:=K2.out.lt;omega);have hYS:∀ z∈ys++[⟨pa,og,⟨A1,bn,c1,bl⟩,⟨Az,m,cz,zs⟩,⟨A2,on,c2,ol⟩⟩],SetO (w5.setCell ⟨(w.heap.size+1+1),3,none⟩ (.slice A5 (k+1) d5)) (w.heap.size+3) z:=fun z hz=>(List.mem_append.1 hz).elim (fun hz=>(((HYS.out z hz).below HBI.out).apart HSW.out tZ4 tZ4 tZ4 tZ4 hg5).setb (p:=⟨(w.heap.size+1+1),3,none⟩) tZ16 _) (fun hz=>by rw [List.mem_singleton.1 hz];exact hS5.setb (p:=⟨(w.heap.size+1+1),3,none⟩) tZ16 _);have kc5:=blk_apart (K2.out.below HBI.out K2.out.lt) HSW.out tZ4 hg5;have gz3:=kc5.cell 3;simp only [zF,zD,zE] at gz3;have hz3:=kc5.frozen 3;have HG:Hid (Blk (w5.setCell ⟨(w.heap.size+1+1),3,none⟩ (.slice A5 (k+1) d5)) w.heap.size 27 #[.string ⟨nm.toArray⟩,.int .i64 qu,.int .i64 nx,.slice (some ad) sn s3,.slice g1 gn g3,.slice t1 tn t3,.slice l1 ln l3]∧Blk (w5.setCell ⟨(w.heap.size+1+1),3,none⟩ (.slice A5 (k+1) d5)) (w.heap.size+1) 27 #[.string ⟨#[]⟩,.int .i64 0,.int .i64 0,.slice none 0 0,.slice none 0 0,.slice none 0 0,.slice none 0 0]∧Blk (w5.setCell ⟨(w.heap.size+1+1),3,none⟩ (.slice A5 (k+1) d5)) (w.heap.size+1+1) 27 #[.string ⟨nm.toArray⟩,.int .i64 qu,.int .i64 nx,.slice A5 (k+1) d5,.slice none 0 0,.slice none 0 0,.slice none 0 0]∧(w5.setCell ⟨(w.heap.size+1+1),3,none⟩ (.slice A5 (k+1) d5)).ownsRow (w.heap.size+3) 56 5 (.slice A5 (k+1) d5) (k+1) (cellsK encSet (ys++[⟨pa,og,⟨A1,bn,c1,bl⟩,⟨Az,m,cz,zs⟩,⟨A2,on,c2,ol⟩⟩]))∧Below w.heap.size w (w5.setCell ⟨(w.heap.size+1+1),3,none⟩ (.slice A5 (k+1) d5))):=⟨(blk_apart (K0.out.below HBI.out K0.out.lt) HSW.out tZ4 hg5).far tZ61 _,(blk_apart (K1.out.below HBI.out K1.out.lt) HSW.out tZ4 hg5).far tZ45 _,kc5.set_ 3 _,own_setCell_below ho5 (p:=⟨(w.heap.size+1+1),3,none⟩) tZ16 _,((HB.out.trans (HBI.out.mono tZ56)).trans (hb5.mono tZ1)).setCell tZ49 _⟩;have HYS5:=Lib.hid hYS;have HPW5:Hid (List.Pairwise ApartS (ys++[⟨pa,og,⟨A1,bn,c1,bl⟩,⟨Az,m,cz,zs⟩,⟨A2,on,c2,ol⟩⟩])):=List.pairwise_append.2 ⟨HPW.out,List.pairwise_singleton _ _,fun z hz u hu=>by { rw [List.mem_singleton.1 hu];exact apart_of _ _ wo wr z _ (HYS.out z hz) hS3 tZ1 }⟩;clear ho5 hb5 hg5 hS3 hS5 hYS kc5 HSW HOA HOB HZ HZS K0 K1 K2 HOW HB HBI HYS HPW k0 k1 k2 k3 k4 j3)
     go_roundw
     case rel=>exact ⟨k+1,_,A5,d5,by omega,by go_num,(show _=_ by rw [List.length_append,HYL.out];rfl),HG.out.1,HG.out.2.1,HG.out.2.2.1,HG.out.2.2.2.1,HYS5.out,(show EachR _ _ _ by rw [HTK.out];exact HYE.out.snoc ⟨rfl,rfl,rfl,HEX.out.1,HEX.out.2,rfl⟩),HPW5.out,HG.out.2.2.2.2⟩
     case measure=>simp [intOf];omega
  ·have hki:¬ (k:Int)<(sn:Int):=tZ1
   obtain rfl:k=sn:=tZ1
   have c4:=K0.out.cell 4
   have j4:=K2.out.cell 4
   simp only [zF,zD,zE] at c4 j4
   have HRG:=Lib.hid (HR.out wo HB.out).grants.2.2
   have HSB:Hid ((w.heap.size+3)≤wo.heap.size):=K2.out.lt
   clear hrw hlt hk
   go_wp2_with (at_builtin;(refine wpList_append_any _ rfl (.tmp 84) (.tmp 86) _ rfl (w.heap.size+3) 104 y0 _ 3 40 Tryz.underlying23 hy0 hyz hy1 hy2 rfl tZ1 (.slice none 0 0) 0 [] rfl (World.ownsRow_nil _ _ _ _) B g1 gn g3 _ rfl HRG.out (cells_one encG_one _) tZ11 tZ1 HSB.out ?_);intro v6 w6 ho6 hg6 _;rw [Nat.zero_add,List.nil_append] at ho6;obtain ⟨A6,d6,rfl,_⟩:=own_form ho6;have hb6:=below_nil hg6;have kc6:=K2.out.below hb6 K2.out.lt;have gz4:=kc6.cell 4;simp only [zF,zD,zE] at gz4;have hz4:=kc6.frozen 4;have HI1:Hid (Blk (w6.setCell ⟨(w.heap.size+1+1),4,none⟩ (.slice A6 gn d6)) w.heap.size 27 #[.string ⟨nm.toArray⟩,.int .i64 qu,.int .i64 nx,.slice s1 k s3,.slice g1 gn g3,.slice t1 tn t3,.slice l1 ln l3]∧Blk (w6.setCell ⟨(w.heap.size+1+1),4,none⟩ (.slice A6 gn d6)) (w.heap.size+1) 27 #[.string ⟨#[]⟩,.int .i64 0,.int .i64 0,.slice none 0 0,.slice none 0 0,.slice none 0 0,.slice none 0 0]∧Blk (w6.setCell ⟨(w.heap.size+1+1),4,none⟩ (.slice A6 gn d6)) (w.heap.size+1+1) 27 #[.string ⟨nm.toArray⟩,.int .i64 qu,.int .i64 nx,.slice A k c,.slice A6 gn d6,.slice none 0 0,.slice none 0 0]∧PartO (w6.setCell ⟨(w.heap.size+1+1),4,none⟩ (.slice A6 gn d6)) (w.heap.size+3) ⟨A,k,c,ys⟩ ⟨A6,gn,d6,gl⟩∧Below w.heap.size w (w6.setCell ⟨(w.heap.size+1+1),4,none⟩ (.slice A6 gn d6))):=⟨(K0.out.below hb6 K0.out.lt).far tZ61 _,(K1.out.below hb6 K1.out.lt).far tZ45 _,kc6.set_ 4 _,⟨⟨HYL.out.symm,own_setCell_below (own_below HOW.out hb6) (p:=⟨(w.heap.size+1+1),4,none⟩) tZ16 _⟩,fun y hy=>((HYS.out y hy).below hb6).setb (p:=⟨(w.heap.size+1+1),4,none⟩) tZ16 _,⟨HGN.out,own_setCell_below ho6 (p:=⟨(w.heap.size+1+1),4,none⟩) tZ16 _⟩⟩,(HB.out.trans (hb6.mono tZ56)).setCell tZ49 _⟩;clear ho6 hg6 hb6 kc6 K0 K1 K2 HOW HYS HB HYL HRG HSB c4 j4)
   go_loopw [8] (fun a wr=>∃ (m:Nat) (ts:List StageR) (At:Option Addr) (ct:Nat),m≤tn∧a=.int .i64 (m:Int)∧Hid (ts.length=m)∧Hid (Blk wr w.heap.size 27 #[.string ⟨nm.toArray⟩,.int .i64 qu,.int .i64 nx,.slice s1 k s3,.slice g1 gn g3,.slice t1 tn t3,.slice l1 ln l3])∧Hid (Blk wr (w.heap.size+1) 27 #[.string ⟨#[]⟩,.int .i64 0,.int .i64 0,.slice none 0 0,.slice none 0 0,.slice none 0 0,.slice none 0 0])∧Hid (Blk wr (w.heap.size+1+1) 27 #[.string ⟨nm.toArray⟩,.int .i64 qu,.int .i64 nx,.slice A k c,.slice A6 gn d6,.slice At m ct,.slice none 0 0])∧Hid (PartO wr (w.heap.size+3) ⟨A,k,c,ys⟩ ⟨A6,gn,d6,gl⟩)∧Hid (wr.ownsRow (w.heap.size+3) 77 21 (.slice At m ct) m (cellsK encStage ts))∧Hid (∀ z∈ts,StageO wr (w.heap.size+3) z)∧Hid (EachR StageR.eqv (tl.take m) ts)∧Hid (Below w.heap.size w wr)) (fun a _=>tn-(intOf a).toNat)
   case atStart=>exact ⟨0,[],none,0,Nat.zero_le _,rfl,rfl,HI1.out.1,HI1.out.2.1,HI1.out.2.2.1,HI1.out.2.2.2.1,World.ownsRow_nil _ _ _ _,fun z hz=>absurd hz tZ3,EachR.nil,HI1.out.2.2.2.2⟩
   case round =>
    clear HI1
    obtain ⟨m,ts,At,ct,hm,rfl,HTL,K0,K1,K2,HPO,HTS,HTO,HTE,HB⟩:=hrel
    have c5:=K0.out.cell 5
    simp only [zF,zD,zE] at c5
    have hrw:=HR.out wr HB.out
    by_cases hmn:m<tn
    ·have hmi:(m:Int)<(tn:Int):=tZ1
     have hml:m<tl.length:=tZ78
     obtain ⟨ad3,rfl,hadB3,hel⟩:=Reads.elAll (enc:=encStage) (k:=21) (fun _=>rfl) hrw.stages.2.2 HTN.out hmn
     have hrq:=hrw.eachG _ (List.getElem_mem hml)
     have hqsz:=hz.eachT _ (List.getElem_mem hml)
     have HTK:=Lib.hid (show tl.take (m+1)=tl.take m++[tl[m]'hml] from by rw [List.take_add_one,List.getElem?_eq_getElem hml];rfl)
     obtain ⟨x,hx⟩:∃ x,x=tl[m]'hml:=⟨_,rfl⟩
     rw [← hx] at hel hrq hqsz HTK
     clear hx
     obtain ⟨qinto,qkind,qnm,qfrm,qgd,⟨qo1,qon,qo3,qol⟩,qix,qct,qdt,⟨qsa,qsb,qsc,qsd⟩,⟨qb1,qbn,qb3,qbl⟩,qat,qnx,⟨qua,qub,quc,qud⟩,qdone⟩:=x
     have HEL:Hid (∀ j v,([.string ⟨qinto.toArray⟩,.int .i64 qkind,.string ⟨qnm.toArray⟩,.int .i64 qfrm,.int .i64 qgd,.slice qo1 qon qo3,.int .i64 qix,.int .i64 qct,.string ⟨qdt.toArray⟩,.int .u64 qsa,.int .u64 qsb,.int .u64 qsc,.int .u64 qsd,.slice qb1 qbn qb3,.int .i64 qat,.int .i64 qnx,.int .u64 qua,.int .u64 qub,.int .u64 quc,.int .u64 qud,.bool qdone]:List Value)[j]?=some v→wr.cell? ((ad3.add (m*21)).add j)=some v):=hel
     have hqn1:qbn≤1000000000000:=hqsz.body
     have hqn2:qon≤1000000000000:=hqsz.own
     have HBlp0:Hid (B≤wr.heap.size):=by { show B≤_;have:=HB.out.size;omega }
     have HBl0:=HBlp0
     have HT0:=Lib.hid (BoxSt.new (wi:=wr) (cs:=#[.string ⟨qinto.toArray⟩,.int .i64 qkind,.string ⟨qnm.toArray⟩,.int .i64 qfrm,.int .i64 qgd,.slice qo1 qon qo3,.int .i64 qix,.int .i64 qct,.string ⟨qdt.toArray⟩,.int .u64 qsa,.int .u64 qsb,.int .u64 qsc,.int .u64 qsd,.slice qb1 qbn qb3,.int .i64 qat,.int .i64 qnx,.int .u64 qua,.int .u64 qub,.int .u64 quc,.int .u64 qud,.bool qdone]) (T:=77) rfl)
     have hcl:=rownT_any (cellsK encB qbl) qbn qb1 qb3 (wr.alloc (.cells #[.string ⟨qinto.toArray⟩,.int .i64 qkind,.string ⟨qnm.toArray⟩,.int .i64 qfrm,.int .i64 qgd,.slice qo1 qon qo3,.int .i64 qix,.int .i64 qct,.string ⟨qdt.toArray⟩,.int .u64 qsa,.int .u64 qsb,.int .u64 qsc,.int .u64 qsd,.slice qb1 qbn qb3,.int .i64 qat,.int .i64 qnx,.int .u64 qua,.int .u64 qub,.int .u64 quc,.int .u64 qud,.bool qdone] 77)) B (HT0.out.reads hrq.body.2.2 HBlp0.out) (cells_one encB_one _) tZ1
     have e13:=HT0.out.blk.cell 13
     simp only [zF,zD,zE] at e13
     clear hadB3 hqsz hel hrw
     go_wp2_with (first | (refine wpList_load_at rfl 77 (.tmp 99) rfl (ad3.add (m*21)) rfl [.string ⟨qinto.toArray⟩,.int .i64 qkind,.string ⟨qnm.toArray⟩,.int .i64 qfrm,.int .i64 qgd,.slice qo1 qon qo3,.int .i64 qix,.int .i64 qct,.string ⟨qdt.toArray⟩,.int .u64 qsa,.int .u64 qsb,.int .u64 qsc,.int .u64 qsd,.slice qb1 qbn qb3,.int .i64 qat,.int .i64 qnx,.int .u64 qua,.int .u64 qub,.int .u64 quc,.int .u64 qud,.bool qdone] _ HEL.out Tryz.underlying77 rfl tZ2 ?_) | (refine wpList_store_new wr rfl 77 (.tmp 9) (.tmp 100) rfl 77 _ [.string ⟨qinto.toArray⟩,.int .i64 qkind,.string ⟨qnm.toArray⟩,.int .i64 qfrm,.int .i64 qgd,.slice qo1 qon qo3,.int .i64 qix,.int .i64 qct,.string ⟨qdt.toArray⟩,.int .u64 qsa,.int .u64 qsb,.int .u64 qsc,.int .u64 qsd,.slice qb1 qbn qb3,.int .i64 qat,.int .i64 qnx,.int .u64 qua,.int .u64 qub,.int .u64 quc,.int .u64 qud,.bool qdone] rfl rfl rfl tZ2 tZ5 ?_))
     refine hcl.mono ?_
     clear hcl HEL e13
     rintro e w1 ⟨v1,rfl,ho1,hb1⟩
     obtain ⟨B1,d1,rfl,_⟩:=own_form ho1
     have HO1:Hid (w1.ownsRow (wr.heap.size+1) 97 2 (.slice B1 qbn d1) qbn (cellsK encB qbl)):=own_mono ho1 tZ3
     have HT1:=Lib.hid (HT0.out.step hb1)
     have e13:=HT1.out.blk.cell 13
     simp only [zF,zD,zE] at e13
     have f13:=HT1.out.blk.frozen 13
     have HXp0:Hid (BoxSt wr (w1.setCell ⟨wr.heap.size,13,none⟩ (.slice B1 qbn d1)) wr.heap.size 77 #[.string ⟨qinto.toArray⟩,.int .i64 qkind,.string ⟨qnm.toArray⟩,.int .i64 qfrm,.int .i64 qgd,.slice qo1 qon qo3,.int .i64 qix,.int .i64 qct,.string ⟨qdt.toArray⟩,.int .u64 qsa,.int .u64 qsb,.int .u64 qsc,.int .u64 qsd,.slice B1 qbn d1,.int .i64 qat,.int .i64 qnx,.int .u64 qua,.int .u64 qub,.int .u64 quc,.int .u64 qud,.bool qdone]):=HT1.out.set 13 (.slice B1 qbn d1)
     have e5:=(HXp0.out.made (.cells #[] 100)).blk.cell 5
     simp only [zF,zD,zE] at e5
     have HWp0:Hid (((w1.setCell ⟨wr.heap.size,13,none⟩ (.slice B1 qbn d1)).alloc (.cells #[] 100)).ownsRow (wr.heap.size+1) 100 2 (.slice (some ⟨w1.heap.size,0,none⟩) 0 0) 0 []):=HXp0.out.made_own (size_set _ _ _)
     have HRp0:Hid (Reads ((w1.setCell ⟨wr.heap.size,13,none⟩ (.slice B1 qbn d1)).alloc (.cells #[] 100)) B 2 qo1 qon (cellsK encP qol)):=(HXp0.out.made (.cells #[] 100)).reads hrq.own.2.2 HBl0.out
     have HSp0:Hid (wr.heap.size+1≤((w1.setCell ⟨wr.heap.size,13,none⟩ (.slice B1 qbn d1)).alloc (.cells #[] 100)).heap.size):=(HXp0.out.made (.cells #[] 100)).lt
     clear ho1 hb1 HT0
     go_wp2_with (first | (at_builtin;(refine wpList_append_any _ rfl (.tmp 105) (.tmp 108) _ rfl (wr.heap.size+1) 100 p0 _ 2 32 Tryz.underlying54 hp0 hpz hp1 hp2 rfl tZ1 (.slice (some ⟨w1.heap.size,0,none⟩) 0 0) 0 [] rfl HWp0.out B qo1 qon qo3 _ rfl HRp0.out (cells_one encP_one _) tZ11 tZ1 HSp0.out ?_);intro v2 w2 ho2 hg2 _;rw [Nat.zero_add,List.nil_append] at ho2;obtain ⟨B2,d2,rfl,_⟩:=own_form ho2;have hb2:=below_made (size_set _ _ _) hg2;have HO1:=Lib.hid (own_box HO1.out hb2);have HO2:=Lib.hid ho2;have HT2:=Lib.hid (HXp0.out.step hb2);have e5:=HT2.out.blk.cell 5;simp only [zF,zD,zE] at e5;have f5:=HT2.out.blk.frozen 5;have HX3:Hid (BoxSt wr (w2.setCell ⟨wr.heap.size,5,none⟩ (.slice B2 qon d2)) wr.heap.size 77 #[.string ⟨qinto.toArray⟩,.int .i64 qkind,.string ⟨qnm.toArray⟩,.int .i64 qfrm,.int .i64 qgd,.slice B2 qon d2,.int .i64 qix,.int .i64 qct,.string ⟨qdt.toArray⟩,.int .u64 qsa,.int .u64 qsb,.int .u64 qsc,.int .u64 qsd,.slice B1 qbn d1,.int .i64 qat,.int .i64 qnx,.int .u64 qua,.int .u64 qub,.int .u64 quc,.int .u64 qud,.bool qdone]):=HT2.out.set 5 (.slice B2 qon d2);have HL9:Hid (∀ j v,([.string ⟨qinto.toArray⟩,.int .i64 qkind,.string ⟨qnm.toArray⟩,.int .i64 qfrm,.int .i64 qgd,.slice B2 qon d2,.int .i64 qix,.int .i64 qct,.string ⟨qdt.toArray⟩,.int .u64 qsa,.int .u64 qsb,.int .u64 qsc,.int .u64 qsd,.slice B1 qbn d1,.int .i64 qat,.int .i64 qnx,.int .u64 qua,.int .u64 qub,.int .u64 quc,.int .u64 qud,.bool qdone]:List Value)[j]?=some v→(w2.setCell ⟨wr.heap.size,5,none⟩ (.slice B2 qon d2)).cell? ((⟨wr.heap.size,0,none⟩:Addr).add j)=some v):=fun j v hv=>by { rw [addr_add0,HX3.out.blk.cell j,zF];exact hv };have kb5:=K2.out.below HX3.out.low K2.out.lt;have kb5c:=kb5.cell 5;simp only [zF,zD,zE] at kb5c;have HZ3:Hid ((w2.setCell ⟨wr.heap.size,5,none⟩ (.slice B2 qon d2)).ownsRow (w.heap.size+3) 77 21 (.slice At m ct) m (cellsK encStage ts)):=own_below HTS.out HX3.out.low;have HBS:Hid ((w.heap.size+3)≤(w2.setCell ⟨wr.heap.size,5,none⟩ (.slice B2 qon d2)).heap.size):=by { show _≤_;have h1:=HX3.out.lt;have h2:=K2.out.lt;omega };clear ho2 hg2 hb2 HT2 HXp0 HWp0 HRp0 HSp0 kb5 HT1) | (refine wpList_load_at rfl 77 (.tmp 9) rfl ⟨wr.heap.size,0,none⟩ rfl [.string ⟨qinto.toArray⟩,.int .i64 qkind,.string ⟨qnm.toArray⟩,.int .i64 qfrm,.int .i64 qgd,.slice B2 qon d2,.int .i64 qix,.int .i64 qct,.string ⟨qdt.toArray⟩,.int .u64 qsa,.int .u64 qsb,.int .u64 qsc,.int .u64 qsd,.slice B1 qbn d1,.int .i64 qat,.int .i64 qnx,.int .u64 qua,.int .u64 qub,.int .u64 quc,.int .u64 qud,.bool qdone] _ HL9.out Tryz.underlying77 rfl tZ2 ?_) | (refine wpList_build_one rfl 24 77 (.tmp 114) rfl [.string ⟨qinto.toArray⟩,.int .i64 qkind,.string ⟨qnm.toArray⟩,.int .i64 qfrm,.int .i64 qgd,.slice B2 qon d2,.int .i64 qix,.int .i64 qct,.string ⟨qdt.toArray⟩,.int .u64 qsa,.int .u64 qsb,.int .u64 qsc,.int .u64 qsd,.slice B1 qbn d1,.int .i64 qat,.int .i64 qnx,.int .u64 qua,.int .u64 qub,.int .u64 quc,.int .u64 qud,.bool qdone] rfl z0 _ Tryz.underlying24 hz0 hzz hz1 tZ4 tZ4 ?_) | (at_builtin;(refine wpList_push _ rfl (.tmp 113) (.tmp 115) _ rfl (w.heap.size+3) 77 z0 _ 21 224 Tryz.underlying24 hz0 hzz hz1 hz2 rfl tZ1 (.slice At m ct) m _ rfl HZ3.out 1 #[.string ⟨qinto.toArray⟩,.int .i64 qkind,.string ⟨qnm.toArray⟩,.int .i64 qfrm,.int .i64 qgd,.slice B2 qon d2,.int .i64 qix,.int .i64 qct,.string ⟨qdt.toArray⟩,.int .u64 qsa,.int .u64 qsb,.int .u64 qsc,.int .u64 qsd,.slice B1 qbn d1,.int .i64 qat,.int .i64 qnx,.int .u64 qua,.int .u64 qub,.int .u64 quc,.int .u64 qud,.bool qdone] _ (by first | rfl | (rw [size_set];rfl)) rfl tZ5 tZ11 tZ1 HBS.out ?_);intro v5 w5 ho5 hb5 hg5;have ho5:w5.ownsRow (w.heap.size+3) 77 21 v5 (m+1) (cellsK encStage (ts++[⟨qinto,qkind,qnm,qfrm,qgd,⟨B2,qon,d2,qol⟩,qix,qct,qdt,⟨qsa,qsb,qsc,qsd⟩,⟨B1,qbn,d1,qbl⟩,qat,qnx,⟨qua,qub,quc,qud⟩,qdone⟩])):=by { rw [cellsK_append,cellsK_one];exact ho5 };obtain ⟨A5,d5,rfl,_⟩:=own_form ho5;have hS3:StageO (w2.setCell ⟨wr.heap.size,5,none⟩ (.slice B2 qon d2)) (wr.heap.size+1) ⟨qinto,qkind,qnm,qfrm,qgd,⟨B2,qon,d2,qol⟩,qix,qct,qdt,⟨qsa,qsb,qsc,qsd⟩,⟨B1,qbn,d1,qbl⟩,qat,qnx,⟨qua,qub,quc,qud⟩,qdone⟩:=⟨⟨hrq.own.1,own_setCell_below HO2.out (p:=⟨wr.heap.size,5,none⟩) tZ58 _⟩,⟨hrq.body.1,own_setCell_below HO1.out (p:=⟨wr.heap.size,5,none⟩) tZ58 _⟩⟩;have hS5:StageO w5 (w.heap.size+3) ⟨qinto,qkind,qnm,qfrm,qgd,⟨B2,qon,d2,qol⟩,qix,qct,qdt,⟨qsa,qsb,qsc,qsd⟩,⟨B1,qbn,d1,qbl⟩,qat,qnx,⟨qua,qub,quc,qud⟩,qdone⟩:=(hS3.apart HZ3.out tZ4 tZ4 hg5).mono (by have:=K2.out.lt;omega);have hTS:∀ z∈ts++[⟨qinto,qkind,qnm,qfrm,qgd,⟨B2,qon,d2,qol⟩,qix,qct,qdt,⟨qsa,qsb,qsc,qsd⟩,⟨B1,qbn,d1,qbl⟩,qat,qnx,⟨qua,qub,quc,qud⟩,qdone⟩],StageO (w5.setCell ⟨(w.heap.size+1+1),5,none⟩ (.slice A5 (m+1) d5)) (w.heap.size+3) z:=fun z hz=>(List.mem_append.1 hz).elim (fun hz=>(((HTO.out z hz).below HX3.out.low).apart HZ3.out tZ4 tZ4 hg5).setb (p:=⟨(w.heap.size+1+1),5,none⟩) tZ16 _) (fun hz=>by rw [List.mem_singleton.1 hz];exact hS5.setb (p:=⟨(w.heap.size+1+1),5,none⟩) tZ16 _);have kc5:=blk_apart (K2.out.below HX3.out.low K2.out.lt) HZ3.out tZ4 hg5;have gz5:=kc5.cell 5;simp only [zF,zD,zE] at gz5;have hz5:=kc5.frozen 5;have HG:Hid (Blk (w5.setCell ⟨(w.heap.size+1+1),5,none⟩ (.slice A5 (m+1) d5)) w.heap.size 27 #[.string ⟨nm.toArray⟩,.int .i64 qu,.int .i64 nx,.slice s1 k s3,.slice g1 gn g3,.slice (some ad3) tn t3,.slice l1 ln l3]∧Blk (w5.setCell ⟨(w.heap.size+1+1),5,none⟩ (.slice A5 (m+1) d5)) (w.heap.size+1) 27 #[.string ⟨#[]⟩,.int .i64 0,.int .i64 0,.slice none 0 0,.slice none 0 0,.slice none 0 0,.slice none 0 0]∧Blk (w5.setCell ⟨(w.heap.size+1+1),5,none⟩ (.slice A5 (m+1) d5)) (w.heap.size+1+1) 27 #[.string ⟨nm.toArray⟩,.int .i64 qu,.int .i64 nx,.slice A k c,.slice A6 gn d6,.slice A5 (m+1) d5,.slice none 0 0]∧PartO (w5.setCell ⟨(w.heap.size+1+1),5,none⟩ (.slice A5 (m+1) d5)) (w.heap.size+3) ⟨A,k,c,ys⟩ ⟨A6,gn,d6,gl⟩∧(w5.setCell ⟨(w.heap.size+1+1),5,none⟩ (.slice A5 (m+1) d5)).ownsRow (w.heap.size+3) 77 21 (.slice A5 (m+1) d5) (m+1) (cellsK encStage (ts++[⟨qinto,qkind,qnm,qfrm,qgd,⟨B2,qon,d2,qol⟩,qix,qct,qdt,⟨qsa,qsb,qsc,qsd⟩,⟨B1,qbn,d1,qbl⟩,qat,qnx,⟨qua,qub,quc,qud⟩,qdone⟩]))∧Below w.heap.size w (w5.setCell ⟨(w.heap.size+1+1),5,none⟩ (.slice A5 (m+1) d5))):=⟨(blk_apart (K0.out.below HX3.out.low K0.out.lt) HZ3.out tZ4 hg5).far tZ61 _,(blk_apart (K1.out.below HX3.out.low K1.out.lt) HZ3.out tZ4 hg5).far tZ45 _,kc5.set_ 5 _,((HPO.out.below HX3.out.low).apart HZ3.out hg5).setb (p:=⟨(w.heap.size+1+1),5,none⟩) tZ16 _,own_setCell_below ho5 (p:=⟨(w.heap.size+1+1),5,none⟩) tZ16 _,((HB.out.trans (HX3.out.low.mono tZ56)).trans (hb5.mono tZ1)).setCell tZ49 _⟩;have HTO5:=Lib.hid hTS;clear ho5 hb5 hg5 hS3 hS5 hTS kc5 HX3 HO1 HO2 HZ3 HTS HTO K0 K1 K2 HPO HB kb5c e5 f5))
     go_roundw
     case rel=>exact ⟨m+1,_,A5,d5,by omega,by go_num,(show _=_ by rw [List.length_append,HTL.out];rfl),HG.out.1,HG.out.2.1,HG.out.2.2.1,HG.out.2.2.2.1,HG.out.2.2.2.2.1,HTO5.out,(show EachR _ _ _ by rw [HTK.out];exact HTE.out.snoc ⟨rfl,rfl,rfl,rfl,rfl,rfl,rfl,rfl,rfl,rfl,rfl,rfl,rfl,rfl,rfl⟩),HG.out.2.2.2.2.2⟩
     case measure=>simp [intOf];omega
    ·have hmi:¬ (m:Int)<(tn:Int):=tZ1
     obtain rfl:m=tn:=tZ1
     have c6:=K0.out.cell 6
     have j6:=K2.out.cell 6
     simp only [zF,zD,zE] at c6 j6
     have HRL:=Lib.hid hrw.log.2.2
     have HSB:Hid ((w.heap.size+3)≤wr.heap.size):=K2.out.lt
     clear hrw hmn hm
     go_wp2_with (first | (at_builtin;(refine wpList_append_any _ rfl (.tmp 119) (.tmp 121) _ rfl (w.heap.size+3) 106 e0 _ 4 48 Tryz.underlying25 he0 hez he1 he2 rfl tZ1 (.slice none 0 0) 0 [] rfl (World.ownsRow_nil _ _ _ _) B l1 ln l3 _ rfl HRL.out (cells_one encE_one _) tZ11 tZ1 HSB.out ?_);intro v7 w7 ho7 hg7 _;rw [Nat.zero_add,List.nil_append] at ho7;obtain ⟨A7,d7,rfl,_⟩:=own_form ho7;have hb7:=below_nil hg7;have kc7:=K2.out.below hb7 K2.out.lt;have gz6:=kc7.cell 6;simp only [zF,zD,zE] at gz6;have hz6:=kc7.frozen 6;have kf:Blk (w7.setCell ⟨(w.heap.size+1+1),6,none⟩ (.slice A7 ln d7)) (w.heap.size+1+1) 27 #[.string ⟨nm.toArray⟩,.int .i64 qu,.int .i64 nx,.slice A k c,.slice A6 gn d6,.slice At m ct,.slice A7 ln d7]:=kc7.set_ 6 _;have HC:Hid (∀ j v,([.string ⟨nm.toArray⟩,.int .i64 qu,.int .i64 nx,.slice A k c,.slice A6 gn d6,.slice At m ct,.slice A7 ln d7]:List Value)[j]?=some v→(w7.setCell ⟨(w.heap.size+1+1),6,none⟩ (.slice A7 ln d7)).cell? ((⟨(w.heap.size+1+1),0,none⟩:Addr).add j)=some v):=fun j v hv=>by { rw [addr_add0,kf.cell j,zF];exact hv };have k1:Blk (w7.setCell ⟨(w.heap.size+1+1),6,none⟩ (.slice A7 ln d7)) (w.heap.size+1) 27 #[.string ⟨#[]⟩,.int .i64 0,.int .i64 0,.slice none 0 0,.slice none 0 0,.slice none 0 0,.slice none 0 0]:=(K1.out.below hb7 K1.out.lt).far tZ45 _;have hth:=Lib.hid (k1.there 7 tZ4);have k4:=Blk.setCells (g:=(w.heap.size+1)) [.string ⟨nm.toArray⟩,.int .i64 qu,.int .i64 nx,.slice A k c,.slice A6 gn d6,.slice At m ct,.slice A7 ln d7] (w7.setCell ⟨(w.heap.size+1+1),6,none⟩ (.slice A7 ln d7)) [] [.string ⟨#[]⟩,.int .i64 0,.int .i64 0,.slice none 0 0,.slice none 0 0,.slice none 0 0,.slice none 0 0] rfl k1;simp only [List.length_nil,List.nil_append] at k4;have hgc:=grown_cells (w.heap.size+1) [.string ⟨nm.toArray⟩,.int .i64 qu,.int .i64 nx,.slice A k c,.slice A6 gn d6,.slice At m ct,.slice A7 ln d7] (w7.setCell ⟨(w.heap.size+1+1),6,none⟩ (.slice A7 ln d7)) 0;have q1:=((HPO.out.below hb7).setb (p:=⟨(w.heap.size+1+1),6,none⟩) tZ16 (.slice A7 ln d7)).kept hgc tZ1;have q2:=own_kept (own_setCell_below (own_below HTS.out hb7) (p:=⟨(w.heap.size+1+1),6,none⟩) tZ16 (.slice A7 ln d7)) hgc tZ1;have q3:∀ z∈ts,StageO ((w7.setCell ⟨(w.heap.size+1+1),6,none⟩ (.slice A7 ln d7)).setCells (w.heap.size+1) 0 [.string ⟨nm.toArray⟩,.int .i64 qu,.int .i64 nx,.slice A k c,.slice A6 gn d6,.slice At m ct,.slice A7 ln d7]) (w.heap.size+3) z:=fun z hz=>(((HTO.out z hz).below hb7).setb (p:=⟨(w.heap.size+1+1),6,none⟩) tZ16 _).kept hgc tZ1;have q4:=own_kept (own_setCell_below ho7 (p:=⟨(w.heap.size+1+1),6,none⟩) tZ16 (.slice A7 ln d7)) hgc tZ1;have q5:=below_setCells (g:=(w.heap.size+1)) tZ1 [.string ⟨nm.toArray⟩,.int .i64 qu,.int .i64 nx,.slice A k c,.slice A6 gn d6,.slice At m ct,.slice A7 ln d7] _ 0 ((HB.out.trans (hb7.mono tZ56)).setCell (p:=⟨(w.heap.size+1+1),6,none⟩) tZ49 (.slice A7 ln d7));obtain ⟨W8,hW8⟩:∃ W,W=(w7.setCell ⟨(w.heap.size+1+1),6,none⟩ (.slice A7 ln d7)).setCells (w.heap.size+1) 0 (#[.string ⟨nm.toArray⟩,.int .i64 qu,.int .i64 nx,.slice A k c,.slice A6 gn d6,.slice At m ct,.slice A7 ln d7]:Array Value).toList:=⟨_,rfl⟩;rw [show ([.string ⟨nm.toArray⟩,.int .i64 qu,.int .i64 nx,.slice A k c,.slice A6 gn d6,.slice At m ct,.slice A7 ln d7]:List Value)=(#[.string ⟨nm.toArray⟩,.int .i64 qu,.int .i64 nx,.slice A k c,.slice A6 gn d6,.slice At m ct,.slice A7 ln d7]:Array Value).toList from rfl,← hW8] at k4 q1 q2 q3 q4 q5;have HLV:Hid ((loadVar 27 ⟨(w.heap.size+1),0,none⟩).run Tryz.prog W8=.ok (.agg #[.string ⟨nm.toArray⟩,.int .i64 qu,.int .i64 nx,.slice A k c,.slice A6 gn d6,.slice At m ct,.slice A7 ln d7]) W8):=(run_loadVar_at W8 ⟨(w.heap.size+1),0,none⟩ 27 [.string ⟨nm.toArray⟩,.int .i64 qu,.int .i64 nx,.slice A k c,.slice A6 gn d6,.slice At m ct,.slice A7 ln d7] _ (fun j v hv=>by { rw [addr_add0,k4.cell j,zF];exact hv }) Tryz.underlying27 rfl tZ2);have HQ:=Lib.hid (show _∧_∧_∧_∧_ from ⟨q1,q2,q3,q4,q5⟩);clear ho7 hg7 hb7 kc7 kf k1 k4 hgc q1 q2 q3 q4 q5 K0 K1 K2 HPO HTS HTO HB HRL HSB c6 j6) | (refine wpList_load_at rfl 27 (.tmp 3) rfl ⟨(w.heap.size+1+1),0,none⟩ rfl [.string ⟨nm.toArray⟩,.int .i64 qu,.int .i64 nx,.slice A k c,.slice A6 gn d6,.slice At m ct,.slice A7 ln d7] _ HC.out Tryz.underlying27 rfl tZ2 ?_) | (refine wpList_store_mid rfl 27 (.tmp 2) (.tmp 124) rfl (w.heap.size+1) 0 #[.string ⟨nm.toArray⟩,.int .i64 qu,.int .i64 nx,.slice A k c,.slice A6 gn d6,.slice At m ct,.slice A7 ln d7] rfl rfl hth.out tZ2 tZ5 ?_;rw [← hW8];clear hW8))
     refine bodyPost_ret (v:=.agg #[.string ⟨nm.toArray⟩,.int .i64 qu,.int .i64 nx,.slice A k c,.slice A6 gn d6,.slice At m ct,.slice A7 ln d7]) (results_cell rfl rfl HLV.out) rfl ⟨⟨nm,qu,nx,⟨A,k,c,ys⟩,⟨A6,gn,d6,gl⟩,⟨At,m,ct,ts⟩,⟨A7,ln,d7,ll⟩⟩,rfl,?_,?_,HPW.out,HQ.out.2.2.2.2⟩
     ·obtain ⟨q1,q2,q3,q4,-⟩:=HQ.out
      exact ⟨q1.sets.mono tZ1,fun y hy=>(q1.each y hy).mono tZ1,q1.gr.mono tZ1,⟨HTL.out.symm,own_mono q2 tZ1⟩,fun y hy=>(q3 y hy).mono tZ1,⟨HLN.out,own_mono q4 tZ1⟩⟩
     ·have h1:=HYE.out
      rw [HSN.out,List.take_length] at h1
      have h2:=HTE.out
      rw [HTN.out,List.take_length] at h2
      exact ⟨rfl,rfl,rfl,h1.1,h1.2,rfl,h2.1,h2.2,rfl⟩
theorem own14T_any (nm:BS) (qu nx:Int) (s1:Option Addr) (sn s3:Nat) (sl:List SetR) (g1:Option Addr) (gn g3:Nat) (gl:List GT) (t1:Option Addr) (tn t3:Nat) (tl:List StageR) (l1:Option Addr) (ln l3:Nat) (ll:List EntryR) (w:World) (B:Nat) (hB:B≤w.heap.size)
  (hr:TenR.rd w B ⟨nm,qu,nx,⟨s1,sn,s3,sl⟩,⟨g1,gn,g3,gl⟩,⟨t1,tn,t3,tl⟩,⟨l1,ln,l3,ll⟩⟩) (hz:TenR.sz ⟨nm,qu,nx,⟨s1,sn,s3,sl⟩,⟨g1,gn,g3,gl⟩,⟨t1,tn,t3,tl⟩,⟨l1,ln,l3,ll⟩⟩) (htn:tn≤500000000000) :
  Calls Tryz.prog 17 #[.agg #[.string ⟨nm.toArray⟩,.int .i64 qu,.int .i64 nx,.slice s1 sn s3,.slice g1 gn g3,.slice t1 tn t3,.slice l1 ln l3]] w fun e w'=>∃ y:TenR,e=.returned y.val∧TenO w' w.heap.size y∧TenR.eqv ⟨nm,qu,nx,⟨s1,sn,s3,sl⟩,⟨g1,gn,g3,gl⟩,⟨t1,tn,t3,tl⟩,⟨l1,ln,l3,ll⟩⟩ y∧Below w.heap.size w w':=by
 refine (own14A_any nm qu nx s1 sn s3 sl g1 gn g3 gl t1 tn t3 tl l1 ln l3 ll w B hB hr hz htn).mono ?_
 rintro e w' ⟨y,h1,h2,h3,_,h5⟩
 exact ⟨y,h1,h2,h3,h5⟩
end Go.Proofs.YtiojfffgiejibaaGreatDoor
