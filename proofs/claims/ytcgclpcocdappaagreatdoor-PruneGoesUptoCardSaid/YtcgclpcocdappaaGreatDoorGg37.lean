/-
  What is done to a block of another element type keeps a tenant of one's own. prune.Prune, by its contract: what comes of a tenant by its content.
-/
import Derived.WalkKit
import Derived.WalkSpells
import Derived.Below
import Derived.Laws.OwnMore
import Derived.Deep.AppendLies
import Derived.Deep.Draws
import Derived.Laws.Rows
import Derived.Maps.AppendAt
import Derived.RegionTactic
import Derived.OwnWalk
import Derived.Deep.QuietTactic
import Derived.BigQuiet
import Derived.Lib.Hide
import Derived.Laws.CopyOwn
import Derived.IntWalk
import Derived.Test.YtcgclpcocdappaaGreatDoorRows
import Derived.Handy
import Derived.Deep.Quiet
import Derived.Orders
import Derived.Lib.SplitLaws
import Derived.Lib.LastIndexByte
import Derived.Lib.Strings
import Derived.ShutString
import Derived.Sort.Walk0
import Derived.Sort.KeysCollected
import Derived.Shelf.Strings.Search1
import Derived.Shelf.Strings.Search2
import Derived.Shelf.Strings.Search3
import Derived.Shelf.Strings.Cut
import Derived.Shelf.Strings.Count
import Derived.Shelf.LaysM
import Derived.Shelf.Strings.Shaped
import Derived.Shelf.Strings.LastIndex
import Derived.Shelf.Strings.Split
import Derived.Shelf.Strings.SplitShaped
import Derived.Shelf.Unicode.Decode
import Derived.Shelf.Strings.RuneCount
import Derived.Shelf.Strings.Explode
import Derived.Shelf.Unicode.DecodeSlow
import Derived.Test.YtcgclpcocdappaaGreatDoorProg
import Derived.Laws.BytesString
import Derived.Laws.IdiomStrings
import Derived.Lib.ConvBytes
import Derived.Deep.MidRow
import Derived.ProofKit
import Derived.OpenShut
import Derived.ChangeOld
import Derived.Carry
import Derived.SizedLaws
import Derived.JoinedCond
import Derived.Deep.CondSized
import Derived.Deep.Slices
import Derived.Deep.Fields
import Derived.Lib.SmallJoins
import Derived.Test.YtcgclpcocdappaaGreatDoorCards
import Derived.Test.YtcgclpcocdappaaGreatDoorTie
import Derived.Deep.DeepHandedRow
import Derived.Lib.LaidTab
import Derived.ChangeSame
import Derived.Deep.RegionLaw
import Derived.Lib.AppendZeros
import Derived.Lib.Overlaps
import Derived.Lib.AppendZerosOnto
import Derived.Deep.DeepCutAuto
import Derived.Great.BuildSlice
import Derived.Test.YtcgclpcocdappaaGreatDoorG0
import Derived.Test.YtcgclpcocdappaaGreatDoorGg1
import Derived.Test.YtcgclpcocdappaaGreatDoorGg2
import Derived.Test.YtcgclpcocdappaaGreatDoorGg5
import Derived.Test.YtcgclpcocdappaaGreatDoorGg7
import Derived.Test.YtcgclpcocdappaaGreatDoorGg8
import Derived.Test.YtcgclpcocdappaaGreatDoorGg9
import Derived.Test.YtcgclpcocdappaaGreatDoorGg11
import Derived.Test.YtcgclpcocdappaaGreatDoorGg12
import Derived.Test.YtcgclpcocdappaaGreatDoorGg13
import Derived.Test.YtcgclpcocdappaaGreatDoorGg17
import Derived.Test.YtcgclpcocdappaaGreatDoorGg19
import Derived.Test.YtcgclpcocdappaaGreatDoorGg20
import Derived.Test.YtcgclpcocdappaaGreatDoorGg21
import Derived.Test.YtcgclpcocdappaaGreatDoorGg22
import Derived.Test.YtcgclpcocdappaaGreatDoorGg25
import Derived.Test.YtcgclpcocdappaaGreatDoorGg27
import Derived.Test.YtcgclpcocdappaaGreatDoorGg29
import Derived.Test.YtcgclpcocdappaaGreatDoorGg30
import Derived.Test.YtcgclpcocdappaaGreatDoorGg31
import Derived.Test.YtcgclpcocdappaaGreatDoorGg32
import Derived.Test.YtcgclpcocdappaaGreatDoorGg33
import Derived.Test.YtcgclpcocdappaaGreatDoorGg34
import Derived.Test.YtcgclpcocdappaaGreatDoorGg35
namespace Go.Proofs.YtcgclpcocdappaaGreatDoor
open Go.RowKit
/-- none of a tenant's rows is of this type -/
def offT (T:TypeId):Prop:=75≠T∧9≠T∧78≠T∧57≠T∧42≠T∧147≠T∧103≠T∧106≠T
theorem offT_ten:offT 27:=by unfold offT;decide
section
variable {w w':World} {base g:Nat} {cs:Array Value} {T:TypeId}
theorem SnapO.keptT {x:SnapR} (h:SnapO w base x) (hg:w.grownBy w' (some g)) (hb:Blk w g T cs) (hT:offT T):SnapO w' base x :=
 ⟨h.body.keptT hg hb hT.1,h.tags.keptT hg hb hT.2.1,h.own.keptT hg hb hT.2.2.1⟩
theorem SetO.keptT {x:SetR} (h:SetO w base x) (hg:w.grownBy w' (some g)) (hb:Blk w g T cs) (hT:offT T):SetO w' base x :=
 ⟨h.body.keptT hg hb hT.1,h.snaps.keptT hg hb hT.2.2.2.1,fun y hy=>(h.each y hy).keptT hg hb hT,h.own.keptT hg hb hT.2.2.1⟩
theorem StageO.keptT {x:StageR} (h:StageO w base x) (hg:w.grownBy w' (some g)) (hb:Blk w g T cs) (hT:offT T):StageO w' base x :=
 ⟨h.own.keptT hg hb hT.2.2.1,h.body.keptT hg hb hT.1⟩
theorem TenO.keptT {t:TenR} (h:TenO w base t) (hg:w.grownBy w' (some g)) (hb:Blk w g T cs) (hT:offT T):TenO w' base t :=
 ⟨h.sets.keptT hg hb hT.2.2.2.2.1,fun y hy=>(h.eachS y hy).keptT hg hb hT,h.grants.keptT hg hb hT.2.2.2.2.2.1,h.stages.keptT hg hb hT.2.2.2.2.2.2.1,fun y hy=>(h.eachG y hy).keptT hg hb hT,h.log.keptT hg hb hT.2.2.2.2.2.2.2⟩
end
end Go.Proofs.YtcgclpcocdappaaGreatDoor
namespace Go.Proofs.YtcgclpcocdappaaGreatDoor
open Go.RowKit
/-- a tenant, a number and an error -/
def PrunePost (w:World) (c:Int×Nat×TenC) (e:Ending) (w':World):Prop:=∃ v ni,e=.returned (.tuple #[v,.int .i64 ni,.int .i64 c.1])∧Below w.heap.size w w' ∧
 ((c.1≠0∧v=ZEROT∧ni=0)∨(c.1=0∧ni=(c.2.1:Int)∧∃ y:TenR,v=y.val∧TenO w' w.heap.size y∧y.con=c.2.2))
theorem prunePost_err {w w':World} {c:Int×Nat×TenC} {E:Int} {c':Nat×TenC} (hc:c=(E,c')) (hE:E≠0) (hb:Below w.heap.size w w'):PrunePost w c (.returned (.tuple #[ZEROT,.int .i64 0,.int .i64 E])) w':=by
 subst hc
 exact ⟨_,_,rfl,hb,.inl ⟨hE,rfl,rfl⟩⟩
theorem prunePost_ok {w w':World} {c:Int×Nat×TenC} {g:Nat} {c':TenC} (hc:c=(0,g,c')) (hb:Below w.heap.size w w') (y:TenR) (ho:TenO w' w.heap.size y) (hy:y.con=c'):PrunePost w c (.returned (.tuple #[y.val,.int .i64 (g:Int),.int .i64 0])) w':=by
 subst hc
 exact ⟨_,_,rfl,hb,.inr ⟨rfl,rfl,y,rfl,ho,hy⟩⟩
theorem without_con (x:SetR) (L:List BS) (A:Option Addr) (n c:Nat):(x.withSn ⟨A,n,c,x.snaps.l.filter fun y=>!L.contains y.nm⟩).con=x.con.without L:=by
 unfold SetR.withSn SetR.con SetC.without
 simp only
 congr 1
 rw [List.filter_map]
 rfl
theorem drew_cells (g:Nat) (cs:List Value):∀ (W:World) (o:Nat),(W.setCells g o cs).drew=W.drew.setCells g o cs:=by
 induction cs with
 | nil=>intro W o;rfl
 | cons u r ih =>
  intro W o
  simp only [World.setCells]
  rw [ih]
  rfl
theorem store7 (W:World) (g:Nat) (a0 a1 a2 a3 a4 a5 a6:Value):(((((((W.setCell ⟨g,0,none⟩ a0).setCell ⟨g,1,none⟩ a1).setCell ⟨g,2,none⟩ a2).setCell ⟨g,3,none⟩ a3).setCell ⟨g,4,none⟩ a4).setCell ⟨g,5,none⟩ a5).setCell ⟨g,6,none⟩ a6)=W.setCells g 0 [a0,a1,a2,a3,a4,a5,a6]:=rfl
section
variable {w w1:World} {base base2:Nat}
theorem own_ne2 {T:TypeId} {k n:Nat} {v:Value} {xs:List Value} {s:FS SnapR} (hs:s.own w base 57 5 encSnap) (hr:w.ownsRow base2 T k v n xs) (hT:T≠57) (g:Nat) (he:s.val.ownBlock=some g):v.ownBlock≠some g:=by
 rcases hs.2.2 with ⟨e,_⟩ | ⟨g',cap,cur,e,_,hh,_⟩
 ·rw [e] at he;simp [Value.ownBlock] at he
 ·rw [e] at he
  have he:g'=g:=by simpa [Value.ownBlock] using he
  subst he
  exact own_blk_ne hr (show Blk w g' 57 cur from hh) hT
theorem own_keep {T:TypeId} {k n:Nat} {v:Value} {xs:List Value} {row:Option Nat} (hr:w.ownsRow base T k v n xs) (hg:w.grownBy w1 row) (hne:∀ g,row=some g→v.ownBlock≠some g):w1.ownsRow base T k v n xs:=by
 cases row with
 | none=>exact hr.kept hg (by cases v.ownBlock <;> simp)
 | some g=>exact hr.kept hg (.inr (hne g rfl))
end
set_option maxRecDepth 100000 in
theorem inOld_any (L:List BS) (m:Nat) (hm:m=L.length) (hL:m≤5000000000000) (A:Option Addr) (c gB base:Nat) (x:SnapR) (w:World) (kB:Blk w gB 48 #[.slice A m c]) (hr:w.ownsRow base 9 1 (.slice A m c) m (scells L)) :
  Calls Tryz.prog 61 #[.agg #[.string ⟨x.nm.toArray⟩,.int .i64 x.gd,.slice x.body.A x.body.n x.body.c,.slice x.tags.A x.tags.n x.tags.c,.slice x.own.A x.own.n x.own.c],.pointer (some ⟨gB,0,none⟩)] w fun e w'=>e=.returned (.bool (L.contains x.nm))∧Below w.heap.size w w':=by
 obtain ⟨xn,xg,⟨xA,xB,xC,xl⟩,⟨yA,yB,yC,yl⟩,⟨zA,zB,zC,zl⟩⟩:=x
 have hb1:=(Below.refl w.heap.size w).alloc (Nat.le_refl _) (.cells #[.string ⟨xn.toArray⟩,.int .i64 xg,.slice xA xB xC,.slice yA yB yC,.slice zA zB zC] 57)
 have k0:=(Blk.new w 57 #[.string ⟨xn.toArray⟩,.int .i64 xg,.slice xA xB xC,.slice yA yB yC,.slice zA zB zC]).cell 0
 have k1:=(kB.alloc (.cells #[.string ⟨xn.toArray⟩,.int .i64 xg,.slice xA xB xC,.slice yA yB yC,.slice zA zB zC] 57)).cell 0
 obtain ⟨W1,hW1⟩:∃ W,W=w.alloc (.cells #[.string ⟨xn.toArray⟩,.int .i64 xg,.slice xA xB xC,.slice yA yB yC,.slice zA zB zC] 57):=⟨_,rfl⟩
 simp only [zF,zE] at k0 k1
 rw [← hW1] at hb1
 have hc:=containsS_any L xn m hm A c W1 W1.heap.size (Reads.of_own (own_below hr hb1)) hL
 show Calls _ _ _ _ fun e w'=>e=.returned (.bool (L.contains xn))∧Below w.heap.size w w'
 obtain ⟨bb,hbb⟩:∃ b,b=L.contains xn:=⟨_,rfl⟩
 rw [← hbb] at hc ⊢
 clear hbb
 replace hc:=Lib.hid hc
 have HB1:=Lib.hid hb1
 clear hb1 hr kB hm
 go_enter Tryz.func61,Tryz.ntmps61
 go_wp2_with fail
 rw [← hW1]
 clear hW1
 refine hc.out.mono ?_
 clear hc
 rintro e w2 ⟨rfl,hw2⟩
 rw [hw2]
 go_wp2_with fail
 go_ret
 exact ⟨rfl,HB1.out⟩
set_option maxRecDepth 100000 in
set_option maxHeartbeats 8000000 in
theorem prune_any (t:TenR) (p:BS) (keep:Int) (w:World) (B:Nat) (hB:B≤w.heap.size) (hr:t.rd w B) (hz:t.sz) (hmx:HasMax w) :
  Calls Tryz.prog 17 #[t.val,.string ⟨p.toArray⟩,.int .i64 keep] w (PrunePost w (t.con.prune p keep)):=by
 obtain ⟨V,hV⟩:∃ V,V=t.con.prune p keep:=⟨_,rfl⟩
 rw [← hV]
 have hcz:=TenC.sz_of hr hz
 obtain ⟨nm,qu,nx,⟨s1,sn,s3,sl⟩,⟨gA,gN,gC,gL⟩,⟨t1,tn,t3,tl⟩,⟨l1,ln,l3,ll⟩⟩:=t
 show Calls Tryz.prog 17 #[.agg #[.string ⟨nm.toArray⟩,.int .i64 qu,.int .i64 nx,.slice s1 sn s3,.slice gA gN gC,.slice t1 tn t3,.slice l1 ln l3],.string ⟨p.toArray⟩,.int .i64 keep] w _
 have hb:=(((Below.refl w.heap.size w).alloc (Nat.le_refl _) (.cells #[.string ⟨nm.toArray⟩,.int .i64 qu,.int .i64 nx,.slice s1 sn s3,.slice gA gN gC,.slice t1 tn t3,.slice l1 ln l3] 27)).alloc (by simp) (.cells #[.string ⟨#[]⟩,.int .i64 0,.int .i64 0,.slice none 0 0,.slice none 0 0,.slice none 0 0,.slice none 0 0] 27))
 have kt:=Blk.new w 27 #[.string ⟨nm.toArray⟩,.int .i64 qu,.int .i64 nx,.slice s1 sn s3,.slice gA gN gC,.slice t1 tn t3,.slice l1 ln l3]
 replace kt:=kt.alloc (.cells #[.string ⟨#[]⟩,.int .i64 0,.int .i64 0,.slice none 0 0,.slice none 0 0,.slice none 0 0,.slice none 0 0] 27)
 have kz:=Blk.new (w.alloc (.cells #[.string ⟨nm.toArray⟩,.int .i64 qu,.int .i64 nx,.slice s1 sn s3,.slice gA gN gC,.slice t1 tn t3,.slice l1 ln l3] 27)) 27 #[.string ⟨#[]⟩,.int .i64 0,.int .i64 0,.slice none 0 0,.slice none 0 0,.slice none 0 0,.slice none 0 0]
 rw [show (w.alloc (.cells #[.string ⟨nm.toArray⟩,.int .i64 qu,.int .i64 nx,.slice s1 sn s3,.slice gA gN gC,.slice t1 tn t3,.slice l1 ln l3] 27)).heap.size=w.heap.size+1 by simp] at kz
 have hsz:((w.alloc (.cells #[.string ⟨nm.toArray⟩,.int .i64 qu,.int .i64 nx,.slice s1 sn s3,.slice gA gN gC,.slice t1 tn t3,.slice l1 ln l3] 27)).alloc (.cells #[.string ⟨#[]⟩,.int .i64 0,.int .i64 0,.slice none 0 0,.slice none 0 0,.slice none 0 0,.slice none 0 0] 27)).heap.size=w.heap.size+2:=by simp
 obtain ⟨W1,hW1⟩:∃ W,W=((w.alloc (.cells #[.string ⟨nm.toArray⟩,.int .i64 qu,.int .i64 nx,.slice s1 sn s3,.slice gA gN gC,.slice t1 tn t3,.slice l1 ln l3] 27)).alloc (.cells #[.string ⟨#[]⟩,.int .i64 0,.int .i64 0,.slice none 0 0,.slice none 0 0,.slice none 0 0,.slice none 0 0] 27)):=⟨_,rfl⟩
 rw [← hW1] at hb hsz kt kz
 have hKt:Hid (∀ W,Below W1.heap.size W1 W→Blk W w.heap.size 27 #[.string ⟨nm.toArray⟩,.int .i64 qu,.int .i64 nx,.slice s1 sn s3,.slice gA gN gC,.slice t1 tn t3,.slice l1 ln l3]):=fun W h=>kt.below h (by omega)
 have hKz:Hid (∀ W,Below W1.heap.size W1 W→Blk W (w.heap.size+1) 27 #[.string ⟨#[]⟩,.int .i64 0,.int .i64 0,.slice none 0 0,.slice none 0 0,.slice none 0 0,.slice none 0 0]):=fun W h=>kz.below h (by omega)
 have hBW:Hid (∀ W,Below W1.heap.size W1 W→Below w.heap.size w W):=fun W h=>hb.trans (h.mono (by omega))
 have hSZ:Hid (∀ W,Below W1.heap.size W1 W→w.heap.size+2≤W.heap.size):=fun W h=>by have:=h.size;omega
 have hW0:Hid (Below W1.heap.size W1 W1):=Below.refl _ _
 have hrw:Hid (∀ W,Below W1.heap.size W1 W→TenR.rd W B ⟨nm,qu,nx,⟨s1,sn,s3,sl⟩,⟨gA,gN,gC,gL⟩,⟨t1,tn,t3,tl⟩,⟨l1,ln,l3,ll⟩⟩∧B≤W.heap.size∧HasMax W):=fun W h =>
  ⟨TenR.rd.below hr ((hBW.out W h).mono hB),by have:=hSZ.out W h;omega,hmx.below (hBW.out W h)⟩
 obtain ⟨C,hC⟩:∃ C,C=TenR.con ⟨nm,qu,nx,⟨s1,sn,s3,sl⟩,⟨gA,gN,gC,gL⟩,⟨t1,tn,t3,tl⟩,⟨l1,ln,l3,ll⟩⟩:=⟨_,rfl⟩
 have hHC:=Lib.hid hC
 rw [← hC] at hV hcz
 have HV:=Lib.hid hV
 have HZ:=Lib.hid hz
 have hfs:findS sl p=C.find p:=by rw [hC];exact findS_con ⟨nm,qu,nx,⟨s1,sn,s3,sl⟩,⟨gA,gN,gC,gL⟩,⟨t1,tn,t3,tl⟩,⟨l1,ln,l3,ll⟩⟩ p
 obtain ⟨at0,hat0⟩:∃ a,a=findS sl p:=⟨_,rfl⟩
 have hFI:Hid (∀ W,Below W1.heap.size W1 W→Calls Tryz.prog 57 #[.agg #[.string ⟨nm.toArray⟩,.int .i64 qu,.int .i64 nx,.slice s1 sn s3,.slice gA gN gC,.slice t1 tn t3,.slice l1 ln l3],.string ⟨p.toArray⟩] W fun e w'=>e=.returned (.int .i64 at0)∧Below W.heap.size W w'):=fun W h=>by
  rw [hat0]
  exact find_any _ _ _ _ _ _ sl sn hr.sets.1 s1 s3 p W B (hrw.out W h).1.sets.2.2 (hrw.out W h).2.1 (by have:=hz.sets;simp only at this;omega)
 obtain ⟨E,hE⟩:∃ E,E=C.E:=⟨_,rfl⟩
 have hCK:Hid (∀ W,Below W1.heap.size W1 W→Calls Tryz.prog 58 #[.agg #[.string ⟨nm.toArray⟩,.int .i64 qu,.int .i64 nx,.slice s1 sn s3,.slice gA gN gC,.slice t1 tn t3,.slice l1 ln l3]] W fun e w'=>e=.returned (.int .i64 E)∧Below W.heap.size W w'):=fun W h=>by
  have h1:=tcheck_any ⟨nm,qu,nx,⟨s1,sn,s3,sl⟩,⟨gA,gN,gC,gL⟩,⟨t1,tn,t3,tl⟩,⟨l1,ln,l3,ll⟩⟩ W B (hrw.out W h).1 (hrw.out W h).2.1 hz (hrw.out W h).2.2
  rw [tenE_con,← hC,← hE] at h1
  exact h1
 obtain ⟨LL,hLL⟩:∃ L,L=C.old p keep:=⟨_,rfl⟩
 obtain ⟨lN,hln⟩:∃ k,k=LL.length:=⟨_,rfl⟩
 have hOLD:Hid (∀ W,Below W1.heap.size W1 W→Calls Tryz.prog 59 #[.agg #[.string ⟨nm.toArray⟩,.int .i64 qu,.int .i64 nx,.slice s1 sn s3,.slice gA gN gC,.slice t1 tn t3,.slice l1 ln l3],.string ⟨p.toArray⟩,.int .i64 keep] W fun e w'=>∃ A c,e=.returned (.slice A lN c)∧w'.ownsRow W.heap.size 9 1 (.slice A lN c) lN (scells LL)∧Below W.heap.size W w'):=fun W h=>by
  have h1:=oldP_any ⟨nm,qu,nx,⟨s1,sn,s3,sl⟩,⟨gA,gN,gC,gL⟩,⟨t1,tn,t3,tl⟩,⟨l1,ln,l3,ll⟩⟩ p keep W B (hrw.out W h).2.1 (hrw.out W h).1 hz (hrw.out W h).2.2
  rw [← hC,← hLL,← hln] at h1
  exact h1
 have hCP:Hid (∀ W,Below W1.heap.size W1 W→Calls Tryz.prog 44 #[.agg #[.string ⟨nm.toArray⟩,.int .i64 qu,.int .i64 nx,.slice s1 sn s3,.slice gA gN gC,.slice t1 tn t3,.slice l1 ln l3]] W fun e w'=>∃ y:TenR,e=.returned y.val∧TenO w' W.heap.size y∧TenR.eqv ⟨nm,qu,nx,⟨s1,sn,s3,sl⟩,⟨gA,gN,gC,gL⟩,⟨t1,tn,t3,tl⟩,⟨l1,ln,l3,ll⟩⟩ y∧y.sets.l.Pairwise ApartS∧Below W.heap.size W w'):=fun W h =>
  tcopy2_any ⟨nm,qu,nx,⟨s1,sn,s3,sl⟩,⟨gA,gN,gC,gL⟩,⟨t1,tn,t3,tl⟩,⟨l1,ln,l3,ll⟩⟩ W B (hrw.out W h).2.1 (hrw.out W h).1 hz
 have hSN:=Lib.hid (show sn=sl.length from hr.sets.1)
 by_cases hE0:E≠0
 ·have HX:Hid (V=(E,0,C)):=by
   show _=_
   rw [hV]
   unfold TenC.prune
   rw [if_pos (by rw [← hE];exact hE0),← hE]
  have hEb:(E == 0)=false:=by simpa using hE0
  have HE0:=Lib.hid hE0
  clear hb hsz kt kz hr hz hmx hC hcz hV hfs hat0 hE hLL hln hE0 hOLD hCP
  go_enter Tryz.func17,Tryz.ntmps17
  have hc:=hFI.out  W1 hW0.out
  have kk:=hKt.out W1 hW0.out
  obtain ⟨c0,c1,c2,c3,c4,c5,c6⟩:=(⟨kk.cell 0,kk.cell 1,kk.cell 2,kk.cell 3,kk.cell 4,kk.cell 5,kk.cell 6⟩:_∧_∧_∧_∧_∧_∧_)
  simp only [zF,zD,zE] at c0 c1 c2 c3 c4 c5 c6
  clear kk
  go_wp2_with fail
  rw [← hW1]
  clear hW1
  refine hc.mono ?_
  clear hc c0 c1 c2 c3 c4 c5 c6
  rintro e w2 ⟨rfl,hb⟩
  have HW2:=Lib.hid (hW0.out.trans (hb.mono hW0.out.size))
  clear hb
  have hc:=hCK.out  w2 HW2.out
  have kk:=hKt.out w2 HW2.out
  obtain ⟨c0,c1,c2,c3,c4,c5,c6⟩:=(⟨kk.cell 0,kk.cell 1,kk.cell 2,kk.cell 3,kk.cell 4,kk.cell 5,kk.cell 6⟩:_∧_∧_∧_∧_∧_∧_)
  simp only [zF,zD,zE] at c0 c1 c2 c3 c4 c5 c6
  clear kk
  go_wp2_with fail
  refine hc.mono ?_
  clear hc c0 c1 c2 c3 c4 c5 c6
  rintro e w3 ⟨rfl,hb⟩
  have HW3:=Lib.hid (HW2.out.trans (hb.mono HW2.out.size))
  clear hb
  have KZ:=Lib.hid (hKz.out w3 HW3.out)
  have HB:=Lib.hid (hBW.out w3 HW3.out)
  obtain ⟨WR,hW4,hth,HL,HBW,hgw⟩:=res7 (g:=(w.heap.size+1)) [.string ⟨#[]⟩,.int .i64 0,.int .i64 0,.slice none 0 0,.slice none 0 0,.slice none 0 0,.slice none 0 0] KZ.out HB.out (by omega)
  clear hgw
  go_wp2_with (refine wpList_store_mid rfl 27 (.tmp 6) (.tmp 22) rfl ((w.heap.size+1)) 0 #[.string ⟨#[]⟩,.int .i64 0,.int .i64 0,.slice none 0 0,.slice none 0 0,.slice none 0 0,.slice none 0 0] rfl rfl hth.out (by kernel_rfl) (by simp [Value.oneCell']) ?_;rw [← hW4];clear hW4)
  exact bodyPost_ret (v:=.tuple #[.agg #[.string ⟨#[]⟩,.int .i64 0,.int .i64 0,.slice none 0 0,.slice none 0 0,.slice none 0 0,.slice none 0 0],.int .i64 0,.int .i64 E]) (results_cell_tmp2 rfl rfl HL.out) rfl (prunePost_err HX.out HE0.out HBW.out)
 replace hE0:E=0:=by omega
 rw [hE0] at hCK
 have HE:=Lib.hid (show C.E=0 by rw [← hE,hE0])
 have hcs:firstI (fun s:SetR=>s.path == p) sl=findS sl p:=rfl
 rcases firstI_cases (fun s:SetR=>s.path == p) sl with ⟨hf,-⟩ | ⟨k,hkl,hf,-⟩
 ·rw [hcs] at hf
  have hfC:C.find p=-1:=by rw [← hfs,hf]
  have HX:Hid (V=(71,0,C)):=by
   show _=_
   rw [hV]
   unfold TenC.prune
   rw [if_neg (by rw [HE.out];decide),if_pos (by rw [hfC];decide)]
  rw [hat0,hf] at hFI
  clear hb hsz kt kz hr hz hmx hC hcz hV hfs hat0 hE hLL hln hE0 hOLD hCP hcs hf hfC HE
  go_enter Tryz.func17,Tryz.ntmps17
  have hc:=hFI.out  W1 hW0.out
  have kk:=hKt.out W1 hW0.out
  obtain ⟨c0,c1,c2,c3,c4,c5,c6⟩:=(⟨kk.cell 0,kk.cell 1,kk.cell 2,kk.cell 3,kk.cell 4,kk.cell 5,kk.cell 6⟩:_∧_∧_∧_∧_∧_∧_)
  simp only [zF,zD,zE] at c0 c1 c2 c3 c4 c5 c6
  clear kk
  go_wp2_with fail
  rw [← hW1]
  clear hW1
  refine hc.mono ?_
  clear hc c0 c1 c2 c3 c4 c5 c6
  rintro e w2 ⟨rfl,hb⟩
  have HW2:=Lib.hid (hW0.out.trans (hb.mono hW0.out.size))
  clear hb
  have hc:=hCK.out  w2 HW2.out
  have kk:=hKt.out w2 HW2.out
  obtain ⟨c0,c1,c2,c3,c4,c5,c6⟩:=(⟨kk.cell 0,kk.cell 1,kk.cell 2,kk.cell 3,kk.cell 4,kk.cell 5,kk.cell 6⟩:_∧_∧_∧_∧_∧_∧_)
  simp only [zF,zD,zE] at c0 c1 c2 c3 c4 c5 c6
  clear kk
  go_wp2_with fail
  refine hc.mono ?_
  clear hc c0 c1 c2 c3 c4 c5 c6
  rintro e w3 ⟨rfl,hb⟩
  have HW3:=Lib.hid (HW2.out.trans (hb.mono HW2.out.size))
  clear hb
  have KZ:=Lib.hid (hKz.out w3 HW3.out)
  have HB:=Lib.hid (hBW.out w3 HW3.out)
  obtain ⟨WR,hW4,hth,HL,HBW,hgw⟩:=res7 (g:=(w.heap.size+1)) [.string ⟨#[]⟩,.int .i64 0,.int .i64 0,.slice none 0 0,.slice none 0 0,.slice none 0 0,.slice none 0 0] KZ.out HB.out (by omega)
  clear hgw
  go_wp2_with (refine wpList_store_mid rfl 27 (.tmp 6) (.tmp 27) rfl ((w.heap.size+1)) 0 #[.string ⟨#[]⟩,.int .i64 0,.int .i64 0,.slice none 0 0,.slice none 0 0,.slice none 0 0,.slice none 0 0] rfl rfl hth.out (by kernel_rfl) (by simp [Value.oneCell']) ?_;rw [← hW4];clear hW4)
  exact bodyPost_ret (v:=.tuple #[.agg #[.string ⟨#[]⟩,.int .i64 0,.int .i64 0,.slice none 0 0,.slice none 0 0,.slice none 0 0,.slice none 0 0],.int .i64 0,.int .i64 71]) (results_cell_tmp2 rfl rfl HL.out) rfl (prunePost_err HX.out (by decide) HBW.out)
 rw [hcs] at hf
 have hfC:C.find p=(k:Int):=by rw [← hfs,hf]
 have hgk:C.sets[k]?=some (sl[k]'hkl).con:=by
  rw [hC]
  show (sl.map SetR.con)[k]?=_
  rw [List.getElem?_map,List.getElem?_eq_getElem hkl]
  rfl
 rw [hat0,hf] at hFI
 have hk0:(0:Int)≤(k:Int):=by omega
 by_cases hkp:keep<0∨16<keep
 ·have HX:Hid (V=(4,0,C)):=by
   show _=_
   rw [hV]
   unfold TenC.prune
   rw [if_neg (by rw [HE.out];decide),if_neg (by rw [hfC];omega),if_pos hkp]
  clear hb hsz kt kz hr hz hmx hC hcz hV hfs hat0 hE hLL hln hE0 hOLD hCP hcs hf hfC HE hgk
  by_cases hk1:keep<0
  ·clear hkp
   go_enter Tryz.func17,Tryz.ntmps17
   have hc:=hFI.out  W1 hW0.out
   have kk:=hKt.out W1 hW0.out
   obtain ⟨c0,c1,c2,c3,c4,c5,c6⟩:=(⟨kk.cell 0,kk.cell 1,kk.cell 2,kk.cell 3,kk.cell 4,kk.cell 5,kk.cell 6⟩:_∧_∧_∧_∧_∧_∧_)
   simp only [zF,zD,zE] at c0 c1 c2 c3 c4 c5 c6
   clear kk
   go_wp2_with fail
   rw [← hW1]
   clear hW1
   refine hc.mono ?_
   clear hc c0 c1 c2 c3 c4 c5 c6
   rintro e w2 ⟨rfl,hb⟩
   have HW2:=Lib.hid (hW0.out.trans (hb.mono hW0.out.size))
   clear hb
   have hc:=hCK.out  w2 HW2.out
   have kk:=hKt.out w2 HW2.out
   obtain ⟨c0,c1,c2,c3,c4,c5,c6⟩:=(⟨kk.cell 0,kk.cell 1,kk.cell 2,kk.cell 3,kk.cell 4,kk.cell 5,kk.cell 6⟩:_∧_∧_∧_∧_∧_∧_)
   simp only [zF,zD,zE] at c0 c1 c2 c3 c4 c5 c6
   clear kk
   go_wp2_with fail
   refine hc.mono ?_
   clear hc c0 c1 c2 c3 c4 c5 c6
   rintro e w3 ⟨rfl,hb⟩
   have HW3:=Lib.hid (HW2.out.trans (hb.mono HW2.out.size))
   clear hb
   have KZ:=Lib.hid (hKz.out w3 HW3.out)
   have HB:=Lib.hid (hBW.out w3 HW3.out)
   obtain ⟨WR,hW4,hth,HL,HBW,hgw⟩:=res7 (g:=(w.heap.size+1)) [.string ⟨#[]⟩,.int .i64 0,.int .i64 0,.slice none 0 0,.slice none 0 0,.slice none 0 0,.slice none 0 0] KZ.out HB.out (by omega)
   clear hgw
   go_wp2_with (refine wpList_store_mid rfl 27 (.tmp 6) (.tmp 35) rfl ((w.heap.size+1)) 0 #[.string ⟨#[]⟩,.int .i64 0,.int .i64 0,.slice none 0 0,.slice none 0 0,.slice none 0 0,.slice none 0 0] rfl rfl hth.out (by kernel_rfl) (by simp [Value.oneCell']) ?_;rw [← hW4];clear hW4)
   exact bodyPost_ret (v:=.tuple #[.agg #[.string ⟨#[]⟩,.int .i64 0,.int .i64 0,.slice none 0 0,.slice none 0 0,.slice none 0 0,.slice none 0 0],.int .i64 0,.int .i64 4]) (results_cell_tmp2 rfl rfl HL.out) rfl (prunePost_err HX.out (by decide) HBW.out)
  ·have hk2:16<keep:=by omega
   clear hkp
   go_enter Tryz.func17,Tryz.ntmps17
   have hc:=hFI.out  W1 hW0.out
   have kk:=hKt.out W1 hW0.out
   obtain ⟨c0,c1,c2,c3,c4,c5,c6⟩:=(⟨kk.cell 0,kk.cell 1,kk.cell 2,kk.cell 3,kk.cell 4,kk.cell 5,kk.cell 6⟩:_∧_∧_∧_∧_∧_∧_)
   simp only [zF,zD,zE] at c0 c1 c2 c3 c4 c5 c6
   clear kk
   go_wp2_with fail
   rw [← hW1]
   clear hW1
   refine hc.mono ?_
   clear hc c0 c1 c2 c3 c4 c5 c6
   rintro e w2 ⟨rfl,hb⟩
   have HW2:=Lib.hid (hW0.out.trans (hb.mono hW0.out.size))
   clear hb
   have hc:=hCK.out  w2 HW2.out
   have kk:=hKt.out w2 HW2.out
   obtain ⟨c0,c1,c2,c3,c4,c5,c6⟩:=(⟨kk.cell 0,kk.cell 1,kk.cell 2,kk.cell 3,kk.cell 4,kk.cell 5,kk.cell 6⟩:_∧_∧_∧_∧_∧_∧_)
   simp only [zF,zD,zE] at c0 c1 c2 c3 c4 c5 c6
   clear kk
   go_wp2_with fail
   refine hc.mono ?_
   clear hc c0 c1 c2 c3 c4 c5 c6
   rintro e w3 ⟨rfl,hb⟩
   have HW3:=Lib.hid (HW2.out.trans (hb.mono HW2.out.size))
   clear hb
   have KZ:=Lib.hid (hKz.out w3 HW3.out)
   have HB:=Lib.hid (hBW.out w3 HW3.out)
   obtain ⟨WR,hW4,hth,HL,HBW,hgw⟩:=res7 (g:=(w.heap.size+1)) [.string ⟨#[]⟩,.int .i64 0,.int .i64 0,.slice none 0 0,.slice none 0 0,.slice none 0 0,.slice none 0 0] KZ.out HB.out (by omega)
   clear hgw
   go_wp2_with (refine wpList_store_mid rfl 27 (.tmp 6) (.tmp 35) rfl ((w.heap.size+1)) 0 #[.string ⟨#[]⟩,.int .i64 0,.int .i64 0,.slice none 0 0,.slice none 0 0,.slice none 0 0,.slice none 0 0] rfl rfl hth.out (by kernel_rfl) (by simp [Value.oneCell']) ?_;rw [← hW4];clear hW4)
   exact bodyPost_ret (v:=.tuple #[.agg #[.string ⟨#[]⟩,.int .i64 0,.int .i64 0,.slice none 0 0,.slice none 0 0,.slice none 0 0,.slice none 0 0],.int .i64 0,.int .i64 4]) (results_cell_tmp2 rfl rfl HL.out) rfl (prunePost_err HX.out (by decide) HBW.out)
 have hk1:¬ keep<0:=by omega
 have hk2:¬ 16<keep:=by omega
 have HX:Hid (V=(0,lN,C.putS k ((sl[k]'hkl).con.without LL))):=by
  show _=_
  rw [hV]
  unfold TenC.prune
  rw [if_neg (by rw [HE.out];decide),if_neg (by rw [hfC];omega),if_neg hkp,hfC,Int.toNat_natCast,hgk,← hLL,hln]
 have HLN:=Lib.hid hln
 have HLL16:Hid (lN≤5000000000000):=by
  show _≤_
  have h1:LL.length≤(sl[k]'hkl).con.snaps.length:=by
   rw [hLL]
   unfold TenC.old
   rw [hfC,if_neg (by omega),Int.toNat_natCast,hgk]
   exact oldK_len _ _ _ _ _
  have h2:=(hz.eachS _ (List.getElem_mem hkl)).snaps
  have h3:=(hr.eachS _ (List.getElem_mem hkl)).snaps.1
  have h4:(sl[k]'hkl).con.snaps.length=(sl[k]'hkl).snaps.l.length:=List.length_map ..
  omega
 clear hb hsz kt kz hr hmx hC hcz hV hfs hat0 hE hLL hln hE0 hcs hf hfC HE hkp hz
 go_enter Tryz.func17,Tryz.ntmps17
 have hc:=hFI.out  W1 hW0.out
 have kk:=hKt.out W1 hW0.out
 obtain ⟨c0,c1,c2,c3,c4,c5,c6⟩:=(⟨kk.cell 0,kk.cell 1,kk.cell 2,kk.cell 3,kk.cell 4,kk.cell 5,kk.cell 6⟩:_∧_∧_∧_∧_∧_∧_)
 simp only [zF,zD,zE] at c0 c1 c2 c3 c4 c5 c6
 clear kk
 go_wp2_with fail
 rw [← hW1]
 clear hW1
 refine hc.mono ?_
 clear hc c0 c1 c2 c3 c4 c5 c6
 rintro e w2 ⟨rfl,hb⟩
 have HW2:=Lib.hid (hW0.out.trans (hb.mono hW0.out.size))
 clear hb
 have hc:=hCK.out  w2 HW2.out
 have kk:=hKt.out w2 HW2.out
 obtain ⟨c0,c1,c2,c3,c4,c5,c6⟩:=(⟨kk.cell 0,kk.cell 1,kk.cell 2,kk.cell 3,kk.cell 4,kk.cell 5,kk.cell 6⟩:_∧_∧_∧_∧_∧_∧_)
 simp only [zF,zD,zE] at c0 c1 c2 c3 c4 c5 c6
 clear kk
 go_wp2_with fail
 refine hc.mono ?_
 clear hc c0 c1 c2 c3 c4 c5 c6
 rintro e w3 ⟨rfl,hb⟩
 have HW3:=Lib.hid (HW2.out.trans (hb.mono HW2.out.size))
 clear hb
 have hc:=hOLD.out w3 HW3.out
 have kk:=hKt.out w3 HW3.out
 obtain ⟨c0,c1,c2,c3,c4,c5,c6⟩:=(⟨kk.cell 0,kk.cell 1,kk.cell 2,kk.cell 3,kk.cell 4,kk.cell 5,kk.cell 6⟩:_∧_∧_∧_∧_∧_∧_)
 simp only [zF,zD,zE] at c0 c1 c2 c3 c4 c5 c6
 clear kk
 go_wp2_with fail
 refine hc.mono ?_
 clear hc hOLD c0 c1 c2 c3 c4 c5 c6
 rintro e w4 ⟨lA,lc,rfl,hol,hb⟩
 have HW4:=Lib.hid (HW3.out.trans (hb.mono HW3.out.size))
 clear hb
 have hba:=HW4.out.alloc HW4.out.size (.cells #[.slice lA lN lc] 48)
 have kl:=Blk.new w4 48 #[.slice lA lN lc]
 have hol5:=own_below hol ((Below.refl w4.heap.size w4).alloc (Nat.le_refl _) (.cells #[.slice lA lN lc] 48))
 have hs5:(w4.alloc (.cells #[.slice lA lN lc] 48)).heap.size=w4.heap.size+1:=by simp
 obtain ⟨Bl,hBl⟩:∃ g,g=w4.heap.size:=⟨_,rfl⟩
 obtain ⟨w5,hW5⟩:∃ W,W=w4.alloc (.cells #[.slice lA lN lc] 48):=⟨_,rfl⟩
 rw [← hW5] at hba kl hol5 hs5
 rw [← hBl] at kl hs5
 have HW5:=Lib.hid hba
 have HKL:=Lib.hid kl
 have HOL:=Lib.hid hol5
 have HBL:=Lib.hid (show Bl=w4.heap.size∧w5.heap.size=Bl+1 from ⟨hBl,hs5⟩)
 clear hba kl hol hol5 hs5
 have hks:k<sn:=by have:=hSN.out;omega
 obtain ⟨x,hxx⟩:∃ x,x=sl[k]'hkl:=⟨_,rfl⟩
 have hzx:=HZ.out.eachS _ (List.getElem_mem hkl)
 have hrx:=(hrw.out w5 HW5.out).1.eachS _ (List.getElem_mem hkl)
 rw [← hxx] at hgk HX hzx hrx
 have HGK:=Lib.hid hgk
 have HXN:Hid (x.snaps.n=x.snaps.l.length∧x.snaps.n≤1000000000000):=⟨hrx.snaps.1,hzx.snaps⟩
 clear hxx hgk hzx hrx
 go_upto_region 10 with (fail)
 rw [← hW5,← hBl]
 clear hW5 hBl
 have hc:=hCP.out w5 HW5.out
 have kk:=hKt.out w5 HW5.out
 obtain ⟨c0,c1,c2,c3,c4,c5,c6⟩:=(⟨kk.cell 0,kk.cell 1,kk.cell 2,kk.cell 3,kk.cell 4,kk.cell 5,kk.cell 6⟩:_∧_∧_∧_∧_∧_∧_)
 simp only [zF,zD,zE] at c0 c1 c2 c3 c4 c5 c6
 clear kk
 clear hCP
 go_wp2_with fail
 refine hc.mono ?_
 clear hc c0 c1 c2 c3 c4 c5 c6
 rintro e w6 ⟨y,rfl,ho6,he6,hpw,hb6⟩
 have HW6:=Lib.hid (HW5.out.trans (hb6.mono HW5.out.size))
 have HCON:=Lib.hid ((TenR.eqv_iff _ _).1 he6)
 have hlen:y.sets.n=sn:=by
  have h1:=he6.lenS
  have h2:=ho6.sets.1
  have:=hSN.out
  simp only at h1
  omega
 obtain ⟨mm,mq,mx,⟨m1,m2,m3,ml⟩,⟨n1,n2,n3,nl⟩,⟨p1,p2,p3,pl⟩,⟨q1,q2,q3,ql⟩⟩:=y
 replace hlen:m2=sn:=hlen
 replace hpw:ml.Pairwise ApartS:=hpw
 have hms:m2=ml.length:=ho6.sets.1
 have hkm:k<m2:=by have:=hSN.out;omega
 have hkml:k<ml.length:=by omega
 obtain ⟨gS,csS,hA,hbg,hblk⟩:=ho6.sets.blk (by show 0<m2;omega)
 replace hA:m1=some ⟨gS,0,none⟩:=hA
 subst hA
 have hgS6:=hblk.lt
 simp only [TenR.val,TenR.cells,FS.val,strV]
 have hszc:=hSZ.out w5 HW5.out
 have hszn:=hSZ.out w6 HW6.out
 have hb67:=(Below.refl w6.heap.size w6).alloc (Nat.le_refl _) (.cells #[.string ⟨mm.toArray⟩,.int .i64 mq,.int .i64 mx,.slice (some ⟨gS,0,none⟩) m2 m3,.slice n1 n2 n3,.slice p1 p2 p3,.slice q1 q2 q3] 27)
 have ho7:=ho6.below hb67
 have k7:=Blk.new w6 27 #[.string ⟨mm.toArray⟩,.int .i64 mq,.int .i64 mx,.slice (some ⟨gS,0,none⟩) m2 m3,.slice n1 n2 n3,.slice p1 p2 p3,.slice q1 q2 q3]
 have kz7:=(hKz.out w6 HW6.out).alloc (.cells #[.string ⟨mm.toArray⟩,.int .i64 mq,.int .i64 mx,.slice (some ⟨gS,0,none⟩) m2 m3,.slice n1 n2 n3,.slice p1 p2 p3,.slice q1 q2 q3] 27)
 have hbw7:=(hBW.out w6 HW6.out).alloc (by omega) (.cells #[.string ⟨mm.toArray⟩,.int .i64 mq,.int .i64 mx,.slice (some ⟨gS,0,none⟩) m2 m3,.slice n1 n2 n3,.slice p1 p2 p3,.slice q1 q2 q3] 27)
 have hw17:=HW6.out.alloc HW6.out.size (.cells #[.string ⟨mm.toArray⟩,.int .i64 mq,.int .i64 mx,.slice (some ⟨gS,0,none⟩) m2 m3,.slice n1 n2 n3,.slice p1 p2 p3,.slice q1 q2 q3] 27)
 have hsz7:(w6.alloc (.cells #[.string ⟨mm.toArray⟩,.int .i64 mq,.int .i64 mx,.slice (some ⟨gS,0,none⟩) m2 m3,.slice n1 n2 n3,.slice p1 p2 p3,.slice q1 q2 q3] 27)).heap.size=w6.heap.size+1:=by simp
 obtain ⟨g5,hg5⟩:∃ g,g=w6.heap.size:=⟨_,rfl⟩
 obtain ⟨w7,hW7⟩:∃ W,W=w6.alloc (.cells #[.string ⟨mm.toArray⟩,.int .i64 mq,.int .i64 mx,.slice (some ⟨gS,0,none⟩) m2 m3,.slice n1 n2 n3,.slice p1 p2 p3,.slice q1 q2 q3] 27):=⟨_,rfl⟩
 rw [← hW7] at ho7 k7 kz7 hbw7 hw17 hsz7
 rw [← hg5] at k7 hsz7
 have HW7:=Lib.hid hw17
 have K7:=Lib.hid k7
 have KZ7:=Lib.hid kz7
 have HB7:=Lib.hid hbw7
 have HO7:=Lib.hid ho7
 have HPW:=Lib.hid hpw
 have HKM:=Lib.hid hkml
 have HG5:=Lib.hid (show gS<g5∧w5.heap.size≤gS∧g5<w7.heap.size∧w5.heap.size≤w7.heap.size∧w.heap.size+2≤w5.heap.size by omega)
 have hyc:Hid (TenR.con ⟨mm,mq,mx,⟨some ⟨gS,0,none⟩,m2,m3,ml⟩,⟨n1,n2,n3,nl⟩,⟨p1,p2,p3,pl⟩,⟨q1,q2,q3,ql⟩⟩=C):=by show _=_;rw [hHC.out];exact HCON.out.symm
 have hkm2:(k:Int)<(m2:Int):=by omega
 obtain ⟨xk,hxk⟩:∃ x,x=ml[k]'hkml:=⟨_,rfl⟩
 have HXK:=Lib.hid hxk
 have hxcon:xk.con=x.con:=by
  have h:=congrArg (fun c:TenC=>c.sets[k]?) hyc.out
  simp only [TenR.con,List.getElem?_map,List.getElem?_eq_getElem hkml,Option.map_some] at h
  rw [← hxk] at h
  exact Option.some.inj (h.trans HGK.out)
 have HXC:=Lib.hid hxcon
 have hsx7:=ho7.eachS _ (List.getElem_mem hkml)
 simp only [← hxk] at hsx7
 have HSX:=Lib.hid hsx7
 obtain ⟨hbg7,hltS,hfzS,-,-,-,hcS,-⟩:=row_cells ho7.sets hkml rfl
 simp only [← hxk] at hcS
 have hxs:xk.snaps.l.length=x.snaps.l.length:=by have h:=congrArg (fun c:SetC=>c.snaps.length) hxcon;simpa [SetR.con] using h
 have hxz:xk.snaps.n≤5000000000000:=by have h1:=hsx7.snaps.1;have h2:=HXN.out.1;have h3:=HXN.out.2;omega
 have hb68:=hb67
 rw [← hW7] at hb68
 have kl7:=(HKL.out.below hb6 HKL.out.lt).below hb68 (by have:=HKL.out.lt;have:=hb6.size;omega)
 have hl7:=own_below (own_below HOL.out hb6) hb68
 have hne1:some Bl≠xk.snaps.val.ownBlock:=own_ne hsx7.snaps kl7 (by decide)
 have hne2:∀ g,xk.snaps.val.ownBlock=some g→(Value.slice lA lN lc).ownBlock≠some g:=fun g he=>own_ne2 hsx7.snaps hl7 (by decide) g he
 have hdl:=delSn_any (fun y:SnapR=>LL.contains y.nm) xk.snaps.l xk.snaps.n hsx7.snaps.1 xk.snaps.A xk.snaps.c w5.heap.size ⟨Bl,0,none⟩ (fun W=>Blk W Bl 48 #[.slice lA lN lc]∧W.ownsRow w3.heap.size 9 1 (.slice lA lN lc) lN (scells LL)) w7 hsx7.snaps.2 hxz
  ⟨fun y W hk=>inOld_any LL lN HLN.out HLL16.out lA lc Bl _ y W hk.1 hk.2,fun W W' hk hb=>⟨hk.1.below hb hk.1.lt,own_below hk.2 hb⟩⟩
  (fun W W' hk hg=>⟨hk.1.grown hg hne1,own_keep hk.2 hg hne2⟩) ⟨kl7,hl7⟩
 obtain ⟨fl,hfl⟩:∃ l,l=(xk.snaps.l.filter fun y=>!LL.contains y.nm):=⟨_,rfl⟩
 rw [← hfl] at hdl
 have HDL:=Lib.hid hdl
 have HFL:=Lib.hid hfl
 have HNE:=Lib.hid hne1
 have HL7:=Lib.hid kl7
 have hp1:=(K7.out).cell 3
 simp only [zF,zD,zE] at hp1
 have HSS:=Lib.hid (show W1.heap.size≤w5.heap.size from HW5.out.size)
 have hmsz:(m2:Int)≤1000000000000:=by have h:=HZ.out.sets;have h2:=hlen;simp only at h;omega
 clear ho6 he6 hb6 hlen hms hbg hblk hgS6 hszc hszn hb67 hb68 ho7 k7 kz7 hbw7 hw17 hsz7 hxk hxcon hsx7 hxs hxz hfzS hltS hbg7 hpw HCON hkm hdl hfl hne1 hne2 kl7 hl7 hks
 go_upto_region 11 with (refine wpList_store_new w6 rfl 27 (.tmp 12) (.tmp 41) rfl 27 [.string ⟨#[]⟩,.int .i64 0,.int .i64 0,.slice none 0 0,.slice none 0 0,.slice none 0 0,.slice none 0 0] [.string ⟨mm.toArray⟩,.int .i64 mq,.int .i64 mx,.slice (some ⟨gS,0,none⟩) m2 m3,.slice n1 n2 n3,.slice p1 p2 p3,.slice q1 q2 q3] rfl rfl rfl (by kernel_rfl) (by simp [Value.oneCell']) ?_;rw [show ([.string ⟨mm.toArray⟩,.int .i64 mq,.int .i64 mx,.slice (some ⟨gS,0,none⟩) m2 m3,.slice n1 n2 n3,.slice p1 p2 p3,.slice q1 q2 q3]:List Value).toArray=#[.string ⟨mm.toArray⟩,.int .i64 mq,.int .i64 mx,.slice (some ⟨gS,0,none⟩) m2 m3,.slice n1 n2 n3,.slice p1 p2 p3,.slice q1 q2 q3] from rfl,← hW7,← hg5];clear hW7 hg5)
 go_upto_region 12 with (fail)
 clear hkl hk1 hk2 hmsz
 go_wp2_with fail
 refine HDL.out.mono ?_
 clear HDL hcS
 rintro e w8 ⟨v,rfl,hv,hg⟩
 obtain ⟨v1,v3,rfl,_⟩:=own_form hv
 have hAs:=HO7.out.aside HPW.out k HKM.out (by simp only [← HXK.out];exact hg)
 obtain ⟨hbS,hlS,hfS,-,-,-,hcS,-⟩:=row_cells hAs.sets HKM.out rfl
 have hfS:=hfS (k*5+3)
 have k8:=K7.out.grown hg (own_ne HSX.out.snaps K7.out (by decide))
 have l8:=HL7.out.grown hg HNE.out
 have hw8:Below W1.heap.size W1 w8:=HW7.out.grown hg HW7.out.size (fun g hgg=>by have:=(HSX.out.snaps.2.lt _ hgg).1;have:=HSS.out;omega)
 have hst:=hAs.store ⟨v1,fl.length,v3,fl⟩ ⟨rfl,hv⟩ (fun z hz=>hAs.olds z (by
   simp only [← HXK.out]
   rw [HFL.out] at hz
   exact (List.mem_filter.1 hz).1)) (gS:=gS) rfl
 have HYO:Hid (TenO (w8.setCell ⟨gS,k*5+3,none⟩ (.slice v1 fl.length v3)) w5.heap.size (TenR.putS ⟨mm,mq,mx,⟨some ⟨gS,0,none⟩,m2,m3,ml⟩,⟨n1,n2,n3,nl⟩,⟨p1,p2,p3,pl⟩,⟨q1,q2,q3,ql⟩⟩ k ((ml[k]'HKM.out).withSn ⟨v1,fl.length,v3,fl⟩))):=hst.1
 have HW10:=Lib.hid (hw8.setCell (p:=⟨gS,k*5+3,none⟩) (by have:=HG5.out;have:=HSS.out;simp only;omega) (.slice v1 fl.length v3))
 have K10:=Lib.hid (k8.far (p:=⟨gS,k*5+3,none⟩) (by have:=HG5.out;simp only;omega) (.slice v1 fl.length v3))
 have L10:=Lib.hid (l8.far (p:=⟨gS,k*5+3,none⟩) (by have:=HG5.out;have:=HBL.out;simp only;omega) (.slice v1 fl.length v3))
 have HYC:Hid (TenR.con (TenR.putS ⟨mm,mq,mx,⟨some ⟨gS,0,none⟩,m2,m3,ml⟩,⟨n1,n2,n3,nl⟩,⟨p1,p2,p3,pl⟩,⟨q1,q2,q3,ql⟩⟩ k ((ml[k]'HKM.out).withSn ⟨v1,fl.length,v3,fl⟩))=C.putS k (x.con.without LL)):=by
  show _=_
  have h1:=without_con xk LL v1 fl.length v3
  simp only [← HXK.out]
  rw [TenR.con_putS,hyc.out,HFL.out] at *
  rw [h1,HXC.out]
 clear hAs k8 l8 hw8 hst hv
 obtain ⟨W10,hW10⟩:∃ W',W'=w8.setCell ⟨gS,k*5+3,none⟩ (.slice v1 fl.length v3):=⟨_,rfl⟩
 rw [← hW10] at HYO HW10 K10 L10
 go_upto_region 13 with (fail)
 rw [← hW10]
 clear hW10 hcS hfS hg
 obtain ⟨d0,d1,d2,d3,d4,d5,d6⟩:=(⟨K10.out.cell 0,K10.out.cell 1,K10.out.cell 2,K10.out.cell 3,K10.out.cell 4,K10.out.cell 5,K10.out.cell 6⟩:_∧_∧_∧_∧_∧_∧_)
 simp only [zF,zD,zE] at d0 d1 d2 d3 d4 d5 d6
 have l0:=L10.out.cell 0
 simp only [zF,zE] at l0
 have KZ:=Lib.hid (hKz.out W10 HW10.out)
 have HB:=Lib.hid (hBW.out W10 HW10.out)
 have hne3:Bl≠w.heap.size+1:=by have h1:=HBL.out;have h2:=hSZ.out w4 HW4.out;omega
 have hkz:=KZ.out
 obtain ⟨z0,z1,z2,z3,z4,z5,z6⟩:=(⟨hkz.cell 0,hkz.cell 1,hkz.cell 2,hkz.cell 3,hkz.cell 4,hkz.cell 5,hkz.cell 6⟩:_∧_∧_∧_∧_∧_∧_)
 simp only [zF,zD,zE] at z0 z1 z2 z3 z4 z5 z6
 have zf0:=KZ.out.frozen 0
 have zf1:=KZ.out.frozen 1
 have zf2:=KZ.out.frozen 2
 have zf3:=KZ.out.frozen 3
 have zf4:=KZ.out.frozen 4
 have zf5:=KZ.out.frozen 5
 have zf6:=KZ.out.frozen 6
 clear hkz HV HLN HLL16 HW2 HW3 HW4 HW5 HKL HOL HGK HXN HW6 HW7 HB7 HO7 HPW hyc hkm2 HXC HSX HFL HNE HL7 hp1 HSS hKt hSZ hW0 hrw hHC HZ hCK hSN hFI hk0
 go_region
 obtain ⟨Wd,hWd⟩:∃ W,W=W10.drew:=⟨_,rfl⟩
 have hd:Below W10.heap.size W10 Wd:=by rw [hWd];exact (Below.refl _ _).drew
 have KZd:=Lib.hid (KZ.out.below hd KZ.out.lt)
 have HBd:=Lib.hid (HB.out.trans (hd.mono HB.out.size))
 have HYd:=Lib.hid (HYO.out.below hd)
 obtain ⟨WR,hW4,hth,HL,HBW,hgw⟩:=res7 (g:=(w.heap.size+1)) [.string ⟨mm.toArray⟩,.int .i64 mq,.int .i64 mx,.slice (some ⟨gS,0,none⟩) m2 m3,.slice n1 n2 n3,.slice p1 p2 p3,.slice q1 q2 q3] KZd.out HBd.out (by omega)
 have HOO:=Lib.hid ((TenO.keptT HYd.out hgw KZd.out offT_ten).mono (base':=w.heap.size) (by have:=HG5.out;omega))
 rw [store7,drew_cells,← hWd,show Wd.setCells (w.heap.size+1) 0 [.string ⟨mm.toArray⟩,.int .i64 mq,.int .i64 mx,.slice (some ⟨gS,0,none⟩) m2 m3,.slice n1 n2 n3,.slice p1 p2 p3,.slice q1 q2 q3]=WR from hW4.symm]
 clear hW4 hgw hth hWd hd
 go_wp2_with fail
 exact bodyPost_ret (v:=.tuple #[.agg #[.string ⟨mm.toArray⟩,.int .i64 mq,.int .i64 mx,.slice (some ⟨gS,0,none⟩) m2 m3,.slice n1 n2 n3,.slice p1 p2 p3,.slice q1 q2 q3],.int .i64 (lN:Int),.int .i64 0]) (results_cell_tmp2 rfl rfl HL.out) rfl (prunePost_ok HX.out HBW.out (TenR.putS ⟨mm,mq,mx,⟨some ⟨gS,0,none⟩,m2,m3,ml⟩,⟨n1,n2,n3,nl⟩,⟨p1,p2,p3,pl⟩,⟨q1,q2,q3,ql⟩⟩ k ((ml[k]'HKM.out).withSn ⟨v1,fl.length,v3,fl⟩)) HOO.out HYC.out)
end Go.Proofs.YtcgclpcocdappaaGreatDoor
