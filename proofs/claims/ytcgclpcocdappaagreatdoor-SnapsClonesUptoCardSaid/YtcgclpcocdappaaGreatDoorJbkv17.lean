/-
  A tenant's rows that are written over, in themselves: what can be read of them stays good. usage.Fits: is what a tenant is charged for at most its quota?
-/
import Derived.WalkKit
import Derived.WalkSpells
import Derived.Below
import Derived.Laws.OwnMore
import Derived.Deep.AppendLies
import Derived.Deep.Draws
import Derived.Laws.Rows
import Derived.Maps.AppendAt
import Derived.RegionTactic
import Derived.OwnWalk
import Derived.Deep.QuietTactic
import Derived.BigQuiet
import Derived.Lib.Hide
import Derived.Laws.CopyOwn
import Derived.IntWalk
import Derived.Test.YtcgclpcocdappaaGreatDoorRows
import Derived.Handy
import Derived.Deep.Quiet
import Derived.Orders
import Derived.Lib.SplitLaws
import Derived.Lib.LastIndexByte
import Derived.Lib.Strings
import Derived.ShutString
import Derived.Sort.Walk0
import Derived.Sort.KeysCollected
import Derived.Deep.MidRow
import Derived.Shelf.Strings.Search1
import Derived.Shelf.Strings.Search2
import Derived.Shelf.Strings.Search3
import Derived.Shelf.Strings.Cut
import Derived.Shelf.Strings.Count
import Derived.Shelf.LaysM
import Derived.Shelf.Strings.Shaped
import Derived.Shelf.Strings.LastIndex
import Derived.Shelf.Strings.Split
import Derived.Shelf.Strings.SplitShaped
import Derived.Shelf.Unicode.Decode
import Derived.Shelf.Strings.RuneCount
import Derived.Shelf.Strings.Explode
import Derived.Shelf.Unicode.DecodeSlow
import Derived.Test.YtcgclpcocdappaaGreatDoorProg
import Derived.Laws.BytesString
import Derived.Laws.IdiomStrings
import Derived.Lib.ConvBytes
import Derived.Great.BuildSlice
import Derived.Test.YtcgclpcocdappaaGreatDoorJ0
import Derived.Test.YtcgclpcocdappaaGreatDoorJbkv1
import Derived.Test.YtcgclpcocdappaaGreatDoorJbkv3
import Derived.Test.YtcgclpcocdappaaGreatDoorJbkv4
import Derived.Test.YtcgclpcocdappaaGreatDoorJbkv5
import Derived.Test.YtcgclpcocdappaaGreatDoorJbkv7
import Derived.Test.YtcgclpcocdappaaGreatDoorJbkv8
import Derived.Test.YtcgclpcocdappaaGreatDoorJbkv10
import Derived.Test.YtcgclpcocdappaaGreatDoorJbkv14
import Derived.Test.YtcgclpcocdappaaGreatDoorJbkv15
import Derived.Test.YtcgclpcocdappaaGreatDoorJbkv16
namespace Go.Proofs.YtcgclpcocdappaaGreatDoor
open Go.RowKit
def SnapsW (w:World) (lo hi:Nat) (v:Value):Prop:=∃ n xs,RowW w lo hi 57 5 v n xs∧∀ i,i<n→∃ b,xs[i*5+2]?=some b∧RowX w lo hi 75 2 b
def SetsW (w:World) (lo hi:Nat) (v:Value):Prop:=∃ n xs,RowW w lo hi 42 5 v n xs∧∀ i,i<n→∃ b s o,xs[i*5+2]?=some b∧xs[i*5+3]?=some s∧xs[i*5+4]?=some o∧RowX w lo hi 75 2 b∧SnapsW w lo hi s∧RowX w lo hi 78 2 o
theorem SnapsW.nil (w:World) (lo hi:Nat):SnapsW w lo hi (.slice none 0 0):=⟨0,[],⟨World.ownsRow_nil _ _ _ _,fun g h=>by simp [Value.ownBlock] at h⟩,fun i hi=>absurd hi (by omega)⟩
section
variable {w w':World} {lo hi base size n cap g:Nat} {e:TypeId} {xs:List Value}
/-- a store into a row that is no snapshots' -/
theorem SnapsW.set (hrow:w.ownsRow base e size (.slice (some ⟨g,0,none⟩) n cap) n xs) (hne:57≠e) {v:Value} (h:SnapsW w lo hi v) (o:Nat) (cs:List Value):SnapsW (w.setCells g o cs) lo hi v:=by
 obtain ⟨m,ys,h,hs⟩:=h
 rcases h.or hrow o cs with h | ⟨he,_,_⟩
 ·exact ⟨m,ys,h,fun i hi=>let ⟨b,h1,h2⟩:=hs i hi;⟨b,h1,h2.set hrow o cs⟩⟩
 ·exact absurd he hne
/-- a store into a row that is neither sets' nor snapshots' -/
theorem SetsW.set (hrow:w.ownsRow base e size (.slice (some ⟨g,0,none⟩) n cap) n xs) (hne:57≠e) (hne2:42≠e) {v:Value} (h:SetsW w lo hi v) (o:Nat) (cs:List Value):SetsW (w.setCells g o cs) lo hi v:=by
 obtain ⟨m,ys,h,hs⟩:=h
 rcases h.or hrow o cs with h | ⟨he,_,_⟩
 ·exact ⟨m,ys,h,fun i hi=>let ⟨b,s,p,h1,h2,h3,h4,h5,h6⟩:=hs i hi;⟨b,s,p,h1,h2,h3,h4.set hrow o cs,h5.set hrow hne o cs,h6.set hrow o cs⟩⟩
 ·exact absurd he hne2
theorem SnapsW.below {v:Value} (h:SnapsW w lo hi v) (hb:Below w.heap.size w w'):SnapsW w' lo hi v:=by
 obtain ⟨n,xs,h,hs⟩:=h
 exact ⟨n,xs,⟨own_below h.1 hb,h.2⟩,fun i hi=>let ⟨b,h1,h2⟩:=hs i hi;⟨b,h1,h2.below hb⟩⟩
theorem SetsW.below {v:Value} (h:SetsW w lo hi v) (hb:Below w.heap.size w w'):SetsW w' lo hi v:=by
 obtain ⟨n,xs,h,hs⟩:=h
 exact ⟨n,xs,⟨own_below h.1 hb,h.2⟩,fun i hi=>let ⟨b,s,p,h1,h2,h3,h4,h5,h6⟩:=hs i hi;⟨b,s,p,h1,h2,h3,h4.below hb,h5.below hb,h6.below hb⟩⟩
end
section
variable {w w':World} {base lo hi:Nat}
theorem SnapO.only {x:SnapR} (h:SnapO w base x) (hb:hi≤base) (ho:OnlyIn lo hi w w'):SnapO w' base x:=⟨h.body.only hb ho,h.tags.only hb ho,h.own.only hb ho⟩
theorem SetO.only {x:SetR} (h:SetO w base x) (hb:hi≤base) (ho:OnlyIn lo hi w w'):SetO w' base x:=⟨h.body.only hb ho,h.snaps.only hb ho,fun y hy=>(h.each y hy).only hb ho,h.own.only hb ho⟩
theorem StageO.only {x:StageR} (h:StageO w base x) (hb:hi≤base) (ho:OnlyIn lo hi w w'):StageO w' base x:=⟨h.own.only hb ho,h.body.only hb ho⟩
theorem TenO.only {x:TenR} (h:TenO w base x) (hb:hi≤base) (ho:OnlyIn lo hi w w'):TenO w' base x:=⟨h.sets.only hb ho,fun y hy=>(h.eachS y hy).only hb ho,h.grants.only hb ho,h.stages.only hb ho,fun y hy=>(h.eachG y hy).only hb ho,h.log.only hb ho⟩
/-! ### a tenant of one's own lies in lo ..< hi, hi the size of the heap -/
theorem FS.own.snaps {s:FS SnapR} (h:s.own w lo 57 5 encSnap) (he:∀ y∈s.l,SnapO w lo y):SnapsW w lo w.heap.size s.val:=by
 refine ⟨_,_,RowW.of_own h.2,fun i hi=>?_⟩
 have hl:i<s.l.length:=by rw [← h.1];exact hi
 refine ⟨(s.l[i]'hl).body.val,?_,(he _ (List.getElem_mem hl)).body.rowx⟩
 rw [show i*5+2=i*5+2 from rfl,cellsK_get (k:=5) (fun x=>by cases x;rfl) s.l i hl 2 (by omega)]
 rfl
end
/-- what is known of a tenant's rows while they are written over -/
structure SpI (lo hi:Nat) (S G T L:Value) (W0 w:World):Prop where
 sets:SetsW w lo hi S
 gr:RowX w lo hi 147 3 G
 st:RowX w lo hi 103 21 T
 lg:RowX w lo hi 106 4 L
 only:OnlyIn lo hi W0 w
section
variable {lo hi size n cap g:Nat} {S G T L:Value} {W0 w:World} {e:TypeId} {xs:List Value}
theorem SpI.store (h:SpI lo hi S G T L W0 w) (hrow:w.ownsRow lo e size (.slice (some ⟨g,0,none⟩) n cap) n xs) (hlo:lo≤g) (hhi:g<hi) (hW:lo≤w.heap.size) (hne:57≠e) (hne2:42≠e) (o:Nat) (cs:List Value):SpI lo hi S G T L W0 (w.setCells g o cs) :=
 ⟨h.sets.set hrow hne hne2 o cs,h.gr.set hrow o cs,h.st.set hrow o cs,h.lg.set hrow o cs,h.only.trans (.grown (stored_all cs w xs o hrow).2 hlo hhi hW)⟩
/-- set i, as it can be read now -/
theorem SetsW.at {n c:Nat} {A:Option Addr} (h:SetsW w lo hi (.slice A n c)) {i:Nat} (hi':i<n) :
  ∃ g bA bn bc sA sn sc oA on oc xs,A=some ⟨g,0,none⟩∧lo≤g∧g<hi∧w.cell? ⟨g,i*5+2,none⟩=some (.slice bA bn bc)∧w.cell? ⟨g,i*5+3,none⟩=some (.slice sA sn sc)∧w.cell? ⟨g,i*5+4,none⟩=some (.slice oA on oc) ∧
   w.there g (i*5) 5∧w.ownsRow lo 42 5 (.slice (some ⟨g,0,none⟩) n c) n xs∧(∃ ys,RowW w lo hi 75 2 (.slice bA bn bc) bn ys)∧SnapsW w lo hi (.slice sA sn sc)∧(∃ ys,RowW w lo hi 78 2 (.slice oA on oc) on ys):=by
 obtain ⟨m,xs,hr,hs⟩:=h
 obtain ⟨_,_,e,_⟩:=own_form hr.1
 injection e with _ e1 _
 subst e1
 obtain ⟨g,c',e2,hlo,hhi,_,hc,hth,hown⟩:=hr.el hi'
 injection e2 with e3 _ e4
 subst e3 e4
 obtain ⟨b,s,o,h1,h2,h3,⟨bm,bx,h4⟩,h5,⟨om,ox,h6⟩⟩:=hs i hi'
 obtain ⟨bA,bc,rfl,_⟩:=own_form h4.1
 obtain ⟨oA,oc,rfl,_⟩:=own_form h6.1
 obtain ⟨sm,sx,h7,h8⟩:=h5
 obtain ⟨sA,sc,rfl,_⟩:=own_form h7.1
 exact ⟨g,bA,bm,bc,sA,sm,sc,oA,om,oc,xs,rfl,hlo,hhi,by rw [hc _ (by omega)];exact h1,by rw [hc _ (by omega)];exact h2,by rw [hc _ (by omega)];exact h3,hth,hown,⟨_,h4⟩,⟨_,_,h7,h8⟩,⟨_,h6⟩⟩
theorem SnapsW.at {n c:Nat} {A:Option Addr} (h:SnapsW w lo hi (.slice A n c)) {i:Nat} (hi':i<n) :
  ∃ g bA bn bc xs,A=some ⟨g,0,none⟩∧lo≤g∧g<hi∧n≤maxLen∧w.cell? ⟨g,i*5+2,none⟩=some (.slice bA bn bc)∧w.there g (i*5) 5∧w.ownsRow lo 57 5 (.slice (some ⟨g,0,none⟩) n c) n xs∧(∃ ys,RowW w lo hi 75 2 (.slice bA bn bc) bn ys):=by
 obtain ⟨m,xs,hr,hs⟩:=h
 obtain ⟨_,_,e,_⟩:=own_form hr.1
 injection e with _ e1 _
 subst e1
 obtain ⟨g,c',e2,hlo,hhi,hm,hc,hth,hown⟩:=hr.el hi'
 injection e2 with e3 _ e4
 subst e3 e4
 obtain ⟨b,h1,⟨bm,bx,h4⟩⟩:=hs i hi'
 obtain ⟨bA,bc,rfl,_⟩:=own_form h4.1
 exact ⟨g,bA,bm,bc,xs,rfl,hlo,hhi,hm,by rw [hc _ (by omega)];exact h1,hth,hown,⟨_,h4⟩⟩
end
end Go.Proofs.YtcgclpcocdappaaGreatDoor
namespace Go.Proofs.YtcgclpcocdappaaGreatDoor
open Go.RowKit
theorem ubody_any (A:Option Addr) (n c:Nat) (w:World) (hn:n≤5000000000000):Calls Tryz.prog 78 #[.slice A n c] w fun e w'=>e=.returned (.int .i64 ((n:Int)+1))∧w'=w:=by
 have hw:IntKind.i64.wrap ((n:Int)+1)=(n:Int)+1:=IntWalk.i64_in _ (by omega)
 go_enter Tryz.func78,Tryz.ntmps78
 go_wp2_with fail
 go_ret
 exact ⟨rfl,rfl⟩
set_option maxRecDepth 100000 in
theorem uadd_any (g:Nat) (T:TypeId) (S q:Int) (A:Option Addr) (n c:Nat) (w:World) (hk:Blk w g T #[.int .i64 S,.int .i64 q]) (hn:n≤5000000000000) (h0:0≤S) (h1:S≤4000000000000000000) :
  Calls Tryz.prog 201 #[.pointer (some ⟨g,0,none⟩),.slice A n c] w fun e w'=>e=.returned (.tuple #[])∧Blk w' g T #[.int .i64 (S+((n:Int)+1)),.int .i64 q]∧OnlyIn g (g+1) w w':=by
 have hw:IntKind.i64.wrap (S+((n:Int)+1))=S+((n:Int)+1):=IntWalk.i64_in _ (by omega)
 have c0:=hk.drew.cell 0
 have f0:=hk.drew.frozen 0
 simp only [zF,zE] at c0
 have hst:Blk (w.drew.setCell ⟨g,0,none⟩ (.int .i64 (S+((n:Int)+1)))) g T #[.int .i64 (S+((n:Int)+1)),.int .i64 q]:=hk.drew.set_ 0 _
 have HST:=Lib.hid hst
 have HO:Hid (OnlyIn g (g+1) w (w.drew.setCell ⟨g,0,none⟩ (.int .i64 (S+((n:Int)+1))))):=(OnlyIn.of_below (Below.refl _ _).drew (Nat.le_of_lt hk.lt)).trans (OnlyIn.grown (grown_box _ _ _ _) (Nat.le_refl _) (by omega) (Nat.le_of_lt hk.lt))
 clear hst hk
 go_enter Tryz.func201,Tryz.ntmps201
 go_region_with (refine (ubody_any A n c _ hn).mono ?_;rintro e w2 ⟨rfl,rfl⟩)
 all_goals
  go_wp2_with fail
  go_end0
  exact ⟨rfl,HST.out,HO.out⟩
def sumB (l:List SnapR) (k:Nat):Int:=((l.take k).map fun x=>(x.body.n:Int)+1).sum
theorem sumB_zero (l:List SnapR):sumB l 0=0:=by simp [sumB]
theorem sumB_succ (l:List SnapR) (k:Nat) (h:k<l.length):sumB l (k+1)=sumB l k+(((l[k]'h).body.n:Int)+1):=by
 unfold sumB
 rw [List.take_add_one,List.getElem?_eq_getElem h,Option.toList_some,List.map_append,List.sum_append,List.map_cons,List.map_nil,List.sum_cons,List.sum_nil,Int.add_zero]
theorem sumB_mono (l:List SnapR) (k:Nat):0≤sumB l k∧sumB l k≤sumB l l.length:=by
 have h0:∀ k,0≤sumB l k:=by
  intro k
  unfold sumB
  induction l.take k with
  | nil=>simp
  | cons x r ih=>simp only [List.map_cons,List.sum_cons];omega
 refine ⟨h0 k,?_⟩
 have h1:sumB l l.length=sumB l k+((l.drop k).map fun x=>(x.body.n:Int)+1).sum:=by
  unfold sumB
  rw [List.take_length]
  conv=>lhs;rw [← List.take_append_drop k l]
  rw [List.map_append,List.sum_append]
 have h2:0≤((l.drop k).map fun x=>(x.body.n:Int)+1).sum:=by
  induction l.drop k with
  | nil=>simp
  | cons x r ih=>simp only [List.map_cons,List.sum_cons];omega
 omega
/-- what a set adds -/
def setSum (x:SetR):Int:=((x.body.n:Int)+1)+sumB x.snaps.l x.snaps.l.length
set_option maxRecDepth 100000 in
set_option maxHeartbeats 2000000 in
theorem ubodies_any (x:SetR) (g:Nat) (T:TypeId) (S q:Int) (w:World) (B:Nat) (hr:x.rd w B) (hz:x.sz) (hB:B≤g) (hk:Blk w g T #[.int .i64 S,.int .i64 q]) (h0:0≤S) (h1:S+setSum x≤4000000000000000000) :
  Calls Tryz.prog 214 #[.agg (encSet x).toArray,.func (.func 201) #[.pointer (some ⟨g,0,none⟩)] #[]] w fun e w'=>e=.returned (.tuple #[])∧Blk w' g T #[.int .i64 (S+setSum x),.int .i64 q]∧OnlyIn g (g+1) w w':=by
 obtain ⟨pa,og,⟨bA,bn,bc,bl⟩,⟨zA,zn,zc,zl⟩,⟨oA,on,oc,ol⟩⟩:=x
 have hsm:setSum ⟨pa,og,⟨bA,bn,bc,bl⟩,⟨zA,zn,zc,zl⟩,⟨oA,on,oc,ol⟩⟩=((bn:Int)+1)+sumB zl zl.length:=rfl
 rw [hsm] at h1 ⊢
 have HZN:Hid (zn=zl.length):=hr.snaps.1
 have hmn:bn≤1000000000000:=hz.body
 have hzn:zn≤1000000000000:=hz.snaps
 have hm:=sumB_mono zl
 have hgw:=hk.lt
 have kx:=Blk.new w 42 #[.string ⟨pa.toArray⟩,.string ⟨og.toArray⟩,.slice bA bn bc,.slice zA zn zc,.slice oA on oc]
 obtain ⟨W1,hW1⟩:∃ W,W=w.alloc (.cells #[.string ⟨pa.toArray⟩,.string ⟨og.toArray⟩,.slice bA bn bc,.slice zA zn zc,.slice oA on oc] 42):=⟨_,rfl⟩
 have hs1:W1.heap.size=w.heap.size+1:=by rw [hW1];simp
 have hb1:Below w.heap.size w W1:=by rw [hW1];exact (Below.refl _ _).alloc (Nat.le_refl _) _
 rw [← hW1] at kx
 have HR:Hid (∀ W,OnlyIn g (g+1) W1 W→SetR.rd W B ⟨pa,og,⟨bA,bn,bc,bl⟩,⟨zA,zn,zc,zl⟩,⟨oA,on,oc,ol⟩⟩):=by
  show ∀ W,_→_
  intro W hW
  have hb:Below B w W:=(hb1.mono (by omega)).trans (hW.low.mono hB)
  exact ⟨hr.body.below hb,hr.snaps.below hb,fun y hy=>⟨(hr.each y hy).body.below hb,(hr.each y hy).tags.below hb,(hr.each y hy).own.below hb⟩,hr.own.below hb⟩
 have HX:Hid (∀ W,OnlyIn g (g+1) W1 W→W.cell? ⟨w.heap.size,2,none⟩=some (.slice bA bn bc)∧W.cell? ⟨w.heap.size,3,none⟩=some (.slice zA zn zc)):=by
  show ∀ W,_→_
  intro W hW
  have hb:Blk W w.heap.size 42 #[.string ⟨pa.toArray⟩,.string ⟨og.toArray⟩,.slice bA bn bc,.slice zA zn zc,.slice oA on oc]:=(hW.high _ (by omega) (by omega)).trans kx
  exact ⟨hb.cell 2,hb.cell 3⟩
 have HZ:=Lib.hid hz
 have hcl:=uadd_any g T S q bA bn bc W1 (hk.below hb1 hgw) (by omega) h0 (by have:=(hm zl.length).1;omega)
 obtain ⟨c2,c3⟩:=HX.out W1 (OnlyIn.refl _ _ _)
 have HO0:Hid (OnlyIn g (g+1) w W1):=OnlyIn.of_below hb1 (by omega)
 have HM:=Lib.hid hm
 have HH1:=Lib.hid h1
 clear kx hr hz hk hb1 hsm hm
 show Calls Tryz.prog 214 #[.agg #[.string ⟨pa.toArray⟩,.string ⟨og.toArray⟩,.slice bA bn bc,.slice zA zn zc,.slice oA on oc],.func (.func 201) #[.pointer (some ⟨g,0,none⟩)] #[]] w _
 go_enter Tryz.func214,Tryz.ntmps214
 go_wp2_with fail
 rw [← hW1]
 clear hW1
 refine hcl.mono ?_
 clear hcl c2 c3
 rintro e w2 ⟨rfl,hk2,ho2⟩
 have HK2:=Lib.hid hk2
 have HO2:=Lib.hid ho2
 clear hk2 ho2
 obtain ⟨c2,c3⟩:=HX.out w2 HO2.out
 go_wp2_with fail
 go_loopw [13] (fun j wr=>∃ k:Nat,k≤zn∧j=.int .i64 (k:Int)∧Hid (Blk wr g T #[.int .i64 (S+((bn:Int)+1)+sumB zl k),.int .i64 q])∧Hid (OnlyIn g (g+1) W1 wr)) (fun j _=>zn-(intOf j).toNat)
 case atStart=>exact ⟨0,Nat.zero_le _,rfl,by show Blk _ _ _ _;rw [sumB_zero,Int.add_zero];exact HK2.out,HO2.out⟩
 case round =>
  clear HK2 HO2 c2 c3
  obtain ⟨k,hk,rfl,HK,HO⟩:=hrel
  obtain ⟨c2,c3⟩:=HX.out wr HO.out
  by_cases hlt:k<zn
  ·have hki:(k:Int)<(zn:Int):=by omega
   have hkl:k<zl.length:=by have:=HZN.out;omega
   obtain ⟨ad,hsa,-,r0,r1,r2,r3,r4⟩:=snap_at (HR.out wr HO.out).snaps.2.2 HZN.out hlt
   simp only at hsa
   subst hsa
   have hsz:=HZ.out.each _ (List.getElem_mem hkl)
   have hss:=sumB_succ zl k hkl
   obtain ⟨y,hy⟩:∃ y,y=zl[k]'hkl:=⟨_,rfl⟩
   simp only at r0 r1 r2 r3 r4
   rw [← hy] at r0 r1 r2 r3 r4 hsz hss
   clear hy
   obtain ⟨ynm,ygd,⟨yb1,ybn,yb3,ybl⟩,⟨yt1,ytn,yt3,ytl⟩,⟨yo1,yon,yo3,yol⟩⟩:=y
   simp only at r0 r1 r2 r3 r4
   have hyn:ybn≤1000000000000:=hsz.body
   have HSS:Hid (sumB zl (k+1)=sumB zl k+((ybn:Int)+1)):=hss
   have hbd:0≤S+((bn:Int)+1)+sumB zl k∧S+((bn:Int)+1)+sumB zl k≤4000000000000000000:=by
    have h1:=HM.out k
    have h2:=HH1.out
    omega
   have hgs:=HK.out.lt
   have hcl:=uadd_any g T (S+((bn:Int)+1)+sumB zl k) q yb1 ybn yb3 (wr.alloc (.cells #[.string ⟨ynm.toArray⟩,.int .i64 ygd,.slice yb1 ybn yb3,.slice yt1 ytn yt3,.slice yo1 yon yo3] 57)) (HK.out.alloc _) (by omega) hbd.1 hbd.2
   have HOA:Hid (OnlyIn g (g+1) W1 (wr.alloc (.cells #[.string ⟨ynm.toArray⟩,.int .i64 ygd,.slice yb1 ybn yb3,.slice yt1 ytn yt3,.slice yo1 yon yo3] 57))):=HO.out.trans (OnlyIn.of_below ((Below.refl wr.heap.size wr).alloc (Nat.le_refl _) _) (by omega))
   clear hsz hss hbd HK HO
   go_wp2_with fail
   refine hcl.mono ?_
   clear hcl r0 r1 r2 r3 r4
   rintro e w3 ⟨rfl,hk3,ho3⟩
   have HK3:Hid (Blk w3 g T #[.int .i64 (S+((bn:Int)+1)+sumB zl (k+1)),.int .i64 q]):=by
    show Blk _ _ _ _
    rw [HSS.out,← Int.add_assoc]
    exact hk3
   have HO3:=Lib.hid (HOA.out.trans ho3)
   clear hk3 ho3 HOA HSS
   go_wp2_with fail
   go_roundw
   case rel=>exact ⟨k+1,by omega,by go_num,HK3,HO3⟩
   case measure=>simp [intOf];omega
  ·obtain rfl:k=zn:=by omega
   go_wp2_with fail
   go_end0
   refine ⟨rfl,?_,HO0.out.trans HO.out⟩
   have h:=HK.out
   rw [← Int.add_assoc,← HZN.out]
   exact h
set_option maxRecDepth 100000 in
theorem uset_any (x:SetR) (g:Nat) (T:TypeId) (S q:Int) (w:World) (B:Nat) (hr:x.rd w B) (hz:x.sz) (hB:B≤g) (hk:Blk w g T #[.int .i64 S,.int .i64 q]) (h0:0≤S) (h1:S+setSum x≤4000000000000000000) :
  Calls Tryz.prog 200 #[.pointer (some ⟨g,0,none⟩),.agg (encSet x).toArray] w fun e w'=>e=.returned (.tuple #[])∧Blk w' g T #[.int .i64 (S+setSum x),.int .i64 q]∧OnlyIn g (g+1) w w':=by
 have hb1:Below w.heap.size w (w.alloc (.cells (encSet x).toArray 42)):=(Below.refl _ _).alloc (Nat.le_refl _) _
 have hgw:=hk.lt
 have hcl:=ubodies_any x g T S q (w.alloc (.cells (encSet x).toArray 42)) B ⟨hr.body.below (hb1.mono (by omega)),hr.snaps.below (hb1.mono (by omega)),fun y hy=>⟨(hr.each y hy).body.below (hb1.mono (by omega)),(hr.each y hy).tags.below (hb1.mono (by omega)),(hr.each y hy).own.below (hb1.mono (by omega))⟩,hr.own.below (hb1.mono (by omega))⟩ hz hB (hk.alloc _) h0 h1
 obtain ⟨sm,hsm⟩:∃ v,v=setSum x:=⟨_,rfl⟩
 rw [← hsm] at hcl ⊢
 have HO0:Hid (OnlyIn g (g+1) w (w.alloc (.cells (encSet x).toArray 42))):=OnlyIn.of_below hb1 (by omega)
 clear hb1 hk hr hz hsm h1
 obtain ⟨pa,og,⟨bA,bn,bc,bl⟩,⟨zA,zn,zc,zl⟩,⟨oA,on,oc,ol⟩⟩:=x
 have hcl2:Calls Tryz.prog 214 #[.agg #[.string ⟨pa.toArray⟩,.string ⟨og.toArray⟩,.slice bA bn bc,.slice zA zn zc,.slice oA on oc],.func (.func 201) #[.pointer (some ⟨g,0,none⟩)] #[]] (w.alloc (.cells #[.string ⟨pa.toArray⟩,.string ⟨og.toArray⟩,.slice bA bn bc,.slice zA zn zc,.slice oA on oc] 42)) _:=hcl
 have HO1:Hid (OnlyIn g (g+1) w (w.alloc (.cells #[.string ⟨pa.toArray⟩,.string ⟨og.toArray⟩,.slice bA bn bc,.slice zA zn zc,.slice oA on oc] 42))):=HO0.out
 clear hcl HO0
 show Calls Tryz.prog 200 #[.pointer (some ⟨g,0,none⟩),.agg #[.string ⟨pa.toArray⟩,.string ⟨og.toArray⟩,.slice bA bn bc,.slice zA zn zc,.slice oA on oc]] w _
 go_enter Tryz.func200,Tryz.ntmps200
 go_wp2_with fail
 refine hcl2.mono ?_
 clear hcl2
 rintro e w2 ⟨rfl,hk2,ho2⟩
 go_wp2_with fail
 go_end0
 exact ⟨rfl,hk2,HO1.out.trans ho2⟩
def sumS (l:List SetR) (k:Nat):Int:=((l.take k).map setSum).sum
def sumG (l:List StageR) (k:Nat):Int:=((l.take k).map fun x=>(x.body.n:Int)+1).sum
theorem setSum_nonneg (x:SetR):0≤setSum x:=by
 have:=(sumB_mono x.snaps.l x.snaps.l.length).1
 unfold setSum
 omega
theorem sum_nonneg {α:Type} (f:α→Int) (hf:∀ a,0≤f a) (l:List α):0≤(l.map f).sum:=by
 induction l with
 | nil=>simp
 | cons x r ih=>have:=hf x;simp only [List.map_cons,List.sum_cons];omega
theorem sumS_succ (l:List SetR) (k:Nat) (h:k<l.length):sumS l (k+1)=sumS l k+setSum (l[k]'h):=by
 unfold sumS
 rw [List.take_add_one,List.getElem?_eq_getElem h,Option.toList_some,List.map_append,List.sum_append,List.map_cons,List.map_nil,List.sum_cons,List.sum_nil,Int.add_zero]
theorem sumG_succ (l:List StageR) (k:Nat) (h:k<l.length):sumG l (k+1)=sumG l k+(((l[k]'h).body.n:Int)+1):=by
 unfold sumG
 rw [List.take_add_one,List.getElem?_eq_getElem h,Option.toList_some,List.map_append,List.sum_append,List.map_cons,List.map_nil,List.sum_cons,List.sum_nil,Int.add_zero]
theorem sumS_mono (l:List SetR) (k:Nat):0≤sumS l k∧sumS l k≤sumS l l.length:=by
 refine ⟨sum_nonneg _ setSum_nonneg _,?_⟩
 have h1:sumS l l.length=sumS l k+((l.drop k).map setSum).sum:=by
  unfold sumS
  rw [List.take_length]
  conv=>lhs;rw [← List.take_append_drop k l]
  rw [List.map_append,List.sum_append]
 have:=sum_nonneg _ setSum_nonneg (l.drop k)
 omega
theorem sumG_mono (l:List StageR) (k:Nat):0≤sumG l k∧sumG l k≤sumG l l.length:=by
 refine ⟨sum_nonneg _ (fun _=>by omega) _,?_⟩
 have h1:sumG l l.length=sumG l k+((l.drop k).map fun x=>(x.body.n:Int)+1).sum:=by
  unfold sumG
  rw [List.take_length]
  conv=>lhs;rw [← List.take_append_drop k l]
  rw [List.map_append,List.sum_append]
 have:=sum_nonneg (fun x:StageR=>(x.body.n:Int)+1) (fun _=>by omega) (l.drop k)
 omega
/-- what a tenant is charged for, as it lies -/
def tenSum (t:TenR):Int:=sumS t.sets.l t.sets.l.length+sumG t.stages.l t.stages.l.length
set_option maxRecDepth 100000 in
set_option maxHeartbeats 4000000 in
theorem counted_any (t:TenR) (w:World) (B:Nat) (hB:B≤w.heap.size) (hr:t.rd w B) (hz:t.sz) (hs:tenSum t≤4000000000000000000) :
  Calls Tryz.prog 175 #[t.val] w fun e w'=>∃ g,e=.returned (.pointer (some ⟨g,0,none⟩))∧Blk w' g 218 #[.int .i64 (tenSum t),.int .i64 t.quota]∧Below w.heap.size w w':=by
 obtain ⟨nm,qu,nx,⟨s1,sn,s3,sl⟩,⟨g1,gn,g3,gl⟩,⟨t1,tn,t3,tl⟩,⟨l1,ln,l3,ll⟩⟩:=t
 have hts:tenSum ⟨nm,qu,nx,⟨s1,sn,s3,sl⟩,⟨g1,gn,g3,gl⟩,⟨t1,tn,t3,tl⟩,⟨l1,ln,l3,ll⟩⟩=sumS sl sl.length+sumG tl tl.length:=rfl
 rw [hts] at hs ⊢
 show Calls Tryz.prog 175 #[.agg #[.string ⟨nm.toArray⟩,.int .i64 qu,.int .i64 nx,.slice s1 sn s3,.slice g1 gn g3,.slice t1 tn t3,.slice l1 ln l3]] w _
 have HSN:Hid (sn=sl.length):=hr.sets.1
 have HTN:Hid (tn=tl.length):=hr.stages.1
 have hsn:sn≤1000000000000:=hz.sets
 have htn:tn≤1000000000000:=hz.stages
 have hb2:=((Below.refl w.heap.size w).alloc (Nat.le_refl _) (.cells #[.string ⟨nm.toArray⟩,.int .i64 qu,.int .i64 nx,.slice s1 sn s3,.slice g1 gn g3,.slice t1 tn t3,.slice l1 ln l3] 27)).alloc (by simp) (.cells #[.int .i64 0,.int .i64 qu] 218)
 have kT:=(Blk.new w 27 #[.string ⟨nm.toArray⟩,.int .i64 qu,.int .i64 nx,.slice s1 sn s3,.slice g1 gn g3,.slice t1 tn t3,.slice l1 ln l3]).alloc (.cells #[.int .i64 0,.int .i64 qu] 218)
 have kU:=Blk.new (w.alloc (.cells #[.string ⟨nm.toArray⟩,.int .i64 qu,.int .i64 nx,.slice s1 sn s3,.slice g1 gn g3,.slice t1 tn t3,.slice l1 ln l3] 27)) 218 #[.int .i64 0,.int .i64 qu]
 rw [show (w.alloc (.cells #[.string ⟨nm.toArray⟩,.int .i64 qu,.int .i64 nx,.slice s1 sn s3,.slice g1 gn g3,.slice t1 tn t3,.slice l1 ln l3] 27)).heap.size=w.heap.size+1 by simp] at kU
 obtain ⟨W2,hW2⟩:∃ W,W=(w.alloc (.cells #[.string ⟨nm.toArray⟩,.int .i64 qu,.int .i64 nx,.slice s1 sn s3,.slice g1 gn g3,.slice t1 tn t3,.slice l1 ln l3] 27)).alloc (.cells #[.int .i64 0,.int .i64 qu] 218):=⟨_,rfl⟩
 have hsz:W2.heap.size=w.heap.size+2:=by rw [hW2];simp
 rw [← hW2] at hb2 kT kU
 have HR:Hid (∀ W,OnlyIn (w.heap.size+1) (w.heap.size+1+1) W2 W→TenR.rd W B ⟨nm,qu,nx,⟨s1,sn,s3,sl⟩,⟨g1,gn,g3,gl⟩,⟨t1,tn,t3,tl⟩,⟨l1,ln,l3,ll⟩⟩):=by
  show ∀ W,_→_
  intro W hW
  exact TenR.rd.below hr ((hb2.trans (hW.low.mono (by omega))).mono hB)
 have HX:Hid (∀ W,OnlyIn (w.heap.size+1) (w.heap.size+1+1) W2 W→W.cell? ⟨w.heap.size,3,none⟩=some (.slice s1 sn s3)∧W.cell? ⟨w.heap.size,5,none⟩=some (.slice t1 tn t3)):=by
  show ∀ W,_→_
  intro W hW
  have hk:=kT.below hW.low (by omega)
  exact ⟨hk.cell 3,hk.cell 5⟩
 have HB2:=Lib.hid hb2
 have HZ:=Lib.hid hz
 have HS:=Lib.hid hs
 have HSZ:=Lib.hid hsz
 have HKU:=Lib.hid kU
 clear hb2 kT kU hz hr hts hs hsz
 go_enter Tryz.func175,Tryz.ntmps175
 go_wp2_with fail
 rw [← hW2]
 clear hW2
 go_loopw [15] (fun j wr=>∃ k:Nat,k≤sn∧j=.int .i64 (k:Int)∧Hid (Blk wr (w.heap.size+1) 218 #[.int .i64 (sumS sl k),.int .i64 qu])∧Hid (OnlyIn (w.heap.size+1) (w.heap.size+1+1) W2 wr)) (fun j _=>sn-(intOf j).toNat)
 case atStart=>exact ⟨0,Nat.zero_le _,rfl,by show Blk _ _ _ _;simpa [sumS] using HKU.out,OnlyIn.refl _ _ _⟩
 case round =>
  obtain ⟨k,hk,rfl,HK,HO⟩:=hrel
  by_cases hlt:k<sn
  ·have hki:(k:Int)<(sn:Int):=by omega
   have hkl:k<sl.length:=by have:=HSN.out;omega
   obtain ⟨ad,hsa,-,p0,p1,p2,p3,p4⟩:=set_at (HR.out wr HO.out).sets.2.2 HSN.out hlt
   simp only at hsa
   subst hsa
   have hss:=sumS_succ sl k hkl
   have hmo:=(sumS_mono sl (k+1)).2
   have hm0:=(sumS_mono sl k).1
   have hg0:=(sumG_mono tl tl.length).1
   have hrx:=(HR.out wr HO.out).eachS _ (List.getElem_mem hkl)
   have hzx:=HZ.out.eachS _ (List.getElem_mem hkl)
   obtain ⟨x,hx⟩:∃ x,x=sl[k]'hkl:=⟨_,rfl⟩
   simp only at p0 p1 p2 p3 p4
   rw [← hx] at p0 p1 p2 p3 p4 hss hrx hzx
   clear hx
   have hgs:=HK.out.lt
   have hba:=(Below.refl wr.heap.size wr).alloc (Nat.le_refl _) (.cells (encSet x).toArray 42)
   have hcl:=uset_any x (w.heap.size+1) 218 (sumS sl k) qu (wr.alloc (.cells (encSet x).toArray 42)).drew B ⟨hrx.body.below (hba.drew.mono (by omega)),hrx.snaps.below (hba.drew.mono (by omega)),fun y hy=>⟨(hrx.each y hy).body.below (hba.drew.mono (by omega)),(hrx.each y hy).tags.below (hba.drew.mono (by omega)),(hrx.each y hy).own.below (hba.drew.mono (by omega))⟩,hrx.own.below (hba.drew.mono (by omega))⟩ hzx (by omega) (HK.out.alloc _).drew hm0 (by rw [← hss];have:=HS.out;omega)
   have HOA:Hid (OnlyIn (w.heap.size+1) (w.heap.size+1+1) W2 (wr.alloc (.cells (encSet x).toArray 42)).drew):=HO.out.trans (OnlyIn.of_below hba.drew (by omega))
   rw [← hss] at hcl
   obtain ⟨S1,hS1⟩:∃ v,v=sumS sl (k+1):=⟨_,rfl⟩
   rw [← hS1] at hcl
   have HS1:=Lib.hid hS1
   have kx:=(Blk.new wr 42 (encSet x).toArray)
   clear hss hmo hm0 hg0 hrx hzx hba HK HO hS1
   obtain ⟨pa,og,⟨bA,bn,bc,bl⟩,⟨zA,zn,zc,zl⟩,⟨oA,on,oc,ol⟩⟩:=x
   have hcl2:Calls Tryz.prog 200 #[.pointer (some ⟨w.heap.size+1,0,none⟩),.agg #[.string ⟨pa.toArray⟩,.string ⟨og.toArray⟩,.slice bA bn bc,.slice zA zn zc,.slice oA on oc]] (wr.alloc (.cells #[.string ⟨pa.toArray⟩,.string ⟨og.toArray⟩,.slice bA bn bc,.slice zA zn zc,.slice oA on oc] 42)).drew _:=hcl
   have HOB:Hid (OnlyIn (w.heap.size+1) (w.heap.size+1+1) W2 (wr.alloc (.cells #[.string ⟨pa.toArray⟩,.string ⟨og.toArray⟩,.slice bA bn bc,.slice zA zn zc,.slice oA on oc] 42)).drew):=HOA.out
   clear hcl HOA kx
   simp only at p0 p1 p2 p3 p4
   obtain ⟨c3,c5⟩:=(HX.out W2 (OnlyIn.refl _ _ _))
   go_wp2_with fail
   go_region_with (refine hcl2.mono ?_;rintro e w3 ⟨rfl,hk3,ho3⟩)
   all_goals
    have HK3:Hid (Blk w3 (w.heap.size+1) 218 #[.int .i64 (sumS sl (k+1)),.int .i64 qu]):=by
     show Blk _ _ _ _
     rw [← HS1.out]
     exact hk3
    have HO3:=Lib.hid (HOB.out.trans ho3)
    clear hk3 ho3 HOB HS1
    go_wp2_with fail
    go_roundw
    case rel=>exact ⟨k+1,by omega,by go_num,HK3,HO3⟩
    case measure=>simp [intOf];omega
  ·obtain rfl:k=sn:=by omega
   have HK1:Hid (Blk wr (w.heap.size+1) 218 #[.int .i64 (sumS sl sl.length+sumG tl 0),.int .i64 qu]):=by
    show Blk _ _ _ _
    have h:=HK.out
    rw [HSN.out] at h
    simpa [sumG] using h
   obtain ⟨c3,c5⟩:=HX.out wr HO.out
   clear HK
   go_wp2_with fail
   go_loopw [28] (fun j wq=>∃ k:Nat,k≤tn∧j=.int .i64 (k:Int)∧Hid (Blk wq (w.heap.size+1) 218 #[.int .i64 (sumS sl sl.length+sumG tl k),.int .i64 qu])∧Hid (OnlyIn (w.heap.size+1) (w.heap.size+1+1) W2 wq)) (fun j _=>tn-(intOf j).toNat)
   case atStart=>exact ⟨0,Nat.zero_le _,rfl,HK1,HO⟩
   case round =>
    clear HK1 HO c3 c5
    obtain ⟨m,hm,rfl,HK,HO⟩:=hrel
    by_cases hlt:m<tn
    ·have hki:(m:Int)<(tn:Int):=by omega
     have hkl:m<tl.length:=by have:=HTN.out;omega
     obtain ⟨ad,hsa,-,hel⟩:=Reads.elAll (enc:=encStage) (k:=21) (fun _=>rfl) (HR.out wr HO.out).stages.2.2 HTN.out hlt
     simp only at hsa
     subst hsa
     have hss:=sumG_succ tl m hkl
     have hmo:=(sumG_mono tl (m+1)).2
     have hm0:=(sumG_mono tl m).1
     have hg0:=(sumS_mono sl sl.length).1
     have hzx:=HZ.out.eachT _ (List.getElem_mem hkl)
     obtain ⟨x,hx⟩:∃ x,x=tl[m]'hkl:=⟨_,rfl⟩
     simp only at hel
     rw [← hx] at hel hss hzx
     clear hx
     obtain ⟨qinto,qkind,qnm,qfrm,qgd,⟨qo1,qon,qo3,qol⟩,qix,qct,qdt,⟨qsa,qsb,qsc,qsd⟩,⟨qb1,qbn,qb3,qbl⟩,qat,qnx,⟨qua,qub,quc,qud⟩,qdone⟩:=x
     have HEL:Hid (∀ j v,([.string ⟨qinto.toArray⟩,.int .i64 qkind,.string ⟨qnm.toArray⟩,.int .i64 qfrm,.int .i64 qgd,.slice qo1 qon qo3,.int .i64 qix,.int .i64 qct,.string ⟨qdt.toArray⟩,.int .u64 qsa,.int .u64 qsb,.int .u64 qsc,.int .u64 qsd,.slice qb1 qbn qb3,.int .i64 qat,.int .i64 qnx,.int .u64 qua,.int .u64 qub,.int .u64 quc,.int .u64 qud,.bool qdone]:List Value)[j]?=some v→wr.cell? ((ad.add (m*21)).add j)=some v):=hel
     have hqn:qbn≤1000000000000:=hzx.body
     have HSS:Hid (sumG tl (m+1)=sumG tl m+((qbn:Int)+1)):=hss
     have hgs:=HK.out.lt
     have hba:=(Below.refl wr.heap.size wr).alloc (Nat.le_refl _) (.cells #[.string ⟨qinto.toArray⟩,.int .i64 qkind,.string ⟨qnm.toArray⟩,.int .i64 qfrm,.int .i64 qgd,.slice qo1 qon qo3,.int .i64 qix,.int .i64 qct,.string ⟨qdt.toArray⟩,.int .u64 qsa,.int .u64 qsb,.int .u64 qsc,.int .u64 qsd,.slice qb1 qbn qb3,.int .i64 qat,.int .i64 qnx,.int .u64 qua,.int .u64 qub,.int .u64 quc,.int .u64 qud,.bool qdone] 103)
     have hcl:=uadd_any (w.heap.size+1) 218 (sumS sl sl.length+sumG tl m) qu qb1 qbn qb3 (wr.alloc (.cells #[.string ⟨qinto.toArray⟩,.int .i64 qkind,.string ⟨qnm.toArray⟩,.int .i64 qfrm,.int .i64 qgd,.slice qo1 qon qo3,.int .i64 qix,.int .i64 qct,.string ⟨qdt.toArray⟩,.int .u64 qsa,.int .u64 qsb,.int .u64 qsc,.int .u64 qsd,.slice qb1 qbn qb3,.int .i64 qat,.int .i64 qnx,.int .u64 qua,.int .u64 qub,.int .u64 quc,.int .u64 qud,.bool qdone] 103)).drew (HK.out.alloc _).drew (by omega) (by omega) (by have:=HS.out;omega)
     have HOA:Hid (OnlyIn (w.heap.size+1) (w.heap.size+1+1) W2 (wr.alloc (.cells #[.string ⟨qinto.toArray⟩,.int .i64 qkind,.string ⟨qnm.toArray⟩,.int .i64 qfrm,.int .i64 qgd,.slice qo1 qon qo3,.int .i64 qix,.int .i64 qct,.string ⟨qdt.toArray⟩,.int .u64 qsa,.int .u64 qsb,.int .u64 qsc,.int .u64 qsd,.slice qb1 qbn qb3,.int .i64 qat,.int .i64 qnx,.int .u64 qua,.int .u64 qub,.int .u64 quc,.int .u64 qud,.bool qdone] 103)).drew):=HO.out.trans (OnlyIn.of_below hba.drew (by omega))
     have e13:=(Blk.new wr 103 #[.string ⟨qinto.toArray⟩,.int .i64 qkind,.string ⟨qnm.toArray⟩,.int .i64 qfrm,.int .i64 qgd,.slice qo1 qon qo3,.int .i64 qix,.int .i64 qct,.string ⟨qdt.toArray⟩,.int .u64 qsa,.int .u64 qsb,.int .u64 qsc,.int .u64 qsd,.slice qb1 qbn qb3,.int .i64 qat,.int .i64 qnx,.int .u64 qua,.int .u64 qub,.int .u64 quc,.int .u64 qud,.bool qdone]).drew.cell 13
     simp only [zF,zD,zE] at e13
     clear hss hmo hm0 hg0 hzx hba HK HO hel
     go_wp2_with (first | (refine wpList_load_at rfl 103 (.tmp 30) rfl (ad.add (m*21)) rfl [.string ⟨qinto.toArray⟩,.int .i64 qkind,.string ⟨qnm.toArray⟩,.int .i64 qfrm,.int .i64 qgd,.slice qo1 qon qo3,.int .i64 qix,.int .i64 qct,.string ⟨qdt.toArray⟩,.int .u64 qsa,.int .u64 qsb,.int .u64 qsc,.int .u64 qsd,.slice qb1 qbn qb3,.int .i64 qat,.int .i64 qnx,.int .u64 qua,.int .u64 qub,.int .u64 quc,.int .u64 qud,.bool qdone] _ HEL.out Tryz.underlying103 rfl (by kernel_rfl) ?_) | (refine wpList_store_new wr rfl 103 (.tmp 7) (.tmp 31) rfl 103 _ [.string ⟨qinto.toArray⟩,.int .i64 qkind,.string ⟨qnm.toArray⟩,.int .i64 qfrm,.int .i64 qgd,.slice qo1 qon qo3,.int .i64 qix,.int .i64 qct,.string ⟨qdt.toArray⟩,.int .u64 qsa,.int .u64 qsb,.int .u64 qsc,.int .u64 qsd,.slice qb1 qbn qb3,.int .i64 qat,.int .i64 qnx,.int .u64 qua,.int .u64 qub,.int .u64 quc,.int .u64 qud,.bool qdone] rfl rfl rfl (by kernel_rfl) (by simp [Value.oneCell']) ?_))
     go_region_with (refine hcl.mono ?_;rintro e w3 ⟨rfl,hk3,ho3⟩)
     all_goals
      have HK3:Hid (Blk w3 (w.heap.size+1) 218 #[.int .i64 (sumS sl sl.length+sumG tl (m+1)),.int .i64 qu]):=by
       show Blk _ _ _ _
       rw [HSS.out,← Int.add_assoc]
       exact hk3
      have HO3:=Lib.hid (HOA.out.trans ho3)
      clear hk3 ho3 HOA HSS e13 HEL
      go_wp2_with fail
      go_roundw
      case rel=>exact ⟨m+1,by omega,by go_num,HK3,HO3⟩
      case measure=>simp [intOf];omega
    ·obtain rfl:m=tn:=by omega
     go_wp2_with fail
     go_ret
     refine ⟨w.heap.size+1,rfl,?_,HB2.out.trans (HO.out.low.mono (by omega))⟩
     have h:=HK.out
     rw [HTN.out] at h
     exact h
set_option maxRecDepth 100000 in
theorem uover_any (g:Nat) (S q:Int) (w:World) (hk:Blk w g 218 #[.int .i64 S,.int .i64 q]) :
  Calls Tryz.prog 176 #[.pointer (some ⟨g,0,none⟩)] w fun e w'=>e=.returned (.bool (decide (q<S)))∧Below w.heap.size w w':=by
 have c0:=hk.cell 0
 have c1:=hk.cell 1
 simp only [zF,zD,zE] at c0 c1
 clear hk
 by_cases h:q<S
 ·have hd:Hid (decide (q<S)=true):=decide_eq_true h
  go_enter Tryz.func176,Tryz.ntmps176
  go_wp2_with fail
  go_region
  go_wp2_with fail
  go_ret
  exact ⟨by rw [hd.out];rfl,(Below.refl _ _).drew⟩
 ·have hd:Hid (decide (q<S)=false):=decide_eq_false h
  go_enter Tryz.func176,Tryz.ntmps176
  go_wp2_with fail
  go_region
  go_wp2_with fail
  go_ret
  exact ⟨by rw [hd.out];rfl,(Below.refl _ _).drew⟩
set_option maxRecDepth 100000 in
set_option maxHeartbeats 2000000 in
theorem fits_any (t:TenR) (w:World) (B:Nat) (hB:B≤w.heap.size) (hr:t.rd w B) (hz:t.sz) (hs:tenSum t≤4000000000000000000) :
  Calls Tryz.prog 114 #[t.val] w fun e w'=>e=.returned (.bool (decide (tenSum t≤t.quota)))∧Below w.heap.size w w':=by
 have hba:=(Below.refl w.heap.size w).alloc (Nat.le_refl _) (.cells t.cells.toArray 27)
 have hc:=counted_any t (w.alloc (.cells t.cells.toArray 27)) B (by simp;omega) (TenR.rd.below hr (hba.mono hB)) hz hs
 have kT:=Blk.new w 27 t.cells.toArray
 obtain ⟨S,hS⟩:∃ S,S=tenSum t:=⟨_,rfl⟩
 rw [← hS] at hc ⊢
 clear hS hr hz hs
 obtain ⟨nm,qu,nx,⟨s1,sn,s3,sl⟩,⟨g1,gn,g3,gl⟩,⟨t1,tn,t3,tl⟩,⟨l1,ln,l3,ll⟩⟩:=t
 have hc2:Calls Tryz.prog 175 #[.agg #[.string ⟨nm.toArray⟩,.int .i64 qu,.int .i64 nx,.slice s1 sn s3,.slice g1 gn g3,.slice t1 tn t3,.slice l1 ln l3]] (w.alloc (.cells #[.string ⟨nm.toArray⟩,.int .i64 qu,.int .i64 nx,.slice s1 sn s3,.slice g1 gn g3,.slice t1 tn t3,.slice l1 ln l3] 27)) _:=hc
 have HBA:Hid (Below w.heap.size w (w.alloc (.cells #[.string ⟨nm.toArray⟩,.int .i64 qu,.int .i64 nx,.slice s1 sn s3,.slice g1 gn g3,.slice t1 tn t3,.slice l1 ln l3] 27))):=hba
 clear hc hba kT
 show Calls Tryz.prog 114 #[.agg #[.string ⟨nm.toArray⟩,.int .i64 qu,.int .i64 nx,.slice s1 sn s3,.slice g1 gn g3,.slice t1 tn t3,.slice l1 ln l3]] w fun e w'=>e=.returned (.bool (decide (S≤qu)))∧Below w.heap.size w w'
 go_enter Tryz.func114,Tryz.ntmps114
 go_wp2_with fail
 refine hc2.mono ?_
 clear hc2
 rintro e w2 ⟨g,rfl,hk,hb2⟩
 have ho:=uover_any g S qu w2 hk
 have HB2:=Lib.hid (HBA.out.trans (hb2.mono HBA.out.size))
 clear hk hb2 HBA
 have hq:(!decide (qu<S))=decide (S≤qu):=by
  by_cases h:qu<S
  ·simp [h,Int.not_le.2 h]
  ·simp [h,Int.not_lt.1 h]
 go_wp2_with fail
 refine ho.mono ?_
 clear ho
 rintro e w3 ⟨rfl,hb3⟩
 go_wp2_with fail
 go_ret
 exact ⟨by rw [← hq];rfl,HB2.out.trans (hb3.mono HB2.out.size)⟩
end Go.Proofs.YtcgclpcocdappaaGreatDoor
