/-
  shape.asked, shape.place: a path that may be asked; a set's place. What a tenant's content tells: whether it may be, and what it is charged for. slices.Insert of one element into a row of the call's own, by its contract. Contents with a set more, with another set at a place, with a set less. What a function tells that answers by a tenant and an error; sizes by content.
-/
import Derived.Test.YtiojfffgiejibaaGreatDoorQsM1
import Derived.WalkKit
import Derived.WalkSpells
import Derived.Below
import Derived.Laws.OwnMore
import Derived.Deep.AppendLies
import Derived.Deep.Draws
import Derived.Laws.Rows
import Derived.Maps.AppendAt
import Derived.RegionTactic
import Derived.OwnWalk
import Derived.Deep.QuietTactic
import Derived.BigQuiet
import Derived.Lib.Hide
import Derived.Laws.CopyOwn
import Derived.IntWalk
import Derived.Test.YtiojfffgiejibaaGreatDoorRows
import Derived.Handy
import Derived.Deep.Quiet
import Derived.Orders
import Derived.Lib.SplitLaws
import Derived.Lib.LastIndexByte
import Derived.Lib.Strings
import Derived.ShutString
import Derived.Sort.Walk0
import Derived.Sort.KeysCollected
import Derived.Shelf.Strings.Search1
import Derived.Shelf.Strings.Search2
import Derived.Shelf.Strings.Search3
import Derived.Shelf.Strings.Cut
import Derived.Shelf.Strings.Count
import Derived.Shelf.LaysM
import Derived.Shelf.Strings.Shaped
import Derived.Shelf.Strings.LastIndex
import Derived.Shelf.Strings.Split
import Derived.Shelf.Strings.SplitShaped
import Derived.Shelf.Unicode.Decode
import Derived.Shelf.Strings.RuneCount
import Derived.Shelf.Strings.Explode
import Derived.Shelf.Unicode.DecodeSlow
import Derived.Shelf.Slices.Turned
import Derived.Test.YtiojfffgiejibaaGreatDoorProg
import Derived.Laws.BytesString
import Derived.Laws.IdiomStrings
import Derived.Lib.ConvBytes
import Derived.Deep.MidRow
import Derived.Great.BuildSlice
import Derived.Lib.AppendZeros
import Derived.Lib.Overlaps
import Derived.Lib.AppendZerosOnto
import Derived.Deep.RegionLaw
import Derived.ProofKit
import Derived.OpenShut
import Derived.ChangeOld
import Derived.Carry
import Derived.SizedLaws
import Derived.JoinedCond
import Derived.Deep.CondSized
import Derived.Deep.Slices
import Derived.Deep.Fields
import Derived.Lib.SmallJoins
import Derived.Deep.DeepCutAuto
import Derived.Test.YtiojfffgiejibaaGreatDoorQ0
import Derived.Test.YtiojfffgiejibaaGreatDoorQs1
import Derived.Test.YtiojfffgiejibaaGreatDoorQs2
import Derived.Test.YtiojfffgiejibaaGreatDoorQs3
import Derived.Test.YtiojfffgiejibaaGreatDoorQs5
import Derived.Test.YtiojfffgiejibaaGreatDoorQs6
import Derived.Test.YtiojfffgiejibaaGreatDoorQs7
import Derived.Test.YtiojfffgiejibaaGreatDoorQs9
import Derived.Test.YtiojfffgiejibaaGreatDoorQs10
import Derived.Test.YtiojfffgiejibaaGreatDoorQs11
import Derived.Test.YtiojfffgiejibaaGreatDoorQs12
import Derived.Test.YtiojfffgiejibaaGreatDoorQs16
import Derived.Test.YtiojfffgiejibaaGreatDoorQs19
import Derived.Test.YtiojfffgiejibaaGreatDoorQs20
import Derived.Test.YtiojfffgiejibaaGreatDoorQs21
import Derived.Test.YtiojfffgiejibaaGreatDoorQs23
import Derived.Test.YtiojfffgiejibaaGreatDoorQs26
import Derived.Test.YtiojfffgiejibaaGreatDoorQs27
namespace Go.Proofs.YtiojfffgiejibaaGreatDoor
open Go.RowKit
theorem tenE_in (t:TenR):tenE t=0∨tenE t=9:=by unfold tenE;split <;> simp
/-- what is asked of a path: its error -/
def askP (t:TenR) (p:BS):Int:=if tenE t=9 then 9 else if pathB p=false then 31 else 0
/-- a set's place, and its error -/
def placeP (t:TenR) (p:BS):Int×Int :=
 if askP t p≠0 then (0,askP t p) else
  match t.sets.l.find? (fun s=>s.path == p) with
  | none=>(0,71)
  | some _=>(findS t.sets.l p,0)
theorem askP_in (t:TenR) (p:BS):askP t p=0∨askP t p=9∨askP t p=31:=by
 unfold askP
 by_cases h:tenE t=9
 ·rw [if_pos h];exact .inr (.inl rfl)
 ·rw [if_neg h]
  cases pathB p
  ·exact .inr (.inr rfl)
  ·exact .inl rfl
set_option maxRecDepth 100000 in
set_option maxHeartbeats 4000000 in
theorem shAsked_any (t:TenR) (p:BS) (w:World) (B:Nat) (hB:B≤w.heap.size) (hr:t.rd w B) (hz:t.sz) (hp:p.length≤4000000000) (hmx:HasMax w) :
  Calls Tryz.prog 40 #[t.val,.string ⟨p.toArray⟩] w fun e w'=>e=.returned (.int .i64 (askP t p))∧Below w.heap.size w w':=by
 have h2:=tenE_in t
 obtain ⟨nm,qu,nx,⟨s1,sn,s3,sl⟩,⟨g1,gn,g3,gl⟩,⟨t1,tn,t3,tl⟩,⟨l1,ln,l3,ll⟩⟩:=t
 show Calls Tryz.prog 40 #[.agg #[.string ⟨nm.toArray⟩,.int .i64 qu,.int .i64 nx,.slice s1 sn s3,.slice g1 gn g3,.slice t1 tn t3,.slice l1 ln l3],.string ⟨p.toArray⟩] w _
 have hb1:=(Below.refl w.heap.size w).alloc (Nat.le_refl _) (.cells #[.string ⟨nm.toArray⟩,.int .i64 qu,.int .i64 nx,.slice s1 sn s3,.slice g1 gn g3,.slice t1 tn t3,.slice l1 ln l3] 27)
 obtain ⟨W1,hW1⟩:∃ W,W=w.alloc (.cells #[.string ⟨nm.toArray⟩,.int .i64 qu,.int .i64 nx,.slice s1 sn s3,.slice g1 gn g3,.slice t1 tn t3,.slice l1 ln l3] 27):=⟨_,rfl⟩
 have hsz1:W1.heap.size=w.heap.size+1:=tZ32
 rw [← hW1] at hb1
 have hc:Calls Tryz.prog 58 #[.agg #[.string ⟨nm.toArray⟩,.int .i64 qu,.int .i64 nx,.slice s1 sn s3,.slice g1 gn g3,.slice t1 tn t3,.slice l1 ln l3]] W1 fun e w'=>e=.returned (.int .i64 (tenE ⟨nm,qu,nx,⟨s1,sn,s3,sl⟩,⟨g1,gn,g3,gl⟩,⟨t1,tn,t3,tl⟩,⟨l1,ln,l3,ll⟩⟩))∧Below W1.heap.size W1 w' :=
  tcheck_any ⟨nm,qu,nx,⟨s1,sn,s3,sl⟩,⟨g1,gn,g3,gl⟩,⟨t1,tn,t3,tl⟩,⟨l1,ln,l3,ll⟩⟩ W1 B (TenR.rd.below hr (hb1.mono hB)) tZ1 hz (hmx.below hb1)
 have hPA:Hid (∀ W,Below W1.heap.size W1 W→Calls Tryz.prog 72 #[.string ⟨p.toArray⟩] W fun e w'=>e=.returned (.bool (pathB p))∧Below W.heap.size W w'):=fun W hb=>path_any ⟨p.toArray⟩ W tZ59 (hmx.below (hb1.trans (hb.mono tZ1)))
 obtain ⟨E,hE⟩:∃ E,E=tenE ⟨nm,qu,nx,⟨s1,sn,s3,sl⟩,⟨g1,gn,g3,gl⟩,⟨t1,tn,t3,tl⟩,⟨l1,ln,l3,ll⟩⟩:=⟨_,rfl⟩
 have HV:Hid (askP ⟨nm,qu,nx,⟨s1,sn,s3,sl⟩,⟨g1,gn,g3,gl⟩,⟨t1,tn,t3,tl⟩,⟨l1,ln,l3,ll⟩⟩ p=if E=9 then 9 else if pathB p=false then 31 else 0):=by show _=_;rw [hE];rfl
 rw [← hE] at h2 hc
 obtain ⟨bp,hbp⟩:∃ b,b=pathB p:=⟨_,rfl⟩
 rw [← hbp] at hPA HV
 have HB1:=Lib.hid hb1
 have HSZ1:=Lib.hid hsz1
 clear hb1 hr hz hsz1 hmx hE hbp
 go_enter Tryz.func40,Tryz.ntmps40
 go_wp2_with fail
 rw [← hW1]
 clear hW1
 refine hc.mono ?_
 clear hc
 rintro e w2 ⟨rfl,hb2⟩
 have HW2:=Lib.hid hb2
 clear hb2
 rcases h2 with rfl | rfl
 ·have hc:=hPA.out w2 HW2.out
  clear hPA
  go_wp2_with fail
  refine hc.mono ?_
  clear hc
  rintro e w3 ⟨rfl,hb3⟩
  have HW3:=Lib.hid (HW2.out.trans (hb3.mono HW2.out.size))
  clear hb3 HW2
  cases bp with
  | false =>
   go_wp2_with fail
   exact bodyPost_ret (v:=.int .i64 31) tZ70 rfl ⟨by rw [HV.out];rfl,HB1.out.trans (HW3.out.mono tZ13)⟩
  | true =>
   go_wp2_with fail
   exact bodyPost_ret (v:=.int .i64 0) tZ70 rfl ⟨by rw [HV.out];rfl,HB1.out.trans (HW3.out.mono tZ13)⟩
 ·go_wp2_with fail
  exact bodyPost_ret (v:=.int .i64 9) tZ70 rfl ⟨by rw [HV.out];rfl,HB1.out.trans (HW2.out.mono tZ13)⟩
set_option maxRecDepth 100000 in
set_option maxHeartbeats 4000000 in
theorem place_any (t:TenR) (p:BS) (w:World) (B:Nat) (hB:B≤w.heap.size) (hr:t.rd w B) (hz:t.sz) (hp:p.length≤4000000000) (hmx:HasMax w) :
  Calls Tryz.prog 48 #[t.val,.string ⟨p.toArray⟩] w fun e w'=>e=.returned (.tuple #[.int .i64 (placeP t p).1,.int .i64 (placeP t p).2])∧Below w.heap.size w w':=by
 have h3:=askP_in t p
 obtain ⟨nm,qu,nx,⟨s1,sn,s3,sl⟩,⟨g1,gn,g3,gl⟩,⟨t1,tn,t3,tl⟩,⟨l1,ln,l3,ll⟩⟩:=t
 show Calls Tryz.prog 48 #[.agg #[.string ⟨nm.toArray⟩,.int .i64 qu,.int .i64 nx,.slice s1 sn s3,.slice g1 gn g3,.slice t1 tn t3,.slice l1 ln l3],.string ⟨p.toArray⟩] w _
 have hb1:=(Below.refl w.heap.size w).alloc (Nat.le_refl _) (.cells #[.string ⟨nm.toArray⟩,.int .i64 qu,.int .i64 nx,.slice s1 sn s3,.slice g1 gn g3,.slice t1 tn t3,.slice l1 ln l3] 27)
 have kT:=Blk.new w 27 #[.string ⟨nm.toArray⟩,.int .i64 qu,.int .i64 nx,.slice s1 sn s3,.slice g1 gn g3,.slice t1 tn t3,.slice l1 ln l3]
 obtain ⟨W1,hW1⟩:∃ W,W=w.alloc (.cells #[.string ⟨nm.toArray⟩,.int .i64 qu,.int .i64 nx,.slice s1 sn s3,.slice g1 gn g3,.slice t1 tn t3,.slice l1 ln l3] 27):=⟨_,rfl⟩
 have hsz1:W1.heap.size=w.heap.size+1:=tZ32
 rw [← hW1] at hb1 kT
 have hT:=Lib.hid (fun (W':World) (hB':Below W1.heap.size W1 W')=>(⟨(kT.below hB' tZ1).cell 0,(kT.below hB' tZ1).cell 1,(kT.below hB' tZ1).cell 2,(kT.below hB' tZ1).cell 3,(kT.below hB' tZ1).cell 4,(kT.below hB' tZ1).cell 5,(kT.below hB' tZ1).cell 6⟩:W'.cell? ⟨w.heap.size,0,none⟩=some (.string ⟨nm.toArray⟩)∧W'.cell? ⟨w.heap.size,1,none⟩=some (.int .i64 qu)∧W'.cell? ⟨w.heap.size,2,none⟩=some (.int .i64 nx)∧W'.cell? ⟨w.heap.size,3,none⟩=some (.slice s1 sn s3)∧W'.cell? ⟨w.heap.size,4,none⟩=some (.slice g1 gn g3)∧W'.cell? ⟨w.heap.size,5,none⟩=some (.slice t1 tn t3)∧W'.cell? ⟨w.heap.size,6,none⟩=some (.slice l1 ln l3)))
 have HSN:=Lib.hid (show sn=sl.length from hr.sets.1)
 have hc:Calls Tryz.prog 40 #[.agg #[.string ⟨nm.toArray⟩,.int .i64 qu,.int .i64 nx,.slice s1 sn s3,.slice g1 gn g3,.slice t1 tn t3,.slice l1 ln l3],.string ⟨p.toArray⟩] W1 _ :=
  shAsked_any ⟨nm,qu,nx,⟨s1,sn,s3,sl⟩,⟨g1,gn,g3,gl⟩,⟨t1,tn,t3,tl⟩,⟨l1,ln,l3,ll⟩⟩ p W1 B tZ1 (TenR.rd.below hr (hb1.mono hB)) hz hp (hmx.below hb1)
 have hFD:Hid (∀ W,Below W1.heap.size W1 W→Calls Tryz.prog 42 #[.agg #[.string ⟨nm.toArray⟩,.int .i64 qu,.int .i64 nx,.slice s1 sn s3,.slice g1 gn g3,.slice t1 tn t3,.slice l1 ln l3],.string ⟨p.toArray⟩] W fun e w'=>e=.returned (.int .i64 (findS sl p))∧Below W.heap.size W w'):=fun W hb =>
  find_any _ _ _ _ _ _ sl sn HSN.out s1 s3 p W B (TenR.rd.below hr ((hb1.trans (hb.mono tZ1)).mono hB)).sets.2.2 tZ20 tZ17
 obtain ⟨E,hE⟩:∃ E,E=askP ⟨nm,qu,nx,⟨s1,sn,s3,sl⟩,⟨g1,gn,g3,gl⟩,⟨t1,tn,t3,tl⟩,⟨l1,ln,l3,ll⟩⟩ p:=⟨_,rfl⟩
 obtain ⟨V,hV⟩:∃ V,V=placeP ⟨nm,qu,nx,⟨s1,sn,s3,sl⟩,⟨g1,gn,g3,gl⟩,⟨t1,tn,t3,tl⟩,⟨l1,ln,l3,ll⟩⟩ p:=⟨_,rfl⟩
 have HV:Hid (V=if E≠0 then (0,E) else match sl.find? (fun s=>s.path == p) with
  | none=>(0,71)
  | some _=>(findS sl p,0)):=by show _=_;rw [hV,hE];rfl
 rw [← hE] at h3 hc
 rw [← hV]
 have HB1:=Lib.hid hb1
 have HSZ1:=Lib.hid hsz1
 clear hb1 kT hr hz hsz1 hmx hE hV
 go_enter Tryz.func48,Tryz.ntmps48
 go_wp2_with fail
 rw [← hW1]
 clear hW1
 refine hc.mono ?_
 clear hc
 rintro e w2 ⟨rfl,hb2⟩
 have HW2:=Lib.hid hb2
 clear hb2
 rcases h3 with rfl | rfl | rfl
 ·have hc:=hFD.out w2 HW2.out
  obtain ⟨c0,c1,c2,c3,c4,c5,c6⟩:=hT.out _ HW2.out
  clear hFD
  go_wp2_with fail
  refine hc.mono ?_
  clear hc c0 c1 c2 c3 c4 c5 c6
  rintro e w3 ⟨rfl,hb3⟩
  have HW3:=Lib.hid (HW2.out.trans (hb3.mono HW2.out.size))
  clear hb3 HW2
  rcases firstI_cases (fun s:SetR=>s.path == p) sl with ⟨h1,h2⟩ | ⟨k,hkl,h1,h2⟩
  ·have h1:findS sl p=-1:=h1
   have HX:Hid (V=(0,71)):=by show _=_;rw [HV.out];simp only [h2];rfl
   clear HV h2
   rw [h1]
   go_wp2_with fail
   exact bodyPost_ret (v:=.tuple #[.int .i64 0,.int .i64 71]) tZ55 rfl ⟨by rw [HX.out],HB1.out.trans (HW3.out.mono tZ13)⟩
  ·have h1:findS sl p=(k:Int):=h1
   have HX:Hid (V=((k:Int),0)):=by show _=_;rw [HV.out];simp only [h2,h1];rfl
   clear HV h2
   rw [h1]
   have hk0:¬ (k:Int)<0:=tZ1
   go_wp2_with fail
   exact bodyPost_ret (v:=.tuple #[.int .i64 (k:Int),.int .i64 0]) tZ55 rfl ⟨by rw [HX.out],HB1.out.trans (HW3.out.mono tZ13)⟩
 ·go_wp2_with fail
  exact bodyPost_ret (v:=.tuple #[.int .i64 0,.int .i64 9]) tZ55 rfl ⟨by rw [HV.out];rfl,HB1.out.trans (HW2.out.mono tZ13)⟩
 ·go_wp2_with fail
  exact bodyPost_ret (v:=.tuple #[.int .i64 0,.int .i64 31]) tZ55 rfl ⟨by rw [HV.out];rfl,HB1.out.trans (HW2.out.mono tZ13)⟩
end Go.Proofs.YtiojfffgiejibaaGreatDoor
namespace Go.Proofs.YtiojfffgiejibaaGreatDoor
open Go.RowKit
/-! ### a content as a tenant of its own -/
def mkF {α:Type} (l:List α):FS α:=⟨none,l.length,l.length,l⟩
def SnapC.r (x:SnapC):SnapR:=⟨x.nm,x.gd,mkF x.body,mkF x.tags,mkF x.own⟩
def SetC.r (x:SetC):SetR:=⟨x.path,x.org,mkF x.body,mkF (x.snaps.map SnapC.r),mkF x.own⟩
def StageC.r (x:StageC):StageR:=⟨x.into,x.kind,x.nm,x.frm,x.gd,mkF x.own,x.ix,x.ct,x.dt,x.sm,mkF x.body,x.at_,x.nx,x.sum,x.done⟩
def TenC.r (x:TenC):TenR:=⟨x.nm,x.quota,x.next,mkF (x.sets.map SetC.r),mkF x.grants,mkF (x.stages.map StageC.r),mkF x.log⟩
theorem firstI_map {α β:Type} (f:α→β) (p:β→Bool) (l:List α):firstI p (l.map f)=firstI (fun x=>p (f x)) l:=by
 have h:firstP p (l.map f)=firstP (fun x=>p (f x)) l:=by
  unfold firstP
  induction l with
  | nil=>rfl
  | cons x r ih =>
   rw [List.map_cons]
   cases hp:p (f x) with
   | true=>rw [List.takeWhile_cons_of_neg (by simp [hp]),List.takeWhile_cons_of_neg (by simp [hp])];rfl
   | false=>rw [List.takeWhile_cons_of_pos (by simp [hp]),List.takeWhile_cons_of_pos (by simp [hp]),List.length_cons,List.length_cons,ih]
 unfold firstI
 rw [h,List.length_map]
theorem snapsFrom_n (p:Option Int) (l:List SnapR):snapsFrom p (l.map fun x=>x.con.r)=snapsFrom p l:=by
 induction l generalizing p with
 | nil=>cases p <;> rfl
 | cons x l ih =>
  rw [List.map_cons,snapsFrom_cons,snapsFrom_cons,ih]
  rfl
theorem snapsB_n (l:List SnapR):snapsB (l.map fun x=>x.con.r)=snapsB l:=by
 unfold snapsB
 rw [snapsFrom_n,List.length_map,List.map_map]
 rfl
theorem setC_r (x:SetR):x.con.r=⟨x.path,x.org,mkF x.body.l,mkF (x.snaps.l.map fun y=>y.con.r),mkF x.own.l⟩:=by
 show SetR.mk _ _ _ _ _=_
 rw [show (x.con.snaps.map SnapC.r)=(x.snaps.l.map fun y=>y.con.r) from List.map_map]
 rfl
theorem find_map {α β:Type} (f:α→β) (p:β→Bool) (l:List α):(l.map f).find? p=(l.find? fun x=>p (f x)).map f:=by
 induction l with
 | nil=>rfl
 | cons x r ih =>
  rw [List.map_cons,List.find?_cons,List.find?_cons]
  cases p (f x) with
  | true=>rfl
  | false=>exact ih
theorem originB_n (all:List SetR) (s:SetR):originB (all.map fun x=>x.con.r) s.con.r=originB all s:=by
 unfold originB
 show (s.org == [] || match splitL s.org with
  | none=>false
  | some (p,n)=>!(p == s.path) && match (all.map fun x=>x.con.r).find? (fun x=>x.path == p) with
   | none=>false
   | some x=>x.snaps.l.any fun y=>y.nm == n)=_
 cases splitL s.org with
 | none=>rfl
 | some v =>
  obtain ⟨p,n⟩:=v
  simp only []
  rw [find_map]
  have e:(all.find? fun x:SetR=>x.con.r.path == p)=all.find? fun x=>x.path == p:=rfl
  rw [e]
  cases all.find? (fun x=>x.path == p) with
  | none=>rfl
  | some x =>
   simp only [Option.map_some]
   rw [setC_r x]
   show (s.org == [] || !(p == s.path) && (x.snaps.l.map fun y=>y.con.r).any fun y=>y.nm == n)=_
   rw [List.any_map]
   rfl
theorem setB_n (all:List SetR) (s:SetR):setB (all.map fun x=>x.con.r) s.con.r=setB all s:=by
 unfold setB
 rw [originB_n,setC_r s]
 show ((pathB s.path && match parB s.path with
  | none=>true
  | some u=>(all.map fun x=>x.con.r).any fun x=>x.path == u) && propsB s.own.l && okL s.body.l && snapsB (s.snaps.l.map fun y=>y.con.r) && originB all s)=_
 rw [snapsB_n]
 cases parB s.path with
 | none=>rfl
 | some u =>
  simp only []
  rw [List.any_map]
  rfl
theorem setsFrom_n (all:List SetR) (p:Option BS) (l:List SetR):setsFrom (all.map fun x=>x.con.r) p (l.map fun x=>x.con.r)=setsFrom all p l:=by
 induction l generalizing p with
 | nil=>cases p <;> rfl
 | cons x l ih =>
  have e:∀ (a:List SetR) (y:SetR) (r:List SetR),setsFrom a p (y :: r)=(setB a y && (match p with | none=>true | some q=>Op.bytesLess q y.path) && setsFrom a (some y.path) r):=by
   intro a y r
   cases p <;> rfl
  rw [List.map_cons,e,e,setB_n,show x.con.r.path=x.path from rfl,ih]
theorem setsB_n (l:List SetR):setsB (l.map fun x=>x.con.r)=setsB l:=by
 unfold setsB
 rw [setsFrom_n,List.length_map,List.any_map]
 rfl
theorem stagesFrom_n (p:Option BS) (l:List StageR):stagesFrom p (l.map fun x=>x.con.r)=stagesFrom p l:=by
 induction l generalizing p with
 | nil=>cases p <;> rfl
 | cons x l ih =>
  have e:∀ (y:StageR) (r:List StageR),stagesFrom p (y :: r)=(stageB y && (match p with | none=>true | some q=>Op.bytesLess q y.into) && stagesFrom (some y.into) r):=by
   intro y r
   cases p <;> rfl
  rw [List.map_cons,e,e,show x.con.r.into=x.into from rfl,ih]
  rfl
theorem stagesB_n (l:List StageR):stagesB (l.map fun x=>x.con.r)=stagesB l:=by
 unfold stagesB
 rw [stagesFrom_n,List.length_map]
theorem tenC_r (t:TenR):t.con.r=⟨t.nm,t.quota,t.next,mkF (t.sets.l.map fun x=>x.con.r),mkF t.grants.l,mkF (t.stages.l.map fun x=>x.con.r),mkF t.log.l⟩:=by
 show TenR.mk _ _ _ _ _ _ _=_
 rw [show (t.con.sets.map SetC.r)=(t.sets.l.map fun y=>y.con.r) from List.map_map,show (t.con.stages.map StageC.r)=(t.stages.l.map fun y=>y.con.r) from List.map_map]
 rfl
/-- whether a tenant may be hangs on its content alone -/
def TenC.E (c:TenC):Int:=tenE c.r
theorem tenE_con (t:TenR):tenE t=t.con.E:=by
 unfold TenC.E tenE
 have:tenB t.con.r=tenB t:=by
  rw [tenC_r]
  show (nameB t.nm && amt t.quota 0 && amt t.next 1 && setsB (t.sets.l.map fun x=>x.con.r) && grantsB t.grants.l && stagesB (t.stages.l.map fun x=>x.con.r) && logB t.log.l)=_
  rw [setsB_n,stagesB_n]
  rfl
 rw [this]
theorem TenC.E_two (c:TenC):c.E=0∨c.E=9:=by unfold TenC.E tenE;split <;> simp
/-! ### what it is charged for -/
theorem cast_sum {α:Type} (f:α→Nat) (g:α→Int) (l:List α) (h:∀ x∈l,g x=(f x:Int)):(l.map g).sum=((l.map f).sum:Nat):=by
 induction l with
 | nil=>rfl
 | cons x r ih =>
  rw [List.map_cons,List.map_cons,List.sum_cons,List.sum_cons,Int.natCast_add,h x List.mem_cons_self,ih fun y hy=>h y (List.mem_cons_of_mem _ hy)]
theorem setSum_con (x:SetR) (w:World) (B:Nat) (h:x.rd w B):setSum x=(x.con.charge:Nat):=by
 unfold setSum sumB SetC.charge
 rw [List.take_length,cast_sum (fun y:SnapR=>1+y.body.l.length) _ _ (fun y hy=>by rw [(h.each y hy).body.1];omega)]
 rw [h.body.1]
 show _=((1+x.body.l.length+((x.snaps.l.map SnapR.con).map fun y=>1+y.body.length).sum:Nat):Int)
 rw [List.map_map]
 show _=((1+x.body.l.length+(x.snaps.l.map fun y=>1+y.body.l.length).sum:Nat):Int)
 omega
theorem tenSum_con (t:TenR) (w:World) (B:Nat) (h:t.rd w B):tenSum t=(t.con.charge:Nat):=by
 unfold tenSum sumS sumG TenC.charge
 rw [List.take_length,List.take_length,cast_sum (fun y:SetR=>y.con.charge) _ _ (fun y hy=>setSum_con y w B (h.eachS y hy)),cast_sum (fun y:StageR=>1+y.body.l.length) _ _ (fun y hy=>by rw [(h.eachG y hy).body.1];omega)]
 show _=((((t.sets.l.map SetR.con).map SetC.charge).sum+((t.stages.l.map StageR.con).map fun s=>1+s.body.length).sum:Nat):Int)
 rw [List.map_map,List.map_map]
 rfl
end Go.Proofs.YtiojfffgiejibaaGreatDoor
namespace Go.Proofs.YtiojfffgiejibaaGreatDoor
open Go.RowKit
theorem Tryz.insSet_info:(Tryz.prog.info? 56).map (fun i=>(i.zero,i.size,i.bytes))=some (some (.agg #[.string ByteArray.empty,.string ByteArray.empty,.slice none 0 0,.slice none 0 0,.slice none 0 0]),5,104):=tZ2
theorem Tryz.insSet_size:(Tryz.prog.info? 56).map (·.size)=some 5:=tZ2
theorem Tryz.insSet_ov:Tryz.prog.funcs[138]?=some Tryz.f138:=tZ2
section
variable (news:Array Value) (hnl:news.size=5) (h1n:∀ u∈news.toList,u.oneCell'=true) (xs:List Value) (h1x:∀ u∈xs,u.oneCell'=true) (vb:Nat) (T:TypeId) (base n i:Nat)
set_option maxRecDepth 100000 in
include hnl h1n h1x in
theorem insSet_shift (g c0:Nat) (w:World) (cur:List Value) (hlt:i<n) (hroom:n+1≤c0) (hcm:c0≤maxLen) (hg:w.heap[g]?=some (.cells cur.toArray 56 (0,0))) (hcl:cur.length=c0*5) (hxs:cur.take (n*5)=xs) (hbg:base≤g) (hv:Blk w vb T news) (hne:g≠vb) :
  Calls Tryz.prog 91 #[.slice (some ⟨g,0,none⟩) n c0,.int .i64 i,.slice (some ⟨vb,0,none⟩) 1 1] w fun e w' =>
   ∃ v,e=.returned v∧w'.ownsRow base 56 5 v (n+1) (xs.take (i*5)++news.toList++xs.drop (i*5))∧w.grownBy w' (some g):=by
 have hxl:xs.length=n*5:=tZ107
 have hsb:=shape_of hg
 have hsa:=shape_of hv
 have HX2:=Lib.hid (show ∀ (j:Nat) (u:Value),(xs.drop (i*5))[j]?=some u→w.cell? ((⟨g,i*5,none⟩:Addr).add j)=some u from fun j u hj=>by
  rw [List.getElem?_drop] at hj
  have e:(⟨g,i*5,none⟩:Addr).add j=⟨g,i*5+j,none⟩:=tZ48
  rw [e,Blk.cell (t:=56) hg,← hj,← hxs,List.getElem?_take,if_pos tZ86]
  simp)
 have HV:=Lib.hid (show ∀ (w':World),w.grownBy w' (some g)→∀ (j:Nat) (u:Value),news.toList[j]?=some u→w'.cell? ((⟨vb,0,none⟩:Addr).add j)=some u from fun w' hg' j u hj=>by
  rw [addr_add0,(hv.grown hg' (by intro e;injection e with e;exact hne e.symm)).cell j]
  simpa using hj)
 have hov:∀ lb cb,(callFunc 138 #[.slice (some ⟨vb,0,none⟩) 1 1,.slice (some ⟨g,(i+1)*5,none⟩) lb cb]).run Tryz.prog w=.ok (.value (.bool false)) w:=fun lb cb=>by
  rw [run_callFunc_extern Tryz.insSet_ov tZ2 tZ2 tZ2 (e:=Extern.SlicesOverlaps.overlaps #[22,22] #[4]) tZ2,
   Lib.run_overlaps_apart w 22 4 56 Tryz.underlying22 5 (by intro w;exact Tryz.sizeOf56 w) ⟨vb,0,none⟩ ⟨g,(i+1)*5,none⟩ 1 1 lb cb (fun e=>hne e.symm) T 56 news.size cur.toArray.size hsa hsb (by rw [List.size_toArray,hcl];omega) (hv.frozen 0) (by rw [hnl];exact hv.frozen 5)]
  rfl
 have HG:=Lib.hid hg
 have HXS:=Lib.hid hxs
 have HCL:=Lib.hid hcl
 have HXL:=Lib.hid hxl
 have HN:=Lib.hid hnl
 unfold maxLen at hcm
 have hw1:IntKind.i64.wrap ((i:Int)+1)=(i:Int)+1:=tZ21
 have hb1:(0:Int)≤(i:Int)+1:=tZ1
 have hin:i≤n:=tZ1
 have htn:((i:Int)+1).toNat=i+1:=tZ1
 have hb2:¬ (c0=i+1):=tZ1
 have hb3:(i:Int)≤(n:Int)+1:=tZ1
 have hb4:¬ (c0=i):=tZ1
 clear hg hxs hcl hxl hsa hsb hnl hv
 go_enter Tryz.func91,Tryz.ntmps91
 go_wp2_with (simp only [hov])
 go_region_law (refine step_copyK rfl _ _ 22 22 rfl 56 5 Tryz.underlying22 Tryz.insSet_size g ((i+1)*5) (n-i) (c0-(i+1)) ⟨g,i*5,none⟩ (n+1-i) (c0-i) (n-i) tZ42 tZ42 cur 56 HG.out (xs.drop (i*5)) tZ51 tZ71 HX2.out tZ94 (fun u hu=>h1x u (List.mem_of_mem_drop hu)) ?_;intro w1 hg1 hgr1)
 have hgr1':=grown_drew hgr1
 obtain ⟨cur1,hc1⟩:∃ cur1,cur1=splice cur ((i+1)*5) (xs.drop (i*5)):=⟨_,rfl⟩
 rw [← hc1] at hg1
 have hl1:cur1.length=c0*5:=by rw [hc1,length_splice _ _ _ tZ94];exact HCL.out
 have HL1:=Lib.hid hl1
 have HC1:=Lib.hid hc1
 have HGR:=Lib.hid hgr1'
 clear hl1 hc1 hgr1 hgr1' hov hw1 htn
 go_wp2_with (with_reducible refine wpList_copyK rfl (.tmp 80) (.tmp 81) 22 22 rfl 56 5 Tryz.underlying22 Tryz.insSet_size g (i*5) (n+1-i) (c0-i) ⟨vb,0,none⟩ 1 1 1 rfl rfl cur1 56 hg1.out news.toList tZ51 tZ43 (HV.out w1 HGR.out) tZ88 h1n ?_;intro w2 hg2 hgr2)
 go_ret
 refine ⟨_,rfl,?_,HGR.out.trans hgr2⟩
 refine own_of_row hg2.out hbg hroom (by unfold maxLen;exact hcm) ?_ ?_
 ·rw [length_splice _ _ _ tZ88];exact HL1.out
 ·rw [HC1.out,show (n+1)*5=n*5+5 by omega,show (i+1)*5=i*5+5 by omega]
  exact take_shift HXS.out tZ1 tZ43 (by rw [HCL.out];omega)
set_option maxRecDepth 100000 in
include hnl h1n h1x in
theorem insSet_grow (g:Nat) (w:World) (cur:List Value) (hlt:i<n) (hn:n≤1000000000) (hg:w.heap[g]?=some (.cells cur.toArray 56 (0,0))) (hcl:cur.length=n*5) (hxs:cur.take (n*5)=xs) (hb:base≤w.heap.size) (hv:Blk w vb T news) :
  Calls Tryz.prog 91 #[.slice (some ⟨g,0,none⟩) n n,.int .i64 i,.slice (some ⟨vb,0,none⟩) 1 1] w fun e w' =>
   ∃ v,e=.returned v∧w'.ownsRow base 56 5 v (n+1) (xs.take (i*5)++news.toList++xs.drop (i*5))∧w.grownBy w' none:=by
 obtain ⟨i0,hi0,hz0,hzs,hzb⟩:=info_parts Tryz.insSet_info
 have hxl:xs.length=n*5:=tZ107
 have hgl:=heap_lt hg
 have hvl:=hv.lt
 have hold:(Builtin.firstCells i0.size i (.slice (some ⟨g,0,none⟩) i n)).run Tryz.prog w.drew=.ok (xs.take (i*5)).toArray w.drew:=by
  rw [hzs]
  exact run_firstCells_some w.drew 5 i ⟨g,0,none⟩ i n (xs.take (i*5)) tZ128 (fun j v hj=>by
   rw [addr_add0]
   rw [List.getElem?_take] at hj
   split at hj
   ·have:(w.drew).cell? ⟨g,j,none⟩=cur.toArray[j]?:=Blk.cell (t:=56) hg j
    rw [this,← hj,← hxs,List.getElem?_take,if_pos tZ1]
    simp
   ·cases hj)
 have hkk:(n:Int)+1-(i:Int)=((n+1-i:Nat):Int):=tZ1
 have hik:i+(n+1-i)=n+1:=tZ1
 have hrz:∀ ty,(Builtin.append_ #[22,3] ty #[.slice (some ⟨g,0,none⟩) i n,.int .i64 ((n:Int)+1-(i:Int))]).run Tryz.prog w =
   .ok (.slice (some ⟨w.heap.size,0,none⟩) (n+1) (grownCap w (n+1) n 56)) (w.drew.alloc (.cells ((xs.take (i*5)).toArray++Builtin.zeroCells (Value.cells (.agg #[.string ByteArray.empty,.string ByteArray.empty,.slice none 0 0,.slice none 0 0,.slice none 0 0])) (n+1-i)++Builtin.zeroCells (Value.cells (.agg #[.string ByteArray.empty,.string ByteArray.empty,.slice none 0 0,.slice none 0 0,.slice none 0 0])) (grownCap w (n+1) n 56-(n+1))) 56)):=fun ty=>by
  have h:=Lib.run_append_grow_zeros w 22 3 ty 56 i0 _ .i64 .i64 Tryz.underlying22 Tryz.underlying3 hi0 hz0 (some ⟨g,0,none⟩) i n (xs.take (i*5)) hold (n+1-i) tZ1 (by rw [hzs];omega) tZ1 tZ1 (by rw [hzb];omega) (by rw [hzb,hik];exact growslice_fits tZ1 tZ1)
  rw [hik] at h
  rw [hkk]
  exact h
 obtain ⟨G,hG⟩:∃ G,G=grownCap w (n+1) n 56:=⟨_,rfl⟩
 have hGn:n+1≤G:=by rw [hG];exact grownCap_ge w _ _ _
 have hGm:G≤maxLen:=by rw [hG];exact grownCap_le_maxLen w (n+1) n 56 tZ11
 obtain ⟨ROW,hROW⟩:∃ ROW:List Value,ROW=xs.take (i*5)++((Builtin.zeroCells (Value.cells (.agg #[.string ByteArray.empty,.string ByteArray.empty,.slice none 0 0,.slice none 0 0,.slice none 0 0])) (n+1-i)).toList++(Builtin.zeroCells (Value.cells (.agg #[.string ByteArray.empty,.string ByteArray.empty,.slice none 0 0,.slice none 0 0,.slice none 0 0])) (G-(n+1))).toList):=⟨_,rfl⟩
 have hRA:(xs.take (i*5)).toArray++Builtin.zeroCells (Value.cells (.agg #[.string ByteArray.empty,.string ByteArray.empty,.slice none 0 0,.slice none 0 0,.slice none 0 0])) (n+1-i)++Builtin.zeroCells (Value.cells (.agg #[.string ByteArray.empty,.string ByteArray.empty,.slice none 0 0,.slice none 0 0,.slice none 0 0])) (G-(n+1))=ROW.toArray:=by
  rw [hROW]
  apply Array.toList_inj.1
  simp
 rw [← hG,hRA] at hrz
 have hRl:ROW.length=G*5:=by
  rw [hROW]
  simp [Builtin.zeroCells,Value.cells,hxl]
  omega
 have hRt:ROW.take (i*5)=xs.take (i*5):=by
  rw [hROW,List.take_append_of_le_length tZ128,List.take_take,Nat.min_self]
 obtain ⟨W1,hW1⟩:∃ W1,W1=w.drew.alloc (.cells ROW.toArray 56):=⟨_,rfl⟩
 rw [← hW1] at hrz
 have hrow:W1.heap[w.heap.size]?=some (.cells ROW.toArray 56 (0,0)):=by rw [hW1];exact heap_alloc_new w.drew _
 have hgr0:w.grownBy W1 none:=by
  rw [hW1]
  exact ⟨rfl,rfl,rfl,by simp,fun k hk _=>Below.heap_alloc w.drew _ k hk⟩
 have HX2:=Lib.hid (show ∀ (W:World),W.heap[g]?=w.heap[g]?→∀ (j:Nat) (u:Value),(xs.drop (i*5))[j]?=some u→W.cell? ((⟨g,i*5,none⟩:Addr).add j)=some u from fun W hW j u hj=>by
  rw [List.getElem?_drop] at hj
  have e:(⟨g,i*5,none⟩:Addr).add j=⟨g,i*5+j,none⟩:=tZ48
  rw [e,Blk.cell (w:=W) (t:=56) (hW.trans hg),← hj,← hxs,List.getElem?_take,if_pos tZ86]
  simp)
 have HV:=Lib.hid (show ∀ (w':World),w.grownBy w' none→∀ (j:Nat) (u:Value),news.toList[j]?=some u→w'.cell? ((⟨vb,0,none⟩:Addr).add j)=some u from fun w' hg' j u hj=>by
  rw [addr_add0,(hv.grown hg' tZ3).cell j]
  simpa using hj)
 have HXS:=Lib.hid hxs
 have HCL:=Lib.hid hcl
 have HXL:=Lib.hid hxl
 have HN:=Lib.hid hnl
 have HROW:=Lib.hid hrow
 have HRL:=Lib.hid hRl
 have HRT:=Lib.hid hRt
 have HGR0:=Lib.hid hgr0
 unfold maxLen at hGm
 have hw1:IntKind.i64.wrap ((i:Int)+1)=(i:Int)+1:=tZ21
 have hb1:(0:Int)≤(i:Int)+1:=tZ1
 have hin:i≤n:=tZ1
 have htn:((i:Int)+1).toNat=i+1:=tZ1
 have hb3:(i:Int)≤(n:Int):=tZ1
 have hGi:¬ (G=i):=tZ1
 have hGim:¬ (G=i+1):=tZ1
 have hci:¬ (n=i):=tZ1
 clear hg hxs hcl hxl hnl hv hold hkk hik hG hRA hROW hRl hRt hrow hgr0 hW1 hi0 hz0 hzs hzb
 go_enter Tryz.func91,Tryz.ntmps91
 go_wp2_with (first
  | (at_builtin;refine Lib.wpList_append_run _ rfl _ _ _ _ rfl _ _ rfl rfl _ _ (hrz _) ?_)
  | (with_reducible refine wpList_copyK rfl (.tmp 43) (.tmp 44) 22 22 rfl 56 5 Tryz.underlying22 Tryz.insSet_size w.heap.size (i*5) (n+1-i) (G-i) ⟨vb,0,none⟩ 1 1 1 rfl rfl ROW 56 HROW.out news.toList tZ51 tZ43 (HV.out W1 HGR0.out) tZ89 h1n ?_;intro w1 hg1 hgr1))
 clear hrz
 have hgr1':=grown_fresh HGR0.out hgr1 (Nat.le_refl _)
 obtain ⟨row1,hr1⟩:∃ row1,row1=splice ROW (i*5) news.toList:=⟨_,rfl⟩
 rw [← hr1] at hg1
 have hl1:row1.length=G*5:=by rw [hr1,length_splice _ _ _ tZ89];exact HRL.out
 have HL1:=Lib.hid hl1
 have HR1:=Lib.hid hr1
 have HGR:=Lib.hid hgr1'
 clear hl1 hr1 hgr1 hgr1'
 go_region_law (refine step_copyK rfl _ _ 22 22 rfl 56 5 Tryz.underlying22 Tryz.insSet_size w.heap.size ((i+1)*5) (n-i) (G-(i+1)) ⟨g,i*5,none⟩ (n-i) (n-i) (n-i) tZ42 tZ42 row1 56 hg1.out (xs.drop (i*5)) tZ51 tZ71 (HX2.out w1.drew (HGR.out.block g hgl tZ3)) tZ95 (fun u hu=>h1x u (List.mem_of_mem_drop hu)) ?_;intro w2 hg2 hgr2)
 go_wp2_with fail
 go_ret
 refine ⟨_,rfl,?_,grown_fresh HGR.out (grown_drew hgr2) (Nat.le_refl _)⟩
 refine own_of_row hg2.out hb hGn (by unfold maxLen;exact hGm) ?_ ?_
 ·rw [length_splice _ _ _ tZ95];exact HL1.out
 ·rw [HR1.out,show (n+1)*5=i*5+5+(n-i)*5 by omega,show (i+1)*5=i*5+5 by omega]
  exact take_grow HRT.out (by rw [List.length_take,HXL.out];omega) tZ43 tZ71
set_option maxRecDepth 100000 in
include hnl h1n in
theorem insSet_end (A0:Option Addr) (c0:Nat) (w:World) (hown:w.ownsRow base 56 5 (.slice A0 n c0) n xs) (hb:base≤w.heap.size) (hn:n≤1000000000) (hv:Blk w vb T news) :
  Calls Tryz.prog 91 #[.slice A0 n c0,.int .i64 n,.slice (some ⟨vb,0,none⟩) 1 1] w fun e w' =>
   ∃ v,e=.returned v∧w'.ownsRow base 56 5 v (n+1) (xs++news.toList)∧w.grownBy w' (Value.slice A0 n c0).ownBlock:=by
 obtain ⟨i0,hi0,hz0,hz1,hz2⟩:=info_parts Tryz.insSet_info
 obtain ⟨hc,hm,_⟩:=own_reads hown
 unfold maxLen at hm
 have HN:=Lib.hid hnl
 have HNEW:=Lib.hid (show ∀ (j:Nat) (u:Value),news.toList[j]?=some u→w.cell? ((⟨vb,0,none⟩:Addr).add j)=some u from fun j u hj=>by rw [addr_add0,hv.cell j];simpa using hj)
 clear hnl hv
 by_cases hcn:c0=n
 ·subst hcn
  go_enter Tryz.func91,Tryz.ntmps91
  go_wp2_with (at_builtin;refine wpList_append_own _ rfl _ _ 22 rfl base 56 i0 (.agg #[.string ByteArray.empty,.string ByteArray.empty,.slice none 0 0,.slice none 0 0,.slice none 0 0]) 5 104 Tryz.underlying22 hi0 hz0 hz1 hz2 rfl tZ4 (.slice A0 c0 c0) c0 xs rfl hown ⟨vb,0,none⟩ 1 1 news.toList rfl tZ43 HNEW.out h1n tZ11 tZ1 hb ?_)
  intro v1 w1 hown1 hg1 _
  go_wp2_with fail
  go_ret
  exact ⟨v1,rfl,hown1,hg1⟩
 ·go_enter Tryz.func91,Tryz.ntmps91
  go_wp2_with (at_builtin;refine wpList_append_own _ rfl _ _ 22 rfl base 56 i0 (.agg #[.string ByteArray.empty,.string ByteArray.empty,.slice none 0 0,.slice none 0 0,.slice none 0 0]) 5 104 Tryz.underlying22 hi0 hz0 hz1 hz2 rfl tZ4 (.slice A0 n c0) n xs rfl hown ⟨vb,0,none⟩ 1 1 news.toList rfl tZ43 HNEW.out h1n tZ11 tZ1 hb ?_)
  intro v1 w1 hown1 hg1 _
  go_wp2_with fail
  go_ret
  exact ⟨v1,rfl,hown1,hg1⟩
include hnl h1n h1x in
/-- one element put in at a place -/
theorem insSet_any (A0:Option Addr) (c0:Nat) (w:World) (hi:i≤n) (hown:w.ownsRow base 56 5 (.slice A0 n c0) n xs) (hb:base≤w.heap.size) (hn:n≤1000000000) (hv:Blk w vb T news) (hne:(Value.slice A0 n c0).ownBlock≠some vb) :
  Calls Tryz.prog 91 #[.slice A0 n c0,.int .i64 i,.slice (some ⟨vb,0,none⟩) 1 1] w fun e w' =>
   ∃ v,e=.returned v∧w'.ownsRow base 56 5 v (n+1) (xs.take (i*5)++news.toList++xs.drop (i*5))∧w.grownBy w' (Value.slice A0 n c0).ownBlock:=by
 by_cases hin:i=n
 ·subst hin
  rw [List.take_of_length_le tZ129,List.drop_eq_nil_of_le tZ129,List.append_nil]
  exact insSet_end news hnl h1n xs vb T base i A0 c0 w hown hb hn hv
 ·rcases hown.2 with ⟨_,h0⟩ | ⟨g,cap,cur,hs,hbg,hh,hnc,hcm,hsz,hx⟩
  ·omega
  ·injection hs with e1 _ e2
   subst e1 e2
   by_cases hroom:n+1≤c0
   ·exact (insSet_shift news hnl h1n xs h1x vb T base n i g c0 w cur.toList tZ1 hroom hcm (by simpa using hh) tZ121 hx hbg hv (fun e=>hne (by rw [e];rfl))).mono (fun e w' h=>h)
   ·obtain rfl:c0=n:=tZ1
    refine (insSet_grow news hnl h1n xs h1x vb T base c0 i g w cur.toList tZ1 hn (by simpa using hh) tZ121 hx hb hv).mono ?_
    rintro e w' ⟨v,h1,h2,h3⟩
    exact ⟨v,h1,h2,⟨h3.os,h3.tape,h3.output,h3.size,fun k hk _=>h3.block k hk tZ3⟩⟩
end
end Go.Proofs.YtiojfffgiejibaaGreatDoor
namespace Go.Proofs.YtiojfffgiejibaaGreatDoor
open Go.RowKit
theorem posF_map {α β:Type} (f:α→β) (cf:β→Int) (l:List α):posF cf (l.map f)=posF (fun x=>cf (f x)) l:=by
 unfold posF
 rw [List.takeWhile_map,List.length_map]
 rfl
/-- the content with a set more, in its place -/
def TenC.withS (c:TenC) (s:SetC):TenC:=⟨c.nm,c.quota,c.next,c.sets.take (posF (fun x:SetC=>cmpS x.path s.path) c.sets)++[s]++c.sets.drop (posF (fun x:SetC=>cmpS x.path s.path) c.sets),c.grants,c.stages,c.log⟩
/-- the content without the set at a place -/
def TenC.dropS (c:TenC) (i:Nat):TenC:=⟨c.nm,c.quota,c.next,c.sets.take i++c.sets.drop (i+1),c.grants,c.stages,c.log⟩
theorem asc_eqv (l l':List SetR) (p:BS) (h:l.map (·.path)=l'.map (·.path)) (ha:SignAsc (fun x:SetR=>cmpS x.path p) l):SignAsc (fun x:SetR=>cmpS x.path p) l':=by
 have hp:∀ (i:Nat) (x:SetR),l'[i]?=some x→∃ y,l[i]?=some y∧y.path=x.path:=by
  intro i x hx
  have h1:=congrArg (fun m:List BS=>m[i]?) h
  simp only [List.getElem?_map,hx,Option.map_some] at h1
  cases hl:l[i]? with
  | none=>rw [hl] at h1;cases h1
  | some y=>rw [hl] at h1;exact ⟨y,rfl,by simpa using h1⟩
 intro i j a b hij hai hbj hlt
 obtain ⟨a',ha',e1⟩:=hp i a hai
 obtain ⟨b',hb',e2⟩:=hp j b hbj
 have:=ha i j a' b' hij ha' hb' (by simp only [e2];exact hlt)
 simp only [e1] at this
 exact this
theorem con_withS (y:TenR) (s:SetR) (A:Option Addr) (n c:Nat):TenR.con ⟨y.nm,y.quota,y.next,⟨A,n,c,y.sets.l.take (posF (fun x:SetR=>cmpS x.path s.path) y.sets.l)++[s]++y.sets.l.drop (posF (fun x:SetR=>cmpS x.path s.path) y.sets.l)⟩,y.grants,y.stages,y.log⟩=y.con.withS s.con:=by
 show TenC.mk _ _ _ _ _ _ _=TenC.mk _ _ _ _ _ _ _
 have e:posF (fun x:SetC=>cmpS x.path s.con.path) y.con.sets=posF (fun x:SetR=>cmpS x.path s.path) y.sets.l:=posF_map SetR.con (fun x:SetC=>cmpS x.path s.path) y.sets.l
 rw [e]
 simp only [List.map_append,List.map_take,List.map_drop,List.map_cons,List.map_nil]
 rfl
theorem con_dropS (y:TenR) (i:Nat) (A:Option Addr) (n c:Nat):TenR.con ⟨y.nm,y.quota,y.next,⟨A,n,c,y.sets.l.take i++y.sets.l.drop (i+1)⟩,y.grants,y.stages,y.log⟩=y.con.dropS i:=by
 show TenC.mk _ _ _ _ _ _ _=TenC.mk _ _ _ _ _ _ _
 simp only [List.map_append,List.map_take,List.map_drop]
 rfl
end Go.Proofs.YtiojfffgiejibaaGreatDoor
namespace Go.Proofs.YtiojfffgiejibaaGreatDoor
open Go.RowKit
/-! ### sizes, by content -/
structure SnapC.sz (x:SnapC):Prop where
 nm:x.nm.length≤4000000000
 body:x.body.length≤1000000000000
 tags:x.tags.length≤1000000000000
 each:∀ t∈x.tags,t.length≤4000000000
 own:x.own.length≤1000000000000
 props:∀ p∈x.own,p.1.length≤4000000000∧p.2.length≤4000000000
structure SetC.sz (x:SetC):Prop where
 path:x.path.length≤4000000000
 org:x.org.length≤4000000000
 body:x.body.length≤1000000000000
 snaps:x.snaps.length≤1000000000000
 each:∀ y∈x.snaps,y.sz
 own:x.own.length≤1000000000000
 props:∀ p∈x.own,p.1.length≤4000000000∧p.2.length≤4000000000
structure StageC.sz (x:StageC):Prop where
 into:x.into.length≤4000000000
 nm:x.nm.length≤4000000000
 dt:x.dt.length≤4000000000
 own:x.own.length≤1000000000000
 props:∀ p∈x.own,p.1.length≤4000000000∧p.2.length≤4000000000
 body:x.body.length≤1000000000000
structure TenC.sz (t:TenC):Prop where
 nm:t.nm.length≤4000000000
 sets:t.sets.length≤1000000000000
 eachS:∀ y∈t.sets,y.sz
 grants:t.grants.length≤1000000000000
 eachG:∀ g∈t.grants,g.1.length≤4000000000∧g.2.1.length≤4000000000
 stages:t.stages.length≤1000000000000
 eachT:∀ y∈t.stages,y.sz
 log:t.log.length≤1000000000000
 eachL:∀ y∈t.log,y.sz
section
variable {w:World} {B:Nat}
theorem SnapR.sz_of {x:SnapR} (h:x.rd w B) (hc:x.con.sz):x.sz:=⟨hc.nm,by rw [h.body.1];exact hc.body,by rw [h.tags.1];exact hc.tags,hc.each,by rw [h.own.1];exact hc.own,hc.props⟩
theorem SnapC.sz_of {x:SnapR} (h:x.rd w B) (hc:x.sz):x.con.sz:=⟨hc.nm,by have:=hc.body;rw [h.body.1] at this;exact this,by have:=hc.tags;rw [h.tags.1] at this;exact this,hc.each,by have:=hc.own;rw [h.own.1] at this;exact this,hc.props⟩
theorem SetR.sz_of {x:SetR} (h:x.rd w B) (hc:x.con.sz):x.sz :=
 ⟨hc.path,hc.org,by rw [h.body.1];exact hc.body,by rw [h.snaps.1];have:=hc.snaps;rwa [show x.con.snaps.length=x.snaps.l.length from List.length_map ..] at this,fun y hy=>SnapR.sz_of (h.each y hy) (hc.each _ (List.mem_map_of_mem hy)),by rw [h.own.1];exact hc.own,hc.props⟩
theorem SetC.sz_of {x:SetR} (h:x.rd w B) (hc:x.sz):x.con.sz:=by
 refine ⟨hc.path,hc.org,by have:=hc.body;rw [h.body.1] at this;exact this,?_,fun y hy=>?_,by have:=hc.own;rw [h.own.1] at this;exact this,hc.props⟩
 ·have:=hc.snaps
  rw [h.snaps.1] at this
  rwa [show x.con.snaps.length=x.snaps.l.length from List.length_map ..]
 ·obtain ⟨z,hz,rfl⟩:=List.mem_map.1 hy
  exact SnapC.sz_of (h.each z hz) (hc.each z hz)
theorem StageR.sz_of {x:StageR} (h:x.rd w B) (hc:x.con.sz):x.sz:=⟨hc.into,hc.nm,hc.dt,by rw [h.own.1];exact hc.own,hc.props,by rw [h.body.1];exact hc.body⟩
theorem StageC.sz_of {x:StageR} (h:x.rd w B) (hc:x.sz):x.con.sz:=⟨hc.into,hc.nm,hc.dt,by have:=hc.own;rw [h.own.1] at this;exact this,hc.props,by have:=hc.body;rw [h.body.1] at this;exact this⟩
theorem TenR.sz_of {t:TenR} (h:t.rd w B) (hc:t.con.sz):t.sz :=
 ⟨hc.nm,by rw [h.sets.1];have:=hc.sets;rwa [show t.con.sets.length=t.sets.l.length from List.length_map ..] at this,fun y hy=>SetR.sz_of (h.eachS y hy) (hc.eachS _ (List.mem_map_of_mem hy)),by rw [h.grants.1];exact hc.grants,hc.eachG,by rw [h.stages.1];have:=hc.stages;rwa [show t.con.stages.length=t.stages.l.length from List.length_map ..] at this,fun y hy=>StageR.sz_of (h.eachG y hy) (hc.eachT _ (List.mem_map_of_mem hy)),by rw [h.log.1];exact hc.log,hc.eachL⟩
theorem TenC.sz_of {t:TenR} (h:t.rd w B) (hc:t.sz):t.con.sz:=by
 refine ⟨hc.nm,?_,fun y hy=>?_,by have:=hc.grants;rw [h.grants.1] at this;exact this,hc.eachG,?_,fun y hy=>?_,by have:=hc.log;rw [h.log.1] at this;exact this,hc.eachL⟩
 ·have:=hc.sets
  rw [h.sets.1] at this
  rwa [show t.con.sets.length=t.sets.l.length from List.length_map ..]
 ·obtain ⟨z,hz,rfl⟩:=List.mem_map.1 hy
  exact SetC.sz_of (h.eachS z hz) (hc.eachS z hz)
 ·have:=hc.stages
  rw [h.stages.1] at this
  rwa [show t.con.stages.length=t.stages.l.length from List.length_map ..]
 ·obtain ⟨z,hz,rfl⟩:=List.mem_map.1 hy
  exact StageC.sz_of (h.eachG z hz) (hc.eachT z hz)
end
theorem TenC.sz.withS {c:TenC} {s:SetC} (h:c.sz) (hs:s.sz) (hl:c.sets.length≤100000000000):(c.withS s).sz:=by
 refine ⟨h.nm,?_,fun y hy=>?_,h.grants,h.eachG,h.stages,h.eachT,h.log,h.eachL⟩
 ·unfold TenC.withS
  exact mZ154
 ·have hy:y∈c.sets.take _++[s]++c.sets.drop _:=hy
  simp only [List.mem_append,List.mem_cons,List.not_mem_nil,or_false] at hy
  rcases hy with (hy | rfl) | hy
  ·exact h.eachS y (List.mem_of_mem_take hy)
  ·exact hs
  ·exact h.eachS y (List.mem_of_mem_drop hy)
theorem TenC.sz.dropS {c:TenC} {i:Nat} (h:c.sz):(c.dropS i).sz:=by
 refine ⟨h.nm,?_,fun y hy=>?_,h.grants,h.eachG,h.stages,h.eachT,h.log,h.eachL⟩
 ·unfold TenC.dropS
  have:=h.sets
  simp only [List.length_append,List.length_take,List.length_drop]
  omega
 ·have hy:y∈c.sets.take _++c.sets.drop _:=hy
  rcases List.mem_append.1 hy with hy | hy
  ·exact h.eachS y (List.mem_of_mem_take hy)
  ·exact h.eachS y (List.mem_of_mem_drop hy)
theorem TenC.sz.putS {c:TenC} {i:Nat} {s:SetC} (h:c.sz) (hs:s.sz):(c.putS i s).sz:=by
 refine ⟨h.nm,?_,fun y hy=>?_,h.grants,h.eachG,h.stages,h.eachT,h.log,h.eachL⟩
 ·show (c.sets.set i s).length≤_
  rw [List.length_set]
  exact h.sets
 ·rcases List.mem_or_eq_of_mem_set (show y∈c.sets.set i s from hy) with hy | rfl
  ·exact h.eachS y hy
  ·exact hs
def set0C (p:BS):SetC:=⟨p,[],[],[],[]⟩
theorem set0C_sz (p:BS) (hp:p.length≤4000000000):(set0C p).sz:=⟨hp,by simp [set0C],by simp [set0C],by simp [set0C],by simp [set0C],by simp [set0C],by simp [set0C]⟩
/-- a box of results: the cells stored, and loaded again -/
theorem res7 {zs:List Value} (cs:List Value) {W w:World} {g:Nat} (hk:Blk W g 27 zs.toArray) (hb:Below w.heap.size w W) (hg:w.heap.size≤g) (hz:zs.length=7:=by rfl) (hc:cs.length=7:=by rfl) :
  ∃ WR,WR=W.setCells g 0 cs.toArray.toList∧Hid (W.there g 0 7)∧Hid ((loadVar 27 ⟨g,0,none⟩).run Tryz.prog WR=.ok (.agg cs.toArray) WR)∧Hid (Below w.heap.size w WR)∧W.grownBy WR (some g):=by
 have k4:=Blk.setCells (g:=g) cs W [] zs (by rw [hz,hc]) hk
 simp only [List.length_nil,List.nil_append] at k4
 refine ⟨_,rfl,hk.there 7 (by simp [hz]),?_,below_setCells hg cs W 0 hb,grown_cellsS g cs W 0⟩
 exact run_loadVar_at _ ⟨g,0,none⟩ 27 cs _ (fun j v hv=>by rw [addr_add0,k4.cell j,zF];exact hv) Tryz.underlying27 rfl (by rw [hc];kernel_rfl)
/-! ### what is told -/
/-- a tenant and an error: the error's tenant is the zero one; else it lies in memory of its own -/
def TenPost (w:World) (c:Int×TenC) (e:Ending) (w':World):Prop:=∃ v,e=.returned (.tuple #[v,.int .i64 c.1])∧Below w.heap.size w w' ∧
 ((c.1≠0∧v=ZEROT)∨(c.1=0∧∃ y:TenR,v=y.val∧TenO w' w.heap.size y∧y.con=c.2))
theorem tenPost_err {w w':World} {c:Int×TenC} {E:Int} {c':TenC} (hc:c=(E,c')) (hE:E≠0) (hb:Below w.heap.size w w'):TenPost w c (.returned (.tuple #[ZEROT,.int .i64 E])) w':=by
 subst hc
 exact ⟨_,rfl,hb,.inl ⟨hE,rfl⟩⟩
theorem tenPost_ok {w w':World} {c:Int×TenC} {c':TenC} (hc:c=(0,c')) (hb:Below w.heap.size w w') (y:TenR) (ho:TenO w' w.heap.size y) (hy:y.con=c'):TenPost w c (.returned (.tuple #[y.val,.int .i64 0])) w':=by
 subst hc
 exact ⟨_,rfl,hb,.inr ⟨rfl,y,rfl,ho,hy⟩⟩
def TenC.find (c:TenC) (p:BS):Int:=firstI (fun s:SetC=>s.path == p) c.sets
theorem findS_con (t:TenR) (p:BS):findS t.sets.l p=t.con.find p:=by
 unfold findS TenC.find
 exact (firstI_map SetR.con (fun s:SetC=>s.path == p) t.sets.l).symm
def TenC.ask (c:TenC) (p:BS):Int:=if c.E=9 then 9 else if pathB p=false then 31 else 0
theorem askP_con (t:TenR) (p:BS):askP t p=t.con.ask p:=by
 unfold askP TenC.ask
 rw [tenE_con]
/-- what is settled -/
def TenC.settle (c:TenC):Int×TenC:=if c.E=9 then (9,c) else if c.quota<(c.charge:Int) then (42,c) else (0,c)
theorem settleT_any (t:TenR) (w:World) (B:Nat) (hB:B≤w.heap.size) (hr:t.rd w B) (hz:t.sz) (hmx:HasMax w) :
  Calls Tryz.prog 11 #[t.val] w (TenPost w t.con.settle):=by
 refine (settle_any t w B hB hr hz hmx).mono ?_
 rintro e w' ⟨v,E,rfl,hb,h⟩
 rw [tenE_con,tenSum_con t w B hr] at h
 unfold TenPost TenC.settle
 rcases h with ⟨h1,h2,h3⟩ | ⟨h1,h2,h3,h4⟩ | ⟨h1,h2,h3,y,h4,h5,h6⟩
 ·rw [if_pos h1]
  exact ⟨v,by rw [h2],hb,.inl ⟨(by decide:(9:Int)≠0),h3⟩⟩
 ·rw [if_neg (by rw [h1];decide),if_pos (show t.con.quota<_ from h2)]
  exact ⟨v,by rw [h3],hb,.inl ⟨(by decide:(42:Int)≠0),h4⟩⟩
 ·rw [if_neg (by rw [h1];decide),if_neg (show ¬ t.con.quota<_ from by show ¬ t.quota<_;omega)]
  exact ⟨v,by rw [h3],hb,.inr ⟨rfl,y,h4,h5,((TenR.eqv_iff _ _).1 h6).symm⟩⟩
/-- a set is made -/
def TenC.create (c:TenC) (p:BS):Int×TenC:=if c.ask p≠0 then (c.ask p,c) else if 0≤c.find p then (6,c) else if c.find (upL p)<0 then (71,c) else if c.sets.length=32 then (3,c) else (c.withS (set0C p)).settle
/-- another row of sets, made where the old one lies, or anew -/
theorem TenO.newSets {y:TenR} {W W':World} {base:Nat} (h:TenO W base y) (hg:W.grownBy W' y.sets.val.ownBlock) (s':FS SetR) (hs:s'.own W' base 56 5 encSet) (hm:∀ z∈s'.l,SetO W base z) :
  TenO W' base ⟨y.nm,y.quota,y.next,s',y.grants,y.stages,y.log⟩:=by
 refine TenO.setsO h s' hg hs fun z hz=>?_
 have hz:=hm z hz
 cases he:y.sets.val.ownBlock with
 | none=>rw [he] at hg;exact hz.below ⟨hg.os,hg.tape,hg.output,hg.size,fun k _=>hg.block k (by assumption) tZ3⟩
 | some g =>
  rw [he] at hg
  rcases h.sets.2.2 with ⟨e,_⟩ | ⟨g',cap,cur,e,_,hh,_⟩
  ·rw [e] at he;simp [Value.ownBlock] at he
  ·rw [e] at he
   have he:g'=g:=tZ60
   subst he
   exact hz.keptS hg (show Blk W g' 56 cur from hh)
/-! ### what stands under a set, its clones, what is held -/
def TenC.kids (c:TenC) (p:BS):Nat:=(c.sets.filter fun s=>parB s.path == some p).length
theorem kids_con (t:TenR) (p:BS):(kidsL t.sets.l p).length=t.con.kids p:=by
 unfold kidsL TenC.kids
 exact mZ155
/-- a set is gone -/
def TenC.heldAt (c:TenC) (i:Nat):Bool:=match c.sets[i]? with
 | none=>false
 | some s=>s.snaps.any fun x=>decide (0<x.tags.length)
end Go.Proofs.YtiojfffgiejibaaGreatDoor
