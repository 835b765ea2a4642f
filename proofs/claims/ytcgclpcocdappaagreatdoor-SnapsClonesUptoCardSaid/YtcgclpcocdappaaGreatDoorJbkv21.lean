/-
  snaps.found, snaps.guid: by their contracts. Snapshots by content: what is asked, found, made, and gone. What is found, as the walks of chapter 17 need it; what is told then. What snapshots, clones and rollbacks that are told are; sizes; the plain law of clones. What is done to a block of another element type keeps a tenant of one's own.
-/
import Derived.WalkKit
import Derived.WalkSpells
import Derived.Below
import Derived.Laws.OwnMore
import Derived.Deep.AppendLies
import Derived.Deep.Draws
import Derived.Laws.Rows
import Derived.Maps.AppendAt
import Derived.RegionTactic
import Derived.OwnWalk
import Derived.Deep.QuietTactic
import Derived.BigQuiet
import Derived.Lib.Hide
import Derived.Laws.CopyOwn
import Derived.IntWalk
import Derived.Test.YtcgclpcocdappaaGreatDoorRows
import Derived.Handy
import Derived.Deep.Quiet
import Derived.ProofKit
import Derived.OpenShut
import Derived.ShutString
import Derived.ChangeOld
import Derived.Carry
import Derived.SizedLaws
import Derived.JoinedCond
import Derived.Deep.CondSized
import Derived.Deep.Slices
import Derived.Deep.Fields
import Derived.Lib.SmallJoins
import Derived.Orders
import Derived.Lib.SplitLaws
import Derived.Lib.LastIndexByte
import Derived.Lib.Strings
import Derived.Sort.Walk0
import Derived.Sort.KeysCollected
import Derived.Deep.MidRow
import Derived.Shelf.Strings.Search1
import Derived.Shelf.Strings.Search2
import Derived.Shelf.Strings.Search3
import Derived.Shelf.Strings.Cut
import Derived.Shelf.Strings.Count
import Derived.Shelf.LaysM
import Derived.Shelf.Strings.Shaped
import Derived.Shelf.Strings.LastIndex
import Derived.Shelf.Strings.Split
import Derived.Shelf.Strings.SplitShaped
import Derived.Shelf.Unicode.Decode
import Derived.Shelf.Strings.RuneCount
import Derived.Shelf.Strings.Explode
import Derived.Shelf.Unicode.DecodeSlow
import Derived.Test.YtcgclpcocdappaaGreatDoorProg
import Derived.Laws.BytesString
import Derived.Laws.IdiomStrings
import Derived.Lib.ConvBytes
import Derived.Deep.DeepCutAuto
import Derived.Great.BuildSlice
import Derived.Deep.RegionLaw
import Derived.Lib.AppendZeros
import Derived.Lib.Overlaps
import Derived.Lib.AppendZerosOnto
import Derived.Test.YtcgclpcocdappaaGreatDoorJ0
import Derived.Test.YtcgclpcocdappaaGreatDoorJbkv1
import Derived.Test.YtcgclpcocdappaaGreatDoorJbkv2
import Derived.Test.YtcgclpcocdappaaGreatDoorJbkv3
import Derived.Test.YtcgclpcocdappaaGreatDoorJbkv4
import Derived.Test.YtcgclpcocdappaaGreatDoorJbkv5
import Derived.Test.YtcgclpcocdappaaGreatDoorJbkv8
import Derived.Test.YtcgclpcocdappaaGreatDoorJbkv10
import Derived.Test.YtcgclpcocdappaaGreatDoorJbkv14
import Derived.Test.YtcgclpcocdappaaGreatDoorJbkv15
import Derived.Test.YtcgclpcocdappaaGreatDoorJbkv16
import Derived.Test.YtcgclpcocdappaaGreatDoorJbkv17
import Derived.Test.YtcgclpcocdappaaGreatDoorJbkv19
import Derived.Test.YtcgclpcocdappaaGreatDoorJbkv20
namespace Go.Proofs.YtcgclpcocdappaaGreatDoor
open Go.RowKit
/-- likewise, of a snapshot that must be there -/
def foundI (t:TenR) (p n:BS) (bad:Bool):Int×Int×Int :=
 if (askI t p n bad).2.2=0∧(askI t p n bad).2.1<0 then ((askI t p n bad).1,(askI t p n bad).2.1,71) else askI t p n bad
set_option maxRecDepth 100000 in
set_option maxHeartbeats 2000000 in
theorem found_any (t:TenR) (p n:BS) (ms:List Bool) (mA:Option Addr) (mn mc:Nat) (w:World) (B:Nat) (hB:B≤w.heap.size) (hr:t.rd w B) (hz:t.sz) (hp:p.length≤4000000000) (hmx:HasMax w) (hmn:mn=ms.length) (hm5:mn≤5) (hms:Reads w B 1 mA mn (cellsK (fun b:Bool=>[Value.bool b]) ms)) :
  Calls Tryz.prog 55 #[t.val,.string ⟨p.toArray⟩,.string ⟨n.toArray⟩,.slice mA mn mc] w fun e w'=>e=.returned (askV (foundI t p n (ms.contains false)))∧Below w.heap.size w w':=by
 obtain ⟨nm,qu,nx,⟨s1,sn,s3,sl⟩,⟨g1,gn,g3,gl⟩,⟨t1,tn,t3,tl⟩,⟨l1,ln,l3,ll⟩⟩:=t
 show Calls Tryz.prog 55 #[.agg #[.string ⟨nm.toArray⟩,.int .i64 qu,.int .i64 nx,.slice s1 sn s3,.slice g1 gn g3,.slice t1 tn t3,.slice l1 ln l3],.string ⟨p.toArray⟩,.string ⟨n.toArray⟩,.slice mA mn mc] w _
 have hb1:=(Below.refl w.heap.size w).alloc (Nat.le_refl _) (.cells #[.string ⟨nm.toArray⟩,.int .i64 qu,.int .i64 nx,.slice s1 sn s3,.slice g1 gn g3,.slice t1 tn t3,.slice l1 ln l3] 27)
 have hc:Calls Tryz.prog 42 #[.agg #[.string ⟨nm.toArray⟩,.int .i64 qu,.int .i64 nx,.slice s1 sn s3,.slice g1 gn g3,.slice t1 tn t3,.slice l1 ln l3],.string ⟨p.toArray⟩,.string ⟨n.toArray⟩,.slice mA mn mc] (w.alloc (.cells #[.string ⟨nm.toArray⟩,.int .i64 qu,.int .i64 nx,.slice s1 sn s3,.slice g1 gn g3,.slice t1 tn t3,.slice l1 ln l3] 27)) _:=asked_any ⟨nm,qu,nx,⟨s1,sn,s3,sl⟩,⟨g1,gn,g3,gl⟩,⟨t1,tn,t3,tl⟩,⟨l1,ln,l3,ll⟩⟩ p n ms mA mn mc (w.alloc (.cells #[.string ⟨nm.toArray⟩,.int .i64 qu,.int .i64 nx,.slice s1 sn s3,.slice g1 gn g3,.slice t1 tn t3,.slice l1 ln l3] 27)) B (by simp;omega) (TenR.rd.below hr (hb1.mono hB)) hz hp (hmx.below hb1) hmn hm5 (hms.below (hb1.mono hB))
 obtain ⟨V,hV⟩:∃ V,V=askI ⟨nm,qu,nx,⟨s1,sn,s3,sl⟩,⟨g1,gn,g3,gl⟩,⟨t1,tn,t3,tl⟩,⟨l1,ln,l3,ll⟩⟩ p n (ms.contains false):=⟨_,rfl⟩
 have hF:Hid (foundI ⟨nm,qu,nx,⟨s1,sn,s3,sl⟩,⟨g1,gn,g3,gl⟩,⟨t1,tn,t3,tl⟩,⟨l1,ln,l3,ll⟩⟩ p n (ms.contains false)=if V.2.2=0∧V.2.1<0 then (V.1,V.2.1,71) else V):=by show _=_;unfold foundI;rw [← hV]
 rw [← hV] at hc
 obtain ⟨a,k,e0⟩:=V
 simp only [askV] at hc hF
 have HB1:=Lib.hid hb1
 clear hb1 hr hz hmx hms hmn hV
 go_enter Tryz.func55,Tryz.ntmps55
 go_wp2_with fail
 refine hc.mono ?_
 clear hc
 rintro e w2 ⟨rfl,hb2⟩
 have HB2:=Lib.hid (HB1.out.trans (hb2.mono HB1.out.size))
 clear hb2 HB1
 by_cases he:e0=0
 ·subst he
  by_cases hk:k<0
  ·have HF1:Hid (foundI ⟨nm,qu,nx,⟨s1,sn,s3,sl⟩,⟨g1,gn,g3,gl⟩,⟨t1,tn,t3,tl⟩,⟨l1,ln,l3,ll⟩⟩ p n (ms.contains false)=(a,k,71)):=by show _=_;rw [hF.out,if_pos ⟨rfl,hk⟩]
   clear hF
   go_wp2_with fail
   exact bodyPost_ret (v:=.tuple #[.int .i64 a,.int .i64 k,.int .i64 71]) (by simp [results,Tryz.results55,go_sem]) rfl ⟨by rw [HF1.out];rfl,HB2.out⟩
  ·have HF1:Hid (foundI ⟨nm,qu,nx,⟨s1,sn,s3,sl⟩,⟨g1,gn,g3,gl⟩,⟨t1,tn,t3,tl⟩,⟨l1,ln,l3,ll⟩⟩ p n (ms.contains false)=(a,k,0)):=by show _=_;rw [hF.out,if_neg (fun h=>hk h.2)]
   clear hF
   go_wp2_with fail
   exact bodyPost_ret (v:=.tuple #[.int .i64 a,.int .i64 k,.int .i64 0]) (by simp [results,Tryz.results55,go_sem]) rfl ⟨by rw [HF1.out];rfl,HB2.out⟩
 ·have HF1:Hid (foundI ⟨nm,qu,nx,⟨s1,sn,s3,sl⟩,⟨g1,gn,g3,gl⟩,⟨t1,tn,t3,tl⟩,⟨l1,ln,l3,ll⟩⟩ p n (ms.contains false)=(a,k,e0)):=by show _=_;rw [hF.out,if_neg (fun h=>he h.1)]
  clear hF
  have heb:(e0 == 0)=false:=by simpa using he
  go_wp2_with fail
  exact bodyPost_ret (v:=.tuple #[.int .i64 a,.int .i64 k,.int .i64 e0]) (by simp [results,Tryz.results55,go_sem]) rfl ⟨by rw [HF1.out];rfl,HB2.out⟩
/-- the next number of a set's -/
def guidI (nx:Int) (l:List SnapR):Int:=match l.getLast? with
 | none=>nx
 | some x=>max nx (x.gd+1)
set_option maxRecDepth 100000 in
set_option maxHeartbeats 2000000 in
theorem guid_any (v0 v1 v3 v4 v5 v6:Value) (nx:Int) (u0 u1 u2 u4:Value) (zl:List SnapR) (zA:Option Addr) (zn zc:Nat) (w:World) (B:Nat) (hB:B≤w.heap.size) (hz:Reads w B 5 zA zn (cellsK encSnap zl)) (hn:zn=zl.length) (hm:zn≤1000000) (hg:∀ x∈zl,-4000000000000000000≤x.gd∧x.gd≤4000000000000000000) :
  Calls Tryz.prog 43 #[.agg #[v0,v1,.int .i64 nx,v3,v4,v5,v6],.agg #[u0,u1,u2,.slice zA zn zc,u4]] w fun e w'=>e=.returned (.int .i64 (guidI nx zl))∧Below w.heap.size w w':=by
 have hb1:=(Below.refl w.heap.size w).alloc (Nat.le_refl _) (.cells #[v0,v1,.int .i64 nx,v3,v4,v5,v6] 27)
 have hb2:=hb1.alloc hb1.size (.cells #[u0,u1,u2,.slice zA zn zc,u4] 42)
 have HB2:=Lib.hid hb2
 have hz2:=hz.below (hb2.mono hB)
 have HN:=Lib.hid hn
 rcases Nat.eq_zero_or_pos zn with h0 | h0
 ·subst h0
  have hl:zl=[]:=List.eq_nil_of_length_eq_zero hn.symm
  subst hl
  clear hb1 hb2 hz hz2 hn
  go_enter Tryz.func43,Tryz.ntmps43
  go_wp2_with fail
  go_ret
  exact ⟨rfl,HB2.out⟩
 ·have hlt:zn-1<zn:=by omega
  have hzi:(0:Int)<(zn:Int):=by omega
  have hsub:IntKind.i64.wrap ((zn:Int)-1)=((zn-1:Nat):Int):=by rw [show (zn:Int)-1=((zn-1:Nat):Int) by omega];exact IntWalk.i64_in _ (by omega)
  have hi2:((zn-1:Nat):Int)<(zn:Int):=by omega
  obtain ⟨ad,rfl,-,r0,r1,r2,r3,r4⟩:=snap_at hz2 hn hlt
  have hkl:zn-1<zl.length:=by omega
  have hgl:=hg _ (List.getElem_mem hkl)
  have HL:Hid (zl.getLast?=some (zl[zn-1]'hkl)):=by
   show _=_
   rw [List.getLast?_eq_getElem?,← hn,List.getElem?_eq_getElem hkl]
  obtain ⟨x,hx⟩:∃ x,x=zl[zn-1]'hkl:=⟨_,rfl⟩
  rw [← hx] at r1 HL hgl
  have hadd:IntKind.i64.wrap (x.gd+1)=x.gd+1:=IntWalk.i64_in _ (by omega)
  clear hb1 hb2 hz hz2 hn hx r0 r2 r3 r4 hg
  go_enter Tryz.func43,Tryz.ntmps43
  go_wp2_with fail
  go_ret
  refine ⟨?_,HB2.out⟩
  unfold guidI
  rw [HL.out]
  rfl
end Go.Proofs.YtcgclpcocdappaaGreatDoor
namespace Go.Proofs.YtcgclpcocdappaaGreatDoor
open Go.RowKit
def SetC.findN (s:SetC) (n:BS):Int:=firstI (fun x:SnapC=>x.nm == n) s.snaps
theorem findN_con (s:SetR) (n:BS):findN s.snaps.l n=s.con.findN n:=(firstI_map SnapR.con (fun x:SnapC=>x.nm == n) s.snaps.l).symm
/-- places and an error, by content -/
def TenC.askS (c:TenC) (p n:BS) (bad:Bool):Int×Int×Int :=
 if c.E=9 then (0,0,9) else if pathB p=false∨nameB n=false∨bad=true then (0,0,31) else
  match c.sets.find? (fun s=>s.path == p) with
  | none=>(0,0,71)
  | some s=>(c.find p,s.findN n,0)
theorem askS_con (t:TenR) (p n:BS) (bad:Bool):askI t p n bad=t.con.askS p n bad:=by
 unfold askI TenC.askS
 rw [tenE_con,show t.con.sets=t.sets.l.map SetR.con from rfl,find_map]
 have e:(t.sets.l.find? fun x:SetR=>(SetR.con x).path == p)=t.sets.l.find? fun x=>x.path == p:=rfl
 rw [e]
 cases t.sets.l.find? (fun x=>x.path == p) with
 | none=>rfl
 | some s=>simp only [Option.map_some];rw [findS_con,findN_con]
def TenC.foundS (c:TenC) (p n:BS) (bad:Bool):Int×Int×Int :=
 if (c.askS p n bad).2.2=0∧(c.askS p n bad).2.1<0 then ((c.askS p n bad).1,(c.askS p n bad).2.1,71) else c.askS p n bad
theorem foundS_con (t:TenR) (p n:BS) (bad:Bool):foundI t p n bad=t.con.foundS p n bad:=by
 unfold foundI TenC.foundS
 rw [askS_con]
/-- a set that is found -/
structure AtS (c:TenC) (p n:BS) (bad:Bool) (k:Nat):Prop where
 E:c.E=0
 path:pathB p=true
 name:nameB n=true
 good:bad=false
 lt:k<c.sets.length
 at_:(c.sets[k]'lt).path=p
 find:c.find p=(k:Int)
theorem TenC.askS_cases (c:TenC) (p n:BS) (bad:Bool):(∃ E:Int,(E=9∨E=31∨E=71)∧c.askS p n bad=(0,0,E))∨∃ k,∃ h:AtS c p n bad k,c.askS p n bad=((k:Int),(c.sets[k]'h.lt).findN n,0):=by
 unfold TenC.askS
 rcases c.E_two with hE | hE
 ·rw [if_neg (by rw [hE];decide)]
  by_cases hb:pathB p=false∨nameB n=false∨bad=true
  ·rw [if_pos hb]
   exact .inl ⟨31,.inr (.inl rfl),rfl⟩
  ·rw [if_neg hb]
   have h1:pathB p=true:=by cases h:pathB p with
    | true=>rfl
    | false=>exact absurd (.inl h) hb
   have h2:nameB n=true:=by cases h:nameB n with
    | true=>rfl
    | false=>exact absurd (.inr (.inl h)) hb
   have h3:bad=false:=by cases h:bad with
    | false=>rfl
    | true=>exact absurd (.inr (.inr h)) hb
   rcases firstI_cases (fun s:SetC=>s.path == p) c.sets with ⟨e1,e2⟩ | ⟨k,hk,e1,e2⟩
   ·rw [e2]
    exact .inl ⟨71,.inr (.inr rfl),rfl⟩
   ·have e1:c.find p=(k:Int):=e1
    rw [e2]
    exact .inr ⟨k,⟨hE,h1,h2,h3,hk,by simpa using List.find?_some e2,e1⟩,by simp only [e1]⟩
 ·rw [if_pos hE]
  exact .inl ⟨9,.inl rfl,rfl⟩
/-- a snapshot that is found -/
theorem findN_cases (s:SetC) (n:BS):(s.findN n=-1∧∀ x∈s.snaps,x.nm≠n)∨∃ i,∃ hi:i<s.snaps.length,s.findN n=(i:Int)∧(s.snaps[i]'hi).nm=n:=by
 rcases firstI_cases (fun x:SnapC=>x.nm == n) s.snaps with ⟨e1,e2⟩ | ⟨k,hk,e1,e2⟩
 ·refine .inl ⟨e1,fun x hx=>?_⟩
  have:=List.find?_eq_none.1 e2 x hx
  simpa using this
 ·exact .inr ⟨k,hk,e1,by simpa using List.find?_some e2⟩
theorem TenC.foundS_cases (c:TenC) (p n:BS) (bad:Bool):(∃ a k E:Int,(E=9∨E=31∨E=71)∧c.foundS p n bad=(a,k,E))∨∃ k,∃ h:AtS c p n bad k,∃ i,∃ hi:i<(c.sets[k]'h.lt).snaps.length,c.foundS p n bad=((k:Int),(i:Int),0)∧(c.sets[k]'h.lt).findN n=(i:Int)∧((c.sets[k]'h.lt).snaps[i]'hi).nm=n:=by
 unfold TenC.foundS
 rcases c.askS_cases p n bad with ⟨E,hE,e⟩ | ⟨k,h,e⟩
 ·rw [e]
  rw [if_neg (by rintro ⟨h1,-⟩;rcases hE with rfl | rfl | rfl <;> exact absurd h1 (by decide))]
  exact .inl ⟨0,0,E,hE,rfl⟩
 ·rw [e]
  rcases findN_cases (c.sets[k]'h.lt) n with ⟨e1,-⟩ | ⟨i,hi,e1,e2⟩
  ·rw [e1,if_pos ⟨rfl,(by decide:(-1:Int)<0)⟩]
   exact .inl ⟨_,_,71,.inr (.inr rfl),rfl⟩
  ·rw [e1,if_neg (by rintro ⟨-,h1⟩;have h1:(i:Int)<0:=h1;omega)]
   exact .inr ⟨k,h,i,hi,rfl,e1,e2⟩
def guidC (nx:Int) (l:List SnapC):Int:=match l.getLast? with
 | none=>nx
 | some x=>max nx (x.gd+1)
theorem guid_con (nx:Int) (l:List SnapR):guidI nx l=guidC nx (l.map SnapR.con):=by
 unfold guidI guidC
 rw [List.getLast?_map]
 cases l.getLast? <;> rfl
/-! ### what is made -/
def SetC.addSnap (s:SetC) (x:SnapC):SetC:=⟨s.path,s.org,s.body,s.snaps++[x],s.own⟩
def TenC.nextN (c:TenC) (n:Int):TenC:=⟨c.nm,c.quota,n,c.sets,c.grants,c.stages,c.log⟩
def snapOf (s:SetC) (n:BS) (g:Int):SnapC:=⟨n,g,s.body,[],s.own⟩
def TenC.snapped (c:TenC) (k:Nat) (s:SetC) (n:BS) (g:Int):TenC:=(c.putS k (s.addSnap (snapOf s n g))).nextN (g+1)
def TenC.snapshot (c:TenC) (p n:BS):Int×TenC :=
 if (c.askS p n false).2.2≠0 then ((c.askS p n false).2.2,c) else match c.sets[(c.askS p n false).1.toNat]? with
 | none=>(71,c)
 | some s=>if 0≤(c.askS p n false).2.1 then (6,c) else if s.snaps.length=16 then (3,c) else if 1099511627776≤guidC c.next s.snaps then (15,c) else (c.snapped (c.askS p n false).1.toNat s n (guidC c.next s.snaps)).settle
def TenC.guidAt (c:TenC) (p:BS):Int:=match c.sets[(c.find p).toNat]? with
 | none=>0
 | some s=>guidC c.next s.snaps
def SetC.from_ (a b:BS) (s:SetC):SetC:=⟨s.path,if s.org=a then b else s.org,s.body,s.snaps,s.own⟩
/-! ### what may be -/
structure SnapsOk (l:List SnapC):Prop where
 len:l.length≤16
 each:∀ x∈l,snapOk x.r=true∧nameB x.nm=true
 asc:l.Pairwise fun a b=>a.gd<b.gd
 nodup:(l.map SnapC.nm).Nodup
theorem snapsFrom_iff (p:Option Int) (l:List SnapR):snapsFrom p l=true↔(∀ x∈l,snapOk x=true)∧(l.Pairwise fun a b=>a.gd<b.gd)∧∀ q,p=some q→∀ x∈l,q<x.gd:=by
 induction l generalizing p with
 | nil=>cases p <;> simp [snapsFrom]
 | cons y l ih =>
  rw [snapsFrom_cons,Bool.and_eq_true,Bool.and_eq_true,ih]
  constructor
  ·rintro ⟨⟨h1,h2⟩,h3,h4,h5⟩
   refine ⟨fun x hx=>?_,List.pairwise_cons.2 ⟨fun z hz=>h5 _ rfl z hz,h4⟩,fun q hq x hx=>?_⟩
   ·rcases List.mem_cons.1 hx with rfl | hx
    ·exact h1
    ·exact h3 x hx
   ·subst hq
    have h2:q<y.gd:=by simpa using h2
    rcases List.mem_cons.1 hx with rfl | hx
    ·exact h2
    ·have:=h5 _ rfl x hx
     omega
  ·rintro ⟨h1,h2,h3⟩
   obtain ⟨h4,h5⟩:=List.pairwise_cons.1 h2
   refine ⟨⟨h1 y List.mem_cons_self,?_⟩,fun x hx=>h1 x (List.mem_cons_of_mem _ hx),h5,fun q hq x hx=>by cases hq;exact h4 x hx⟩
   cases p with
   | none=>rfl
   | some q=>simpa using h3 q rfl y List.mem_cons_self
theorem unlikeF_iff (acc l:List BS):unlikeF acc l=true↔(∀ x∈l,nameB x=true)∧l.Nodup∧∀ x∈l,x ∉ acc:=by
 induction l generalizing acc with
 | nil=>simp [unlikeF]
 | cons y l ih =>
  rw [unlikeF_cons,Bool.and_eq_true,Bool.and_eq_true,ih,Bool.not_eq_true',← Bool.not_eq_true,List.contains_iff_mem]
  constructor
  ·rintro ⟨⟨h1,h2⟩,h3,h4,h5⟩
   refine ⟨fun x hx=>?_,List.nodup_cons.2 ⟨fun hy=>h5 y hy (by simp),h4⟩,fun x hx=>?_⟩
   ·rcases List.mem_cons.1 hx with rfl | hx
    ·exact h1
    ·exact h3 x hx
   ·rcases List.mem_cons.1 hx with rfl | hx
    ·exact h2
    ·exact fun h=>h5 x hx (by simp [h])
  ·rintro ⟨h1,h2,h3⟩
   obtain ⟨h4,h5⟩:=List.nodup_cons.1 h2
   refine ⟨⟨h1 y List.mem_cons_self,h3 y List.mem_cons_self⟩,fun x hx=>h1 x (List.mem_cons_of_mem _ hx),h5,fun x hx h=>?_⟩
   rcases List.mem_append.1 h with h | h
   ·exact h3 x (List.mem_cons_of_mem _ hx) h
   ·rw [List.mem_singleton] at h
    subst h
    exact h4 hx
theorem snapsB_iff (l:List SnapC):snapsB (l.map SnapC.r)=true↔SnapsOk l:=by
 unfold snapsB unlikeB
 rw [Bool.and_eq_true,Bool.and_eq_true,snapsFrom_iff,unlikeF_iff]
 simp only [decide_eq_true_eq,List.length_map,List.map_map]
 have e:((fun x:SnapR=>x.nm) ∘ SnapC.r)=SnapC.nm:=rfl
 rw [e]
 constructor
 ·rintro ⟨⟨h1,h2,h3,-⟩,h4,h5,-⟩
  exact ⟨h1,fun x hx=>⟨h2 _ (List.mem_map_of_mem hx),h4 _ (List.mem_map_of_mem hx)⟩,(List.pairwise_map (f:=SnapC.r)).1 h3,h5⟩
 ·rintro ⟨h1,h2,h3,h4⟩
  refine ⟨⟨h1,fun x hx=>?_,(List.pairwise_map (f:=SnapC.r)).2 h3,fun q hq=>by cases hq⟩,fun x hx=>?_,h4,fun x hx=>by simp⟩
  ·obtain ⟨y,hy,rfl⟩:=List.mem_map.1 hx
   exact (h2 y hy).1
  ·obtain ⟨y,hy,rfl⟩:=List.mem_map.1 hx
   exact (h2 y hy).2
theorem SetOk.all {l:List SetC} {z:SetC} (h:SetOk l z):propsB z.own=true∧okL z.body=true∧SnapsOk z.snaps∧(z.org=[]∨∃ a b,splitL z.org=some (a,b)∧a≠z.path∧∃ x∈l,x.path=a∧∃ y∈x.snaps,y.nm=b):=by
 refine ⟨h.own,h.body,(snapsB_iff _).1 h.snaps,?_⟩
 rcases h.org with h | ⟨a,b,h1,h2,x,hf,y,hy,e⟩
 ·exact .inl h
 ·exact .inr ⟨a,b,h1,h2,x,List.mem_of_find?_eq_some hf,by simpa using List.find?_some hf,y,hy,e⟩
/-! ### another name -/
end Go.Proofs.YtcgclpcocdappaaGreatDoor
namespace Go.Proofs.YtcgclpcocdappaaGreatDoor
open Go.RowKit
theorem results_cell_tmp2 {P:Program} {fn:Func} {tmps:Array Value} {a b c:Tmp} {t:TypeId} {ad:Addr} {v u x:Value} {w:World} (hr:fn.results=#[.cell a t,.tmp b,.tmp c]) (ha:tmps[a]?.getD undef=.pointer (some ad)) (hl:(loadVar t ad).run P w=.ok v w) (hu:tmps[b]?.getD undef=u:=by rfl) (hx:tmps[c]?.getD undef=x:=by rfl):(results fn tmps).run P w=.ok (.tuple #[v,u,x]) w:=by
 simp [results,hr,ha,hl,hu,hx,asAddr]
theorem found_way (t:TenR) (sl:List SetR) (hs:t.sets.l=sl) (p n:BS) (bad:Bool) (R:Int×Int×Int) (hR:R=t.con.foundS p n bad) :
  (∃ a k E:Int,(E=9∨E=31∨E=71)∧R=(a,k,E))∨∃ (k i:Nat) (hk:k<sl.length) (hi:i<(sl[k]'hk).snaps.l.length),R=((k:Int),(i:Int),0)∧AtS t.con p n bad k∧t.con.sets[k]?=some (sl[k]'hk).con∧(sl[k]'hk).con.snaps[i]?=some ((sl[k]'hk).snaps.l[i]'hi).con∧((sl[k]'hk).snaps.l[i]'hi).nm=n:=by
 subst hs
 rcases t.con.foundS_cases p n bad with ⟨a,k,E,h1,h2⟩ | ⟨k,ha,i,hi,h1,h2,h3⟩
 ·exact .inl ⟨a,k,E,h1,hR.trans h2⟩
 ·have hk:k<t.sets.l.length:=by have:=ha.lt;rwa [show t.con.sets.length=t.sets.l.length from List.length_map ..] at this
  have e:(t.con.sets[k]'ha.lt)=(t.sets.l[k]'hk).con:=List.getElem_map ..
  have hi':i<(t.sets.l[k]'hk).snaps.l.length:=by
   rw [e] at hi
   have:(t.sets.l[k]'hk).con.snaps.length=(t.sets.l[k]'hk).snaps.l.length:=List.length_map ..
   omega
  have e2:(t.sets.l[k]'hk).con.snaps[i]?=some ((t.sets.l[k]'hk).snaps.l[i]'hi').con:=by
   show ((t.sets.l[k]'hk).snaps.l.map SnapR.con)[i]?=_
   rw [List.getElem?_map,List.getElem?_eq_getElem hi']
   rfl
  refine .inr ⟨k,i,hk,hi',hR.trans h1,ha,by rw [List.getElem?_eq_getElem ha.lt,e],e2,?_⟩
  have h4:(t.sets.l[k]'hk).con.snaps[i]?=some ((t.con.sets[k]'ha.lt).snaps[i]'hi):=by rw [← e];exact List.getElem?_eq_getElem hi
  rw [e2] at h4
  injection h4 with h4
  rw [← h4] at h3
  exact h3
theorem asked_way (t:TenR) (sl:List SetR) (hs:t.sets.l=sl) (p n:BS) (bad:Bool) (R:Int×Int×Int) (hR:R=t.con.askS p n bad) :
  (∃ E:Int,(E=9∨E=31∨E=71)∧R=(0,0,E))∨∃ (k:Nat) (hk:k<sl.length),R=((k:Int),(sl[k]'hk).con.findN n,0)∧AtS t.con p n bad k∧t.con.sets[k]?=some (sl[k]'hk).con:=by
 subst hs
 rcases t.con.askS_cases p n bad with ⟨E,h1,h2⟩ | ⟨k,ha,h1⟩
 ·exact .inl ⟨E,h1,hR.trans h2⟩
 ·have hk:k<t.sets.l.length:=by have:=ha.lt;rwa [show t.con.sets.length=t.sets.l.length from List.length_map ..] at this
  have e:(t.con.sets[k]'ha.lt)=(t.sets.l[k]'hk).con:=List.getElem_map ..
  rw [e] at h1
  exact .inr ⟨k,hk,hR.trans h1,ha,by rw [List.getElem?_eq_getElem ha.lt,e]⟩
section
variable {c:TenC} {p n tq:BS} {a k' E:Int} {k i:Nat} {s:SetC} {y:SnapC}
theorem snapshot_bad (h:c.askS p n false=(a,k',E)) (hE:E≠0):c.snapshot p n=(E,c):=by
 unfold TenC.snapshot
 rw [h,if_pos hE]
theorem snapshot_at (h:c.askS p n false=((k:Int),k',0)) (hs:c.sets[k]?=some s):c.snapshot p n=if 0≤k' then (6,c) else if s.snaps.length=16 then (3,c) else if 1099511627776≤guidC c.next s.snaps then (15,c) else (c.snapped k s n (guidC c.next s.snaps)).settle:=by
 unfold TenC.snapshot
 rw [h]
 simp only [Int.toNat_natCast,hs]
 rw [if_neg (by decide)]
end
/-! ### rows of sets -/
theorem row_cells {W:World} {base:Nat} {s:FS SetR} (h:s.own W base 42 5 encSet) {k gS:Nat} (hk:k<s.l.length) (hA:s.A=some ⟨gS,0,none⟩) :
  base≤gS∧gS<W.heap.size∧(∀ o,W.frozen? ⟨gS,o,none⟩=false)∧W.cell? ⟨gS,k*5,none⟩=some (.string ⟨(s.l[k]'hk).path.toArray⟩)∧W.cell? ⟨gS,k*5+1,none⟩=some (.string ⟨(s.l[k]'hk).org.toArray⟩)∧W.cell? ⟨gS,k*5+2,none⟩=some (.slice (s.l[k]'hk).body.A (s.l[k]'hk).body.n (s.l[k]'hk).body.c)∧W.cell? ⟨gS,k*5+3,none⟩=some (.slice (s.l[k]'hk).snaps.A (s.l[k]'hk).snaps.n (s.l[k]'hk).snaps.c)∧W.cell? ⟨gS,k*5+4,none⟩=some (.slice (s.l[k]'hk).own.A (s.l[k]'hk).own.n (s.l[k]'hk).own.c):=by
 have hn:=h.1
 obtain ⟨g,cs,hA2,hbg,hb⟩:=h.blk (by omega)
 rw [hA] at hA2
 injection hA2 with hA2
 injection hA2 with hA2
 subst hA2
 obtain ⟨ad,hsa,-,q0,q1,q2,q3,q4⟩:=set_at h.rd.2.2 hn (i:=k) (by omega)
 rw [hA] at hsa
 injection hsa with hsa
 subst hsa
 rw [addr_add0] at q0 q1 q2 q3 q4
 exact ⟨hbg,hb.lt,hb.frozen,q0,q1,q2,q3,q4⟩
theorem own_ne {w:World} {base g:Nat} {s:FS SnapR} {T:TypeId} {cs:Array Value} (h:s.own w base 57 5 encSnap) (hb:Blk w g T cs) (hT:57≠T):some g≠s.val.ownBlock:=fun e=>own_blk_ne h.2 hb hT e.symm
end Go.Proofs.YtcgclpcocdappaaGreatDoor
namespace Go.Proofs.YtcgclpcocdappaaGreatDoor
open Go.RowKit
theorem TenC.sz.nextN {c:TenC} (h:c.sz) (n:Int):(c.nextN n).sz:=⟨h.nm,h.sets,h.eachS,h.grants,h.eachG,h.stages,h.eachT,h.log,h.eachL⟩
theorem AtS.ok {c:TenC} {p n:BS} {bad:Bool} {k:Nat} (h:AtS c p n bad k):SetOk c.sets (c.sets[k]'h.lt):=((TenC.E_ok c).1 h.E).sets.each _ (List.getElem_mem h.lt)
theorem AtS.snaps {c:TenC} {p n:BS} {bad:Bool} {k:Nat} (h:AtS c p n bad k):SnapsOk (c.sets[k]'h.lt).snaps:=(snapsB_iff _).1 h.ok.snaps
theorem snapped_sz {c:TenC} (h:c.sz) (k:Nat) (s:SetC) (hs:s.sz) (h16:s.snaps.length≤16) (n:BS) (hn:n.length≤4000000000) (g:Int):(c.snapped k s n g).sz:=by
 show ((c.putS k (s.addSnap (snapOf s n g))).nextN (g+1)).sz
 refine TenC.sz.nextN (h.putS (s:=s.addSnap (snapOf s n g)) ⟨hs.path,hs.org,hs.body,?_,fun y hy=>?_,hs.own,hs.props⟩) _
 ·show (s.snaps++[snapOf s n g]).length≤_
  rw [List.length_append,List.length_singleton]
  omega
 ·rcases List.mem_append.1 (show y∈s.snaps++[snapOf s n g] from hy) with hy | hy
  ·exact hs.each y hy
  ·rw [List.mem_singleton] at hy
   subst hy
   exact ⟨hn,hs.body,by simp [snapOf],by simp [snapOf],hs.own,hs.props⟩
/-! ### clones -/
theorem TenC.foundS_of (c:TenC) (p n:BS) (hE:c.E=0) (hp:pathB p=true) (hn:nameB n=true) (s:SetC) (hs:s∈c.sets) (hsp:s.path=p) (y:SnapC) (hy:y∈s.snaps) (hyn:y.nm=n):c.foundS p n false=(c.find p,s.findN n,0):=by
 have ha:c.askS p n false=(c.find p,s.findN n,0):=by
  unfold TenC.askS
  rw [if_neg (by rw [hE];decide),if_neg (by rw [hp,hn];simp)]
  have:=find_of_mem ((TenC.E_ok c).1 hE).sets.asc hs
  rw [hsp] at this
  rw [this]
 unfold TenC.foundS
 rw [ha,if_neg]
 rintro ⟨-,h⟩
 rcases findN_cases s n with ⟨_,h4⟩ | ⟨j,_,h4,_⟩
 ·exact h4 y hy hyn
 ·have h:s.findN n<0:=h
  omega
end Go.Proofs.YtcgclpcocdappaaGreatDoor
namespace Go.Proofs.YtcgclpcocdappaaGreatDoor
open Go.RowKit
/-- none of a tenant's rows is of this type -/
def offT (T:TypeId):Prop:=75≠T∧9≠T∧78≠T∧57≠T∧42≠T∧147≠T∧103≠T∧106≠T
theorem offT_ten:offT 27:=by unfold offT;decide
section
variable {w w':World} {base g:Nat} {cs:Array Value} {T:TypeId}
theorem SnapO.keptT {x:SnapR} (h:SnapO w base x) (hg:w.grownBy w' (some g)) (hb:Blk w g T cs) (hT:offT T):SnapO w' base x :=
 ⟨h.body.keptT hg hb hT.1,h.tags.keptT hg hb hT.2.1,h.own.keptT hg hb hT.2.2.1⟩
theorem SetO.keptT {x:SetR} (h:SetO w base x) (hg:w.grownBy w' (some g)) (hb:Blk w g T cs) (hT:offT T):SetO w' base x :=
 ⟨h.body.keptT hg hb hT.1,h.snaps.keptT hg hb hT.2.2.2.1,fun y hy=>(h.each y hy).keptT hg hb hT,h.own.keptT hg hb hT.2.2.1⟩
theorem StageO.keptT {x:StageR} (h:StageO w base x) (hg:w.grownBy w' (some g)) (hb:Blk w g T cs) (hT:offT T):StageO w' base x :=
 ⟨h.own.keptT hg hb hT.2.2.1,h.body.keptT hg hb hT.1⟩
theorem TenO.keptT {t:TenR} (h:TenO w base t) (hg:w.grownBy w' (some g)) (hb:Blk w g T cs) (hT:offT T):TenO w' base t :=
 ⟨h.sets.keptT hg hb hT.2.2.2.2.1,fun y hy=>(h.eachS y hy).keptT hg hb hT,h.grants.keptT hg hb hT.2.2.2.2.2.1,h.stages.keptT hg hb hT.2.2.2.2.2.2.1,fun y hy=>(h.eachG y hy).keptT hg hb hT,h.log.keptT hg hb hT.2.2.2.2.2.2.2⟩
end
end Go.Proofs.YtcgclpcocdappaaGreatDoor
