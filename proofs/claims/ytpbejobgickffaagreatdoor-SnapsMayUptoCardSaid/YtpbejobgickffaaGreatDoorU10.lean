/-
  Tenants: the plain law of what may be. shape.With's order of sets; where a set is put. props.Set, props.Unset, by their contracts. The page's Grants, by its contract (for tenants). Tenants: tags and snapshots, as the program and the page look at them. The sets of a tenant that may be lie in order: where a path's place is. tree.amount; slices.IndexFunc at sets and at snapshots; tree.Find, tree.Snap: by their contracts. slices.Index, Contains, IsSorted at texts; tree.unlike, tree.tagged: by their contracts.
-/
import Derived.Test.YtpbejobgickffaaGreatDoorU0
import Derived.Test.YtpbejobgickffaaGreatDoorU7
import Derived.Test.YtpbejobgickffaaGreatDoorU1
import Derived.Test.YtpbejobgickffaaGreatDoorU2
import Derived.Test.YtpbejobgickffaaGreatDoorU5
import Derived.Test.YtpbejobgickffaaGreatDoorRows
import Derived.Handy
import Derived.Test.YtpbejobgickffaaGreatDoorU3
import Derived.Lib.AppendZeros
import Derived.Test.YtpbejobgickffaaGreatDoorU6
import Derived.Lib.Hide
import Derived.Deep.RegionLaw
import Derived.Test.YtpbejobgickffaaGreatDoorU8
namespace Go.Proofs.YtpbejobgickffaaGreatDoor
open Go.RowKit
/-! ### what stands under what -/
/-- what a path stands under, if any -/
def parB (s:BS):Option BS:=if s=[]∨pathB s=false then none else some (upL s)
/-! ### what may be -/
def unlikeF:List BS→List BS→Bool
 | _,[]=>true
 | acc,x :: l=>nameB x && !(acc.contains x) && unlikeF (acc++[x]) l
def unlikeB (l:List BS):Bool:=unlikeF [] l
/-- names, each behind the one ahead of it -/
def ascF:Option BS→List BS→Bool
 | _,[]=>true
 | p,x :: l=>nameB x && (match p with | none=>true | some q=>Op.bytesLess q x) && ascF (some x) l
def tagsB (l:List BS):Bool:=decide (l.length≤4) && ascF none l
def snapsFrom:Option Int→List SnapR→Bool
 | _,[]=>true
 | p,x :: l=>amt x.gd 1 && (match p with | none=>true | some q=>decide (q<x.gd)) && okL x.body.l && propsB x.own.l && tagsB x.tags.l && snapsFrom (some x.gd) l
def snapsB (l:List SnapR):Bool:=decide (l.length≤16) && snapsFrom none l && unlikeB (l.map (·.nm))
def findS (l:List SetR) (p:BS):Int:=firstI (fun s=>s.path == p) l
def findN (l:List SnapR) (n:BS):Int:=firstI (fun s=>s.nm == n) l
def splitL (l:BS):Option (BS×BS):=match atL l with
 | some (p,n)=>if (pathB p && nameB n)=true then some (p,n) else none
 | none=>none
def originB (all:List SetR) (s:SetR):Bool:=s.org == [] || match splitL s.org with
 | none=>false
 | some (p,n)=>!(p == s.path) && match all.find? (fun x=>x.path == p) with
  | none=>false
  | some x=>x.snaps.l.any fun y=>y.nm == n
def setB (all:List SetR) (s:SetR):Bool:=pathB s.path && (match parB s.path with | none=>true | some u=>all.any fun x=>x.path == u) && propsB s.own.l && okL s.body.l && snapsB s.snaps.l && originB all s
def setsFrom (all:List SetR):Option BS→List SetR→Bool
 | _,[]=>true
 | p,s :: l=>setB all s && (match p with | none=>true | some q=>Op.bytesLess q s.path) && setsFrom all (some s.path) l
def setsB (l:List SetR):Bool:=decide (l.length≤32) && (l.any fun x=>x.path == []) && setsFrom l none l
def beginB (x:StageR):Bool:=decide (x.kind=1) && nameB x.nm && amt x.frm 0 && amt x.gd 1 && propsB x.own.l && decide (x.ix=0) && decide (x.ct=0) && decide (x.dt=[]) && smZ x.sm
def stageB (x:StageR):Bool:=!(x.into == []) && pathB x.into && beginB x && okL x.body.l && amt x.at_ 0 && amt x.nx 0
def stagesFrom:Option BS→List StageR→Bool
 | _,[]=>true
 | p,s :: l=>stageB s && (match p with | none=>true | some q=>Op.bytesLess q s.into) && stagesFrom (some s.into) l
def stagesB (l:List StageR):Bool:=decide (l.length≤4) && stagesFrom none l
def entryB (x:EntryR):Bool:=(x.user == [] || nameB x.user) && pathB x.path && amt x.kind 0 && amt x.err 0
def logB (l:List EntryR):Bool:=decide (l.length≤16) && l.all entryB
def tenB (t:TenR):Bool:=nameB t.nm && amt t.quota 0 && amt t.next 1 && setsB t.sets.l && grantsB t.grants.l && stagesB t.stages.l && logB t.log.l
def tenE (t:TenR):Int:=if tenB t=true then 0 else 9
theorem setsFrom_iff (all:List SetR) (p:Option BS) (l:List SetR):setsFrom all p l=true↔(∀ s∈l,setB all s=true)∧(l.Pairwise fun a b=>Op.bytesLess a.path b.path=true)∧∀ q,p=some q→∀ s∈l,Op.bytesLess q s.path=true:=by
 induction l generalizing p with
 | nil=>simp [setsFrom]
 | cons y l ih =>
  have e:setsFrom all p (y :: l)=(setB all y && (match p with | none=>true | some q=>Op.bytesLess q y.path) && setsFrom all (some y.path) l):=by cases p <;> rfl
  rw [e,Bool.and_eq_true,Bool.and_eq_true,ih]
  constructor
  ·rintro ⟨⟨h1,h2⟩,h3,h4,h5⟩
   refine ⟨fun x hx=>?_,List.pairwise_cons.2 ⟨fun z hz=>h5 _ rfl z hz,h4⟩,fun q hq x hx=>?_⟩
   ·rcases List.mem_cons.1 hx with rfl | hx
    ·exact h1
    ·exact h3 x hx
   ·subst hq
    rcases List.mem_cons.1 hx with rfl | hx
    ·exact h2
    ·exact bl_trans h2 (h5 _ rfl x hx)
  ·rintro ⟨h1,h2,h3⟩
   obtain ⟨h4,h5⟩:=List.pairwise_cons.1 h2
   refine ⟨⟨h1 y (List.mem_cons_self ..),?_⟩,fun x hx=>h1 x (List.mem_cons_of_mem _ hx),h5,fun q hq x hx=>?_⟩
   ·cases p with
    | none=>rfl
    | some q=>exact h3 q rfl y (List.mem_cons_self ..)
   ·cases hq
    exact h4 x hx
end Go.Proofs.YtpbejobgickffaaGreatDoor
namespace Go.Proofs.YtpbejobgickffaaGreatDoor
open Go.RowKit
set_option maxRecDepth 100000 in
set_option maxHeartbeats 1000000 in
theorem with1_any (a o x:BS) (bA zA oA:Option Addr) (bn bc zn zc on oc:Nat) (w:World) :
  Calls Tryz.prog 119 #[.agg #[.string ⟨a.toArray⟩,.string ⟨o.toArray⟩,.slice bA bn bc,.slice zA zn zc,.slice oA on oc],.string ⟨x.toArray⟩] w fun e w'=>e=.returned (.int .i64 (cmpS a x))∧Below w.heap.size w w':=by
 have hb1:=(Below.refl w.heap.size w).alloc (Nat.le_refl _) (.cells #[.string ⟨a.toArray⟩,.string ⟨o.toArray⟩,.slice bA bn bc,.slice zA zn zc,.slice oA on oc] 42)
 go_enter Tryz.func119,Tryz.ntmps119
 go_wp2_with fail
 refine (compareS_any a x _).mono ?_
 rintro e w1 ⟨rfl,q,rfl⟩
 go_wp2_with fail
 go_ret
 exact ⟨rfl,below_drewN hb1 q⟩
set_option maxRecDepth 100000 in
/-- the place of a path among sets in order -/
theorem searchSets_any (l:List SetR) (p:BS) (hl:SignAsc (fun s:SetR=>cmpS s.path p) l) (n:Nat) (hnl:n=l.length) (A:Option Addr) (c:Nat) (w:World) (B:Nat) (hr:Reads w B 5 A n (cellsK encSet l)) (hB:B≤w.heap.size) (hn:n≤5000000000000) :
  Calls Tryz.prog 118 #[.slice A n c,.string ⟨p.toArray⟩,.func (.func 119) #[] #[]] w fun e w'=>e=.returned (.tuple #[.int .i64 (posF (fun s:SetR=>cmpS s.path p) l),.bool (atF (fun s:SetR=>cmpS s.path p) l)])∧Below w.heap.size w w' :=
 searchSet_any (fun s:SetR=>.string ⟨s.path.toArray⟩) (fun s=>.string ⟨s.org.toArray⟩) (fun s=>.slice s.body.A s.body.n s.body.c) (fun s=>.slice s.snaps.A s.snaps.n s.snaps.c) (fun s=>.slice s.own.A s.own.n s.own.c) (fun s:SetR=>cmpS s.path p) l hl n hnl A c (.string ⟨p.toArray⟩) w B hr hB hn
  fun x W _=>with1_any x.path x.org p x.body.A x.snaps.A x.own.A x.body.n x.body.c x.snaps.n x.snaps.c x.own.n x.own.c W
end Go.Proofs.YtpbejobgickffaaGreatDoor
namespace Go.Proofs.YtpbejobgickffaaGreatDoor
open Go.RowKit
def setE (l:PL) (nm tx:BS):Int:=if propsB l=true then (if nameB nm=true then (if valB tx=true then (if (getP l nm).isSome=false∧l.length=8 then 3 else 0) else 9) else 31) else 9
end Go.Proofs.YtpbejobgickffaaGreatDoor
namespace Go.Proofs.YtpbejobgickffaaGreatDoor
open Go.RowKit
set_option maxRecDepth 100000 in
set_option maxHeartbeats 4000000 in
theorem refGrants_any (l:GL) (n:Nat) (hnl:n=l.length) (A:Option Addr) (c:Nat) (w:World) (B:Nat) (hr:Reads w B 3 A n (gcells l)) (hB:B≤w.heap.size) (hn:n≤5000000000000) (hv:lenG l) :
  Calls Tryz.prog 89 #[.slice A n c] w fun e w'=>e=.returned (.int .i64 (grantsE l))∧Below w.heap.size w w':=by
 have HN:=Lib.hid hnl
 obtain ⟨E,hE⟩:∃ E,E=grantsE l:=⟨_,rfl⟩
 have hPE:Hid (∀ b,grantsFrom none l=b→E=if b=true∧n≤16 then 0 else 9):=by
  show ∀ b,_→_
  rintro b rfl
  rw [hE]
  unfold grantsE grantsB
  rw [← hnl]
  by_cases h8:n≤16
  ·simp [h8]
  ·simp [h8]
 rw [← hE]
 clear hnl hE
 go_enter Tryz.func89,Tryz.ntmps89
 go_wp2_with fail
 go_loopw [3] (fun j wr=>∃ k:Nat,k≤n∧j=.int .i64 (k:Int)∧Hid (grantsFrom none l=grantsFrom (prevG l k) (l.drop k))∧Below w.heap.size w wr) (fun j _=>n-(intOf j).toNat)
 case atStart=>exact ⟨0,Nat.zero_le _,rfl,rfl,Below.refl _ _⟩
 case round =>
  obtain ⟨k,hk,rfl,hok,hbw⟩:=hrel
  by_cases hlt:k<n
  ·have hrw:=hr.below (hbw.mono hB)
   obtain ⟨ad,rfl,hadB,c0,c1,c2⟩:=hrw.el3 HN.out hlt
   have hki:(k:Int)<(n:Int):=by omega
   have hkl:k<l.length:=by have:=HN.out;omega
   obtain ⟨x,hx⟩:∃ x,x=l[k]'hkl:=⟨_,rfl⟩
   have hxl:=hv x (by rw [hx];exact List.getElem_mem _)
   rw [← hx] at c0 c1 c2
   have hdr:=List.drop_eq_getElem_cons hkl
   rw [← hx] at hdr
   have HX:=Lib.hid hx
   have HDR:=Lib.hid hdr
   obtain ⟨xu,xp,xz⟩:=x
   simp only at c0 c1 c2 hxl
   have hb1:=hbw.alloc hbw.size (.cells #[.string ⟨xu.toArray⟩,.string ⟨xp.toArray⟩,.int .i64 xz] 116)
   have hbad:Hid ((nameB xu=false∨pathB xp=false∨xz<1∨255<xz∨(∃ y,prevG l k=some y∧¬ cmpG y.1 y.2.1 xu xp<0))→E=9):=by
    show _→_
    intro h
    rw [hPE.out false]
    ·rfl
    rw [hok.out,HDR.out,grantsFrom_cons]
    unfold grantB
    rcases h with h | h | h | h | ⟨y,hy,h⟩
    ·simp only [h];rfl
    ·simp only [h];simp
    ·simp only [decide_eq_false (show ¬ 1≤xz by omega)];simp
    ·simp only [decide_eq_false (show ¬ xz≤255 by omega)];simp
    ·rw [hy];simp only [decide_eq_false h];simp
   have hgood:Hid (nameB xu=true→pathB xp=true→1≤xz→xz≤255→(∀ y,prevG l k=some y→cmpG y.1 y.2.1 xu xp<0)→grantsFrom none l=grantsFrom (prevG l (k+1)) (l.drop (k+1))):=by
    show _→_→_→_→_→_
    intro h1 h2 h4 h5 h3
    rw [hok.out,HDR.out]
    have hp:prevG l (k+1)=some (xu,xp,xz):=by
     show l[k]?=_
     rw [List.getElem?_eq_getElem hkl,← HX.out]
    rw [hp,grantsFrom_cons]
    unfold grantB
    simp only [h1,h2,decide_eq_true h4,decide_eq_true h5]
    cases hq:prevG l k with
    | none=>rfl
    | some y=>simp only [decide_eq_true (h3 y hq)];rfl
   have hN:∀ W,Calls Tryz.prog 87 #[.string ⟨xu.toArray⟩] W fun e W'=>e=.returned (.bool (nameB xu))∧W'=W:=fun W=>refName_s ⟨xu.toArray⟩ W (by show xu.length≤_;omega)
   have hV:∀ W,Calls Tryz.prog 83 #[.string ⟨xp.toArray⟩] W fun e W'=>e=.returned (.bool (pathB xp))∧Below W.heap.size W W':=fun W=>refPath_any ⟨xp.toArray⟩ W (by show xp.length≤_;exact hxl.2)
   have hwlt:wr.heap.size<(wr.alloc (.cells #[.string ⟨xu.toArray⟩,.string ⟨xp.toArray⟩,.int .i64 xz] 116)).heap.size:=by simp
   have k0:=(Blk.new wr 116 #[.string ⟨xu.toArray⟩,.string ⟨xp.toArray⟩,.int .i64 xz]).cell 0
   have k1:=(Blk.new wr 116 #[.string ⟨xu.toArray⟩,.string ⟨xp.toArray⟩,.int .i64 xz]).cell 1
   have k2:=(Blk.new wr 116 #[.string ⟨xu.toArray⟩,.string ⟨xp.toArray⟩,.int .i64 xz]).cell 2
   have hbsz:=hbw.size
   have hS:=Lib.hid (fun (W':World) (hB':Below (wr.alloc (.cells #[.string ⟨xu.toArray⟩,.string ⟨xp.toArray⟩,.int .i64 xz] 116)).heap.size (wr.alloc (.cells #[.string ⟨xu.toArray⟩,.string ⟨xp.toArray⟩,.int .i64 xz] 116)) W') =>
    (⟨(hB'.cell (p:=⟨wr.heap.size,0,none⟩) hwlt).trans k0,(hB'.cell (p:=⟨wr.heap.size,1,none⟩) hwlt).trans k1,(hB'.cell (p:=⟨wr.heap.size,2,none⟩) hwlt).trans k2,hr.below ((hbw.alloc hbw.size (.cells #[.string ⟨xu.toArray⟩,.string ⟨xp.toArray⟩,.int .i64 xz] 116)).trans (hB'.mono (Nat.le_trans hbsz (Nat.le_of_lt hwlt))) |>.mono hB)⟩ :
     W'.cell? ⟨wr.heap.size,0,none⟩=some (.string ⟨xu.toArray⟩)∧W'.cell? ⟨wr.heap.size,1,none⟩=some (.string ⟨xp.toArray⟩)∧W'.cell? ⟨wr.heap.size,2,none⟩=some (.int .i64 xz)∧Reads W' B 3 (some ad) n (gcells l)))
   clear hx hdr hok hxl hv k0 k1 k2
   obtain ⟨bn,hbn0⟩:∃ b,b=nameB xu:=⟨_,rfl⟩
   obtain ⟨bp,hbp0⟩:∃ b,b=pathB xp:=⟨_,rfl⟩
   rw [← hbn0] at hbad hgood hN
   rw [← hbp0] at hbad hgood hV
   clear hbn0 hbp0
   cases bn with
   | false =>
    have HB:=Lib.hid (hbad.out (.inl rfl))
    clear hr hrw hbad hgood hV hS
    go_wp2_with fail
    refine (hN _).mono ?_
    rintro e w4 ⟨rfl,rfl⟩
    go_wp2_with fail
    go_ret
    exact ⟨by rw [HB.out];rfl,hb1⟩
   | true =>
    cases bp with
    | false =>
     have HB:=Lib.hid (hbad.out (.inr (.inl rfl)))
     clear hr hrw hbad hgood
     go_wp2_with fail
     refine (hN _).mono ?_
     rintro e w4 ⟨rfl,rfl⟩
     go_wp2_with fail
     refine (hV _).mono ?_
     rintro e w5 ⟨rfl,hb5⟩
     have hbf:=hb1.trans (hb5.mono hb1.size)
     obtain ⟨q0,q1,q2,hprev⟩:=hS.out _ hb5
     clear hS hb5 hb1
     clear hprev
     go_wp2_with fail
     go_ret
     exact ⟨by rw [HB.out];rfl,hbf⟩
    | true =>
     by_cases z1:xz<1
     ·have HB:=Lib.hid (hbad.out (.inr (.inr (.inl z1))))
      clear hr hrw hbad hgood
      go_wp2_with fail
      refine (hN _).mono ?_
      rintro e w4 ⟨rfl,rfl⟩
      go_wp2_with fail
      refine (hV _).mono ?_
      rintro e w5 ⟨rfl,hb5⟩
      have hbf:=hb1.trans (hb5.mono hb1.size)
      obtain ⟨q0,q1,q2,hprev⟩:=hS.out _ hb5
      clear hS hb5 hb1
      clear hprev
      go_wp2_with fail
      go_ret
      exact ⟨by rw [HB.out];rfl,hbf⟩
     by_cases z2:255<xz
     ·have HB:=Lib.hid (hbad.out (.inr (.inr (.inr (.inl z2)))))
      clear hr hrw hbad hgood
      go_wp2_with fail
      refine (hN _).mono ?_
      rintro e w4 ⟨rfl,rfl⟩
      go_wp2_with fail
      refine (hV _).mono ?_
      rintro e w5 ⟨rfl,hb5⟩
      have hbf:=hb1.trans (hb5.mono hb1.size)
      obtain ⟨q0,q1,q2,hprev⟩:=hS.out _ hb5
      clear hS hb5 hb1
      clear hprev
      go_wp2_with fail
      go_ret
      exact ⟨by rw [HB.out];rfl,hbf⟩
     rcases Nat.eq_zero_or_pos k with h0 | h0
     ·have HG:=Lib.hid (hgood.out rfl rfl (by omega) (by omega) (fun y hy=>by subst h0;cases hy))
      have d4:decide ((0:Int)<(k:Int))=false:=by simp;omega
      have d4':decide (0<k)=false:=by simp;omega
      clear h0 hr hrw hbad hgood
      go_wp2_with fail
      refine (hN _).mono ?_
      rintro e w4 ⟨rfl,rfl⟩
      go_wp2_with fail
      refine (hV _).mono ?_
      rintro e w5 ⟨rfl,hb5⟩
      have hbf:=hb1.trans (hb5.mono hb1.size)
      obtain ⟨q0,q1,q2,hprev⟩:=hS.out _ hb5
      clear hS hb5 hb1
      clear hprev
      go_wp2_with fail
      go_big_quiet (fail)
      go_wp2_with fail
      go_roundw
      case rel=>exact ⟨k+1,by omega,by go_num,HG,below_drewN hbf _⟩
      case measure=>simp [intOf];omega
     ·have d4:decide ((0:Int)<(k:Int))=true:=by simp;omega
      have d4':decide (0<k)=true:=by simp;omega
      have hk1l:k-1<l.length:=by omega
      obtain ⟨y,hy⟩:∃ y,y=l[k-1]'hk1l:=⟨_,rfl⟩
      have hpv:prevG l k=some y:=by
       obtain ⟨j,rfl⟩:∃ j,k=j+1:=⟨k-1,by omega⟩
       show l[j]?=_
       have hj:j<l.length:=by simpa using hk1l
       rw [List.getElem?_eq_getElem hj,hy]
       rfl
      have i1:(1:Int)≤(k:Int):=by omega
      have i2:(k:Int)-1<(n:Int):=by omega
      have i3:IntKind.i64.wrap ((k:Int)-1)=(k:Int)-1:=IntWalk.i64_in _ (by omega)
      have i4:((k:Int)-1).toNat=k-1:=by omega
      have HP:Hid (∀ W',Reads W' B 3 (some ad) n (gcells l)→W'.cell? (ad.add ((k-1)*3))=some (.string ⟨y.1.toArray⟩)∧W'.cell? ⟨(ad.add ((k-1)*3)).block,(ad.add ((k-1)*3)).off+1,none⟩=some (.string ⟨y.2.1.toArray⟩)):=by
       show ∀ W',_→_
       intro W' hr'
       obtain ⟨ad2,e2,-,p0,p1,-⟩:=(hr'.el3 HN.out (i:=k-1) (by omega))
       injection e2 with e2
       subst e2
       rw [← hy] at p0 p1
       exact ⟨p0,p1⟩
      obtain ⟨yu,yp,yz⟩:=y
      simp only at HP
      have hgt:=gtrS 9 yu xu
      have hge:=geqS 9 yp xp
      have hbadO:=fun (h:¬ cmpG yu yp xu xp<0)=>hbad.out (.inr (.inr (.inr (.inr ⟨_,hpv,h⟩))))
      have hgoodO:=fun (h:cmpG yu yp xu xp<0)=>hgood.out rfl rfl (by omega) (by omega) (fun y' hy'=>by rw [hpv] at hy';cases hy';exact h)
      clear hbad hgood h0 hpv hy hr hrw
      by_cases hyx:yu=xu
      ·subst hyx
       rw [show (Op.bytesLess yu yu || yu == yu)=true by simp] at hgt
       by_cases hpp:Op.bytesLess yp xp=true
       ·have HG:=Lib.hid (hgoodO ((cmpG_neg _ _ _ _).2 (.inr ⟨rfl,hpp⟩)))
        rw [hpp] at hge
        clear hbadO hgoodO hpp
        go_wp2_with fail
        refine (hN _).mono ?_
        rintro e w4 ⟨rfl,rfl⟩
        go_wp2_with fail
        refine (hV _).mono ?_
        rintro e w5 ⟨rfl,hb5⟩
        have hbf:=hb1.trans (hb5.mono hb1.size)
        obtain ⟨q0,q1,q2,hprev⟩:=hS.out _ hb5
        clear hS hb5 hb1
        obtain ⟨p0,p1⟩:=HP.out _ hprev
        clear hprev
        go_wp2_with fail
        go_big_quiet (fail)
        clear hgt hge
        go_wp2_with fail
        go_roundw
        case rel=>exact ⟨k+1,by omega,by go_num,HG,below_drewN hbf _⟩
        case measure=>simp [intOf];omega
       ·have HB:=Lib.hid (hbadO (fun h=>by
         rcases (cmpG_neg _ _ _ _).1 h with h | h
         ·rw [bl_irrefl] at h;cases h
         ·exact hpp h.2))
        rw [show Op.bytesLess yp xp=false by simpa using hpp] at hge
        clear hbadO hgoodO hpp
        go_wp2_with fail
        refine (hN _).mono ?_
        rintro e w4 ⟨rfl,rfl⟩
        go_wp2_with fail
        refine (hV _).mono ?_
        rintro e w5 ⟨rfl,hb5⟩
        have hbf:=hb1.trans (hb5.mono hb1.size)
        obtain ⟨q0,q1,q2,hprev⟩:=hS.out _ hb5
        clear hS hb5 hb1
        obtain ⟨p0,p1⟩:=HP.out _ hprev
        clear hprev
        go_wp2_with fail
        go_big_quiet (fail)
        clear hgt hge
        go_wp2_with fail
        go_ret
        exact ⟨by rw [HB.out];rfl,below_drewN hbf _⟩
      ·have hne:(yu == xu)=false:=by simpa using hyx
       by_cases hbl:Op.bytesLess yu xu=true
       ·have HG:=Lib.hid (hgoodO ((cmpG_neg _ _ _ _).2 (.inl hbl)))
        rw [show (Op.bytesLess yu xu || yu == xu)=true by rw [hbl];rfl] at hgt
        clear hbadO hgoodO hbl hge
        go_wp2_with fail
        refine (hN _).mono ?_
        rintro e w4 ⟨rfl,rfl⟩
        go_wp2_with fail
        refine (hV _).mono ?_
        rintro e w5 ⟨rfl,hb5⟩
        have hbf:=hb1.trans (hb5.mono hb1.size)
        obtain ⟨q0,q1,q2,hprev⟩:=hS.out _ hb5
        clear hS hb5 hb1
        obtain ⟨p0,p1⟩:=HP.out _ hprev
        clear hprev
        go_wp2_with fail
        go_big_quiet (fail)
        clear hgt
        go_wp2_with fail
        go_roundw
        case rel=>exact ⟨k+1,by omega,by go_num,HG,below_drewN hbf _⟩
        case measure=>simp [intOf];omega
       ·have HB:=Lib.hid (hbadO (fun h=>by
         rcases (cmpG_neg _ _ _ _).1 h with h | h
         ·exact hbl h
         ·exact hyx h.1))
        rw [show (Op.bytesLess yu xu || yu == xu)=false by rw [hne,show Op.bytesLess yu xu=false by simpa using hbl];rfl] at hgt
        clear hbadO hgoodO hbl hge
        go_wp2_with fail
        refine (hN _).mono ?_
        rintro e w4 ⟨rfl,rfl⟩
        go_wp2_with fail
        refine (hV _).mono ?_
        rintro e w5 ⟨rfl,hb5⟩
        have hbf:=hb1.trans (hb5.mono hb1.size)
        obtain ⟨q0,q1,q2,hprev⟩:=hS.out _ hb5
        clear hS hb5 hb1
        obtain ⟨p0,p1⟩:=HP.out _ hprev
        clear hprev
        go_wp2_with fail
        go_big_quiet (fail)
        clear hgt
        go_wp2_with fail
        go_ret
        exact ⟨by rw [HB.out];rfl,below_drewN hbf _⟩
  ·have hkn:k=n:=by omega
   have hF:Hid (E=if n≤16 then 0 else 9):=by
    show _=_
    rw [hPE.out true]
    ·simp
    rw [hok.out,List.drop_of_length_le (by rw [hkn,HN.out];exact Nat.le_refl _)]
    rfl
   clear hok hr hkn hPE
   by_cases h8:n≤16
   ·have hi8:¬ (16:Int)<(n:Int):=by omega
    have HV:Hid (E=0):=by show _=_;rw [hF.out,if_pos h8]
    clear hF
    go_wp2_with fail
    go_ret
    exact ⟨by rw [HV.out];rfl,hbw⟩
   ·have hi8:(16:Int)<(n:Int):=by omega
    have HV:Hid (E=9):=by show _=_;rw [hF.out,if_neg h8]
    clear hF
    go_wp2_with fail
    go_ret
    exact ⟨by rw [HV.out];rfl,hbw⟩
end Go.Proofs.YtpbejobgickffaaGreatDoor
namespace Go.Proofs.YtpbejobgickffaaGreatDoor
open Go.RowKit
/-- texts, none ahead of the one before it (slices.IsSorted) -/
def sortF:Option BS→List BS→Bool
 | _,[]=>true
 | p,x :: l=>(match p with | none=>true | some q=>!(Op.bytesLess x q)) && sortF (some x) l
theorem sortF_cons (p:Option BS) (x:BS) (l:List BS):sortF p (x :: l)=((match p with | none=>true | some q=>!(Op.bytesLess x q)) && sortF (some x) l):=by cases p <;> rfl
theorem ascF_cons (p:Option BS) (x:BS) (l:List BS):ascF p (x :: l)=(nameB x && (match p with | none=>true | some q=>Op.bytesLess q x) && ascF (some x) l):=by cases p <;> rfl
theorem unlikeF_cons (acc:List BS) (x:BS) (l:List BS):unlikeF acc (x :: l)=(nameB x && !(acc.contains x) && unlikeF (acc++[x]) l):=rfl
theorem bl_asym (a b:BS) (h:Op.bytesLess a b=true):Op.bytesLess b a=false:=by
 rw [← Bool.not_eq_true]
 intro h2
 have:=bl_trans h h2
 rw [bl_irrefl] at this
 cases this
theorem tags_to (l:List BS) (acc:List BS) (p:Option BS) (hp:∀ q,p=some q→q∈acc) (h1:unlikeF acc l=true) (h2:sortF p l=true):ascF p l=true:=by
 induction l generalizing acc p with
 | nil=>rfl
 | cons x l ih =>
  rw [unlikeF_cons,Bool.and_eq_true,Bool.and_eq_true] at h1
  rw [sortF_cons,Bool.and_eq_true] at h2
  obtain ⟨⟨h3,h4⟩,h5⟩:=h1
  obtain ⟨h6,h7⟩:=h2
  rw [ascF_cons,h3,Bool.true_and,Bool.and_eq_true]
  refine ⟨?_,ih (acc++[x]) (some x) (fun q hq=>by cases hq;simp) h5 h7⟩
  cases p with
  | none=>rfl
  | some q =>
   simp only at h6 ⊢
   refine bl_tri x q (by simpa using h6) ?_
   rintro rfl
   have:=hp x rfl
   simp [this] at h4
theorem tags_from (l:List BS) (acc:List BS) (p:Option BS) (hp:∀ a∈acc,∃ q,p=some q∧(a=q∨Op.bytesLess a q=true)) (h:ascF p l=true):unlikeF acc l=true∧sortF p l=true:=by
 induction l generalizing acc p with
 | nil=>exact ⟨rfl,rfl⟩
 | cons x l ih =>
  rw [ascF_cons,Bool.and_eq_true,Bool.and_eq_true] at h
  obtain ⟨⟨h1,h2⟩,h3⟩:=h
  have hlt:∀ a∈acc,Op.bytesLess a x=true:=by
   intro a ha
   obtain ⟨q,rfl,hq⟩:=hp a ha
   simp only at h2
   rcases hq with rfl | hq
   ·exact h2
   ·exact bl_trans hq h2
  obtain ⟨i1,i2⟩:=ih (acc++[x]) (some x) (fun a ha=>by
   rcases List.mem_append.1 ha with ha | ha
   ·exact ⟨x,rfl,.inr (hlt a ha)⟩
   ·exact ⟨x,rfl,.inl (by simpa using ha)⟩) h3
  rw [unlikeF_cons,sortF_cons,h1,i1,i2,Bool.and_true,Bool.and_true,Bool.true_and]
  constructor
  ·rw [Bool.not_eq_true',← Bool.not_eq_true,List.contains_iff_mem]
   intro hx
   have:=hlt x hx
   rw [bl_irrefl] at this
   cases this
  ·cases p with
   | none=>rfl
   | some q=>simp only at h2 ⊢;rw [bl_asym _ _ h2];rfl
/-- as the program looks at tags -/
theorem tagged_eq (l:List BS):(unlikeB l && sortF none l)=ascF none l:=by
 rw [Bool.eq_iff_iff,Bool.and_eq_true]
 exact ⟨fun h=>tags_to l [] none (fun q hq=>by cases hq) h.1 h.2,fun h=>tags_from l [] none (fun a ha=>by cases ha) h⟩
/-- as the page looks at snapshots -/
def snapOk (x:SnapR):Bool:=amt x.gd 1 && okL x.body.l && propsB x.own.l && tagsB x.tags.l
def snapsRef:List BS→Option Int→List SnapR→Bool
 | _,_,[]=>true
 | acc,p,x :: l=>nameB x.nm && snapOk x && (match p with | none=>true | some q=>decide (q<x.gd)) && !(acc.contains x.nm) && snapsRef (acc++[x.nm]) (some x.gd) l
theorem snapsFrom_cons (p:Option Int) (x:SnapR) (l:List SnapR):snapsFrom p (x :: l)=(snapOk x && (match p with | none=>true | some q=>decide (q<x.gd)) && snapsFrom (some x.gd) l):=by
 have:snapsFrom p (x :: l)=(amt x.gd 1 && (match p with | none=>true | some q=>decide (q<x.gd)) && okL x.body.l && propsB x.own.l && tagsB x.tags.l && snapsFrom (some x.gd) l):=by cases p <;> rfl
 rw [this]
 unfold snapOk
 generalize (match p with | none=>true | some q=>decide (q<x.gd))=b
 cases amt x.gd 1 <;> cases b <;> cases okL x.body.l <;> cases propsB x.own.l <;> cases tagsB x.tags.l <;> rfl
theorem snapsRef_cons (acc:List BS) (p:Option Int) (x:SnapR) (l:List SnapR):snapsRef acc p (x :: l)=(nameB x.nm && snapOk x && (match p with | none=>true | some q=>decide (q<x.gd)) && !(acc.contains x.nm) && snapsRef (acc++[x.nm]) (some x.gd) l):=by cases p <;> rfl
theorem snapsRef_eq (l:List SnapR) (acc:List BS) (p:Option Int):snapsRef acc p l=(snapsFrom p l && unlikeF acc (l.map (·.nm))):=by
 induction l generalizing acc p with
 | nil=>rfl
 | cons x l ih =>
  rw [snapsRef_cons,snapsFrom_cons,List.map_cons,unlikeF_cons,ih]
  generalize (match p with | none=>true | some q=>decide (q<x.gd))=b
  cases nameB x.nm <;> cases snapOk x <;> cases b <;> cases acc.contains x.nm <;> cases snapsFrom (some x.gd) l <;> rfl
theorem snapsB_ref (l:List SnapR):snapsB l=(decide (l.length≤16) && snapsRef [] none l):=by
 rw [snapsRef_eq]
 unfold snapsB unlikeB
 rw [Bool.and_assoc]
end Go.Proofs.YtpbejobgickffaaGreatDoor
namespace Go.Proofs.YtpbejobgickffaaGreatDoor
open Go.RowKit
theorem setsB_pairs (l:List SetR) (h:setsB l=true):l.length≤32∧l.Pairwise fun a b=>Op.bytesLess a.path b.path=true:=by
 unfold setsB at h
 simp only [Bool.and_eq_true,decide_eq_true_eq] at h
 exact ⟨h.1.1,((setsFrom_iff l none l).1 h.2).2.1⟩
theorem pairs_asc (l:List SetR) (h:l.Pairwise fun a b=>Op.bytesLess a.path b.path=true) (p:BS):SignAsc (fun s:SetR=>cmpS s.path p) l:=by
 intro i j a b hij ha hb hlt
 obtain ⟨hi,hai⟩:=List.getElem?_eq_some_iff.1 ha
 obtain ⟨hj,hbj⟩:=List.getElem?_eq_some_iff.1 hb
 have h1:=List.pairwise_iff_getElem.1 h i j hi hj hij
 rw [hai,hbj] at h1
 have hlt:cmpS b.path p<0:=hlt
 show cmpS a.path p<0
 rw [cmpS_neg] at hlt ⊢
 exact bl_trans h1 hlt
theorem tenE_ord (t:TenR) (h:tenE t=0):t.sets.l.length≤32∧t.sets.l.Pairwise fun a b=>Op.bytesLess a.path b.path=true:=by
 unfold tenE at h
 have hb:tenB t=true:=by
  by_cases hb:tenB t=true
  ·exact hb
  ·rw [if_neg hb] at h;exact absurd h (by decide)
 unfold tenB at hb
 simp only [Bool.and_eq_true] at hb
 exact setsB_pairs _ hb.1.1.1.2
end Go.Proofs.YtpbejobgickffaaGreatDoor
namespace Go.Proofs.YtpbejobgickffaaGreatDoor
open Go.RowKit
set_option maxRecDepth 100000 in
theorem amount_any (n k:Int) (w:World):Calls Tryz.prog 128 #[.int .i64 n,.int .i64 k] w fun e w'=>e=.returned (.bool (amt n k))∧w'=w:=by
 go_enter Tryz.func128,Tryz.ntmps128
 go_wp2_with fail
 all_goals go_ret
 all_goals refine ⟨congrArg Ending.returned (congrArg Value.bool ?_),rfl⟩
 all_goals unfold amt
 all_goals rw [Bool.eq_iff_iff]
 all_goals simp
 all_goals omega
set_option maxRecDepth 100000 in
set_option maxHeartbeats 1000000 in
theorem fiSet_index {α:Type} (f0 f1 f2 f3 f4:α→Value) (p:α→Bool) (l:List α) (n:Nat) (hnl:n=l.length) (A:Option Addr) (c:Nat) (p0:Addr) (Keep:World→Prop) (w:World) (B:Nat)
  (hr:Reads w B 5 A n (cellsK (fun x=>[f0 x,f1 x,f2 x,f3 x,f4 x]) l)) (hB:B≤w.heap.size) (hn:n≤5000000000000) (hp:PredK Tryz.prog 117 #[.pointer (some p0)] (fun x=>#[f0 x,f1 x,f2 x,f3 x,f4 x]) (·∈l) p Keep) (hk0:Keep w) :
  Calls Tryz.prog 116 #[.slice A n c,.func (.func 117) #[] #[.pointer (some p0)]] w fun e w'=>e=.returned (.int .i64 (firstI p l))∧Below w.heap.size w w':=by
 have HN:=Lib.hid hnl
 have HP:=Lib.hid hp
 clear hnl hp
 go_enter Tryz.func116,Tryz.ntmps116
 go_wp2_with fail
 go_loopw [8] (fun j wr=>∃ k:Nat,k≤n∧j=.int .i64 (k:Int)∧Hid (∀ y∈l.take k,p y=false)∧Below w.heap.size w wr∧Keep wr) (fun j _=>n-(intOf j).toNat)
 case atStart=>exact ⟨0,Nat.zero_le _,rfl,(show ∀ y∈_,_ by simp),Below.refl _ _,hk0⟩
 case round =>
  obtain ⟨k,hk,rfl,hno,hbw,hkw⟩:=hrel
  by_cases hlt:k<n
  ·have hki:(k:Int)<(n:Int):=by omega
   have hkl:k<l.length:=by have:=HN.out;omega
   obtain ⟨ad,rfl,_,c0,c1,c2,c3,c4⟩:=(hr.below (hbw.mono hB)).el5 HN.out hlt
   obtain ⟨x,hx⟩:∃ x,x=l[k]'hkl:=⟨_,rfl⟩
   rw [← hx] at c0 c1 c2 c3 c4
   have htk:=List.take_succ_eq_append_getElem hkl
   rw [← hx] at htk
   have HTK:=Lib.hid htk
   have HX:=Lib.hid (show l[k]?=some x by rw [hx];exact List.getElem?_eq_getElem _)
   have hc:=HP.out.call x wr (List.mem_of_getElem? HX.out) hkw
   obtain ⟨b,hb⟩:∃ b,b=p x:=⟨_,rfl⟩
   rw [← hb] at hc
   have HBX:=Lib.hid hb
   simp only [List.append_toArray,List.cons_append,List.nil_append] at hc
   clear hx htk hr hb
   go_wp2_with fail
   refine hc.mono ?_
   clear hc
   rintro e w1 ⟨rfl,hb1⟩
   have hkw1:=HP.out.below wr w1 hkw hb1
   have hbw1:=hbw.trans (hb1.mono hbw.size)
   cases b with
   | true =>
    go_wp2_with fail
    go_ret
    have hf:=firstP_eq p l k x hno.out HX.out HBX.out.symm
    exact ⟨by unfold firstI;rw [hf,if_pos hkl];rfl,hbw1⟩
   | false =>
    go_wp2_with fail
    go_roundw
    case rel =>
     refine ⟨k+1,by omega,by go_num,?_,hbw1,hkw1⟩
     show ∀ y∈l.take (k+1),p y=false
     intro y hy
     rw [HTK.out] at hy
     rcases List.mem_append.1 hy with hy | hy
     ·exact hno.out y hy
     ·simp at hy;subst hy;exact HBX.out.symm
    case measure=>simp [intOf];omega
  ·have hkn:k=n:=by omega
   have HF:Hid (firstI p l=-1):=by
    show _=_
    unfold firstI
    rw [firstP_none p l (fun y hy=>hno.out y (by rw [List.take_of_length_le (by rw [hkn,HN.out];exact Nat.le_refl _)];exact hy)),if_neg (Nat.lt_irrefl _)]
   clear hr hkn
   go_wp2_with fail
   go_ret
   exact ⟨by rw [HF.out];rfl,hbw⟩
set_option maxRecDepth 100000 in
set_option maxHeartbeats 1000000 in
theorem fiSnap_index {α:Type} (f0 f1 f2 f3 f4:α→Value) (p:α→Bool) (l:List α) (n:Nat) (hnl:n=l.length) (A:Option Addr) (c:Nat) (p0:Addr) (Keep:World→Prop) (w:World) (B:Nat)
  (hr:Reads w B 5 A n (cellsK (fun x=>[f0 x,f1 x,f2 x,f3 x,f4 x]) l)) (hB:B≤w.heap.size) (hn:n≤5000000000000) (hp:PredK Tryz.prog 145 #[.pointer (some p0)] (fun x=>#[f0 x,f1 x,f2 x,f3 x,f4 x]) (·∈l) p Keep) (hk0:Keep w) :
  Calls Tryz.prog 144 #[.slice A n c,.func (.func 145) #[] #[.pointer (some p0)]] w fun e w'=>e=.returned (.int .i64 (firstI p l))∧Below w.heap.size w w':=by
 have HN:=Lib.hid hnl
 have HP:=Lib.hid hp
 clear hnl hp
 go_enter Tryz.func144,Tryz.ntmps144
 go_wp2_with fail
 go_loopw [8] (fun j wr=>∃ k:Nat,k≤n∧j=.int .i64 (k:Int)∧Hid (∀ y∈l.take k,p y=false)∧Below w.heap.size w wr∧Keep wr) (fun j _=>n-(intOf j).toNat)
 case atStart=>exact ⟨0,Nat.zero_le _,rfl,(show ∀ y∈_,_ by simp),Below.refl _ _,hk0⟩
 case round =>
  obtain ⟨k,hk,rfl,hno,hbw,hkw⟩:=hrel
  by_cases hlt:k<n
  ·have hki:(k:Int)<(n:Int):=by omega
   have hkl:k<l.length:=by have:=HN.out;omega
   obtain ⟨ad,rfl,_,c0,c1,c2,c3,c4⟩:=(hr.below (hbw.mono hB)).el5 HN.out hlt
   obtain ⟨x,hx⟩:∃ x,x=l[k]'hkl:=⟨_,rfl⟩
   rw [← hx] at c0 c1 c2 c3 c4
   have htk:=List.take_succ_eq_append_getElem hkl
   rw [← hx] at htk
   have HTK:=Lib.hid htk
   have HX:=Lib.hid (show l[k]?=some x by rw [hx];exact List.getElem?_eq_getElem _)
   have hc:=HP.out.call x wr (List.mem_of_getElem? HX.out) hkw
   obtain ⟨b,hb⟩:∃ b,b=p x:=⟨_,rfl⟩
   rw [← hb] at hc
   have HBX:=Lib.hid hb
   simp only [List.append_toArray,List.cons_append,List.nil_append] at hc
   clear hx htk hr hb
   go_wp2_with fail
   refine hc.mono ?_
   clear hc
   rintro e w1 ⟨rfl,hb1⟩
   have hkw1:=HP.out.below wr w1 hkw hb1
   have hbw1:=hbw.trans (hb1.mono hbw.size)
   cases b with
   | true =>
    go_wp2_with fail
    go_ret
    have hf:=firstP_eq p l k x hno.out HX.out HBX.out.symm
    exact ⟨by unfold firstI;rw [hf,if_pos hkl];rfl,hbw1⟩
   | false =>
    go_wp2_with fail
    go_roundw
    case rel =>
     refine ⟨k+1,by omega,by go_num,?_,hbw1,hkw1⟩
     show ∀ y∈l.take (k+1),p y=false
     intro y hy
     rw [HTK.out] at hy
     rcases List.mem_append.1 hy with hy | hy
     ·exact hno.out y hy
     ·simp at hy;subst hy;exact HBX.out.symm
    case measure=>simp [intOf];omega
  ·have hkn:k=n:=by omega
   have HF:Hid (firstI p l=-1):=by
    show _=_
    unfold firstI
    rw [firstP_none p l (fun y hy=>hno.out y (by rw [List.take_of_length_le (by rw [hkn,HN.out];exact Nat.le_refl _)];exact hy)),if_neg (Nat.lt_irrefl _)]
   clear hr hkn
   go_wp2_with fail
   go_ret
   exact ⟨by rw [HF.out];rfl,hbw⟩
set_option maxRecDepth 100000 in
theorem findC_any (s:BS) (v1 v2 v3 v4:Value) (p:BS) (pb:Nat) (w:World) (hpb:pb<w.heap.size) (hk:w.cell? ⟨pb,0,none⟩=some (.string ⟨p.toArray⟩)) :
  Calls Tryz.prog 117 #[.agg #[.string ⟨s.toArray⟩,v1,v2,v3,v4],.pointer (some ⟨pb,0,none⟩)] w fun e w'=>e=.returned (.bool (s == p))∧Below w.heap.size w w':=by
 have hk1:=(World.cell?_alloc_lt w (.cells #[.string ⟨s.toArray⟩,v1,v2,v3,v4] 42) ⟨pb,0,none⟩ hpb).trans hk
 have hb:=(Below.refl w.heap.size w).alloc (Nat.le_refl _) (.cells #[.string ⟨s.toArray⟩,v1,v2,v3,v4] 42)
 go_enter Tryz.func117,Tryz.ntmps117
 go_wp2_with fail
 all_goals go_ret
 all_goals refine ⟨congrArg Ending.returned (congrArg Value.bool ?_),hb⟩
 all_goals simp_all
set_option maxRecDepth 100000 in
theorem snapC_any (s:BS) (v1 v2 v3 v4:Value) (p:BS) (pb:Nat) (w:World) (hpb:pb<w.heap.size) (hk:w.cell? ⟨pb,0,none⟩=some (.string ⟨p.toArray⟩)) :
  Calls Tryz.prog 145 #[.agg #[.string ⟨s.toArray⟩,v1,v2,v3,v4],.pointer (some ⟨pb,0,none⟩)] w fun e w'=>e=.returned (.bool (s == p))∧Below w.heap.size w w':=by
 have hk1:=(World.cell?_alloc_lt w (.cells #[.string ⟨s.toArray⟩,v1,v2,v3,v4] 64) ⟨pb,0,none⟩ hpb).trans hk
 have hb:=(Below.refl w.heap.size w).alloc (Nat.le_refl _) (.cells #[.string ⟨s.toArray⟩,v1,v2,v3,v4] 64)
 go_enter Tryz.func145,Tryz.ntmps145
 go_wp2_with fail
 all_goals go_ret
 all_goals refine ⟨congrArg Ending.returned (congrArg Value.bool ?_),hb⟩
 all_goals simp_all
set_option maxRecDepth 100000 in
set_option maxHeartbeats 1000000 in
theorem find_any (v0 v1 v2 v4 v5 v6:Value) (l:List SetR) (n:Nat) (hnl:n=l.length) (A:Option Addr) (c:Nat) (p:BS) (w:World) (B:Nat) (hr:Reads w B 5 A n (cellsK encSet l)) (hB:B≤w.heap.size) (hn:n≤5000000000000) :
  Calls Tryz.prog 60 #[.agg #[v0,v1,v2,.slice A n c,v4,v5,v6],.string ⟨p.toArray⟩] w fun e w'=>e=.returned (.int .i64 (findS l p))∧Below w.heap.size w w':=by
 have hb1:=(Below.refl w.heap.size w).alloc (Nat.le_refl _) (.cells #[v0,v1,v2,.slice A n c,v4,v5,v6] 27)
 have hb2:=hb1.alloc hb1.size (.cells #[.string ⟨p.toArray⟩] 9)
 obtain ⟨W2,hW2⟩:∃ W,W=(w.alloc (.cells #[v0,v1,v2,.slice A n c,v4,v5,v6] 27)).alloc (.cells #[.string ⟨p.toArray⟩] 9):=⟨_,rfl⟩
 have hsz:W2.heap.size=w.heap.size+2:=by rw [hW2];simp
 have hk:W2.cell? ⟨w.heap.size+1,0,none⟩=some (.string ⟨p.toArray⟩):=by
  rw [hW2]
  have:=(Blk.new (w.alloc (.cells #[v0,v1,v2,.slice A n c,v4,v5,v6] 27)) 9 #[.string ⟨p.toArray⟩]).cell 0
  rw [show (w.alloc (.cells #[v0,v1,v2,.slice A n c,v4,v5,v6] 27)).heap.size=w.heap.size+1 by simp] at this
  exact this
 rw [← hW2] at hb2
 have HC:=Lib.hid (fiSet_index (fun x=>.string ⟨x.path.toArray⟩) (fun x=>.string ⟨x.org.toArray⟩) (fun x=>.slice x.body.A x.body.n x.body.c) (fun x=>.slice x.snaps.A x.snaps.n x.snaps.c) (fun x=>.slice x.own.A x.own.n x.own.c) (fun x=>x.path == p) l n hnl A c ⟨w.heap.size+1,0,none⟩ (fun W=>W.cell? ⟨w.heap.size+1,0,none⟩=some (.string ⟨p.toArray⟩)∧w.heap.size+1<W.heap.size) W2 B (hr.below (hb2.mono hB)) (by omega) hn
  ⟨fun x W _ hK=>findC_any x.path _ _ _ _ p _ W hK.2 hK.1,fun W W' hK hb=>⟨(hb.cell (p:=⟨w.heap.size+1,0,none⟩) hK.2).trans hK.1,Nat.lt_of_lt_of_le hK.2 hb.size⟩⟩ ⟨hk,by omega⟩)
 have HB:=Lib.hid hb2
 have HSZ:=Lib.hid hsz
 clear hnl hr hk hsz hb1 hb2
 go_enter Tryz.func60,Tryz.ntmps60
 go_wp2_with fail
 rw [← hW2]
 refine HC.out.mono ?_
 rintro e w1 ⟨rfl,hb3⟩
 go_wp2_with fail
 go_ret
 exact ⟨rfl,HB.out.trans (hb3.mono (by have:=HSZ.out;omega))⟩
set_option maxRecDepth 100000 in
set_option maxHeartbeats 1000000 in
theorem snapAt_any (v0 v1 v2 v4:Value) (l:List SnapR) (n:Nat) (hnl:n=l.length) (A:Option Addr) (c:Nat) (p:BS) (w:World) (B:Nat) (hr:Reads w B 5 A n (cellsK encSnap l)) (hB:B≤w.heap.size) (hn:n≤5000000000000) :
  Calls Tryz.prog 85 #[.agg #[v0,v1,v2,.slice A n c,v4],.string ⟨p.toArray⟩] w fun e w'=>e=.returned (.int .i64 (findN l p))∧Below w.heap.size w w':=by
 have hb1:=(Below.refl w.heap.size w).alloc (Nat.le_refl _) (.cells #[v0,v1,v2,.slice A n c,v4] 42)
 have hb2:=hb1.alloc hb1.size (.cells #[.string ⟨p.toArray⟩] 9)
 obtain ⟨W2,hW2⟩:∃ W,W=(w.alloc (.cells #[v0,v1,v2,.slice A n c,v4] 42)).alloc (.cells #[.string ⟨p.toArray⟩] 9):=⟨_,rfl⟩
 have hsz:W2.heap.size=w.heap.size+2:=by rw [hW2];simp
 have hk:W2.cell? ⟨w.heap.size+1,0,none⟩=some (.string ⟨p.toArray⟩):=by
  rw [hW2]
  have:=(Blk.new (w.alloc (.cells #[v0,v1,v2,.slice A n c,v4] 42)) 9 #[.string ⟨p.toArray⟩]).cell 0
  rw [show (w.alloc (.cells #[v0,v1,v2,.slice A n c,v4] 42)).heap.size=w.heap.size+1 by simp] at this
  exact this
 rw [← hW2] at hb2
 have HC:=Lib.hid (fiSnap_index (fun x=>.string ⟨x.nm.toArray⟩) (fun x=>.int .i64 x.gd) (fun x=>.slice x.body.A x.body.n x.body.c) (fun x=>.slice x.tags.A x.tags.n x.tags.c) (fun x=>.slice x.own.A x.own.n x.own.c) (fun x=>x.nm == p) l n hnl A c ⟨w.heap.size+1,0,none⟩ (fun W=>W.cell? ⟨w.heap.size+1,0,none⟩=some (.string ⟨p.toArray⟩)∧w.heap.size+1<W.heap.size) W2 B (hr.below (hb2.mono hB)) (by omega) hn
  ⟨fun x W _ hK=>snapC_any x.nm _ _ _ _ p _ W hK.2 hK.1,fun W W' hK hb=>⟨(hb.cell (p:=⟨w.heap.size+1,0,none⟩) hK.2).trans hK.1,Nat.lt_of_lt_of_le hK.2 hb.size⟩⟩ ⟨hk,by omega⟩)
 have HB:=Lib.hid hb2
 have HSZ:=Lib.hid hsz
 clear hnl hr hk hsz hb1 hb2
 go_enter Tryz.func85,Tryz.ntmps85
 go_wp2_with fail
 rw [← hW2]
 refine HC.out.mono ?_
 rintro e w1 ⟨rfl,hb3⟩
 go_wp2_with fail
 go_ret
 exact ⟨rfl,HB.out.trans (hb3.mono (by have:=HSZ.out;omega))⟩
end Go.Proofs.YtpbejobgickffaaGreatDoor
namespace Go.Proofs.YtpbejobgickffaaGreatDoor
open Go.RowKit
theorem scells_enc (l:List BS):cellsK encS l=scells l:=by
 unfold cellsK encS scells
 induction l with
 | nil=>rfl
 | cons x l ih=>rw [List.flatMap_cons,ih];rfl
set_option maxRecDepth 100000 in
set_option maxHeartbeats 1000000 in
theorem indexS_any (l:List BS) (x:BS) (n:Nat) (hnl:n=l.length) (A:Option Addr) (c:Nat) (w:World) (B:Nat) (hr:Reads w B 1 A n (scells l)) (hn:n≤5000000000000) :
  Calls Tryz.prog 216 #[.slice A n c,.string ⟨x.toArray⟩] w fun e w'=>e=.returned (.int .i64 (firstI (fun y=>y == x) l))∧w'=w:=by
 have HN:=Lib.hid hnl
 clear hnl
 go_enter Tryz.func216,Tryz.ntmps216
 go_wp2_with fail
 go_loopw [8] (fun j wr=>∃ k:Nat,k≤n∧j=.int .i64 (k:Int)∧Hid (∀ y∈l.take k,(y == x)=false)∧wr=w) (fun j _=>n-(intOf j).toNat)
 case atStart=>exact ⟨0,Nat.zero_le _,rfl,(show ∀ y∈_,_ by simp),rfl⟩
 case round =>
  obtain ⟨k,hk,rfl,hno,hww⟩:=hrel
  have hww:=hww.symm
  subst hww
  by_cases hlt:k<n
  ·have hki:(k:Int)<(n:Int):=by omega
   have hkl:k<l.length:=by have:=HN.out;omega
   obtain ⟨ad,rfl,_,hcell⟩:=strs_at hr HN.out hlt
   obtain ⟨y,hy⟩:∃ y,y=l[k]'hkl:=⟨_,rfl⟩
   rw [← hy] at hcell
   have htk:=List.take_succ_eq_append_getElem hkl
   rw [← hy] at htk
   have HTK:=Lib.hid htk
   have HX:=Lib.hid (show l[k]?=some y by rw [hy];exact List.getElem?_eq_getElem _)
   simp only [strV] at hcell
   clear hy htk hr
   by_cases hxy:x=y
   ·subst hxy
    go_wp2_with fail
    go_ret
    have hf:=firstP_eq (fun y=>y == x) l k x hno.out HX.out (by simp)
    exact ⟨by unfold firstI;rw [hf,if_pos hkl];rfl,rfl⟩
   ·have hd:(x == y)=false:=by simpa using hxy
    have HD:Hid ((y == x)=false):=by show _=_;simpa using fun e=>hxy e.symm
    clear hxy
    go_wp2_with fail
    go_roundw
    case rel =>
     refine ⟨k+1,by omega,by go_num,?_,trivial⟩
     show ∀ z∈l.take (k+1),(z == x)=false
     intro z hz
     rw [HTK.out] at hz
     rcases List.mem_append.1 hz with hz | hz
     ·exact hno.out z hz
     ·simp at hz;subst hz;exact HD.out
    case measure=>simp [intOf];omega
  ·have hkn:k=n:=by omega
   have HF:Hid (firstI (fun y=>y == x) l=-1):=by
    show _=_
    unfold firstI
    rw [firstP_none _ l (fun y hy=>hno.out y (by rw [List.take_of_length_le (by rw [hkn,HN.out];exact Nat.le_refl _)];exact hy)),if_neg (Nat.lt_irrefl _)]
   clear hr hkn
   go_wp2_with fail
   go_ret
   exact ⟨by rw [HF.out];rfl,rfl⟩
theorem any_contains (l:List BS) (x:BS):l.any (fun y=>y == x)=l.contains x:=by
 rw [Bool.eq_iff_iff,List.any_eq_true,List.contains_iff_mem]
 exact ⟨fun ⟨y,hy,e⟩=>by rw [← (by simpa using e:y=x)];exact hy,fun h=>⟨x,h,by simp⟩⟩
set_option maxRecDepth 100000 in
theorem containsS_any (l:List BS) (x:BS) (n:Nat) (hnl:n=l.length) (A:Option Addr) (c:Nat) (w:World) (B:Nat) (hr:Reads w B 1 A n (scells l)) (hn:n≤5000000000000) :
  Calls Tryz.prog 205 #[.slice A n c,.string ⟨x.toArray⟩] w fun e w'=>e=.returned (.bool (l.contains x))∧w'=w:=by
 have hc:=Lib.hid (indexS_any l x n hnl A c w B hr hn)
 have HA:=Lib.hid ((firstI_any (fun y=>y == x) l).trans (any_contains l x))
 clear hnl hr
 go_enter Tryz.func205,Tryz.ntmps205
 go_wp2_with fail
 refine hc.out.mono ?_
 rintro e w1 ⟨rfl,rfl⟩
 go_wp2_with fail
 go_ret
 exact ⟨by rw [← HA.out];rfl,rfl⟩
set_option maxRecDepth 100000 in
theorem lessS_any (x y:BS) (w:World):Calls Tryz.prog 215 #[.string ⟨x.toArray⟩,.string ⟨y.toArray⟩] w fun e w'=>e=.returned (.bool (Op.bytesLess x y))∧∃ q,w'=w.drewN q:=by
 have hlss:=lssS 9 x y
 go_enter Tryz.func215,Tryz.ntmps215
 go_wp2_with fail
 refine (isNaNS_any x _).mono ?_
 rintro e w1 ⟨rfl,q1,rfl⟩
 go_wp2_with fail
 go_ret
 exact ⟨rfl,q1,rfl⟩
theorem sortF_iff (l:List BS) (p:Option BS):sortF p l=true↔(∀ q x,p=some q→l[0]?=some x→Op.bytesLess x q=false)∧∀ k x y,l[k]?=some x→l[k+1]?=some y→Op.bytesLess y x=false:=by
 induction l generalizing p with
 | nil=>simp [sortF]
 | cons z l ih =>
  rw [sortF_cons,Bool.and_eq_true,ih]
  constructor
  ·rintro ⟨h1,h2,h3⟩
   refine ⟨fun q x hq hx=>?_,fun k x y hx hy=>?_⟩
   ·subst hq
    simp only [zE,Option.some.injEq] at hx
    subst hx
    simpa using h1
   ·cases k with
    | zero =>
     simp only [zE,Option.some.injEq,Nat.zero_add,zD] at hx hy
     subst hx
     exact h2 _ y rfl hy
    | succ k=>exact h3 k x y (by simpa using hx) (by simpa using hy)
  ·rintro ⟨h1,h2⟩
   refine ⟨?_,fun q x hq hx=>?_,fun k x y hx hy=>h2 (k+1) x y (by simpa using hx) (by simpa using hy)⟩
   ·cases p with
    | none=>rfl
    | some q=>simpa using h1 q z rfl (by simp)
   ·cases hq
    exact h2 0 _ x (by simp) (by simpa using hx)
set_option maxRecDepth 100000 in
set_option maxHeartbeats 1000000 in
theorem isSorted_any (l:List BS) (n:Nat) (hnl:n=l.length) (A:Option Addr) (c:Nat) (w:World) (B:Nat) (hr:Reads w B 1 A n (scells l)) (hn:n≤5000000000000) :
  Calls Tryz.prog 204 #[.slice A n c] w fun e w'=>e=.returned (.bool (sortF none l))∧∃ q,w'=w.drewN q:=by
 have HN:=Lib.hid hnl
 have HS:=Lib.hid (sortF_iff l none)
 obtain ⟨V,hV⟩:∃ V,V=sortF none l:=⟨_,rfl⟩
 rw [← hV] at HS ⊢
 clear hnl hV
 have i3:IntKind.i64.wrap ((n:Int)-1)=(n:Int)-1:=IntWalk.i64_in _ (by omega)
 go_enter Tryz.func204,Tryz.ntmps204
 go_wp2_with fail
 clear i3
 go_loopw [3] (fun j wr=>∃ z:Int,-1≤z∧z≤(n:Int)-1∧j=.int .i64 z∧Hid (∀ (k:Nat) x y,z≤(k:Int)→l[k]?=some x→l[k+1]?=some y→Op.bytesLess y x=false)∧∃ q,wr=w.drewN q) (fun j _=>(intOf j).toNat)
 case atStart =>
  refine ⟨(n:Int)-1,by omega,by omega,rfl,?_,0,rfl⟩
  show ∀ (k:Nat) x y,_→_→_→_
  intro k x y hk hx hy
  have h1:=(List.getElem?_eq_some_iff.1 hy).1
  have:=HN.out
  omega
 case round =>
  obtain ⟨z,hz1,hz2,rfl,hok,q,rfl⟩:=hrel
  by_cases hz:0<z
  ·obtain ⟨k,rfl⟩:∃ k:Nat,z=((k+1:Nat):Int):=⟨(z-1).toNat,by omega⟩
   have hk1:k+1<n:=by omega
   obtain ⟨ad,rfl,_,c1⟩:=strs_at hr HN.out hk1
   obtain ⟨ad2,e2,_,c0⟩:=strs_at hr HN.out (show k<n by omega)
   injection e2 with e2
   subst e2
   have hkl:k+1<l.length:=by have:=HN.out;omega
   obtain ⟨x,hx⟩:∃ x,x=l[k]'(by omega):=⟨_,rfl⟩
   obtain ⟨y,hy⟩:∃ y,y=l[k+1]'hkl:=⟨_,rfl⟩
   rw [← hx] at c0
   rw [← hy] at c1
   have HX:=Lib.hid (show l[k]?=some x by rw [hx];exact List.getElem?_eq_getElem _)
   have HY:=Lib.hid (show l[k+1]?=some y by rw [hy];exact List.getElem?_eq_getElem _)
   simp only [strV] at c0 c1
   obtain ⟨K,hK⟩:∃ K,K=k+1:=⟨_,rfl⟩
   have hKk:k=K-1:=by omega
   rw [← hK] at c1 hk1 ⊢
   rw [hKk] at c0
   have i0:(0:Int)<(K:Int):=by omega
   have i1:(1:Int)≤(K:Int):=by omega
   have i5:(K:Int)<(n:Int):=by omega
   have i2:(K:Int)-1<(n:Int):=by omega
   have i3:IntKind.i64.wrap ((K:Int)-1)=(K:Int)-1:=IntWalk.i64_in _ (by omega)
   have i4:((K:Int)-1).toNat=K-1:=by omega
   have hL:∀ m,Calls Tryz.prog 215 #[.string ⟨y.toArray⟩,.string ⟨x.toArray⟩] (w.drewN (q+m)) fun e W'=>e=.returned (.bool (Op.bytesLess y x))∧∃ n,W'=w.drewN (q+n):=fun m=>by
    refine (lessS_any y x _).mono ?_
    rintro e w1 ⟨rfl,p,rfl⟩
    exact ⟨rfl,m+p,by rw [World.drewN_drewN,Nat.add_assoc]⟩
   obtain ⟨b,hb⟩:∃ b,b=Op.bytesLess y x:=⟨_,rfl⟩
   rw [← hb] at hL
   have HB:=Lib.hid hb
   have HK:=Lib.hid hK
   clear hx hy hb hr hK hKk
   cases b with
   | true =>
    have HV:Hid (V=false):=by
     show _=_
     rw [← Bool.not_eq_true]
     intro e
     have:=(HS.out.1 e).2 k x y HX.out HY.out
     rw [← HB.out] at this
     cases this
    go_wp2_with fail
    go_big_quiet ((go_at_call 215;exact hL _))
    clear hL
    go_wp2_with fail
    go_ret
    exact ⟨by rw [HV.out];rfl,_,World.drewN_drewN _ _ _⟩
   | false =>
    go_wp2_with fail
    go_big_quiet ((go_at_call 215;exact hL _))
    clear hL
    go_wp2_with fail
    go_roundw
    case rel =>
     refine ⟨(K:Int)-1,by omega,by omega,by go_num,?_,_,rfl⟩
     show ∀ (k:Nat) x y,_→_→_→_
     intro k' x' y' hk' hx' hy'
     by_cases e:k'=k
     ·subst e
      rw [HX.out] at hx'
      rw [HY.out] at hy'
      cases hx'
      cases hy'
      exact HB.out.symm
     ·exact hok.out k' x' y' (by have:=HK.out;omega) hx' hy'
    case measure=>simp [intOf];omega
  ·have HV:Hid (V=true):=by
    show _=_
    exact HS.out.2 ⟨fun q x h=>(by cases h),fun k x y hx hy=>hok.out k x y (by omega) hx hy⟩
   clear hr
   go_wp2_with fail
   go_ret
   exact ⟨by rw [HV.out];rfl,q,rfl⟩
set_option maxRecDepth 100000 in
set_option maxHeartbeats 1000000 in
theorem unlike_any (l:List BS) (n:Nat) (hnl:n=l.length) (A:Option Addr) (c:Nat) (hnc:n≤c) (w:World) (B:Nat) (hr:Reads w B 1 A n (scells l)) (hB:B≤w.heap.size) (hn:n≤5000000000000) :
  Calls Tryz.prog 192 #[.slice A n c] w fun e w'=>e=.returned (.bool (unlikeB l))∧Below w.heap.size w w':=by
 have HN:=Lib.hid hnl
 have HV:Hid (unlikeB l=unlikeF [] l):=rfl
 obtain ⟨V,hV⟩:∃ V,V=unlikeB l:=⟨_,rfl⟩
 rw [← hV] at HV ⊢
 clear hnl hV
 go_enter Tryz.func192,Tryz.ntmps192
 go_wp2_with fail
 go_loopw [7] (fun j wr=>∃ k:Nat,k≤n∧j=.int .i64 (k:Int)∧Hid (V=unlikeF (l.take k) (l.drop k))∧Below w.heap.size w wr) (fun j _=>n-(intOf j).toNat)
 case atStart=>exact ⟨0,Nat.zero_le _,rfl,HV,Below.refl _ _⟩
 case round =>
  obtain ⟨k,hk,rfl,hok,hbw⟩:=hrel
  by_cases hlt:k<n
  ·have hki:(k:Int)<(n:Int):=by omega
   have hkl:k<l.length:=by have:=HN.out;omega
   have hrw:=hr.below (hbw.mono hB)
   obtain ⟨ad,rfl,_,hcell⟩:=strs_at hrw HN.out hlt
   obtain ⟨x,hx⟩:∃ x,x=l[k]'hkl:=⟨_,rfl⟩
   rw [← hx] at hcell
   have htk:=List.take_succ_eq_append_getElem hkl
   have hdr:=List.drop_eq_getElem_cons hkl
   rw [← hx] at htk hdr
   have HU:Hid (V=(nameB x && !((l.take k).contains x) && unlikeF (l.take (k+1)) (l.drop (k+1)))):=by
    show _=_
    rw [hok.out,hdr,unlikeF_cons,htk]
   have hN:=name_any ⟨x.toArray⟩ wr
   rw [show (ByteArray.mk x.toArray).data.toList=x from rfl] at hN
   have hcn:∀ W,Below wr.heap.size wr W→Calls Tryz.prog 205 #[.slice (some ad) k c,.string ⟨x.toArray⟩] W fun e w'=>e=.returned (.bool ((l.take k).contains x))∧w'=W:=by
    intro W hW
    have hr2:=((hrw.below (hW.mono (by have:=hbw.size;omega))).pre (k:=k) (by omega))
    rw [Nat.mul_one,show (scells l).take k=scells (l.take k) by unfold scells;rw [List.map_take]] at hr2
    exact containsS_any (l.take k) x k (by rw [List.length_take];omega) (some ad) c W B hr2 (by omega)
   have hkc:(k:Int)≤(c:Int):=by omega
   simp only [strV] at hcell
   obtain ⟨bn,hbn⟩:∃ b,b=nameB x:=⟨_,rfl⟩
   obtain ⟨bc,hbc⟩:∃ b,b=(l.take k).contains x:=⟨_,rfl⟩
   rw [← hbn] at hN HU
   rw [← hbc] at hcn HU
   have HCN:=Lib.hid hcn
   clear hx htk hdr hbn hbc hr hrw hcn hok
   cases bn with
   | false =>
    have HV1:Hid (V=false):=by show _=_;rw [HU.out];rfl
    go_wp2_with fail
    refine hN.mono ?_
    rintro e w1 ⟨rfl,hb1⟩
    go_wp2_with fail
    go_ret
    exact ⟨by rw [HV1.out];rfl,hbw.trans (hb1.mono hbw.size)⟩
   | true =>
    go_wp2_with fail
    refine hN.mono ?_
    clear hN
    rintro e w1 ⟨rfl,hb1⟩
    have hbf:=hbw.trans (hb1.mono hbw.size)
    have hcl:=HCN.out _ hb1
    clear hb1 hbw HCN
    go_wp2_with fail
    refine hcl.mono ?_
    clear hcl
    rintro e w2 ⟨rfl,rfl⟩
    cases bc with
    | true =>
     have HV1:Hid (V=false):=by show _=_;rw [HU.out];rfl
     go_wp2_with fail
     go_ret
     exact ⟨by rw [HV1.out];rfl,hbf⟩
    | false =>
     have HG:Hid (V=unlikeF (l.take (k+1)) (l.drop (k+1))):=by show _=_;rw [HU.out];rfl
     go_wp2_with fail
     go_roundw
     case rel=>exact ⟨k+1,by omega,by go_num,HG,hbf⟩
     case measure=>simp [intOf];omega
  ·have hkn:k=n:=by omega
   have HF:Hid (V=true):=by
    show _=_
    rw [hok.out,List.drop_of_length_le (by rw [hkn,HN.out];exact Nat.le_refl _)]
    rfl
   clear hr hkn hok
   go_wp2_with fail
   go_ret
   exact ⟨by rw [HF.out];rfl,hbw⟩
set_option maxRecDepth 100000 in
set_option maxHeartbeats 1000000 in
theorem tagged_any (l:List BS) (n:Nat) (hnl:n=l.length) (A:Option Addr) (c:Nat) (hnc:n≤c) (w:World) (B:Nat) (hr:Reads w B 1 A n (scells l)) (hB:B≤w.heap.size) (hn:n≤5000000000000) :
  Calls Tryz.prog 191 #[.slice A n c] w fun e w'=>e=.returned (.bool (tagsB l))∧Below w.heap.size w w':=by
 have hU:=unlike_any l n hnl A c hnc w B hr hB hn
 have hS:=Lib.hid (fun W (hW:Below w.heap.size w W)=>isSorted_any l n hnl A c W B (hr.below (hW.mono hB)) hn)
 have HV:Hid (tagsB l=(decide (n≤4) && (unlikeB l && sortF none l))):=by show _=_;rw [tagged_eq,hnl];rfl
 obtain ⟨V,hV⟩:∃ V,V=tagsB l:=⟨_,rfl⟩
 obtain ⟨bu,hbu⟩:∃ V,V=unlikeB l:=⟨_,rfl⟩
 obtain ⟨bs,hbs⟩:∃ V,V=sortF none l:=⟨_,rfl⟩
 rw [← hV] at HV ⊢
 rw [← hbu] at HV hU
 rw [← hbs] at HV hS
 clear hnl hV hbu hbs hr
 by_cases h4:n≤4
 ·have hi:(n:Int)≤4:=by omega
  have HV2:Hid (V=(bu && bs)):=by show _=_;rw [HV.out,decide_eq_true h4];rfl
  cases bu with
  | false =>
   have HV3:Hid (V=false):=by show _=_;rw [HV2.out];rfl
   go_enter Tryz.func191,Tryz.ntmps191
   go_wp2_with fail
   refine hU.mono ?_
   rintro e w1 ⟨rfl,hb1⟩
   go_wp2_with fail
   go_ret
   exact ⟨by rw [HV3.out];rfl,hb1⟩
  | true =>
   have HV3:Hid (V=bs):=by show _=_;rw [HV2.out];rfl
   go_enter Tryz.func191,Tryz.ntmps191
   go_wp2_with fail
   refine hU.mono ?_
   rintro e w1 ⟨rfl,hb1⟩
   go_wp2_with fail
   refine (hS.out _ hb1).mono ?_
   rintro e w2 ⟨rfl,q,rfl⟩
   go_wp2_with fail
   go_ret
   exact ⟨by rw [HV3.out];rfl,below_drewN hb1 q⟩
 ·have hi:¬ (n:Int)≤4:=by omega
  have HV2:Hid (V=false):=by show _=_;rw [HV.out,decide_eq_false h4];rfl
  go_enter Tryz.func191,Tryz.ntmps191
  go_wp2_with fail
  go_ret
  exact ⟨by rw [HV2.out];rfl,Below.refl _ _⟩
end Go.Proofs.YtpbejobgickffaaGreatDoor
