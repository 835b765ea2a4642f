/-
  The page's Grants, by its contract (for tenants). holds.found: a snapshot's places. Tags by content: what holds.found tells; a tag more, and one less.
-/
import Derived.Test.YtiojfffgiejibaaGreatDoorTtM1
import Derived.WalkKit
import Derived.WalkSpells
import Derived.Below
import Derived.Laws.OwnMore
import Derived.Deep.AppendLies
import Derived.Deep.Draws
import Derived.Laws.Rows
import Derived.Maps.AppendAt
import Derived.RegionTactic
import Derived.OwnWalk
import Derived.Deep.QuietTactic
import Derived.BigQuiet
import Derived.Lib.Hide
import Derived.Laws.CopyOwn
import Derived.IntWalk
import Derived.Deep.Quiet
import Derived.Handy
import Derived.Test.YtiojfffgiejibaaGreatDoorRows
import Derived.Orders
import Derived.Lib.SplitLaws
import Derived.Lib.LastIndexByte
import Derived.Lib.Strings
import Derived.ShutString
import Derived.Sort.Walk0
import Derived.Sort.KeysCollected
import Derived.Shelf.Strings.Search1
import Derived.Shelf.Strings.Search2
import Derived.Shelf.Strings.Search3
import Derived.Shelf.Strings.Cut
import Derived.Shelf.Strings.Count
import Derived.Shelf.LaysM
import Derived.Shelf.Strings.Shaped
import Derived.Shelf.Strings.LastIndex
import Derived.Shelf.Strings.Split
import Derived.Shelf.Strings.SplitShaped
import Derived.Shelf.Unicode.Decode
import Derived.Shelf.Strings.RuneCount
import Derived.Shelf.Strings.Explode
import Derived.Shelf.Unicode.DecodeSlow
import Derived.Shelf.Slices.Turned
import Derived.Test.YtiojfffgiejibaaGreatDoorProg
import Derived.Laws.BytesString
import Derived.Laws.IdiomStrings
import Derived.Lib.ConvBytes
import Derived.ProofKit
import Derived.OpenShut
import Derived.ChangeOld
import Derived.Carry
import Derived.SizedLaws
import Derived.JoinedCond
import Derived.Deep.CondSized
import Derived.Deep.Slices
import Derived.Deep.Fields
import Derived.Lib.SmallJoins
import Derived.Deep.MidRow
import Derived.Deep.DeepCutAuto
import Derived.Great.BuildSlice
import Derived.Deep.RegionLaw
import Derived.Lib.AppendZeros
import Derived.Lib.Overlaps
import Derived.Lib.AppendZerosOnto
import Derived.Test.YtiojfffgiejibaaGreatDoorT0
import Derived.Test.YtiojfffgiejibaaGreatDoorTt1
import Derived.Test.YtiojfffgiejibaaGreatDoorTt3
import Derived.Test.YtiojfffgiejibaaGreatDoorTt5
import Derived.Test.YtiojfffgiejibaaGreatDoorTt7
import Derived.Test.YtiojfffgiejibaaGreatDoorTt9
import Derived.Test.YtiojfffgiejibaaGreatDoorTt10
import Derived.Test.YtiojfffgiejibaaGreatDoorTt12
import Derived.Test.YtiojfffgiejibaaGreatDoorTt13
import Derived.Test.YtiojfffgiejibaaGreatDoorTt15
import Derived.Test.YtiojfffgiejibaaGreatDoorTt16
import Derived.Test.YtiojfffgiejibaaGreatDoorTt19
import Derived.Test.YtiojfffgiejibaaGreatDoorTt20
import Derived.Test.YtiojfffgiejibaaGreatDoorTt21
import Derived.Test.YtiojfffgiejibaaGreatDoorTt23
import Derived.Test.YtiojfffgiejibaaGreatDoorTt24
import Derived.Test.YtiojfffgiejibaaGreatDoorTt25
import Derived.Test.YtiojfffgiejibaaGreatDoorTt26
namespace Go.Proofs.YtiojfffgiejibaaGreatDoor
open Go.RowKit
set_option maxRecDepth 100000 in
set_option maxHeartbeats 4000000 in
theorem refGrants_any (l:GL) (n:Nat) (hnl:n=l.length) (A:Option Addr) (c:Nat) (w:World) (B:Nat) (hr:Reads w B 3 A n (gcells l)) (hB:B≤w.heap.size) (hn:n≤5000000000000) (hv:lenG l) :
  Calls Tryz.prog 114 #[.slice A n c] w fun e w'=>e=.returned (.int .i64 (grantsE l))∧Below w.heap.size w w':=by
 have HN:=Lib.hid hnl
 obtain ⟨E,hE⟩:∃ E,E=grantsE l:=⟨_,rfl⟩
 have hPE:Hid (∀ b,grantsFrom none l=b→E=if b=true∧n≤16 then 0 else 9):=by
  show ∀ b,_→_
  rintro b rfl
  rw [hE]
  unfold grantsE grantsB
  rw [← hnl]
  by_cases h8:n≤16
  ·simp [h8]
  ·simp [h8]
 rw [← hE]
 clear hnl hE
 go_enter Tryz.func114,Tryz.ntmps114
 go_wp2_with fail
 go_loopw [3] (fun j wr=>∃ k:Nat,k≤n∧j=.int .i64 (k:Int)∧Hid (grantsFrom none l=grantsFrom (prevG l k) (l.drop k))∧Below w.heap.size w wr) (fun j _=>n-(intOf j).toNat)
 case atStart=>exact ⟨0,Nat.zero_le _,rfl,rfl,Below.refl _ _⟩
 case round =>
  obtain ⟨k,hk,rfl,hok,hbw⟩:=hrel
  by_cases hlt:k<n
  ·have hrw:=hr.below (hbw.mono hB)
   obtain ⟨ad,rfl,hadB,c0,c1,c2⟩:=hrw.el3 HN.out hlt
   have hki:(k:Int)<(n:Int):=tZ1
   have hkl:k<l.length:=tZ9
   obtain ⟨x,hx⟩:∃ x,x=l[k]'hkl:=⟨_,rfl⟩
   have hxl:=hv x tZ14
   rw [← hx] at c0 c1 c2
   have hdr:=List.drop_eq_getElem_cons hkl
   rw [← hx] at hdr
   have HX:=Lib.hid hx
   have HDR:=Lib.hid hdr
   obtain ⟨xu,xp,xz⟩:=x
   simp only at c0 c1 c2 hxl
   have hb1:=hbw.alloc hbw.size (.cells #[.string ⟨xu.toArray⟩,.string ⟨xp.toArray⟩,.int .i64 xz] 104)
   have hbad:Hid ((nameB xu=false∨pathB xp=false∨xz<1∨255<xz∨(∃ y,prevG l k=some y∧¬ cmpG y.1 y.2.1 xu xp<0))→E=9):=by
    exact mZ108
   have hgood:Hid (nameB xu=true→pathB xp=true→1≤xz→xz≤255→(∀ y,prevG l k=some y→cmpG y.1 y.2.1 xu xp<0)→grantsFrom none l=grantsFrom (prevG l (k+1)) (l.drop (k+1))):=by
    exact mZ107
   have hN:∀ W,Calls Tryz.prog 79 #[.string ⟨xu.toArray⟩] W fun e W'=>e=.returned (.bool (nameB xu))∧W'=W:=fun W=>refName_s ⟨xu.toArray⟩ W (by show xu.length≤_;omega)
   have hV:∀ W,Calls Tryz.prog 75 #[.string ⟨xp.toArray⟩] W fun e W'=>e=.returned (.bool (pathB xp))∧Below W.heap.size W W':=fun W=>refPath_any ⟨xp.toArray⟩ W tZ150
   have hwlt:wr.heap.size<(wr.alloc (.cells #[.string ⟨xu.toArray⟩,.string ⟨xp.toArray⟩,.int .i64 xz] 104)).heap.size:=tZ4
   have k0:=(Blk.new wr 104 #[.string ⟨xu.toArray⟩,.string ⟨xp.toArray⟩,.int .i64 xz]).cell 0
   have k1:=(Blk.new wr 104 #[.string ⟨xu.toArray⟩,.string ⟨xp.toArray⟩,.int .i64 xz]).cell 1
   have k2:=(Blk.new wr 104 #[.string ⟨xu.toArray⟩,.string ⟨xp.toArray⟩,.int .i64 xz]).cell 2
   have hbsz:=hbw.size
   have hS:=Lib.hid (fun (W':World) (hB':Below (wr.alloc (.cells #[.string ⟨xu.toArray⟩,.string ⟨xp.toArray⟩,.int .i64 xz] 104)).heap.size (wr.alloc (.cells #[.string ⟨xu.toArray⟩,.string ⟨xp.toArray⟩,.int .i64 xz] 104)) W') =>
    (⟨(hB'.cell (p:=⟨wr.heap.size,0,none⟩) hwlt).trans k0,(hB'.cell (p:=⟨wr.heap.size,1,none⟩) hwlt).trans k1,(hB'.cell (p:=⟨wr.heap.size,2,none⟩) hwlt).trans k2,hr.below ((hbw.alloc hbw.size (.cells #[.string ⟨xu.toArray⟩,.string ⟨xp.toArray⟩,.int .i64 xz] 104)).trans (hB'.mono (Nat.le_trans hbsz (Nat.le_of_lt hwlt))) |>.mono hB)⟩ :
     W'.cell? ⟨wr.heap.size,0,none⟩=some (.string ⟨xu.toArray⟩)∧W'.cell? ⟨wr.heap.size,1,none⟩=some (.string ⟨xp.toArray⟩)∧W'.cell? ⟨wr.heap.size,2,none⟩=some (.int .i64 xz)∧Reads W' B 3 (some ad) n (gcells l)))
   clear hx hdr hok hxl hv k0 k1 k2
   obtain ⟨bn,hbn0⟩:∃ b,b=nameB xu:=⟨_,rfl⟩
   obtain ⟨bp,hbp0⟩:∃ b,b=pathB xp:=⟨_,rfl⟩
   rw [← hbn0] at hbad hgood hN
   rw [← hbp0] at hbad hgood hV
   clear hbn0 hbp0
   cases bn with
   | false =>
    have HB:=Lib.hid (hbad.out (.inl rfl))
    clear hr hrw hbad hgood hV hS
    go_wp2_with fail
    refine (hN _).mono ?_
    rintro e w4 ⟨rfl,rfl⟩
    go_wp2_with fail
    go_ret
    exact ⟨by rw [HB.out];rfl,hb1⟩
   | true =>
    cases bp with
    | false =>
     have HB:=Lib.hid (hbad.out (.inr (.inl rfl)))
     exact mZ179
    | true =>
     by_cases z1:xz<1
     ·have HB:=Lib.hid (hbad.out (.inr (.inr (.inl z1))))
      exact mZ179
     by_cases z2:255<xz
     ·have HB:=Lib.hid (hbad.out (.inr (.inr (.inr (.inl z2)))))
      exact mZ179
     rcases Nat.eq_zero_or_pos k with h0 | h0
     ·have HG:=Lib.hid (hgood.out rfl rfl tZ1 tZ1 (fun y hy=>by subst h0;cases hy))
      have d4:decide ((0:Int)<(k:Int))=false:=tZ7
      have d4':decide (0<k)=false:=tZ7
      clear h0 hr hrw hbad hgood
      go_wp2_with fail
      refine (hN _).mono ?_
      rintro e w4 ⟨rfl,rfl⟩
      go_wp2_with fail
      refine (hV _).mono ?_
      rintro e w5 ⟨rfl,hb5⟩
      have hbf:=hb1.trans (hb5.mono hb1.size)
      obtain ⟨q0,q1,q2,hprev⟩:=hS.out _ hb5
      clear hS hb5 hb1
      clear hprev
      go_wp2_with fail
      go_big_quiet (fail)
      exact mZ180
     ·have d4:decide ((0:Int)<(k:Int))=true:=tZ7
      have d4':decide (0<k)=true:=tZ7
      have hk1l:k-1<l.length:=tZ1
      obtain ⟨y,hy⟩:∃ y,y=l[k-1]'hk1l:=⟨_,rfl⟩
      have hpv:prevG l k=some y:=by
       exact mZ106
      have i1:(1:Int)≤(k:Int):=tZ1
      have i2:(k:Int)-1<(n:Int):=tZ1
      have i3:IntKind.i64.wrap ((k:Int)-1)=(k:Int)-1:=IntWalk.i64_in _ tZ1
      have i4:((k:Int)-1).toNat=k-1:=tZ1
      have HP:Hid (∀ W',Reads W' B 3 (some ad) n (gcells l)→W'.cell? (ad.add ((k-1)*3))=some (.string ⟨y.1.toArray⟩)∧W'.cell? ⟨(ad.add ((k-1)*3)).block,(ad.add ((k-1)*3)).off+1,none⟩=some (.string ⟨y.2.1.toArray⟩)):=by
       show ∀ W',_→_
       intro W' hr'
       obtain ⟨ad2,e2,-,p0,p1,-⟩:=(hr'.el3 HN.out (i:=k-1) tZ1)
       injection e2 with e2
       subst e2
       rw [← hy] at p0 p1
       exact ⟨p0,p1⟩
      obtain ⟨yu,yp,yz⟩:=y
      simp only at HP
      have hgt:=gtrS 9 yu xu
      have hge:=geqS 9 yp xp
      have hbadO:=fun (h:¬ cmpG yu yp xu xp<0)=>hbad.out (.inr (.inr (.inr (.inr ⟨_,hpv,h⟩))))
      have hgoodO:=fun (h:cmpG yu yp xu xp<0)=>hgood.out rfl rfl tZ1 tZ1 (fun y' hy'=>by rw [hpv] at hy';cases hy';exact h)
      clear hbad hgood h0 hpv hy hr hrw
      by_cases hyx:yu=xu
      ·subst hyx
       rw [show (Op.bytesLess yu yu || yu == yu)=true by simp] at hgt
       by_cases hpp:Op.bytesLess yp xp=true
       ·have HG:=Lib.hid (hgoodO ((cmpG_neg _ _ _ _).2 (.inr ⟨rfl,hpp⟩)))
        rw [hpp] at hge
        clear hbadO hgoodO hpp
        go_wp2_with fail
        refine (hN _).mono ?_
        rintro e w4 ⟨rfl,rfl⟩
        go_wp2_with fail
        refine (hV _).mono ?_
        rintro e w5 ⟨rfl,hb5⟩
        have hbf:=hb1.trans (hb5.mono hb1.size)
        obtain ⟨q0,q1,q2,hprev⟩:=hS.out _ hb5
        clear hS hb5 hb1
        obtain ⟨p0,p1⟩:=HP.out _ hprev
        clear hprev
        go_wp2_with fail
        go_big_quiet (fail)
        clear hgt hge
        exact mZ180
       ·have HB:=Lib.hid (hbadO (fun h=>by
         rcases (cmpG_neg _ _ _ _).1 h with h | h
         ·rw [bl_irrefl] at h;cases h
         ·exact hpp h.2))
        rw [show Op.bytesLess yp xp=false by simpa using hpp] at hge
        clear hbadO hgoodO hpp
        go_wp2_with fail
        refine (hN _).mono ?_
        rintro e w4 ⟨rfl,rfl⟩
        go_wp2_with fail
        refine (hV _).mono ?_
        rintro e w5 ⟨rfl,hb5⟩
        have hbf:=hb1.trans (hb5.mono hb1.size)
        obtain ⟨q0,q1,q2,hprev⟩:=hS.out _ hb5
        clear hS hb5 hb1
        obtain ⟨p0,p1⟩:=HP.out _ hprev
        clear hprev
        go_wp2_with fail
        go_big_quiet (fail)
        clear hgt hge
        go_wp2_with fail
        go_ret
        exact ⟨by rw [HB.out];rfl,below_drewN hbf _⟩
      ·have hne:(yu == xu)=false:=by simpa using hyx
       by_cases hbl:Op.bytesLess yu xu=true
       ·have HG:=Lib.hid (hgoodO ((cmpG_neg _ _ _ _).2 (.inl hbl)))
        rw [show (Op.bytesLess yu xu || yu == xu)=true by rw [hbl];rfl] at hgt
        clear hbadO hgoodO hbl hge
        go_wp2_with fail
        refine (hN _).mono ?_
        rintro e w4 ⟨rfl,rfl⟩
        go_wp2_with fail
        refine (hV _).mono ?_
        rintro e w5 ⟨rfl,hb5⟩
        have hbf:=hb1.trans (hb5.mono hb1.size)
        obtain ⟨q0,q1,q2,hprev⟩:=hS.out _ hb5
        clear hS hb5 hb1
        obtain ⟨p0,p1⟩:=HP.out _ hprev
        clear hprev
        go_wp2_with fail
        go_big_quiet (fail)
        clear hgt
        exact mZ180
       ·have HB:=Lib.hid (hbadO (fun h=>by
         rcases (cmpG_neg _ _ _ _).1 h with h | h
         ·exact hbl h
         ·exact hyx h.1))
        rw [show (Op.bytesLess yu xu || yu == xu)=false by rw [hne,show Op.bytesLess yu xu=false by simpa using hbl];rfl] at hgt
        clear hbadO hgoodO hbl hge
        go_wp2_with fail
        refine (hN _).mono ?_
        rintro e w4 ⟨rfl,rfl⟩
        go_wp2_with fail
        refine (hV _).mono ?_
        rintro e w5 ⟨rfl,hb5⟩
        have hbf:=hb1.trans (hb5.mono hb1.size)
        obtain ⟨q0,q1,q2,hprev⟩:=hS.out _ hb5
        clear hS hb5 hb1
        obtain ⟨p0,p1⟩:=HP.out _ hprev
        clear hprev
        go_wp2_with fail
        go_big_quiet (fail)
        clear hgt
        go_wp2_with fail
        go_ret
        exact ⟨by rw [HB.out];rfl,below_drewN hbf _⟩
  ·have hkn:k=n:=tZ1
   have hF:Hid (E=if n≤16 then 0 else 9):=by
    exact mZ92
   clear hok hr hkn hPE
   by_cases h8:n≤16
   ·have hi8:¬ (16:Int)<(n:Int):=tZ1
    have HV:Hid (E=0):=tZ155
    clear hF
    go_wp2_with fail
    go_ret
    exact ⟨by rw [HV.out];rfl,hbw⟩
   ·have hi8:(16:Int)<(n:Int):=tZ1
    have HV:Hid (E=9):=tZ156
    clear hF
    go_wp2_with fail
    go_ret
    exact ⟨by rw [HV.out];rfl,hbw⟩
end Go.Proofs.YtiojfffgiejibaaGreatDoor
namespace Go.Proofs.YtiojfffgiejibaaGreatDoor
open Go.RowKit
/-- what holds.found tells: places and an error -/
def holdI (t:TenR) (p n g:BS):Int×Int×Int :=
 if tenE t=9 then (0,0,9) else if pathB p=false∨nameB n=false∨nameB g=false then (0,0,31) else
  match t.sets.l.find? (fun s=>s.path == p) with
  | none=>(0,0,71)
  | some s=>if findN s.snaps.l n<0 then (0,0,71) else (findS t.sets.l p,findN s.snaps.l n,0)
set_option maxRecDepth 100000 in
set_option maxHeartbeats 4000000 in
theorem hfound_any (t:TenR) (p n g:BS) (w:World) (B:Nat) (hB:B≤w.heap.size) (hr:t.rd w B) (hz:t.sz) (hp:p.length≤4000000000) (hmx:HasMax w) :
  Calls Tryz.prog 80 #[t.val,.string ⟨p.toArray⟩,.string ⟨n.toArray⟩,.string ⟨g.toArray⟩] w fun e w'=>e=.returned (askV (holdI t p n g))∧Below w.heap.size w w':=by
 have h2:=tenE_09 t
 obtain ⟨nm,qu,nx,⟨s1,sn,s3,sl⟩,⟨g1,gn,g3,gl⟩,⟨t1,tn,t3,tl⟩,⟨l1,ln,l3,ll⟩⟩:=t
 show Calls Tryz.prog 80 #[.agg #[.string ⟨nm.toArray⟩,.int .i64 qu,.int .i64 nx,.slice s1 sn s3,.slice g1 gn g3,.slice t1 tn t3,.slice l1 ln l3],.string ⟨p.toArray⟩,.string ⟨n.toArray⟩,.string ⟨g.toArray⟩] w _
 have hb1:=(Below.refl w.heap.size w).alloc (Nat.le_refl _) (.cells #[.string ⟨nm.toArray⟩,.int .i64 qu,.int .i64 nx,.slice s1 sn s3,.slice g1 gn g3,.slice t1 tn t3,.slice l1 ln l3] 27)
 have kT:=Blk.new w 27 #[.string ⟨nm.toArray⟩,.int .i64 qu,.int .i64 nx,.slice s1 sn s3,.slice g1 gn g3,.slice t1 tn t3,.slice l1 ln l3]
 obtain ⟨W1,hW1⟩:∃ W,W=w.alloc (.cells #[.string ⟨nm.toArray⟩,.int .i64 qu,.int .i64 nx,.slice s1 sn s3,.slice g1 gn g3,.slice t1 tn t3,.slice l1 ln l3] 27):=⟨_,rfl⟩
 have hsz1:W1.heap.size=w.heap.size+1:=tZ35
 rw [← hW1] at hb1 kT
 have hT:=Lib.hid (fun (W':World) (hB':Below W1.heap.size W1 W')=>(⟨(kT.below hB' tZ1).cell 0,(kT.below hB' tZ1).cell 1,(kT.below hB' tZ1).cell 2,(kT.below hB' tZ1).cell 3,(kT.below hB' tZ1).cell 4,(kT.below hB' tZ1).cell 5,(kT.below hB' tZ1).cell 6⟩:W'.cell? ⟨w.heap.size,0,none⟩=some (.string ⟨nm.toArray⟩)∧W'.cell? ⟨w.heap.size,1,none⟩=some (.int .i64 qu)∧W'.cell? ⟨w.heap.size,2,none⟩=some (.int .i64 nx)∧W'.cell? ⟨w.heap.size,3,none⟩=some (.slice s1 sn s3)∧W'.cell? ⟨w.heap.size,4,none⟩=some (.slice g1 gn g3)∧W'.cell? ⟨w.heap.size,5,none⟩=some (.slice t1 tn t3)∧W'.cell? ⟨w.heap.size,6,none⟩=some (.slice l1 ln l3)))
 have hrw:Hid (∀ W,Below W1.heap.size W1 W→TenR.rd W B ⟨nm,qu,nx,⟨s1,sn,s3,sl⟩,⟨g1,gn,g3,gl⟩,⟨t1,tn,t3,tl⟩,⟨l1,ln,l3,ll⟩⟩∧w.heap.size<W.heap.size∧HasMax W∧Below w.heap.size w W):=by
  exact mZ152
 have HZ:=Lib.hid hz
 have HSN:=Lib.hid (show sn=sl.length from hr.sets.1)
 have hTC:Hid (∀ W,Below W1.heap.size W1 W→Calls Tryz.prog 58 #[.agg #[.string ⟨nm.toArray⟩,.int .i64 qu,.int .i64 nx,.slice s1 sn s3,.slice g1 gn g3,.slice t1 tn t3,.slice l1 ln l3]] W fun e w'=>e=.returned (.int .i64 (tenE ⟨nm,qu,nx,⟨s1,sn,s3,sl⟩,⟨g1,gn,g3,gl⟩,⟨t1,tn,t3,tl⟩,⟨l1,ln,l3,ll⟩⟩))∧Below W.heap.size W w'):=fun W hb =>
  tcheck_any ⟨nm,qu,nx,⟨s1,sn,s3,sl⟩,⟨g1,gn,g3,gl⟩,⟨t1,tn,t3,tl⟩,⟨l1,ln,l3,ll⟩⟩ W B (hrw.out W hb).1 tZ48 hz (hrw.out W hb).2.2.1
 have hPA:Hid (∀ W,Below W1.heap.size W1 W→Calls Tryz.prog 72 #[.string ⟨p.toArray⟩] W fun e w'=>e=.returned (.bool (pathB p))∧Below W.heap.size W w'):=fun W hb=>path_any ⟨p.toArray⟩ W tZ98 (hrw.out W hb).2.2.1
 have hNA:Hid (∀ W,Calls Tryz.prog 77 #[.string ⟨n.toArray⟩] W fun e w'=>e=.returned (.bool (nameB n))∧Below W.heap.size W w'):=fun W=>name_any ⟨n.toArray⟩ W
 have hCN:Hid (∀ W,Calls Tryz.prog 77 #[.string ⟨g.toArray⟩] W fun e w'=>e=.returned (.bool (nameB g))∧Below W.heap.size W w'):=fun W=>name_any ⟨g.toArray⟩ W
 have hFD:Hid (∀ W,Below W1.heap.size W1 W→Calls Tryz.prog 42 #[.agg #[.string ⟨nm.toArray⟩,.int .i64 qu,.int .i64 nx,.slice s1 sn s3,.slice g1 gn g3,.slice t1 tn t3,.slice l1 ln l3],.string ⟨p.toArray⟩] W fun e w'=>e=.returned (.int .i64 (findS sl p))∧Below W.heap.size W w'):=fun W hb =>
  find_any _ _ _ _ _ _ sl sn HSN.out s1 s3 p W B (hrw.out W hb).1.sets.2.2 tZ48 tZ29
 obtain ⟨E,hE⟩:∃ E,E=tenE ⟨nm,qu,nx,⟨s1,sn,s3,sl⟩,⟨g1,gn,g3,gl⟩,⟨t1,tn,t3,tl⟩,⟨l1,ln,l3,ll⟩⟩:=⟨_,rfl⟩
 rw [← hE] at h2 hTC
 have HE:=Lib.hid hE
 obtain ⟨bad,hbad⟩:∃ b,b=nameB g:=⟨_,rfl⟩
 rw [← hbad] at hCN
 have HBG:=Lib.hid hbad
 obtain ⟨bp,hbp⟩:∃ b,b=pathB p:=⟨_,rfl⟩
 rw [← hbp] at hPA
 obtain ⟨bn,hbn⟩:∃ b,b=nameB n:=⟨_,rfl⟩
 rw [← hbn] at hNA
 have HBP:=Lib.hid hbp
 have HBN:=Lib.hid hbn
 have HB1:=Lib.hid hb1
 have HSZ1:=Lib.hid hsz1
 have hc:=hTC.out W1 (Below.refl _ _)
 obtain ⟨c0,c1,c2,c3,c4,c5,c6⟩:=hT.out _ (Below.refl _ _)
 clear hb1 kT hr hz hsz1 hmx hTC hE hbad hbp hbn
 go_enter Tryz.func80,Tryz.ntmps80
 go_wp2_with fail
 rw [← hW1]
 clear hW1
 refine hc.mono ?_
 clear hc c0 c1 c2 c3 c4 c5 c6
 rintro e w2 ⟨rfl,hb2⟩
 have HW2:=Lib.hid hb2
 clear hb2
 rcases h2 with rfl | rfl
 ·have hc:=hPA.out w2 HW2.out
  clear hPA
  go_wp2_with fail
  refine hc.mono ?_
  clear hc
  rintro e w3 ⟨rfl,hb3⟩
  have HW3:=Lib.hid (HW2.out.trans (hb3.mono HW2.out.size))
  clear hb3 HW2
  cases bp with
  | false =>
   go_wp2_with fail
   refine bodyPost_ret (v:=.tuple #[.int .i64 0,.int .i64 0,.int .i64 31]) tZ32 rfl ⟨?_,HB1.out.trans (HW3.out.mono tZ10)⟩
   unfold holdI
   rw [if_neg tZ37,if_pos (.inl HBP.out.symm)]
   rfl
  | true =>
   have hc:=hNA.out w3
   clear hNA
   go_wp2_with fail
   refine hc.mono ?_
   clear hc
   rintro e w4 ⟨rfl,hb4⟩
   have HW4:=Lib.hid (HW3.out.trans (hb4.mono HW3.out.size))
   clear hb4 HW3
   cases bn with
   | false =>
    go_wp2_with fail
    refine bodyPost_ret (v:=.tuple #[.int .i64 0,.int .i64 0,.int .i64 31]) tZ32 rfl ⟨?_,HB1.out.trans (HW4.out.mono tZ10)⟩
    unfold holdI
    rw [if_neg tZ37,if_pos (.inr (.inl HBN.out.symm))]
    rfl
   | true =>
    have hc:=hCN.out w4
    clear hCN
    go_wp2_with fail
    refine hc.mono ?_
    clear hc
    rintro e w4' ⟨rfl,hb4'⟩
    have HW4:=Lib.hid (HW4.out.trans (hb4'.mono HW4.out.size))
    clear hb4'
    cases bad with
    | false =>
     go_wp2_with fail
     refine bodyPost_ret (v:=.tuple #[.int .i64 0,.int .i64 0,.int .i64 31]) tZ32 rfl ⟨?_,HB1.out.trans (HW4.out.mono tZ10)⟩
     unfold holdI
     rw [if_neg tZ37,if_pos (.inr (.inr HBG.out.symm))]
     rfl
    | true =>
     have hnb:¬ (pathB p=false∨nameB n=false∨nameB g=false):=by rw [← HBP.out,← HBN.out,← HBG.out];simp
     have HNB:=Lib.hid hnb
     have hc:=hFD.out w4' HW4.out
     obtain ⟨c0,c1,c2,c3,c4,c5,c6⟩:=hT.out _ HW4.out
     clear hFD hnb
     go_wp2_with fail
     refine hc.mono ?_
     clear hc c0 c1 c2 c3 c4 c5 c6
     rintro e w5 ⟨rfl,hb5⟩
     have HW5:=Lib.hid (HW4.out.trans (hb5.mono HW4.out.size))
     clear hb5 HW4
     rcases firstI_cases (fun s:SetR=>s.path == p) sl with ⟨h1,h2⟩ | ⟨k,hkl,h1,h2⟩
     ·have h1:findS sl p=-1:=h1
      rw [h1]
      go_wp2_with fail
      refine bodyPost_ret (v:=.tuple #[.int .i64 0,.int .i64 0,.int .i64 71]) tZ32 rfl ⟨?_,HB1.out.trans (HW5.out.mono tZ10)⟩
      unfold holdI
      rw [if_neg tZ37,if_neg HNB.out]
      simp only [h2]
      rfl
     ·have h1:findS sl p=(k:Int):=h1
      rw [h1]
      have hk0:¬ (k:Int)<0:=tZ1
      have hk00:(0:Int)≤(k:Int):=tZ1
      have hks:k<sn:=tZ55
      have hki:(k:Int)<(sn:Int):=tZ1
      obtain ⟨ad,hsa,-,q0,q1,q2,q3,q4⟩:=set_at (hrw.out w5 HW5.out).1.sets.2.2 HSN.out hks
      simp only at hsa
      subst hsa
      have hx:=(hrw.out w5 HW5.out).1.eachS _ (List.getElem_mem hkl)
      have hzx:=HZ.out.eachS _ (List.getElem_mem hkl)
      have HV:Hid (holdI ⟨nm,qu,nx,⟨some ad,sn,s3,sl⟩,⟨g1,gn,g3,gl⟩,⟨t1,tn,t3,tl⟩,⟨l1,ln,l3,ll⟩⟩ p n g=if findN (sl[k]'hkl).snaps.l n<0 then (0,0,71) else ((k:Int),findN (sl[k]'hkl).snaps.l n,0)):=by
       show _=_
       unfold holdI
       rw [if_neg tZ37,if_neg HNB.out]
       simp only [h2,h1]
      obtain ⟨x,hxx⟩:∃ x,x=sl[k]'hkl:=⟨_,rfl⟩
      rw [← hxx] at q0 q1 q2 q3 q4 hx hzx HV
      clear hxx h1 h2
      have hc:=snapAt_any (.string ⟨x.path.toArray⟩) (.string ⟨x.org.toArray⟩) (.slice x.body.A x.body.n x.body.c) (.slice x.own.A x.own.n x.own.c) x.snaps.l x.snaps.n hx.snaps.1 x.snaps.A x.snaps.c n w5 B hx.snaps.2.2 tZ133 tZ104
      obtain ⟨pa,og,⟨bA,bnn,bc,bl⟩,⟨zA,zn,zc,zl⟩,⟨oA,on,oc,ol⟩⟩:=x
      simp only at q0 q1 q2 q3 q4 hc HV
      obtain ⟨c0,c1,c2,c3,c4,c5,c6⟩:=hT.out _ HW5.out
      clear hx hzx hrw
      go_wp2_with fail
      refine hc.mono ?_
      clear hc c0 c1 c2 c3 c4 c5 c6 q0 q1 q2 q3 q4
      rintro e w6 ⟨rfl,hb6⟩
      obtain ⟨fv,hfv⟩:∃ v,v=findN zl n:=⟨_,rfl⟩
      rw [← hfv] at HV ⊢
      clear hfv
      by_cases hf:fv<0
      ·have HV1:=Lib.hid (HV.out.trans (if_pos hf))
       clear HV
       go_wp2_with fail
       refine bodyPost_ret (v:=.tuple #[.int .i64 0,.int .i64 0,.int .i64 71]) tZ32 rfl ⟨?_,HB1.out.trans ((HW5.out.trans (hb6.mono HW5.out.size)).mono tZ10)⟩
       rw [HV1.out]
       rfl
      ·have HV1:=Lib.hid (HV.out.trans (if_neg hf))
       clear HV
       go_wp2_with fail
       refine bodyPost_ret (v:=.tuple #[.int .i64 (k:Int),.int .i64 fv,.int .i64 0]) tZ32 rfl ⟨?_,HB1.out.trans ((HW5.out.trans (hb6.mono HW5.out.size)).mono tZ10)⟩
       rw [HV1.out]
       rfl
 ·go_wp2_with fail
  refine bodyPost_ret (v:=.tuple #[.int .i64 0,.int .i64 0,.int .i64 9]) tZ32 rfl ⟨?_,HB1.out.trans (HW2.out.mono tZ10)⟩
  unfold holdI
  rw [if_pos HE.out.symm]
  rfl
end Go.Proofs.YtiojfffgiejibaaGreatDoor
namespace Go.Proofs.YtiojfffgiejibaaGreatDoor
open Go.RowKit
/-- a snapshot's places and an error, by content -/
def TenC.foundH (c:TenC) (p n g:BS):Int×Int×Int :=
 if (c.foundS p n (!nameB g)).2.2=0 then c.foundS p n (!nameB g) else (0,0,(c.foundS p n (!nameB g)).2.2)
theorem foundH_con (t:TenR) (p n g:BS):holdI t p n g=t.con.foundH p n g:=by
 unfold holdI TenC.foundH TenC.foundS TenC.askS
 rw [tenE_con,show t.con.sets=t.sets.l.map SetR.con from rfl,find_map]
 have e:(t.sets.l.find? fun x:SetR=>(SetR.con x).path == p)=t.sets.l.find? fun x=>x.path == p:=rfl
 rw [e]
 have hb2:(pathB p=false∨nameB n=false∨(!nameB g)=true)↔(pathB p=false∨nameB n=false∨nameB g=false):=tZ4
 simp only [hb2]
 rcases t.con.E_two with hE | hE
 ·simp only [if_neg (show ¬ t.con.E=9 by rw [hE];decide)]
  by_cases hb:pathB p=false∨nameB n=false∨nameB g=false
  ·simp only [if_pos hb]
   simp
  ·simp only [if_neg hb]
   cases t.sets.l.find? (fun x=>x.path == p) with
   | none=>simp
   | some s =>
    simp only [Option.map_some]
    rw [findN_con,findS_con]
    by_cases h:s.con.findN n<0 <;> simp [h]
 ·simp only [if_pos hE]
  simp
theorem foundH_way (t:TenR) (sl:List SetR) (hs:t.sets.l=sl) (p n g:BS) (R:Int×Int×Int) (hR:R=t.con.foundH p n g) :
  (∃ E:Int,(E=9∨E=31∨E=71)∧R=(0,0,E)∧∃ a k',t.con.foundS p n (!nameB g)=(a,k',E))∨∃ (k i:Nat) (hk:k<sl.length) (hi:i<(sl[k]'hk).snaps.l.length),R=((k:Int),(i:Int),0)∧t.con.foundS p n (!nameB g)=((k:Int),(i:Int),0)∧AtS t.con p n (!nameB g) k∧t.con.sets[k]?=some (sl[k]'hk).con∧(sl[k]'hk).con.snaps[i]?=some ((sl[k]'hk).snaps.l[i]'hi).con∧((sl[k]'hk).snaps.l[i]'hi).nm=n:=by
 rcases found_way t sl hs p n (!nameB g) _ rfl with ⟨a,k,E,h1,h2⟩ | ⟨k,i,hk,hi,h1,h2⟩
 ·refine .inl ⟨E,h1,?_,a,k,h2⟩
  rw [hR]
  unfold TenC.foundH
  rw [h2,if_neg (by rcases h1 with rfl | rfl | rfl <;> simp)]
 ·refine .inr ⟨k,i,hk,hi,?_,h1,h2⟩
  rw [hR]
  unfold TenC.foundH
  rw [h1,if_pos rfl]
/-! ### tags -/
def posT (g:BS) (l:List BS):Nat:=posF (fun x=>cmpS x g) l
def isT (g:BS) (l:List BS):Bool:=atF (fun x=>cmpS x g) l
def insT (g:BS) (l:List BS):List BS:=l.take (posT g l)++g :: l.drop (posT g l)
def delT (g:BS) (l:List BS):List BS:=l.take (posT g l)++l.drop (posT g l+1)
def SnapC.tagged (x:SnapC) (l:List BS):SnapC:=⟨x.nm,x.gd,x.body,l,x.own⟩
def SetC.retag (s:SetC) (i:Nat) (x:SnapC) (l:List BS):SetC:=⟨s.path,s.org,s.body,s.snaps.set i (x.tagged l),s.own⟩
def TenC.hold (c:TenC) (p n g:BS):Int×TenC :=
 if (c.foundS p n (!nameB g)).2.2≠0 then ((c.foundS p n (!nameB g)).2.2,c) else match c.sets[(c.foundS p n (!nameB g)).1.toNat]? with
 | none=>(71,c)
 | some s=>match s.snaps[(c.foundS p n (!nameB g)).2.1.toNat]? with
  | none=>(71,c)
  | some x=>if isT g x.tags=true then (6,c) else if x.tags.length=4 then (3,c) else (0,c.putS (c.foundS p n (!nameB g)).1.toNat (s.retag (c.foundS p n (!nameB g)).2.1.toNat x (insT g x.tags)))
def TenC.release (c:TenC) (p n g:BS):Int×TenC :=
 if (c.foundS p n (!nameB g)).2.2≠0 then ((c.foundS p n (!nameB g)).2.2,c) else match c.sets[(c.foundS p n (!nameB g)).1.toNat]? with
 | none=>(71,c)
 | some s=>match s.snaps[(c.foundS p n (!nameB g)).2.1.toNat]? with
  | none=>(71,c)
  | some x=>if isT g x.tags=false then (71,c) else (0,c.putS (c.foundS p n (!nameB g)).1.toNat (s.retag (c.foundS p n (!nameB g)).2.1.toNat x (delT g x.tags)))
section
variable {c:TenC} {p n g:BS} {a k' E:Int} {k i:Nat} {s:SetC} {y:SnapC}
theorem hold_bad (h:c.foundS p n (!nameB g)=(a,k',E)) (hE:E≠0):c.hold p n g=(E,c):=by
 unfold TenC.hold
 rw [h,if_pos hE]
theorem hold_at (h:c.foundS p n (!nameB g)=((k:Int),(i:Int),0)) (hs:c.sets[k]?=some s) (hy:s.snaps[i]?=some y):c.hold p n g=if isT g y.tags=true then (6,c) else if y.tags.length=4 then (3,c) else (0,c.putS k (s.retag i y (insT g y.tags))):=by
 unfold TenC.hold
 exact mZ151
theorem release_bad (h:c.foundS p n (!nameB g)=(a,k',E)) (hE:E≠0):c.release p n g=(E,c):=by
 unfold TenC.release
 rw [h,if_pos hE]
theorem release_at (h:c.foundS p n (!nameB g)=((k:Int),(i:Int),0)) (hs:c.sets[k]?=some s) (hy:s.snaps[i]?=some y):c.release p n g=if isT g y.tags=false then (71,c) else (0,c.putS k (s.retag i y (delT g y.tags))):=by
 unfold TenC.release
 exact mZ151
end
/-! ### tags that may be stand in order -/
structure TagsOk (l:List BS):Prop where
 len:l.length≤4
 each:∀ x∈l,nameB x=true
 asc:l.Pairwise fun a b=>Op.bytesLess a b=true
theorem ascF_iff (p:Option BS) (l:List BS):ascF p l=true↔(∀ x∈l,nameB x=true)∧(l.Pairwise fun a b=>Op.bytesLess a b=true)∧∀ q,p=some q→∀ x∈l,Op.bytesLess q x=true:=by
 induction l generalizing p with
 | nil=>cases p <;> simp [ascF]
 | cons y l ih =>
  rw [ascF_cons,Bool.and_eq_true,Bool.and_eq_true,ih]
  constructor
  ·exact mZ31
  ·rintro ⟨h1,h2,h3⟩
   have h4:=List.pairwise_cons.1 h2
   refine ⟨⟨h1 _ List.mem_cons_self,?_⟩,fun x hx=>h1 x (List.mem_cons_of_mem _ hx),h4.2,fun q hq x hx=>by cases hq;exact h4.1 x hx⟩
   cases p with
   | none=>rfl
   | some q=>exact h3 q rfl y List.mem_cons_self
theorem tagsB_iff (l:List BS):tagsB l=true↔TagsOk l:=by
 unfold tagsB
 rw [Bool.and_eq_true,decide_eq_true_eq,ascF_iff]
 exact ⟨fun h=>⟨h.1,h.2.1,h.2.2.1⟩,fun h=>⟨h.len,h.each,h.asc,fun q hq=>by cases hq⟩⟩
theorem TagsOk.sign {l:List BS} (h:TagsOk l) (g:BS):SignAsc (fun x=>cmpS x g) l:=by
 intro i j x y hij hx hy hc
 obtain ⟨hi,rfl⟩:=List.getElem?_eq_some_iff.1 hx
 obtain ⟨hj,rfl⟩:=List.getElem?_eq_some_iff.1 hy
 have h1:=List.pairwise_iff_getElem.1 h.asc i j hi hj hij
 exact (cmpS_neg _ _).2 (bl_trans h1 ((cmpS_neg _ _).1 hc))
/-- the tags ahead of one, and those behind -/
theorem tags_split (g:BS) (l:List BS):∃ A B,l=A++B∧posT g l=A.length∧(∀ x∈A,Op.bytesLess x g=true)∧(∀ b B',B=b :: B'→Op.bytesLess b g=false)∧isT g l=B.head?.any fun b=>cmpS b g == 0:=by
 refine ⟨l.takeWhile fun x=>decide (cmpS x g<0),l.dropWhile fun x=>decide (cmpS x g<0),List.takeWhile_append_dropWhile.symm,rfl,fun x hx=>?_,fun b B' h=>?_,?_⟩
 ·have:=List.all_eq_true.1 List.all_takeWhile x hx
  exact (cmpS_neg _ _).1 (by simpa using this)
 ·have h1:¬ (decide (cmpS b g<0))=true:=by
   have h2:=List.head_dropWhile_not (fun x=>decide (cmpS x g<0)) (l:=l) (by rw [h];exact List.cons_ne_nil _ _)
   simp only [h,List.head_cons] at h2
   rw [h2]
   decide
  cases hb:Op.bytesLess b g with
  | false=>rfl
  | true=>exact absurd (by simpa using (cmpS_neg b g).2 hb) h1
 ·unfold isT atF posF
  have h1:l[(l.takeWhile fun x=>decide (cmpS x g<0)).length]?=(l.dropWhile fun x=>decide (cmpS x g<0)).head?:=by
   have h2:l[(l.takeWhile fun x=>decide (cmpS x g<0)).length]?=(l.takeWhile (fun x=>decide (cmpS x g<0))++l.dropWhile (fun x=>decide (cmpS x g<0)))[(l.takeWhile fun x=>decide (cmpS x g<0)).length]?:=by rw [List.takeWhile_append_dropWhile]
   rw [h2,List.getElem?_append_right (Nat.le_refl _),Nat.sub_self,List.head?_eq_getElem?]
  rw [h1]
theorem posT_mid (g:BS) (A B:List BS) (h:∀ x∈A,Op.bytesLess x g=true):posT g (A++g :: B)=A.length:=by
 refine posF_eq _ _ _ tZ4 (fun k x hk hx=>?_) (fun x hx=>?_)
 ·rw [List.getElem?_append_left hk] at hx
  exact (cmpS_neg _ _).2 (h x (List.mem_of_getElem? hx))
 ·rw [List.getElem?_append_right (Nat.le_refl _),Nat.sub_self] at hx
  cases hx
  exact Int.le_of_eq ((cmpS_zero g g).2 rfl).symm
theorem isT_mid (g:BS) (A B:List BS) (h:∀ x∈A,Op.bytesLess x g=true):isT g (A++g :: B)=true:=by
 show ((A++g :: B)[posT g (A++g :: B)]?).any _=true
 rw [posT_mid g A B h,List.getElem?_append_right (Nat.le_refl _),Nat.sub_self]
 show (cmpS g g == 0)=true
 rw [(cmpS_zero g g).2 rfl]
 rfl
theorem insT_len (g:BS) (l:List BS):(insT g l).length=l.length+1:=by
 have:=posF_le (fun x=>cmpS x g) l
 unfold insT posT
 rw [List.length_append,List.length_take,List.length_cons,List.length_drop]
 omega
end Go.Proofs.YtiojfffgiejibaaGreatDoor
