/-
  The page's Grants, by its contract (for tenants). Tenants: tags and snapshots, as the program and the page look at them. tree.amount; slices.IndexFunc at sets and at snapshots; tree.Find, tree.Snap: by their contracts. slices.Index, Contains, IsSorted at texts; tree.unlike, tree.tagged: by their contracts. tree.origin, by its contract.
-/
import Derived.Test.YtmladblmknbgnaaGreatDoorH0
import Derived.Test.YtmladblmknbgnaaGreatDoorH8
import Derived.Test.YtmladblmknbgnaaGreatDoorH6
import Derived.Test.YtmladblmknbgnaaGreatDoorH3
import Derived.Test.YtmladblmknbgnaaGreatDoorH5
namespace Go.Proofs.YtmladblmknbgnaaGreatDoor
open Go.RowKit
set_option maxRecDepth 100000 in
set_option maxHeartbeats 4000000 in
theorem refGrants_any (l:GL) (n:Nat) (hnl:n=l.length) (A:Option Addr) (c:Nat) (w:World) (B:Nat) (hr:Reads w B 3 A n (gcells l)) (hB:B≤w.heap.size) (hn:n≤5000000000000) (hv:lenG l) :
  Calls Tryz.prog 83 #[.slice A n c] w fun e w'=>e=.returned (.int .i64 (grantsE l))∧Below w.heap.size w w':=by
 have HN:=Lib.hid hnl
 obtain ⟨E,hE⟩:∃ E,E=grantsE l:=⟨_,rfl⟩
 have hPE:Hid (∀ b,grantsFrom none l=b→E=if b=true∧n≤16 then 0 else 9):=by
  show ∀ b,_→_
  rintro b rfl
  rw [hE]
  unfold grantsE grantsB
  rw [← hnl]
  by_cases h8:n≤16
  ·simp [h8]
  ·simp [h8]
 rw [← hE]
 clear hnl hE
 go_enter Tryz.func83,Tryz.ntmps83
 go_wp2_with fail
 go_loopw [3] (fun j wr=>∃ k:Nat,k≤n∧j=.int .i64 (k:Int)∧Hid (grantsFrom none l=grantsFrom (prevG l k) (l.drop k))∧Below w.heap.size w wr) (fun j _=>n-(intOf j).toNat)
 case atStart=>exact ⟨0,Nat.zero_le _,rfl,rfl,Below.refl _ _⟩
 case round =>
  obtain ⟨k,hk,rfl,hok,hbw⟩:=hrel
  by_cases hlt:k<n
  ·have hrw:=hr.below (hbw.mono hB)
   obtain ⟨ad,rfl,hadB,c0,c1,c2⟩:=hrw.el3 HN.out hlt
   have hki:(k:Int)<(n:Int):=by omega
   have hkl:k<l.length:=by have:=HN.out;omega
   obtain ⟨x,hx⟩:∃ x,x=l[k]'hkl:=⟨_,rfl⟩
   have hxl:=hv x (by rw [hx];exact List.getElem_mem _)
   rw [← hx] at c0 c1 c2
   have hdr:=List.drop_eq_getElem_cons hkl
   rw [← hx] at hdr
   have HX:=Lib.hid hx
   have HDR:=Lib.hid hdr
   obtain ⟨xu,xp,xz⟩:=x
   simp only at c0 c1 c2 hxl
   have hb1:=hbw.alloc hbw.size (.cells #[.string ⟨xu.toArray⟩,.string ⟨xp.toArray⟩,.int .i64 xz] 139)
   have hbad:Hid ((nameB xu=false∨pathB xp=false∨xz<1∨255<xz∨(∃ y,prevG l k=some y∧¬ cmpG y.1 y.2.1 xu xp<0))→E=9):=by
    show _→_
    intro h
    rw [hPE.out false]
    ·rfl
    rw [hok.out,HDR.out,grantsFrom_cons]
    unfold grantB
    rcases h with h | h | h | h | ⟨y,hy,h⟩
    ·simp only [h];rfl
    ·simp only [h];simp
    ·simp only [decide_eq_false (show ¬ 1≤xz by omega)];simp
    ·simp only [decide_eq_false (show ¬ xz≤255 by omega)];simp
    ·rw [hy];simp only [decide_eq_false h];simp
   have hgood:Hid (nameB xu=true→pathB xp=true→1≤xz→xz≤255→(∀ y,prevG l k=some y→cmpG y.1 y.2.1 xu xp<0)→grantsFrom none l=grantsFrom (prevG l (k+1)) (l.drop (k+1))):=by
    show _→_→_→_→_→_
    intro h1 h2 h4 h5 h3
    rw [hok.out,HDR.out]
    have hp:prevG l (k+1)=some (xu,xp,xz):=by
     show l[k]?=_
     rw [List.getElem?_eq_getElem hkl,← HX.out]
    rw [hp,grantsFrom_cons]
    unfold grantB
    simp only [h1,h2,decide_eq_true h4,decide_eq_true h5]
    cases hq:prevG l k with
    | none=>rfl
    | some y=>simp only [decide_eq_true (h3 y hq)];rfl
   have hN:∀ W,Calls Tryz.prog 81 #[.string ⟨xu.toArray⟩] W fun e W'=>e=.returned (.bool (nameB xu))∧W'=W:=fun W=>refName_s ⟨xu.toArray⟩ W (by show xu.length≤_;omega)
   have hV:∀ W,Calls Tryz.prog 114 #[.string ⟨xp.toArray⟩] W fun e W'=>e=.returned (.bool (pathB xp))∧Below W.heap.size W W':=fun W=>refPath_any ⟨xp.toArray⟩ W (by show xp.length≤_;exact hxl.2)
   have hwlt:wr.heap.size<(wr.alloc (.cells #[.string ⟨xu.toArray⟩,.string ⟨xp.toArray⟩,.int .i64 xz] 139)).heap.size:=by simp
   have k0:=(Blk.new wr 139 #[.string ⟨xu.toArray⟩,.string ⟨xp.toArray⟩,.int .i64 xz]).cell 0
   have k1:=(Blk.new wr 139 #[.string ⟨xu.toArray⟩,.string ⟨xp.toArray⟩,.int .i64 xz]).cell 1
   have k2:=(Blk.new wr 139 #[.string ⟨xu.toArray⟩,.string ⟨xp.toArray⟩,.int .i64 xz]).cell 2
   have hbsz:=hbw.size
   have hS:=Lib.hid (fun (W':World) (hB':Below (wr.alloc (.cells #[.string ⟨xu.toArray⟩,.string ⟨xp.toArray⟩,.int .i64 xz] 139)).heap.size (wr.alloc (.cells #[.string ⟨xu.toArray⟩,.string ⟨xp.toArray⟩,.int .i64 xz] 139)) W') =>
    (⟨(hB'.cell (p:=⟨wr.heap.size,0,none⟩) hwlt).trans k0,(hB'.cell (p:=⟨wr.heap.size,1,none⟩) hwlt).trans k1,(hB'.cell (p:=⟨wr.heap.size,2,none⟩) hwlt).trans k2,hr.below ((hbw.alloc hbw.size (.cells #[.string ⟨xu.toArray⟩,.string ⟨xp.toArray⟩,.int .i64 xz] 139)).trans (hB'.mono (Nat.le_trans hbsz (Nat.le_of_lt hwlt))) |>.mono hB)⟩ :
     W'.cell? ⟨wr.heap.size,0,none⟩=some (.string ⟨xu.toArray⟩)∧W'.cell? ⟨wr.heap.size,1,none⟩=some (.string ⟨xp.toArray⟩)∧W'.cell? ⟨wr.heap.size,2,none⟩=some (.int .i64 xz)∧Reads W' B 3 (some ad) n (gcells l)))
   clear hx hdr hok hxl hv k0 k1 k2
   obtain ⟨bn,hbn0⟩:∃ b,b=nameB xu:=⟨_,rfl⟩
   obtain ⟨bp,hbp0⟩:∃ b,b=pathB xp:=⟨_,rfl⟩
   rw [← hbn0] at hbad hgood hN
   rw [← hbp0] at hbad hgood hV
   clear hbn0 hbp0
   cases bn with
   | false =>
    have HB:=Lib.hid (hbad.out (.inl rfl))
    clear hr hrw hbad hgood hV hS
    go_wp2_with fail
    refine (hN _).mono ?_
    rintro e w4 ⟨rfl,rfl⟩
    go_wp2_with fail
    go_ret
    exact ⟨by rw [HB.out];rfl,hb1⟩
   | true =>
    cases bp with
    | false =>
     have HB:=Lib.hid (hbad.out (.inr (.inl rfl)))
     clear hr hrw hbad hgood
     go_wp2_with fail
     refine (hN _).mono ?_
     rintro e w4 ⟨rfl,rfl⟩
     go_wp2_with fail
     refine (hV _).mono ?_
     rintro e w5 ⟨rfl,hb5⟩
     have hbf:=hb1.trans (hb5.mono hb1.size)
     obtain ⟨q0,q1,q2,hprev⟩:=hS.out _ hb5
     clear hS hb5 hb1
     clear hprev
     go_wp2_with fail
     go_ret
     exact ⟨by rw [HB.out];rfl,hbf⟩
    | true =>
     by_cases z1:xz<1
     ·have HB:=Lib.hid (hbad.out (.inr (.inr (.inl z1))))
      clear hr hrw hbad hgood
      go_wp2_with fail
      refine (hN _).mono ?_
      rintro e w4 ⟨rfl,rfl⟩
      go_wp2_with fail
      refine (hV _).mono ?_
      rintro e w5 ⟨rfl,hb5⟩
      have hbf:=hb1.trans (hb5.mono hb1.size)
      obtain ⟨q0,q1,q2,hprev⟩:=hS.out _ hb5
      clear hS hb5 hb1
      clear hprev
      go_wp2_with fail
      go_ret
      exact ⟨by rw [HB.out];rfl,hbf⟩
     by_cases z2:255<xz
     ·have HB:=Lib.hid (hbad.out (.inr (.inr (.inr (.inl z2)))))
      clear hr hrw hbad hgood
      go_wp2_with fail
      refine (hN _).mono ?_
      rintro e w4 ⟨rfl,rfl⟩
      go_wp2_with fail
      refine (hV _).mono ?_
      rintro e w5 ⟨rfl,hb5⟩
      have hbf:=hb1.trans (hb5.mono hb1.size)
      obtain ⟨q0,q1,q2,hprev⟩:=hS.out _ hb5
      clear hS hb5 hb1
      clear hprev
      go_wp2_with fail
      go_ret
      exact ⟨by rw [HB.out];rfl,hbf⟩
     rcases Nat.eq_zero_or_pos k with h0 | h0
     ·have HG:=Lib.hid (hgood.out rfl rfl (by omega) (by omega) (fun y hy=>by subst h0;cases hy))
      have d4:decide ((0:Int)<(k:Int))=false:=by simp;omega
      have d4':decide (0<k)=false:=by simp;omega
      clear h0 hr hrw hbad hgood
      go_wp2_with fail
      refine (hN _).mono ?_
      rintro e w4 ⟨rfl,rfl⟩
      go_wp2_with fail
      refine (hV _).mono ?_
      rintro e w5 ⟨rfl,hb5⟩
      have hbf:=hb1.trans (hb5.mono hb1.size)
      obtain ⟨q0,q1,q2,hprev⟩:=hS.out _ hb5
      clear hS hb5 hb1
      clear hprev
      go_wp2_with fail
      go_big_quiet (fail)
      go_wp2_with fail
      go_roundw
      case rel=>exact ⟨k+1,by omega,by go_num,HG,below_drewN hbf _⟩
      case measure=>simp [intOf];omega
     ·have d4:decide ((0:Int)<(k:Int))=true:=by simp;omega
      have d4':decide (0<k)=true:=by simp;omega
      have hk1l:k-1<l.length:=by omega
      obtain ⟨y,hy⟩:∃ y,y=l[k-1]'hk1l:=⟨_,rfl⟩
      have hpv:prevG l k=some y:=by
       obtain ⟨j,rfl⟩:∃ j,k=j+1:=⟨k-1,by omega⟩
       show l[j]?=_
       have hj:j<l.length:=by simpa using hk1l
       rw [List.getElem?_eq_getElem hj,hy]
       rfl
      have i1:(1:Int)≤(k:Int):=by omega
      have i2:(k:Int)-1<(n:Int):=by omega
      have i3:IntKind.i64.wrap ((k:Int)-1)=(k:Int)-1:=IntWalk.i64_in _ (by omega)
      have i4:((k:Int)-1).toNat=k-1:=by omega
      have HP:Hid (∀ W',Reads W' B 3 (some ad) n (gcells l)→W'.cell? (ad.add ((k-1)*3))=some (.string ⟨y.1.toArray⟩)∧W'.cell? ⟨(ad.add ((k-1)*3)).block,(ad.add ((k-1)*3)).off+1,none⟩=some (.string ⟨y.2.1.toArray⟩)):=by
       show ∀ W',_→_
       intro W' hr'
       obtain ⟨ad2,e2,-,p0,p1,-⟩:=(hr'.el3 HN.out (i:=k-1) (by omega))
       injection e2 with e2
       subst e2
       rw [← hy] at p0 p1
       exact ⟨p0,p1⟩
      obtain ⟨yu,yp,yz⟩:=y
      simp only at HP
      have hgt:=gtrS 9 yu xu
      have hge:=geqS 9 yp xp
      have hbadO:=fun (h:¬ cmpG yu yp xu xp<0)=>hbad.out (.inr (.inr (.inr (.inr ⟨_,hpv,h⟩))))
      have hgoodO:=fun (h:cmpG yu yp xu xp<0)=>hgood.out rfl rfl (by omega) (by omega) (fun y' hy'=>by rw [hpv] at hy';cases hy';exact h)
      clear hbad hgood h0 hpv hy hr hrw
      by_cases hyx:yu=xu
      ·subst hyx
       rw [show (Op.bytesLess yu yu || yu == yu)=true by simp] at hgt
       by_cases hpp:Op.bytesLess yp xp=true
       ·have HG:=Lib.hid (hgoodO ((cmpG_neg _ _ _ _).2 (.inr ⟨rfl,hpp⟩)))
        rw [hpp] at hge
        clear hbadO hgoodO hpp
        go_wp2_with fail
        refine (hN _).mono ?_
        rintro e w4 ⟨rfl,rfl⟩
        go_wp2_with fail
        refine (hV _).mono ?_
        rintro e w5 ⟨rfl,hb5⟩
        have hbf:=hb1.trans (hb5.mono hb1.size)
        obtain ⟨q0,q1,q2,hprev⟩:=hS.out _ hb5
        clear hS hb5 hb1
        obtain ⟨p0,p1⟩:=HP.out _ hprev
        clear hprev
        go_wp2_with fail
        go_big_quiet (fail)
        clear hgt hge
        go_wp2_with fail
        go_roundw
        case rel=>exact ⟨k+1,by omega,by go_num,HG,below_drewN hbf _⟩
        case measure=>simp [intOf];omega
       ·have HB:=Lib.hid (hbadO (fun h=>by
         rcases (cmpG_neg _ _ _ _).1 h with h | h
         ·rw [bl_irrefl] at h;cases h
         ·exact hpp h.2))
        rw [show Op.bytesLess yp xp=false by simpa using hpp] at hge
        clear hbadO hgoodO hpp
        go_wp2_with fail
        refine (hN _).mono ?_
        rintro e w4 ⟨rfl,rfl⟩
        go_wp2_with fail
        refine (hV _).mono ?_
        rintro e w5 ⟨rfl,hb5⟩
        have hbf:=hb1.trans (hb5.mono hb1.size)
        obtain ⟨q0,q1,q2,hprev⟩:=hS.out _ hb5
        clear hS hb5 hb1
        obtain ⟨p0,p1⟩:=HP.out _ hprev
        clear hprev
        go_wp2_with fail
        go_big_quiet (fail)
        clear hgt hge
        go_wp2_with fail
        go_ret
        exact ⟨by rw [HB.out];rfl,below_drewN hbf _⟩
      ·have hne:(yu == xu)=false:=by simpa using hyx
       by_cases hbl:Op.bytesLess yu xu=true
       ·have HG:=Lib.hid (hgoodO ((cmpG_neg _ _ _ _).2 (.inl hbl)))
        rw [show (Op.bytesLess yu xu || yu == xu)=true by rw [hbl];rfl] at hgt
        clear hbadO hgoodO hbl hge
        go_wp2_with fail
        refine (hN _).mono ?_
        rintro e w4 ⟨rfl,rfl⟩
        go_wp2_with fail
        refine (hV _).mono ?_
        rintro e w5 ⟨rfl,hb5⟩
        have hbf:=hb1.trans (hb5.mono hb1.size)
        obtain ⟨q0,q1,q2,hprev⟩:=hS.out _ hb5
        clear hS hb5 hb1
        obtain ⟨p0,p1⟩:=HP.out _ hprev
        clear hprev
        go_wp2_with fail
        go_big_quiet (fail)
        clear hgt
        go_wp2_with fail
        go_roundw
        case rel=>exact ⟨k+1,by omega,by go_num,HG,below_drewN hbf _⟩
        case measure=>simp [intOf];omega
       ·have HB:=Lib.hid (hbadO (fun h=>by
         rcases (cmpG_neg _ _ _ _).1 h with h | h
         ·exact hbl h
         ·exact hyx h.1))
        rw [show (Op.bytesLess yu xu || yu == xu)=false by rw [hne,show Op.bytesLess yu xu=false by simpa using hbl];rfl] at hgt
        clear hbadO hgoodO hbl hge
        go_wp2_with fail
        refine (hN _).mono ?_
        rintro e w4 ⟨rfl,rfl⟩
        go_wp2_with fail
        refine (hV _).mono ?_
        rintro e w5 ⟨rfl,hb5⟩
        have hbf:=hb1.trans (hb5.mono hb1.size)
        obtain ⟨q0,q1,q2,hprev⟩:=hS.out _ hb5
        clear hS hb5 hb1
        obtain ⟨p0,p1⟩:=HP.out _ hprev
        clear hprev
        go_wp2_with fail
        go_big_quiet (fail)
        clear hgt
        go_wp2_with fail
        go_ret
        exact ⟨by rw [HB.out];rfl,below_drewN hbf _⟩
  ·have hkn:k=n:=by omega
   have hF:Hid (E=if n≤16 then 0 else 9):=by
    show _=_
    rw [hPE.out true]
    ·simp
    rw [hok.out,List.drop_of_length_le (by rw [hkn,HN.out];exact Nat.le_refl _)]
    rfl
   clear hok hr hkn hPE
   by_cases h8:n≤16
   ·have hi8:¬ (16:Int)<(n:Int):=by omega
    have HV:Hid (E=0):=by show _=_;rw [hF.out,if_pos h8]
    clear hF
    go_wp2_with fail
    go_ret
    exact ⟨by rw [HV.out];rfl,hbw⟩
   ·have hi8:(16:Int)<(n:Int):=by omega
    have HV:Hid (E=9):=by show _=_;rw [hF.out,if_neg h8]
    clear hF
    go_wp2_with fail
    go_ret
    exact ⟨by rw [HV.out];rfl,hbw⟩
end Go.Proofs.YtmladblmknbgnaaGreatDoor
namespace Go.Proofs.YtmladblmknbgnaaGreatDoor
open Go.RowKit
/-- texts, none ahead of the one before it (slices.IsSorted) -/
def sortF:Option BS→List BS→Bool
 | _,[]=>true
 | p,x :: l=>(match p with | none=>true | some q=>!(Op.bytesLess x q)) && sortF (some x) l
theorem sortF_cons (p:Option BS) (x:BS) (l:List BS):sortF p (x :: l)=((match p with | none=>true | some q=>!(Op.bytesLess x q)) && sortF (some x) l):=by cases p <;> rfl
theorem ascF_cons (p:Option BS) (x:BS) (l:List BS):ascF p (x :: l)=(nameB x && (match p with | none=>true | some q=>Op.bytesLess q x) && ascF (some x) l):=by cases p <;> rfl
theorem unlikeF_cons (acc:List BS) (x:BS) (l:List BS):unlikeF acc (x :: l)=(nameB x && !(acc.contains x) && unlikeF (acc++[x]) l):=rfl
theorem bl_asym (a b:BS) (h:Op.bytesLess a b=true):Op.bytesLess b a=false:=by
 rw [← Bool.not_eq_true]
 intro h2
 have:=bl_trans h h2
 rw [bl_irrefl] at this
 cases this
theorem tags_to (l:List BS) (acc:List BS) (p:Option BS) (hp:∀ q,p=some q→q∈acc) (h1:unlikeF acc l=true) (h2:sortF p l=true):ascF p l=true:=by
 induction l generalizing acc p with
 | nil=>rfl
 | cons x l ih =>
  rw [unlikeF_cons,Bool.and_eq_true,Bool.and_eq_true] at h1
  rw [sortF_cons,Bool.and_eq_true] at h2
  obtain ⟨⟨h3,h4⟩,h5⟩:=h1
  obtain ⟨h6,h7⟩:=h2
  rw [ascF_cons,h3,Bool.true_and,Bool.and_eq_true]
  refine ⟨?_,ih (acc++[x]) (some x) (fun q hq=>by cases hq;simp) h5 h7⟩
  cases p with
  | none=>rfl
  | some q =>
   simp only at h6 ⊢
   refine bl_tri x q (by simpa using h6) ?_
   rintro rfl
   have:=hp x rfl
   simp [this] at h4
theorem tags_from (l:List BS) (acc:List BS) (p:Option BS) (hp:∀ a∈acc,∃ q,p=some q∧(a=q∨Op.bytesLess a q=true)) (h:ascF p l=true):unlikeF acc l=true∧sortF p l=true:=by
 induction l generalizing acc p with
 | nil=>exact ⟨rfl,rfl⟩
 | cons x l ih =>
  rw [ascF_cons,Bool.and_eq_true,Bool.and_eq_true] at h
  obtain ⟨⟨h1,h2⟩,h3⟩:=h
  have hlt:∀ a∈acc,Op.bytesLess a x=true:=by
   intro a ha
   obtain ⟨q,rfl,hq⟩:=hp a ha
   simp only at h2
   rcases hq with rfl | hq
   ·exact h2
   ·exact bl_trans hq h2
  obtain ⟨i1,i2⟩:=ih (acc++[x]) (some x) (fun a ha=>by
   rcases List.mem_append.1 ha with ha | ha
   ·exact ⟨x,rfl,.inr (hlt a ha)⟩
   ·exact ⟨x,rfl,.inl (by simpa using ha)⟩) h3
  rw [unlikeF_cons,sortF_cons,h1,i1,i2,Bool.and_true,Bool.and_true,Bool.true_and]
  constructor
  ·rw [Bool.not_eq_true',← Bool.not_eq_true,List.contains_iff_mem]
   intro hx
   have:=hlt x hx
   rw [bl_irrefl] at this
   cases this
  ·cases p with
   | none=>rfl
   | some q=>simp only at h2 ⊢;rw [bl_asym _ _ h2];rfl
/-- as the program looks at tags -/
theorem tagged_eq (l:List BS):(unlikeB l && sortF none l)=ascF none l:=by
 rw [Bool.eq_iff_iff,Bool.and_eq_true]
 exact ⟨fun h=>tags_to l [] none (fun q hq=>by cases hq) h.1 h.2,fun h=>tags_from l [] none (fun a ha=>by cases ha) h⟩
/-- as the page looks at snapshots -/
def snapOk (x:SnapR):Bool:=amt x.gd 1 && okL x.body.l && propsB x.own.l && tagsB x.tags.l
def snapsRef:List BS→Option Int→List SnapR→Bool
 | _,_,[]=>true
 | acc,p,x :: l=>nameB x.nm && snapOk x && (match p with | none=>true | some q=>decide (q<x.gd)) && !(acc.contains x.nm) && snapsRef (acc++[x.nm]) (some x.gd) l
theorem snapsFrom_cons (p:Option Int) (x:SnapR) (l:List SnapR):snapsFrom p (x :: l)=(snapOk x && (match p with | none=>true | some q=>decide (q<x.gd)) && snapsFrom (some x.gd) l):=by
 have:snapsFrom p (x :: l)=(amt x.gd 1 && (match p with | none=>true | some q=>decide (q<x.gd)) && okL x.body.l && propsB x.own.l && tagsB x.tags.l && snapsFrom (some x.gd) l):=by cases p <;> rfl
 rw [this]
 unfold snapOk
 generalize (match p with | none=>true | some q=>decide (q<x.gd))=b
 cases amt x.gd 1 <;> cases b <;> cases okL x.body.l <;> cases propsB x.own.l <;> cases tagsB x.tags.l <;> rfl
theorem snapsRef_cons (acc:List BS) (p:Option Int) (x:SnapR) (l:List SnapR):snapsRef acc p (x :: l)=(nameB x.nm && snapOk x && (match p with | none=>true | some q=>decide (q<x.gd)) && !(acc.contains x.nm) && snapsRef (acc++[x.nm]) (some x.gd) l):=by cases p <;> rfl
theorem snapsRef_eq (l:List SnapR) (acc:List BS) (p:Option Int):snapsRef acc p l=(snapsFrom p l && unlikeF acc (l.map (·.nm))):=by
 induction l generalizing acc p with
 | nil=>rfl
 | cons x l ih =>
  rw [snapsRef_cons,snapsFrom_cons,List.map_cons,unlikeF_cons,ih]
  generalize (match p with | none=>true | some q=>decide (q<x.gd))=b
  cases nameB x.nm <;> cases snapOk x <;> cases b <;> cases acc.contains x.nm <;> cases snapsFrom (some x.gd) l <;> rfl
theorem snapsB_ref (l:List SnapR):snapsB l=(decide (l.length≤16) && snapsRef [] none l):=by
 rw [snapsRef_eq]
 unfold snapsB unlikeB
 rw [Bool.and_assoc]
end Go.Proofs.YtmladblmknbgnaaGreatDoor
namespace Go.Proofs.YtmladblmknbgnaaGreatDoor
open Go.RowKit
set_option maxRecDepth 100000 in
theorem amount_any (n k:Int) (w:World):Calls Tryz.prog 145 #[.int .i64 n,.int .i64 k] w fun e w'=>e=.returned (.bool (amt n k))∧w'=w:=by
 go_enter Tryz.func145,Tryz.ntmps145
 go_wp2_with fail
 all_goals go_ret
 all_goals refine ⟨congrArg Ending.returned (congrArg Value.bool ?_),rfl⟩
 all_goals unfold amt
 all_goals rw [Bool.eq_iff_iff]
 all_goals simp
 all_goals omega
set_option maxRecDepth 100000 in
set_option maxHeartbeats 1000000 in
theorem fiSet_index {α:Type} (f0 f1 f2 f3 f4:α→Value) (p:α→Bool) (l:List α) (n:Nat) (hnl:n=l.length) (A:Option Addr) (c:Nat) (p0:Addr) (Keep:World→Prop) (w:World) (B:Nat)
  (hr:Reads w B 5 A n (cellsK (fun x=>[f0 x,f1 x,f2 x,f3 x,f4 x]) l)) (hB:B≤w.heap.size) (hn:n≤5000000000000) (hp:PredK Tryz.prog 144 #[.pointer (some p0)] (fun x=>#[f0 x,f1 x,f2 x,f3 x,f4 x]) (·∈l) p Keep) (hk0:Keep w) :
  Calls Tryz.prog 143 #[.slice A n c,.func (.func 144) #[] #[.pointer (some p0)]] w fun e w'=>e=.returned (.int .i64 (firstI p l))∧Below w.heap.size w w':=by
 have HN:=Lib.hid hnl
 have HP:=Lib.hid hp
 clear hnl hp
 go_enter Tryz.func143,Tryz.ntmps143
 go_wp2_with fail
 go_loopw [8] (fun j wr=>∃ k:Nat,k≤n∧j=.int .i64 (k:Int)∧Hid (∀ y∈l.take k,p y=false)∧Below w.heap.size w wr∧Keep wr) (fun j _=>n-(intOf j).toNat)
 case atStart=>exact ⟨0,Nat.zero_le _,rfl,(show ∀ y∈_,_ by simp),Below.refl _ _,hk0⟩
 case round =>
  obtain ⟨k,hk,rfl,hno,hbw,hkw⟩:=hrel
  by_cases hlt:k<n
  ·have hki:(k:Int)<(n:Int):=by omega
   have hkl:k<l.length:=by have:=HN.out;omega
   obtain ⟨ad,rfl,_,c0,c1,c2,c3,c4⟩:=(hr.below (hbw.mono hB)).el5 HN.out hlt
   obtain ⟨x,hx⟩:∃ x,x=l[k]'hkl:=⟨_,rfl⟩
   rw [← hx] at c0 c1 c2 c3 c4
   have htk:=List.take_succ_eq_append_getElem hkl
   rw [← hx] at htk
   have HTK:=Lib.hid htk
   have HX:=Lib.hid (show l[k]?=some x by rw [hx];exact List.getElem?_eq_getElem _)
   have hc:=HP.out.call x wr (List.mem_of_getElem? HX.out) hkw
   obtain ⟨b,hb⟩:∃ b,b=p x:=⟨_,rfl⟩
   rw [← hb] at hc
   have HBX:=Lib.hid hb
   simp only [List.append_toArray,List.cons_append,List.nil_append] at hc
   clear hx htk hr hb
   go_wp2_with fail
   refine hc.mono ?_
   clear hc
   rintro e w1 ⟨rfl,hb1⟩
   have hkw1:=HP.out.below wr w1 hkw hb1
   have hbw1:=hbw.trans (hb1.mono hbw.size)
   cases b with
   | true =>
    go_wp2_with fail
    go_ret
    have hf:=firstP_eq p l k x hno.out HX.out HBX.out.symm
    exact ⟨by unfold firstI;rw [hf,if_pos hkl];rfl,hbw1⟩
   | false =>
    go_wp2_with fail
    go_roundw
    case rel =>
     refine ⟨k+1,by omega,by go_num,?_,hbw1,hkw1⟩
     show ∀ y∈l.take (k+1),p y=false
     intro y hy
     rw [HTK.out] at hy
     rcases List.mem_append.1 hy with hy | hy
     ·exact hno.out y hy
     ·simp at hy;subst hy;exact HBX.out.symm
    case measure=>simp [intOf];omega
  ·have hkn:k=n:=by omega
   have HF:Hid (firstI p l=-1):=by
    show _=_
    unfold firstI
    rw [firstP_none p l (fun y hy=>hno.out y (by rw [List.take_of_length_le (by rw [hkn,HN.out];exact Nat.le_refl _)];exact hy)),if_neg (Nat.lt_irrefl _)]
   clear hr hkn
   go_wp2_with fail
   go_ret
   exact ⟨by rw [HF.out];rfl,hbw⟩
set_option maxRecDepth 100000 in
set_option maxHeartbeats 1000000 in
theorem fiSnap_index {α:Type} (f0 f1 f2 f3 f4:α→Value) (p:α→Bool) (l:List α) (n:Nat) (hnl:n=l.length) (A:Option Addr) (c:Nat) (p0:Addr) (Keep:World→Prop) (w:World) (B:Nat)
  (hr:Reads w B 5 A n (cellsK (fun x=>[f0 x,f1 x,f2 x,f3 x,f4 x]) l)) (hB:B≤w.heap.size) (hn:n≤5000000000000) (hp:PredK Tryz.prog 177 #[.pointer (some p0)] (fun x=>#[f0 x,f1 x,f2 x,f3 x,f4 x]) (·∈l) p Keep) (hk0:Keep w) :
  Calls Tryz.prog 151 #[.slice A n c,.func (.func 177) #[] #[.pointer (some p0)]] w fun e w'=>e=.returned (.int .i64 (firstI p l))∧Below w.heap.size w w':=by
 have HN:=Lib.hid hnl
 have HP:=Lib.hid hp
 clear hnl hp
 go_enter Tryz.func151,Tryz.ntmps151
 go_wp2_with fail
 go_loopw [8] (fun j wr=>∃ k:Nat,k≤n∧j=.int .i64 (k:Int)∧Hid (∀ y∈l.take k,p y=false)∧Below w.heap.size w wr∧Keep wr) (fun j _=>n-(intOf j).toNat)
 case atStart=>exact ⟨0,Nat.zero_le _,rfl,(show ∀ y∈_,_ by simp),Below.refl _ _,hk0⟩
 case round =>
  obtain ⟨k,hk,rfl,hno,hbw,hkw⟩:=hrel
  by_cases hlt:k<n
  ·have hki:(k:Int)<(n:Int):=by omega
   have hkl:k<l.length:=by have:=HN.out;omega
   obtain ⟨ad,rfl,_,c0,c1,c2,c3,c4⟩:=(hr.below (hbw.mono hB)).el5 HN.out hlt
   obtain ⟨x,hx⟩:∃ x,x=l[k]'hkl:=⟨_,rfl⟩
   rw [← hx] at c0 c1 c2 c3 c4
   have htk:=List.take_succ_eq_append_getElem hkl
   rw [← hx] at htk
   have HTK:=Lib.hid htk
   have HX:=Lib.hid (show l[k]?=some x by rw [hx];exact List.getElem?_eq_getElem _)
   have hc:=HP.out.call x wr (List.mem_of_getElem? HX.out) hkw
   obtain ⟨b,hb⟩:∃ b,b=p x:=⟨_,rfl⟩
   rw [← hb] at hc
   have HBX:=Lib.hid hb
   simp only [List.append_toArray,List.cons_append,List.nil_append] at hc
   clear hx htk hr hb
   go_wp2_with fail
   refine hc.mono ?_
   clear hc
   rintro e w1 ⟨rfl,hb1⟩
   have hkw1:=HP.out.below wr w1 hkw hb1
   have hbw1:=hbw.trans (hb1.mono hbw.size)
   cases b with
   | true =>
    go_wp2_with fail
    go_ret
    have hf:=firstP_eq p l k x hno.out HX.out HBX.out.symm
    exact ⟨by unfold firstI;rw [hf,if_pos hkl];rfl,hbw1⟩
   | false =>
    go_wp2_with fail
    go_roundw
    case rel =>
     refine ⟨k+1,by omega,by go_num,?_,hbw1,hkw1⟩
     show ∀ y∈l.take (k+1),p y=false
     intro y hy
     rw [HTK.out] at hy
     rcases List.mem_append.1 hy with hy | hy
     ·exact hno.out y hy
     ·simp at hy;subst hy;exact HBX.out.symm
    case measure=>simp [intOf];omega
  ·have hkn:k=n:=by omega
   have HF:Hid (firstI p l=-1):=by
    show _=_
    unfold firstI
    rw [firstP_none p l (fun y hy=>hno.out y (by rw [List.take_of_length_le (by rw [hkn,HN.out];exact Nat.le_refl _)];exact hy)),if_neg (Nat.lt_irrefl _)]
   clear hr hkn
   go_wp2_with fail
   go_ret
   exact ⟨by rw [HF.out];rfl,hbw⟩
set_option maxRecDepth 100000 in
theorem findC_any (s:BS) (v1 v2 v3 v4:Value) (p:BS) (pb:Nat) (w:World) (hpb:pb<w.heap.size) (hk:w.cell? ⟨pb,0,none⟩=some (.string ⟨p.toArray⟩)) :
  Calls Tryz.prog 144 #[.agg #[.string ⟨s.toArray⟩,v1,v2,v3,v4],.pointer (some ⟨pb,0,none⟩)] w fun e w'=>e=.returned (.bool (s == p))∧Below w.heap.size w w':=by
 have hk1:=(World.cell?_alloc_lt w (.cells #[.string ⟨s.toArray⟩,v1,v2,v3,v4] 42) ⟨pb,0,none⟩ hpb).trans hk
 have hb:=(Below.refl w.heap.size w).alloc (Nat.le_refl _) (.cells #[.string ⟨s.toArray⟩,v1,v2,v3,v4] 42)
 go_enter Tryz.func144,Tryz.ntmps144
 go_wp2_with fail
 all_goals go_ret
 all_goals refine ⟨congrArg Ending.returned (congrArg Value.bool ?_),hb⟩
 all_goals simp_all
set_option maxRecDepth 100000 in
theorem snapC_any (s:BS) (v1 v2 v3 v4:Value) (p:BS) (pb:Nat) (w:World) (hpb:pb<w.heap.size) (hk:w.cell? ⟨pb,0,none⟩=some (.string ⟨p.toArray⟩)) :
  Calls Tryz.prog 177 #[.agg #[.string ⟨s.toArray⟩,v1,v2,v3,v4],.pointer (some ⟨pb,0,none⟩)] w fun e w'=>e=.returned (.bool (s == p))∧Below w.heap.size w w':=by
 have hk1:=(World.cell?_alloc_lt w (.cells #[.string ⟨s.toArray⟩,v1,v2,v3,v4] 70) ⟨pb,0,none⟩ hpb).trans hk
 have hb:=(Below.refl w.heap.size w).alloc (Nat.le_refl _) (.cells #[.string ⟨s.toArray⟩,v1,v2,v3,v4] 70)
 go_enter Tryz.func177,Tryz.ntmps177
 go_wp2_with fail
 all_goals go_ret
 all_goals refine ⟨congrArg Ending.returned (congrArg Value.bool ?_),hb⟩
 all_goals simp_all
set_option maxRecDepth 100000 in
set_option maxHeartbeats 1000000 in
theorem find_any (v0 v1 v2 v4 v5 v6:Value) (l:List SetR) (n:Nat) (hnl:n=l.length) (A:Option Addr) (c:Nat) (p:BS) (w:World) (B:Nat) (hr:Reads w B 5 A n (cellsK encSet l)) (hB:B≤w.heap.size) (hn:n≤5000000000000) :
  Calls Tryz.prog 75 #[.agg #[v0,v1,v2,.slice A n c,v4,v5,v6],.string ⟨p.toArray⟩] w fun e w'=>e=.returned (.int .i64 (findS l p))∧Below w.heap.size w w':=by
 have hb1:=(Below.refl w.heap.size w).alloc (Nat.le_refl _) (.cells #[v0,v1,v2,.slice A n c,v4,v5,v6] 27)
 have hb2:=hb1.alloc hb1.size (.cells #[.string ⟨p.toArray⟩] 9)
 obtain ⟨W2,hW2⟩:∃ W,W=(w.alloc (.cells #[v0,v1,v2,.slice A n c,v4,v5,v6] 27)).alloc (.cells #[.string ⟨p.toArray⟩] 9):=⟨_,rfl⟩
 have hsz:W2.heap.size=w.heap.size+2:=by rw [hW2];simp
 have hk:W2.cell? ⟨w.heap.size+1,0,none⟩=some (.string ⟨p.toArray⟩):=by
  rw [hW2]
  have:=(Blk.new (w.alloc (.cells #[v0,v1,v2,.slice A n c,v4,v5,v6] 27)) 9 #[.string ⟨p.toArray⟩]).cell 0
  rw [show (w.alloc (.cells #[v0,v1,v2,.slice A n c,v4,v5,v6] 27)).heap.size=w.heap.size+1 by simp] at this
  exact this
 rw [← hW2] at hb2
 have HC:=Lib.hid (fiSet_index (fun x=>.string ⟨x.path.toArray⟩) (fun x=>.string ⟨x.org.toArray⟩) (fun x=>.slice x.body.A x.body.n x.body.c) (fun x=>.slice x.snaps.A x.snaps.n x.snaps.c) (fun x=>.slice x.own.A x.own.n x.own.c) (fun x=>x.path == p) l n hnl A c ⟨w.heap.size+1,0,none⟩ (fun W=>W.cell? ⟨w.heap.size+1,0,none⟩=some (.string ⟨p.toArray⟩)∧w.heap.size+1<W.heap.size) W2 B (hr.below (hb2.mono hB)) (by omega) hn
  ⟨fun x W _ hK=>findC_any x.path _ _ _ _ p _ W hK.2 hK.1,fun W W' hK hb=>⟨(hb.cell (p:=⟨w.heap.size+1,0,none⟩) hK.2).trans hK.1,Nat.lt_of_lt_of_le hK.2 hb.size⟩⟩ ⟨hk,by omega⟩)
 have HB:=Lib.hid hb2
 have HSZ:=Lib.hid hsz
 clear hnl hr hk hsz hb1 hb2
 go_enter Tryz.func75,Tryz.ntmps75
 go_wp2_with fail
 rw [← hW2]
 refine HC.out.mono ?_
 rintro e w1 ⟨rfl,hb3⟩
 go_wp2_with fail
 go_ret
 exact ⟨rfl,HB.out.trans (hb3.mono (by have:=HSZ.out;omega))⟩
set_option maxRecDepth 100000 in
set_option maxHeartbeats 1000000 in
theorem snapAt_any (v0 v1 v2 v4:Value) (l:List SnapR) (n:Nat) (hnl:n=l.length) (A:Option Addr) (c:Nat) (p:BS) (w:World) (B:Nat) (hr:Reads w B 5 A n (cellsK encSnap l)) (hB:B≤w.heap.size) (hn:n≤5000000000000) :
  Calls Tryz.prog 116 #[.agg #[v0,v1,v2,.slice A n c,v4],.string ⟨p.toArray⟩] w fun e w'=>e=.returned (.int .i64 (findN l p))∧Below w.heap.size w w':=by
 have hb1:=(Below.refl w.heap.size w).alloc (Nat.le_refl _) (.cells #[v0,v1,v2,.slice A n c,v4] 42)
 have hb2:=hb1.alloc hb1.size (.cells #[.string ⟨p.toArray⟩] 9)
 obtain ⟨W2,hW2⟩:∃ W,W=(w.alloc (.cells #[v0,v1,v2,.slice A n c,v4] 42)).alloc (.cells #[.string ⟨p.toArray⟩] 9):=⟨_,rfl⟩
 have hsz:W2.heap.size=w.heap.size+2:=by rw [hW2];simp
 have hk:W2.cell? ⟨w.heap.size+1,0,none⟩=some (.string ⟨p.toArray⟩):=by
  rw [hW2]
  have:=(Blk.new (w.alloc (.cells #[v0,v1,v2,.slice A n c,v4] 42)) 9 #[.string ⟨p.toArray⟩]).cell 0
  rw [show (w.alloc (.cells #[v0,v1,v2,.slice A n c,v4] 42)).heap.size=w.heap.size+1 by simp] at this
  exact this
 rw [← hW2] at hb2
 have HC:=Lib.hid (fiSnap_index (fun x=>.string ⟨x.nm.toArray⟩) (fun x=>.int .i64 x.gd) (fun x=>.slice x.body.A x.body.n x.body.c) (fun x=>.slice x.tags.A x.tags.n x.tags.c) (fun x=>.slice x.own.A x.own.n x.own.c) (fun x=>x.nm == p) l n hnl A c ⟨w.heap.size+1,0,none⟩ (fun W=>W.cell? ⟨w.heap.size+1,0,none⟩=some (.string ⟨p.toArray⟩)∧w.heap.size+1<W.heap.size) W2 B (hr.below (hb2.mono hB)) (by omega) hn
  ⟨fun x W _ hK=>snapC_any x.nm _ _ _ _ p _ W hK.2 hK.1,fun W W' hK hb=>⟨(hb.cell (p:=⟨w.heap.size+1,0,none⟩) hK.2).trans hK.1,Nat.lt_of_lt_of_le hK.2 hb.size⟩⟩ ⟨hk,by omega⟩)
 have HB:=Lib.hid hb2
 have HSZ:=Lib.hid hsz
 clear hnl hr hk hsz hb1 hb2
 go_enter Tryz.func116,Tryz.ntmps116
 go_wp2_with fail
 rw [← hW2]
 refine HC.out.mono ?_
 rintro e w1 ⟨rfl,hb3⟩
 go_wp2_with fail
 go_ret
 exact ⟨rfl,HB.out.trans (hb3.mono (by have:=HSZ.out;omega))⟩
end Go.Proofs.YtmladblmknbgnaaGreatDoor
namespace Go.Proofs.YtmladblmknbgnaaGreatDoor
open Go.RowKit
theorem scells_enc (l:List BS):cellsK encS l=scells l:=by
 unfold cellsK encS scells
 induction l with
 | nil=>rfl
 | cons x l ih=>rw [List.flatMap_cons,ih];rfl
set_option maxRecDepth 100000 in
set_option maxHeartbeats 1000000 in
theorem indexS_any (l:List BS) (x:BS) (n:Nat) (hnl:n=l.length) (A:Option Addr) (c:Nat) (w:World) (B:Nat) (hr:Reads w B 1 A n (scells l)) (hn:n≤5000000000000) :
  Calls Tryz.prog 152 #[.slice A n c,.string ⟨x.toArray⟩] w fun e w'=>e=.returned (.int .i64 (firstI (fun y=>y == x) l))∧w'=w:=by
 have HN:=Lib.hid hnl
 clear hnl
 go_enter Tryz.func152,Tryz.ntmps152
 go_wp2_with fail
 go_loopw [8] (fun j wr=>∃ k:Nat,k≤n∧j=.int .i64 (k:Int)∧Hid (∀ y∈l.take k,(y == x)=false)∧wr=w) (fun j _=>n-(intOf j).toNat)
 case atStart=>exact ⟨0,Nat.zero_le _,rfl,(show ∀ y∈_,_ by simp),rfl⟩
 case round =>
  obtain ⟨k,hk,rfl,hno,hww⟩:=hrel
  have hww:=hww.symm
  subst hww
  by_cases hlt:k<n
  ·have hki:(k:Int)<(n:Int):=by omega
   have hkl:k<l.length:=by have:=HN.out;omega
   obtain ⟨ad,rfl,_,hcell⟩:=strs_at hr HN.out hlt
   obtain ⟨y,hy⟩:∃ y,y=l[k]'hkl:=⟨_,rfl⟩
   rw [← hy] at hcell
   have htk:=List.take_succ_eq_append_getElem hkl
   rw [← hy] at htk
   have HTK:=Lib.hid htk
   have HX:=Lib.hid (show l[k]?=some y by rw [hy];exact List.getElem?_eq_getElem _)
   simp only [strV] at hcell
   clear hy htk hr
   by_cases hxy:x=y
   ·subst hxy
    go_wp2_with fail
    go_ret
    have hf:=firstP_eq (fun y=>y == x) l k x hno.out HX.out (by simp)
    exact ⟨by unfold firstI;rw [hf,if_pos hkl];rfl,rfl⟩
   ·have hd:(x == y)=false:=by simpa using hxy
    have HD:Hid ((y == x)=false):=by show _=_;simpa using fun e=>hxy e.symm
    clear hxy
    go_wp2_with fail
    go_roundw
    case rel =>
     refine ⟨k+1,by omega,by go_num,?_,trivial⟩
     show ∀ z∈l.take (k+1),(z == x)=false
     intro z hz
     rw [HTK.out] at hz
     rcases List.mem_append.1 hz with hz | hz
     ·exact hno.out z hz
     ·simp at hz;subst hz;exact HD.out
    case measure=>simp [intOf];omega
  ·have hkn:k=n:=by omega
   have HF:Hid (firstI (fun y=>y == x) l=-1):=by
    show _=_
    unfold firstI
    rw [firstP_none _ l (fun y hy=>hno.out y (by rw [List.take_of_length_le (by rw [hkn,HN.out];exact Nat.le_refl _)];exact hy)),if_neg (Nat.lt_irrefl _)]
   clear hr hkn
   go_wp2_with fail
   go_ret
   exact ⟨by rw [HF.out];rfl,rfl⟩
theorem any_contains (l:List BS) (x:BS):l.any (fun y=>y == x)=l.contains x:=by
 rw [Bool.eq_iff_iff,List.any_eq_true,List.contains_iff_mem]
 exact ⟨fun ⟨y,hy,e⟩=>by rw [← (by simpa using e:y=x)];exact hy,fun h=>⟨x,h,by simp⟩⟩
set_option maxRecDepth 100000 in
theorem containsS_any (l:List BS) (x:BS) (n:Nat) (hnl:n=l.length) (A:Option Addr) (c:Nat) (w:World) (B:Nat) (hr:Reads w B 1 A n (scells l)) (hn:n≤5000000000000) :
  Calls Tryz.prog 80 #[.slice A n c,.string ⟨x.toArray⟩] w fun e w'=>e=.returned (.bool (l.contains x))∧w'=w:=by
 have hc:=Lib.hid (indexS_any l x n hnl A c w B hr hn)
 have HA:=Lib.hid ((firstI_any (fun y=>y == x) l).trans (any_contains l x))
 clear hnl hr
 go_enter Tryz.func80,Tryz.ntmps80
 go_wp2_with fail
 refine hc.out.mono ?_
 rintro e w1 ⟨rfl,rfl⟩
 go_wp2_with fail
 go_ret
 exact ⟨by rw [← HA.out];rfl,rfl⟩
set_option maxRecDepth 100000 in
theorem lessS_any (x y:BS) (w:World):Calls Tryz.prog 178 #[.string ⟨x.toArray⟩,.string ⟨y.toArray⟩] w fun e w'=>e=.returned (.bool (Op.bytesLess x y))∧∃ q,w'=w.drewN q:=by
 have hlss:=lssS 9 x y
 go_enter Tryz.func178,Tryz.ntmps178
 go_wp2_with fail
 refine (isNaNS_any x _).mono ?_
 rintro e w1 ⟨rfl,q1,rfl⟩
 go_wp2_with fail
 go_ret
 exact ⟨rfl,q1,rfl⟩
theorem sortF_iff (l:List BS) (p:Option BS):sortF p l=true↔(∀ q x,p=some q→l[0]?=some x→Op.bytesLess x q=false)∧∀ k x y,l[k]?=some x→l[k+1]?=some y→Op.bytesLess y x=false:=by
 induction l generalizing p with
 | nil=>simp [sortF]
 | cons z l ih =>
  rw [sortF_cons,Bool.and_eq_true,ih]
  constructor
  ·rintro ⟨h1,h2,h3⟩
   refine ⟨fun q x hq hx=>?_,fun k x y hx hy=>?_⟩
   ·subst hq
    simp only [zE,Option.some.injEq] at hx
    subst hx
    simpa using h1
   ·cases k with
    | zero =>
     simp only [zE,Option.some.injEq,Nat.zero_add,zD] at hx hy
     subst hx
     exact h2 _ y rfl hy
    | succ k=>exact h3 k x y (by simpa using hx) (by simpa using hy)
  ·rintro ⟨h1,h2⟩
   refine ⟨?_,fun q x hq hx=>?_,fun k x y hx hy=>h2 (k+1) x y (by simpa using hx) (by simpa using hy)⟩
   ·cases p with
    | none=>rfl
    | some q=>simpa using h1 q z rfl (by simp)
   ·cases hq
    exact h2 0 _ x (by simp) (by simpa using hx)
set_option maxRecDepth 100000 in
set_option maxHeartbeats 1000000 in
theorem isSorted_any (l:List BS) (n:Nat) (hnl:n=l.length) (A:Option Addr) (c:Nat) (w:World) (B:Nat) (hr:Reads w B 1 A n (scells l)) (hn:n≤5000000000000) :
  Calls Tryz.prog 234 #[.slice A n c] w fun e w'=>e=.returned (.bool (sortF none l))∧∃ q,w'=w.drewN q:=by
 have HN:=Lib.hid hnl
 have HS:=Lib.hid (sortF_iff l none)
 obtain ⟨V,hV⟩:∃ V,V=sortF none l:=⟨_,rfl⟩
 rw [← hV] at HS ⊢
 clear hnl hV
 have i3:IntKind.i64.wrap ((n:Int)-1)=(n:Int)-1:=IntWalk.i64_in _ (by omega)
 go_enter Tryz.func234,Tryz.ntmps234
 go_wp2_with fail
 clear i3
 go_loopw [3] (fun j wr=>∃ z:Int,-1≤z∧z≤(n:Int)-1∧j=.int .i64 z∧Hid (∀ (k:Nat) x y,z≤(k:Int)→l[k]?=some x→l[k+1]?=some y→Op.bytesLess y x=false)∧∃ q,wr=w.drewN q) (fun j _=>(intOf j).toNat)
 case atStart =>
  refine ⟨(n:Int)-1,by omega,by omega,rfl,?_,0,rfl⟩
  show ∀ (k:Nat) x y,_→_→_→_
  intro k x y hk hx hy
  have h1:=(List.getElem?_eq_some_iff.1 hy).1
  have:=HN.out
  omega
 case round =>
  obtain ⟨z,hz1,hz2,rfl,hok,q,rfl⟩:=hrel
  by_cases hz:0<z
  ·obtain ⟨k,rfl⟩:∃ k:Nat,z=((k+1:Nat):Int):=⟨(z-1).toNat,by omega⟩
   have hk1:k+1<n:=by omega
   obtain ⟨ad,rfl,_,c1⟩:=strs_at hr HN.out hk1
   obtain ⟨ad2,e2,_,c0⟩:=strs_at hr HN.out (show k<n by omega)
   injection e2 with e2
   subst e2
   have hkl:k+1<l.length:=by have:=HN.out;omega
   obtain ⟨x,hx⟩:∃ x,x=l[k]'(by omega):=⟨_,rfl⟩
   obtain ⟨y,hy⟩:∃ y,y=l[k+1]'hkl:=⟨_,rfl⟩
   rw [← hx] at c0
   rw [← hy] at c1
   have HX:=Lib.hid (show l[k]?=some x by rw [hx];exact List.getElem?_eq_getElem _)
   have HY:=Lib.hid (show l[k+1]?=some y by rw [hy];exact List.getElem?_eq_getElem _)
   simp only [strV] at c0 c1
   obtain ⟨K,hK⟩:∃ K,K=k+1:=⟨_,rfl⟩
   have hKk:k=K-1:=by omega
   rw [← hK] at c1 hk1 ⊢
   rw [hKk] at c0
   have i0:(0:Int)<(K:Int):=by omega
   have i1:(1:Int)≤(K:Int):=by omega
   have i5:(K:Int)<(n:Int):=by omega
   have i2:(K:Int)-1<(n:Int):=by omega
   have i3:IntKind.i64.wrap ((K:Int)-1)=(K:Int)-1:=IntWalk.i64_in _ (by omega)
   have i4:((K:Int)-1).toNat=K-1:=by omega
   have hL:∀ m,Calls Tryz.prog 178 #[.string ⟨y.toArray⟩,.string ⟨x.toArray⟩] (w.drewN (q+m)) fun e W'=>e=.returned (.bool (Op.bytesLess y x))∧∃ n,W'=w.drewN (q+n):=fun m=>by
    refine (lessS_any y x _).mono ?_
    rintro e w1 ⟨rfl,p,rfl⟩
    exact ⟨rfl,m+p,by rw [World.drewN_drewN,Nat.add_assoc]⟩
   obtain ⟨b,hb⟩:∃ b,b=Op.bytesLess y x:=⟨_,rfl⟩
   rw [← hb] at hL
   have HB:=Lib.hid hb
   have HK:=Lib.hid hK
   clear hx hy hb hr hK hKk
   cases b with
   | true =>
    have HV:Hid (V=false):=by
     show _=_
     rw [← Bool.not_eq_true]
     intro e
     have:=(HS.out.1 e).2 k x y HX.out HY.out
     rw [← HB.out] at this
     cases this
    go_wp2_with fail
    go_big_quiet ((go_at_call 178;exact hL _))
    clear hL
    go_wp2_with fail
    go_ret
    exact ⟨by rw [HV.out];rfl,_,World.drewN_drewN _ _ _⟩
   | false =>
    go_wp2_with fail
    go_big_quiet ((go_at_call 178;exact hL _))
    clear hL
    go_wp2_with fail
    go_roundw
    case rel =>
     refine ⟨(K:Int)-1,by omega,by omega,by go_num,?_,_,rfl⟩
     show ∀ (k:Nat) x y,_→_→_→_
     intro k' x' y' hk' hx' hy'
     by_cases e:k'=k
     ·subst e
      rw [HX.out] at hx'
      rw [HY.out] at hy'
      cases hx'
      cases hy'
      exact HB.out.symm
     ·exact hok.out k' x' y' (by have:=HK.out;omega) hx' hy'
    case measure=>simp [intOf];omega
  ·have HV:Hid (V=true):=by
    show _=_
    exact HS.out.2 ⟨fun q x h=>(by cases h),fun k x y hx hy=>hok.out k x y (by omega) hx hy⟩
   clear hr
   go_wp2_with fail
   go_ret
   exact ⟨by rw [HV.out];rfl,q,rfl⟩
set_option maxRecDepth 100000 in
set_option maxHeartbeats 1000000 in
theorem unlike_any (l:List BS) (n:Nat) (hnl:n=l.length) (A:Option Addr) (c:Nat) (hnc:n≤c) (w:World) (B:Nat) (hr:Reads w B 1 A n (scells l)) (hB:B≤w.heap.size) (hn:n≤5000000000000) :
  Calls Tryz.prog 222 #[.slice A n c] w fun e w'=>e=.returned (.bool (unlikeB l))∧Below w.heap.size w w':=by
 have HN:=Lib.hid hnl
 have HV:Hid (unlikeB l=unlikeF [] l):=rfl
 obtain ⟨V,hV⟩:∃ V,V=unlikeB l:=⟨_,rfl⟩
 rw [← hV] at HV ⊢
 clear hnl hV
 go_enter Tryz.func222,Tryz.ntmps222
 go_wp2_with fail
 go_loopw [7] (fun j wr=>∃ k:Nat,k≤n∧j=.int .i64 (k:Int)∧Hid (V=unlikeF (l.take k) (l.drop k))∧Below w.heap.size w wr) (fun j _=>n-(intOf j).toNat)
 case atStart=>exact ⟨0,Nat.zero_le _,rfl,HV,Below.refl _ _⟩
 case round =>
  obtain ⟨k,hk,rfl,hok,hbw⟩:=hrel
  by_cases hlt:k<n
  ·have hki:(k:Int)<(n:Int):=by omega
   have hkl:k<l.length:=by have:=HN.out;omega
   have hrw:=hr.below (hbw.mono hB)
   obtain ⟨ad,rfl,_,hcell⟩:=strs_at hrw HN.out hlt
   obtain ⟨x,hx⟩:∃ x,x=l[k]'hkl:=⟨_,rfl⟩
   rw [← hx] at hcell
   have htk:=List.take_succ_eq_append_getElem hkl
   have hdr:=List.drop_eq_getElem_cons hkl
   rw [← hx] at htk hdr
   have HU:Hid (V=(nameB x && !((l.take k).contains x) && unlikeF (l.take (k+1)) (l.drop (k+1)))):=by
    show _=_
    rw [hok.out,hdr,unlikeF_cons,htk]
   have hN:=name_any ⟨x.toArray⟩ wr
   rw [show (ByteArray.mk x.toArray).data.toList=x from rfl] at hN
   have hcn:∀ W,Below wr.heap.size wr W→Calls Tryz.prog 80 #[.slice (some ad) k c,.string ⟨x.toArray⟩] W fun e w'=>e=.returned (.bool ((l.take k).contains x))∧w'=W:=by
    intro W hW
    have hr2:=((hrw.below (hW.mono (by have:=hbw.size;omega))).pre (k:=k) (by omega))
    rw [Nat.mul_one,show (scells l).take k=scells (l.take k) by unfold scells;rw [List.map_take]] at hr2
    exact containsS_any (l.take k) x k (by rw [List.length_take];omega) (some ad) c W B hr2 (by omega)
   have hkc:(k:Int)≤(c:Int):=by omega
   simp only [strV] at hcell
   obtain ⟨bn,hbn⟩:∃ b,b=nameB x:=⟨_,rfl⟩
   obtain ⟨bc,hbc⟩:∃ b,b=(l.take k).contains x:=⟨_,rfl⟩
   rw [← hbn] at hN HU
   rw [← hbc] at hcn HU
   have HCN:=Lib.hid hcn
   clear hx htk hdr hbn hbc hr hrw hcn hok
   cases bn with
   | false =>
    have HV1:Hid (V=false):=by show _=_;rw [HU.out];rfl
    go_wp2_with fail
    refine hN.mono ?_
    rintro e w1 ⟨rfl,hb1⟩
    go_wp2_with fail
    go_ret
    exact ⟨by rw [HV1.out];rfl,hbw.trans (hb1.mono hbw.size)⟩
   | true =>
    go_wp2_with fail
    refine hN.mono ?_
    clear hN
    rintro e w1 ⟨rfl,hb1⟩
    have hbf:=hbw.trans (hb1.mono hbw.size)
    have hcl:=HCN.out _ hb1
    clear hb1 hbw HCN
    go_wp2_with fail
    refine hcl.mono ?_
    clear hcl
    rintro e w2 ⟨rfl,rfl⟩
    cases bc with
    | true =>
     have HV1:Hid (V=false):=by show _=_;rw [HU.out];rfl
     go_wp2_with fail
     go_ret
     exact ⟨by rw [HV1.out];rfl,hbf⟩
    | false =>
     have HG:Hid (V=unlikeF (l.take (k+1)) (l.drop (k+1))):=by show _=_;rw [HU.out];rfl
     go_wp2_with fail
     go_roundw
     case rel=>exact ⟨k+1,by omega,by go_num,HG,hbf⟩
     case measure=>simp [intOf];omega
  ·have hkn:k=n:=by omega
   have HF:Hid (V=true):=by
    show _=_
    rw [hok.out,List.drop_of_length_le (by rw [hkn,HN.out];exact Nat.le_refl _)]
    rfl
   clear hr hkn hok
   go_wp2_with fail
   go_ret
   exact ⟨by rw [HF.out];rfl,hbw⟩
set_option maxRecDepth 100000 in
set_option maxHeartbeats 1000000 in
theorem tagged_any (l:List BS) (n:Nat) (hnl:n=l.length) (A:Option Addr) (c:Nat) (hnc:n≤c) (w:World) (B:Nat) (hr:Reads w B 1 A n (scells l)) (hB:B≤w.heap.size) (hn:n≤5000000000000) :
  Calls Tryz.prog 221 #[.slice A n c] w fun e w'=>e=.returned (.bool (tagsB l))∧Below w.heap.size w w':=by
 have hU:=unlike_any l n hnl A c hnc w B hr hB hn
 have hS:=Lib.hid (fun W (hW:Below w.heap.size w W)=>isSorted_any l n hnl A c W B (hr.below (hW.mono hB)) hn)
 have HV:Hid (tagsB l=(decide (n≤4) && (unlikeB l && sortF none l))):=by show _=_;rw [tagged_eq,hnl];rfl
 obtain ⟨V,hV⟩:∃ V,V=tagsB l:=⟨_,rfl⟩
 obtain ⟨bu,hbu⟩:∃ V,V=unlikeB l:=⟨_,rfl⟩
 obtain ⟨bs,hbs⟩:∃ V,V=sortF none l:=⟨_,rfl⟩
 rw [← hV] at HV ⊢
 rw [← hbu] at HV hU
 rw [← hbs] at HV hS
 clear hnl hV hbu hbs hr
 by_cases h4:n≤4
 ·have hi:(n:Int)≤4:=by omega
  have HV2:Hid (V=(bu && bs)):=by show _=_;rw [HV.out,decide_eq_true h4];rfl
  cases bu with
  | false =>
   have HV3:Hid (V=false):=by show _=_;rw [HV2.out];rfl
   go_enter Tryz.func221,Tryz.ntmps221
   go_wp2_with fail
   refine hU.mono ?_
   rintro e w1 ⟨rfl,hb1⟩
   go_wp2_with fail
   go_ret
   exact ⟨by rw [HV3.out];rfl,hb1⟩
  | true =>
   have HV3:Hid (V=bs):=by show _=_;rw [HV2.out];rfl
   go_enter Tryz.func221,Tryz.ntmps221
   go_wp2_with fail
   refine hU.mono ?_
   rintro e w1 ⟨rfl,hb1⟩
   go_wp2_with fail
   refine (hS.out _ hb1).mono ?_
   rintro e w2 ⟨rfl,q,rfl⟩
   go_wp2_with fail
   go_ret
   exact ⟨by rw [HV3.out];rfl,below_drewN hb1 q⟩
 ·have hi:¬ (n:Int)≤4:=by omega
  have HV2:Hid (V=false):=by show _=_;rw [HV.out,decide_eq_false h4];rfl
  go_enter Tryz.func221,Tryz.ntmps221
  go_wp2_with fail
  go_ret
  exact ⟨by rw [HV2.out];rfl,Below.refl _ _⟩
end Go.Proofs.YtmladblmknbgnaaGreatDoor
namespace Go.Proofs.YtmladblmknbgnaaGreatDoor
open Go.RowKit
theorem set_at {w:World} {B n:Nat} {A:Option Addr} {l:List SetR} (h:Reads w B 5 A n (cellsK encSet l)) (hn:n=l.length) {i:Nat} (hi:i<n) :
  ∃ ad,A=some ad∧ad.block<B∧w.cell? (ad.add (i*5))=some (.string ⟨(l[i]'(by omega)).path.toArray⟩)∧w.cell? ⟨(ad.add (i*5)).block,(ad.add (i*5)).off+1,none⟩=some (.string ⟨(l[i]'(by omega)).org.toArray⟩) ∧
   w.cell? ⟨(ad.add (i*5)).block,(ad.add (i*5)).off+2,none⟩=some (.slice (l[i]'(by omega)).body.A (l[i]'(by omega)).body.n (l[i]'(by omega)).body.c)∧w.cell? ⟨(ad.add (i*5)).block,(ad.add (i*5)).off+3,none⟩=some (.slice (l[i]'(by omega)).snaps.A (l[i]'(by omega)).snaps.n (l[i]'(by omega)).snaps.c)∧w.cell? ⟨(ad.add (i*5)).block,(ad.add (i*5)).off+4,none⟩=some (.slice (l[i]'(by omega)).own.A (l[i]'(by omega)).own.n (l[i]'(by omega)).own.c) :=
 Reads.el5 (f0:=fun x:SetR=>.string ⟨x.path.toArray⟩) (f1:=fun x=>.string ⟨x.org.toArray⟩) (f2:=fun x=>.slice x.body.A x.body.n x.body.c) (f3:=fun x=>.slice x.snaps.A x.snaps.n x.snaps.c) (f4:=fun x=>.slice x.own.A x.own.n x.own.c) h hn hi
theorem firstI_cases {α:Type} (p:α→Bool) (l:List α):(firstI p l=-1∧l.find? p=none)∨∃ (k:Nat) (h:k<l.length),firstI p l=(k:Int)∧l.find? p=some (l[k]'h):=by
 cases hf:l.find? p with
 | none =>
  have h:=List.find?_eq_none.1 hf
  refine .inl ⟨?_,rfl⟩
  unfold firstI
  rw [firstP_none p l (fun y hy=>by simpa using h y hy),if_neg (Nat.lt_irrefl _)]
 | some x =>
  obtain ⟨hp,i,hi,e,hb⟩:=List.find?_eq_some_iff_getElem.1 hf
  refine .inr ⟨i,hi,?_,by rw [e]⟩
  have:firstP p l=i:=firstP_eq p l i x (fun y hy=>by
   obtain ⟨j,hj,e2⟩:=List.mem_iff_getElem.1 hy
   rw [List.getElem_take] at e2
   have:=hb j (by rw [List.length_take] at hj;omega)
   rw [e2] at this
   simpa using this) (by rw [List.getElem?_eq_getElem hi,e]) hp
  unfold firstI
  rw [this,if_pos hi]
theorem splitV_cases (l:BS):(splitL l=none∧splitV l=.tuple #[.string ⟨#[]⟩,.string ⟨#[]⟩,.int .i64 31])∨∃ p n:BS,splitL l=some (p,n)∧splitV l=.tuple #[.string ⟨p.toArray⟩,.string ⟨n.toArray⟩,.int .i64 0]∧p.length≤l.length∧n.length≤l.length:=by
 unfold splitL splitV
 cases h:atL l with
 | none=>exact .inl ⟨rfl,rfl⟩
 | some pn =>
  obtain ⟨p,n⟩:=pn
  have:=atL_len _ _ _ h
  by_cases hc:(pathB p && nameB n)=true
  ·exact .inr ⟨p,n,by simp only [if_pos hc],by simp only [if_pos hc],by omega,by omega⟩
  ·exact .inl ⟨by simp only [if_neg hc],by simp only [if_neg hc]⟩
def originP (all:List SetR) (sp so:BS):Bool:=so == [] || match splitL so with
 | none=>false
 | some (p,n)=>!(p == sp) && match all.find? (fun x=>x.path == p) with
  | none=>false
  | some x=>x.snaps.l.any fun y=>y.nm == n
set_option maxRecDepth 100000 in
set_option maxHeartbeats 2000000 in
theorem origin_any (v0 v1 v2 v4 v5 v6 v7 v8 v9:Value) (all:List SetR) (n:Nat) (hnl:n=all.length) (A:Option Addr) (c:Nat) (sp so:BS) (w:World) (B:Nat) (hr:Reads w B 5 A n (cellsK encSet all)) (he:∀ y∈all,y.rd w B) (hB:B≤w.heap.size) (hn:n≤1000000000000) (hv:∀ y∈all,y.sz) (hs:so.length≤4000000000) (hmx:HasMax w) :
  Calls Tryz.prog 198 #[.agg #[v0,v1,v2,.slice A n c,v4,v5,v6],.agg #[.string ⟨sp.toArray⟩,.string ⟨so.toArray⟩,v7,v8,v9]] w fun e w'=>e=.returned (.bool (originP all sp so))∧Below w.heap.size w w':=by
 have hb1:=(Below.refl w.heap.size w).alloc (Nat.le_refl _) (.cells #[v0,v1,v2,.slice A n c,v4,v5,v6] 27)
 have hb2:=hb1.alloc hb1.size (.cells #[.string ⟨sp.toArray⟩,.string ⟨so.toArray⟩,v7,v8,v9] 42)
 have k1:=(Blk.new w 27 #[v0,v1,v2,.slice A n c,v4,v5,v6]).alloc (.cells #[.string ⟨sp.toArray⟩,.string ⟨so.toArray⟩,v7,v8,v9] 42)
 have k2:=Blk.new (w.alloc (.cells #[v0,v1,v2,.slice A n c,v4,v5,v6] 27)) 42 #[.string ⟨sp.toArray⟩,.string ⟨so.toArray⟩,v7,v8,v9]
 rw [show (w.alloc (.cells #[v0,v1,v2,.slice A n c,v4,v5,v6] 27)).heap.size=w.heap.size+1 by simp] at k2
 obtain ⟨W2,hW2⟩:∃ W,W=(w.alloc (.cells #[v0,v1,v2,.slice A n c,v4,v5,v6] 27)).alloc (.cells #[.string ⟨sp.toArray⟩,.string ⟨so.toArray⟩,v7,v8,v9] 42):=⟨_,rfl⟩
 have hsz:W2.heap.size=w.heap.size+2:=by rw [hW2];simp
 rw [← hW2] at hb2 k1 k2
 have hS:=Lib.hid (fun (W':World) (hB':Below W2.heap.size W2 W') =>
  (⟨(k1.below hB' (by omega)).cell 0,(k1.below hB' (by omega)).cell 1,(k1.below hB' (by omega)).cell 2,(k1.below hB' (by omega)).cell 3,(k1.below hB' (by omega)).cell 4,(k1.below hB' (by omega)).cell 5,(k1.below hB' (by omega)).cell 6,(k2.below hB' (by omega)).cell 0⟩ :
   W'.cell? ⟨w.heap.size,0,none⟩=some v0∧W'.cell? ⟨w.heap.size,1,none⟩=some v1∧W'.cell? ⟨w.heap.size,2,none⟩=some v2∧W'.cell? ⟨w.heap.size,3,none⟩=some (.slice A n c)∧W'.cell? ⟨w.heap.size,4,none⟩=some v4∧W'.cell? ⟨w.heap.size,5,none⟩=some v5∧W'.cell? ⟨w.heap.size,6,none⟩=some v6∧W'.cell? ⟨w.heap.size+1,0,none⟩=some (.string ⟨sp.toArray⟩)))
 have HSZ:=Lib.hid hsz
 have HB:=Lib.hid hb2
 have HNL:=Lib.hid hnl
 have hR:=Lib.hid (fun (W':World) (hB':Below W2.heap.size W2 W')=>(⟨hr.below ((hb2.trans (hB'.mono (by omega))).mono hB),hB'.size,hmx.below (hb2.trans (hB'.mono (by omega))),fun y hy=>⟨(he y hy).body.below ((hb2.trans (hB'.mono (by omega))).mono hB),(he y hy).snaps.below ((hb2.trans (hB'.mono (by omega))).mono hB)⟩⟩:Reads W' B 5 A n (cellsK encSet all)∧W2.heap.size≤W'.heap.size∧HasMax W'∧∀ y∈all,y.body.rd W' B 2 encB∧y.snaps.rd W' B 5 encSnap))
 have HV:=Lib.hid hv
 clear k1 k2 hsz hb1 hb2 hnl hr he hv
 by_cases ho:so=[]
 ·subst ho
  have HE:Hid (originP all sp []=true):=rfl
  go_enter Tryz.func198,Tryz.ntmps198
  go_wp2_with fail
  rw [← hW2]
  go_ret
  exact ⟨by rw [HE.out];rfl,HB.out⟩
 ·have ho1:(so == [])=false:=by simpa using ho
  have ho2:so.isEmpty=false:=by cases so <;> simp_all
  have HE:Hid (originP all sp so=match splitL so with
   | none=>false
   | some (p,n)=>!(p == sp) && match all.find? (fun x=>x.path == p) with
    | none=>false
    | some x=>x.snaps.l.any fun y=>y.nm == n):=by show _=_;unfold originP;rw [ho1];rfl
  obtain ⟨V,hV⟩:∃ V,V=originP all sp so:=⟨_,rfl⟩
  rw [← hV] at HE ⊢
  have hspl:=fun (hm:HasMax W2)=>split_any ⟨so.toArray⟩ W2 (by show so.length≤_;exact hs) hm
  rw [show (ByteArray.mk so.toArray).data.toList=so from rfl] at hspl
  have hspl:=hspl (hmx.below HB.out)
  have HO:=Lib.hid ho
  clear hV ho
  rcases splitV_cases so with ⟨h1,h2⟩ | ⟨p,m,h1,h2,h3,h4⟩
  ·rw [h2] at hspl
   rw [h1] at HE
   clear h1 h2
   go_enter Tryz.func198,Tryz.ntmps198
   go_wp2_with fail
   rw [← hW2]
   refine hspl.mono ?_
   clear hspl
   rintro e w1 ⟨rfl,hb1⟩
   obtain ⟨q0,q1,q2,q3,q4,q5,q6,q7⟩:=hS.out _ hb1
   obtain ⟨r1,r2,r3,r4⟩:=hR.out _ hb1
   have hfi:=find_any v0 v1 v2 v4 v5 v6 all n HNL.out A c [] w1 B r1 (by have:=HSZ.out;omega) (by omega)
   have HB1:=Lib.hid hb1
   clear r1 r2 r3 r4 hb1
   go_wp2_with fail
   refine hfi.mono ?_
   clear hfi
   rintro e w2 ⟨rfl,hb2⟩
   go_wp2_with fail
   go_ret
   exact ⟨by rw [HE.out];rfl,HB.out.trans ((HB1.out.trans (hb2.mono HB1.out.size)).mono (by have:=HSZ.out;omega))⟩
  ·rw [h2] at hspl
   rw [h1] at HE
   clear h1 h2
   have HE:Hid (V=(!(p == sp) && match all.find? (fun x=>x.path == p) with
    | none=>false
    | some x=>x.snaps.l.any fun y=>y.nm == m)):=HE
   go_enter Tryz.func198,Tryz.ntmps198
   go_wp2_with fail
   rw [← hW2]
   refine hspl.mono ?_
   clear hspl
   rintro e w1 ⟨rfl,hb1⟩
   obtain ⟨q0,q1,q2,q3,q4,q5,q6,q7⟩:=hS.out _ hb1
   obtain ⟨r1,r2,r3,r4⟩:=hR.out _ hb1
   have hfi:=find_any v0 v1 v2 v4 v5 v6 all n HNL.out A c p w1 B r1 (by have:=HSZ.out;omega) (by omega)
   obtain ⟨z,hz⟩:∃ z,z=findS all p:=⟨_,rfl⟩
   rw [← hz] at hfi
   have HB1:=Lib.hid hb1
   have HZ:=Lib.hid hz
   clear r1 r2 r3 r4 hb1 hz
   go_wp2_with fail
   refine hfi.mono ?_
   clear hfi q0 q1 q2 q3 q4 q5 q6 q7
   rintro e w2 ⟨rfl,hb2⟩
   have HB2:=Lib.hid (HB1.out.trans (hb2.mono HB1.out.size))
   clear hb2 HB1
   obtain ⟨q0,q1,q2,q3,q4,q5,q6,q7⟩:=hS.out _ HB2.out
   by_cases hps:p=sp
   ·have hpb:(p == sp)=true:=by simpa using hps
    have HE2:Hid (V=false):=by show _=_;rw [HE.out,hpb];rfl
    subst hps
    go_wp2_with fail
    go_ret
    exact ⟨by rw [HE2.out];rfl,HB.out.trans (HB2.out.mono (by have:=HSZ.out;omega))⟩
   ·have hpb:(p == sp)=false:=by simpa using hps
    have HE2:Hid (V=match all.find? (fun x=>x.path == p) with
     | none=>false
     | some x=>x.snaps.l.any fun y=>y.nm == m):=by show _=_;rw [HE.out,hpb];rfl
    clear hps HE
    rcases firstI_cases (fun x:SetR=>x.path == p) all with ⟨f1,f2⟩ | ⟨k,hk,f1,f2⟩
    ·have hz:z=-1:=HZ.out.trans f1
     rw [f2] at HE2
     subst hz
     clear f1 f2
     go_wp2_with fail
     go_ret
     exact ⟨by rw [HE2.out];rfl,HB.out.trans (HB2.out.mono (by have:=HSZ.out;omega))⟩
    ·have hz:z=(k:Int):=HZ.out.trans f1
     rw [f2] at HE2
     subst hz
     obtain ⟨r1,r2,r3,r4⟩:=hR.out _ HB2.out
     have hkn:k<n:=by have:=HNL.out;omega
     have hki:(k:Int)<(n:Int):=by omega
     obtain ⟨ad,rfl,-,c0,c1,c2,c3,c4⟩:=set_at r1 HNL.out hkn
     obtain ⟨x,hx⟩:∃ x,x=all[k]'hk:=⟨_,rfl⟩
     rw [← hx] at c0 c1 c2 c3 c4 HE2
     have hxm:x∈all:=by rw [hx];exact List.getElem_mem _
     obtain ⟨_,r5⟩:=r4 x hxm
     have hsn:=HV.out x hxm
     have HC:=Lib.hid (snapAt_any (.string ⟨x.path.toArray⟩) (.string ⟨x.org.toArray⟩) (.slice x.body.A x.body.n x.body.c) (.slice x.own.A x.own.n x.own.c) x.snaps.l x.snaps.n r5.1 x.snaps.A x.snaps.c m w2 B r5.2.2 (by have:=HSZ.out;omega) (by have:=hsn.snaps;omega))
     have HA:=Lib.hid (firstI_any (fun y:SnapR=>y.nm == m) x.snaps.l)
     have HE3:Hid (V=x.snaps.l.any fun y=>y.nm == m):=HE2
     obtain ⟨xp,xo,⟨b1,b2,b3,bl⟩,⟨s1,s2,s3,sl⟩,⟨o1,o2,o3,ol⟩⟩:=x
     simp only at c0 c1 c2 c3 c4 HC HA HE3
     clear hx f1 f2 HE2 r1 r2 r3 r4 r5 hsn hxm hR HZ HV HNL
     go_wp2_with fail
     refine HC.out.mono ?_
     rintro e w3 ⟨rfl,hb3⟩
     have HBF:=Lib.hid (HB.out.trans ((HB2.out.trans (hb3.mono HB2.out.size)).mono (by have:=HSZ.out;omega)))
     have HA2:Hid (V=decide ((0:Int)≤findN sl m)):=by show _=_;rw [HE3.out];exact HA.out.symm
     clear c0 c1 c2 c3 c4 hb3 HC HA HE3
     go_wp2_with fail
     go_ret
     exact ⟨by rw [HA2.out];rfl,HBF.out⟩
end Go.Proofs.YtmladblmknbgnaaGreatDoor
