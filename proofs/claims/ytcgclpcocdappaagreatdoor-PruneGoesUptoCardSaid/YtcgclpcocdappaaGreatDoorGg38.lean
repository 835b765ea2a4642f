/-
  The page's Grants, by its contract (for tenants). 'append' into a row that is known whole and has room. slices.Delete of one element, at elements of 5 cells, by its contract. A drawn region whose operations read and make memory, and whose last one, behind all others, may do whatever it does. A drawn region whose operations read and make memory, with one operation S that changes what was made ahead of it, and a last one, L, that does too. Short words for drawn regions with a store: what stands ahead of it, by reckoning; the values that an operation waits for.
-/
import Derived.WalkKit
import Derived.WalkSpells
import Derived.Below
import Derived.Laws.OwnMore
import Derived.Deep.AppendLies
import Derived.Deep.Draws
import Derived.Laws.Rows
import Derived.Maps.AppendAt
import Derived.RegionTactic
import Derived.OwnWalk
import Derived.Deep.QuietTactic
import Derived.BigQuiet
import Derived.Lib.Hide
import Derived.Laws.CopyOwn
import Derived.IntWalk
import Derived.Deep.Quiet
import Derived.Handy
import Derived.Test.YtcgclpcocdappaaGreatDoorRows
import Derived.Orders
import Derived.Lib.SplitLaws
import Derived.Lib.LastIndexByte
import Derived.Lib.Strings
import Derived.ShutString
import Derived.Sort.Walk0
import Derived.Sort.KeysCollected
import Derived.Shelf.Strings.Search1
import Derived.Shelf.Strings.Search2
import Derived.Shelf.Strings.Search3
import Derived.Shelf.Strings.Cut
import Derived.Shelf.Strings.Count
import Derived.Shelf.LaysM
import Derived.Shelf.Strings.Shaped
import Derived.Shelf.Strings.LastIndex
import Derived.Shelf.Strings.Split
import Derived.Shelf.Strings.SplitShaped
import Derived.Shelf.Unicode.Decode
import Derived.Shelf.Strings.RuneCount
import Derived.Shelf.Strings.Explode
import Derived.Shelf.Unicode.DecodeSlow
import Derived.Test.YtcgclpcocdappaaGreatDoorProg
import Derived.Laws.BytesString
import Derived.Laws.IdiomStrings
import Derived.Lib.ConvBytes
import Derived.Lib.Overlaps
import Derived.Lib.AppendZerosOnto
import Derived.Deep.RegionLaw
import Derived.Test.YtcgclpcocdappaaGreatDoorG0
import Derived.Test.YtcgclpcocdappaaGreatDoorGg1
import Derived.Test.YtcgclpcocdappaaGreatDoorGg3
import Derived.Test.YtcgclpcocdappaaGreatDoorGg5
import Derived.Test.YtcgclpcocdappaaGreatDoorGg7
import Derived.Test.YtcgclpcocdappaaGreatDoorGg9
import Derived.Test.YtcgclpcocdappaaGreatDoorGg10
import Derived.Test.YtcgclpcocdappaaGreatDoorGg13
import Derived.Test.YtcgclpcocdappaaGreatDoorGg16
import Derived.Test.YtcgclpcocdappaaGreatDoorGg22
import Derived.Test.YtcgclpcocdappaaGreatDoorGg31
import Derived.Test.YtcgclpcocdappaaGreatDoorGg32
import Derived.Test.YtcgclpcocdappaaGreatDoorGg36
namespace Go.Proofs.YtcgclpcocdappaaGreatDoor
open Go.RowKit
set_option maxRecDepth 100000 in
set_option maxHeartbeats 4000000 in
theorem refGrants_any (l:GL) (n:Nat) (hnl:n=l.length) (A:Option Addr) (c:Nat) (w:World) (B:Nat) (hr:Reads w B 3 A n (gcells l)) (hB:B≤w.heap.size) (hn:n≤5000000000000) (hv:lenG l) :
  Calls Tryz.prog 65 #[.slice A n c] w fun e w'=>e=.returned (.int .i64 (grantsE l))∧Below w.heap.size w w':=by
 have HN:=Lib.hid hnl
 obtain ⟨E,hE⟩:∃ E,E=grantsE l:=⟨_,rfl⟩
 have hPE:Hid (∀ b,grantsFrom none l=b→E=if b=true∧n≤16 then 0 else 9):=by
  show ∀ b,_→_
  rintro b rfl
  rw [hE]
  unfold grantsE grantsB
  rw [← hnl]
  by_cases h8:n≤16
  ·simp [h8]
  ·simp [h8]
 rw [← hE]
 clear hnl hE
 go_enter Tryz.func65,Tryz.ntmps65
 go_wp2_with fail
 go_loopw [3] (fun j wr=>∃ k:Nat,k≤n∧j=.int .i64 (k:Int)∧Hid (grantsFrom none l=grantsFrom (prevG l k) (l.drop k))∧Below w.heap.size w wr) (fun j _=>n-(intOf j).toNat)
 case atStart=>exact ⟨0,Nat.zero_le _,rfl,rfl,Below.refl _ _⟩
 case round =>
  obtain ⟨k,hk,rfl,hok,hbw⟩:=hrel
  by_cases hlt:k<n
  ·have hrw:=hr.below (hbw.mono hB)
   obtain ⟨ad,rfl,hadB,c0,c1,c2⟩:=hrw.el3 HN.out hlt
   have hki:(k:Int)<(n:Int):=by omega
   have hkl:k<l.length:=by have:=HN.out;omega
   obtain ⟨x,hx⟩:∃ x,x=l[k]'hkl:=⟨_,rfl⟩
   have hxl:=hv x (by rw [hx];exact List.getElem_mem _)
   rw [← hx] at c0 c1 c2
   have hdr:=List.drop_eq_getElem_cons hkl
   rw [← hx] at hdr
   have HX:=Lib.hid hx
   have HDR:=Lib.hid hdr
   obtain ⟨xu,xp,xz⟩:=x
   simp only at c0 c1 c2 hxl
   have hb1:=hbw.alloc hbw.size (.cells #[.string ⟨xu.toArray⟩,.string ⟨xp.toArray⟩,.int .i64 xz] 147)
   have hbad:Hid ((nameB xu=false∨pathB xp=false∨xz<1∨255<xz∨(∃ y,prevG l k=some y∧¬ cmpG y.1 y.2.1 xu xp<0))→E=9):=by
    show _→_
    intro h
    rw [hPE.out false]
    ·rfl
    rw [hok.out,HDR.out,grantsFrom_cons]
    unfold grantB
    rcases h with h | h | h | h | ⟨y,hy,h⟩
    ·simp only [h];rfl
    ·simp only [h];simp
    ·simp only [decide_eq_false (show ¬ 1≤xz by omega)];simp
    ·simp only [decide_eq_false (show ¬ xz≤255 by omega)];simp
    ·rw [hy];simp only [decide_eq_false h];simp
   have hgood:Hid (nameB xu=true→pathB xp=true→1≤xz→xz≤255→(∀ y,prevG l k=some y→cmpG y.1 y.2.1 xu xp<0)→grantsFrom none l=grantsFrom (prevG l (k+1)) (l.drop (k+1))):=by
    show _→_→_→_→_→_
    intro h1 h2 h4 h5 h3
    rw [hok.out,HDR.out]
    have hp:prevG l (k+1)=some (xu,xp,xz):=by
     show l[k]?=_
     rw [List.getElem?_eq_getElem hkl,← HX.out]
    rw [hp,grantsFrom_cons]
    unfold grantB
    simp only [h1,h2,decide_eq_true h4,decide_eq_true h5]
    cases hq:prevG l k with
    | none=>rfl
    | some y=>simp only [decide_eq_true (h3 y hq)];rfl
   have hN:∀ W,Calls Tryz.prog 63 #[.string ⟨xu.toArray⟩] W fun e W'=>e=.returned (.bool (nameB xu))∧W'=W:=fun W=>refName_s ⟨xu.toArray⟩ W (by show xu.length≤_;omega)
   have hV:∀ W,Calls Tryz.prog 115 #[.string ⟨xp.toArray⟩] W fun e W'=>e=.returned (.bool (pathB xp))∧Below W.heap.size W W':=fun W=>refPath_any ⟨xp.toArray⟩ W (by show xp.length≤_;exact hxl.2)
   have hwlt:wr.heap.size<(wr.alloc (.cells #[.string ⟨xu.toArray⟩,.string ⟨xp.toArray⟩,.int .i64 xz] 147)).heap.size:=by simp
   have k0:=(Blk.new wr 147 #[.string ⟨xu.toArray⟩,.string ⟨xp.toArray⟩,.int .i64 xz]).cell 0
   have k1:=(Blk.new wr 147 #[.string ⟨xu.toArray⟩,.string ⟨xp.toArray⟩,.int .i64 xz]).cell 1
   have k2:=(Blk.new wr 147 #[.string ⟨xu.toArray⟩,.string ⟨xp.toArray⟩,.int .i64 xz]).cell 2
   have hbsz:=hbw.size
   have hS:=Lib.hid (fun (W':World) (hB':Below (wr.alloc (.cells #[.string ⟨xu.toArray⟩,.string ⟨xp.toArray⟩,.int .i64 xz] 147)).heap.size (wr.alloc (.cells #[.string ⟨xu.toArray⟩,.string ⟨xp.toArray⟩,.int .i64 xz] 147)) W') =>
    (⟨(hB'.cell (p:=⟨wr.heap.size,0,none⟩) hwlt).trans k0,(hB'.cell (p:=⟨wr.heap.size,1,none⟩) hwlt).trans k1,(hB'.cell (p:=⟨wr.heap.size,2,none⟩) hwlt).trans k2,hr.below ((hbw.alloc hbw.size (.cells #[.string ⟨xu.toArray⟩,.string ⟨xp.toArray⟩,.int .i64 xz] 147)).trans (hB'.mono (Nat.le_trans hbsz (Nat.le_of_lt hwlt))) |>.mono hB)⟩ :
     W'.cell? ⟨wr.heap.size,0,none⟩=some (.string ⟨xu.toArray⟩)∧W'.cell? ⟨wr.heap.size,1,none⟩=some (.string ⟨xp.toArray⟩)∧W'.cell? ⟨wr.heap.size,2,none⟩=some (.int .i64 xz)∧Reads W' B 3 (some ad) n (gcells l)))
   clear hx hdr hok hxl hv k0 k1 k2
   obtain ⟨bn,hbn0⟩:∃ b,b=nameB xu:=⟨_,rfl⟩
   obtain ⟨bp,hbp0⟩:∃ b,b=pathB xp:=⟨_,rfl⟩
   rw [← hbn0] at hbad hgood hN
   rw [← hbp0] at hbad hgood hV
   clear hbn0 hbp0
   cases bn with
   | false =>
    have HB:=Lib.hid (hbad.out (.inl rfl))
    clear hr hrw hbad hgood hV hS
    go_wp2_with fail
    refine (hN _).mono ?_
    rintro e w4 ⟨rfl,rfl⟩
    go_wp2_with fail
    go_ret
    exact ⟨by rw [HB.out];rfl,hb1⟩
   | true =>
    cases bp with
    | false =>
     have HB:=Lib.hid (hbad.out (.inr (.inl rfl)))
     clear hr hrw hbad hgood
     go_wp2_with fail
     refine (hN _).mono ?_
     rintro e w4 ⟨rfl,rfl⟩
     go_wp2_with fail
     refine (hV _).mono ?_
     rintro e w5 ⟨rfl,hb5⟩
     have hbf:=hb1.trans (hb5.mono hb1.size)
     obtain ⟨q0,q1,q2,hprev⟩:=hS.out _ hb5
     clear hS hb5 hb1
     clear hprev
     go_wp2_with fail
     go_ret
     exact ⟨by rw [HB.out];rfl,hbf⟩
    | true =>
     by_cases z1:xz<1
     ·have HB:=Lib.hid (hbad.out (.inr (.inr (.inl z1))))
      clear hr hrw hbad hgood
      go_wp2_with fail
      refine (hN _).mono ?_
      rintro e w4 ⟨rfl,rfl⟩
      go_wp2_with fail
      refine (hV _).mono ?_
      rintro e w5 ⟨rfl,hb5⟩
      have hbf:=hb1.trans (hb5.mono hb1.size)
      obtain ⟨q0,q1,q2,hprev⟩:=hS.out _ hb5
      clear hS hb5 hb1
      clear hprev
      go_wp2_with fail
      go_ret
      exact ⟨by rw [HB.out];rfl,hbf⟩
     by_cases z2:255<xz
     ·have HB:=Lib.hid (hbad.out (.inr (.inr (.inr (.inl z2)))))
      clear hr hrw hbad hgood
      go_wp2_with fail
      refine (hN _).mono ?_
      rintro e w4 ⟨rfl,rfl⟩
      go_wp2_with fail
      refine (hV _).mono ?_
      rintro e w5 ⟨rfl,hb5⟩
      have hbf:=hb1.trans (hb5.mono hb1.size)
      obtain ⟨q0,q1,q2,hprev⟩:=hS.out _ hb5
      clear hS hb5 hb1
      clear hprev
      go_wp2_with fail
      go_ret
      exact ⟨by rw [HB.out];rfl,hbf⟩
     rcases Nat.eq_zero_or_pos k with h0 | h0
     ·have HG:=Lib.hid (hgood.out rfl rfl (by omega) (by omega) (fun y hy=>by subst h0;cases hy))
      have d4:decide ((0:Int)<(k:Int))=false:=by simp;omega
      have d4':decide (0<k)=false:=by simp;omega
      clear h0 hr hrw hbad hgood
      go_wp2_with fail
      refine (hN _).mono ?_
      rintro e w4 ⟨rfl,rfl⟩
      go_wp2_with fail
      refine (hV _).mono ?_
      rintro e w5 ⟨rfl,hb5⟩
      have hbf:=hb1.trans (hb5.mono hb1.size)
      obtain ⟨q0,q1,q2,hprev⟩:=hS.out _ hb5
      clear hS hb5 hb1
      clear hprev
      go_wp2_with fail
      go_big_quiet (fail)
      go_wp2_with fail
      go_roundw
      case rel=>exact ⟨k+1,by omega,by go_num,HG,below_drewN hbf _⟩
      case measure=>simp [intOf];omega
     ·have d4:decide ((0:Int)<(k:Int))=true:=by simp;omega
      have d4':decide (0<k)=true:=by simp;omega
      have hk1l:k-1<l.length:=by omega
      obtain ⟨y,hy⟩:∃ y,y=l[k-1]'hk1l:=⟨_,rfl⟩
      have hpv:prevG l k=some y:=by
       obtain ⟨j,rfl⟩:∃ j,k=j+1:=⟨k-1,by omega⟩
       show l[j]?=_
       have hj:j<l.length:=by simpa using hk1l
       rw [List.getElem?_eq_getElem hj,hy]
       rfl
      have i1:(1:Int)≤(k:Int):=by omega
      have i2:(k:Int)-1<(n:Int):=by omega
      have i3:IntKind.i64.wrap ((k:Int)-1)=(k:Int)-1:=IntWalk.i64_in _ (by omega)
      have i4:((k:Int)-1).toNat=k-1:=by omega
      have HP:Hid (∀ W',Reads W' B 3 (some ad) n (gcells l)→W'.cell? (ad.add ((k-1)*3))=some (.string ⟨y.1.toArray⟩)∧W'.cell? ⟨(ad.add ((k-1)*3)).block,(ad.add ((k-1)*3)).off+1,none⟩=some (.string ⟨y.2.1.toArray⟩)):=by
       show ∀ W',_→_
       intro W' hr'
       obtain ⟨ad2,e2,-,p0,p1,-⟩:=(hr'.el3 HN.out (i:=k-1) (by omega))
       injection e2 with e2
       subst e2
       rw [← hy] at p0 p1
       exact ⟨p0,p1⟩
      obtain ⟨yu,yp,yz⟩:=y
      simp only at HP
      have hgt:=gtrS 9 yu xu
      have hge:=geqS 9 yp xp
      have hbadO:=fun (h:¬ cmpG yu yp xu xp<0)=>hbad.out (.inr (.inr (.inr (.inr ⟨_,hpv,h⟩))))
      have hgoodO:=fun (h:cmpG yu yp xu xp<0)=>hgood.out rfl rfl (by omega) (by omega) (fun y' hy'=>by rw [hpv] at hy';cases hy';exact h)
      clear hbad hgood h0 hpv hy hr hrw
      by_cases hyx:yu=xu
      ·subst hyx
       rw [show (Op.bytesLess yu yu || yu == yu)=true by simp] at hgt
       by_cases hpp:Op.bytesLess yp xp=true
       ·have HG:=Lib.hid (hgoodO ((cmpG_neg _ _ _ _).2 (.inr ⟨rfl,hpp⟩)))
        rw [hpp] at hge
        clear hbadO hgoodO hpp
        go_wp2_with fail
        refine (hN _).mono ?_
        rintro e w4 ⟨rfl,rfl⟩
        go_wp2_with fail
        refine (hV _).mono ?_
        rintro e w5 ⟨rfl,hb5⟩
        have hbf:=hb1.trans (hb5.mono hb1.size)
        obtain ⟨q0,q1,q2,hprev⟩:=hS.out _ hb5
        clear hS hb5 hb1
        obtain ⟨p0,p1⟩:=HP.out _ hprev
        clear hprev
        go_wp2_with fail
        go_big_quiet (fail)
        clear hgt hge
        go_wp2_with fail
        go_roundw
        case rel=>exact ⟨k+1,by omega,by go_num,HG,below_drewN hbf _⟩
        case measure=>simp [intOf];omega
       ·have HB:=Lib.hid (hbadO (fun h=>by
         rcases (cmpG_neg _ _ _ _).1 h with h | h
         ·rw [bl_irrefl] at h;cases h
         ·exact hpp h.2))
        rw [show Op.bytesLess yp xp=false by simpa using hpp] at hge
        clear hbadO hgoodO hpp
        go_wp2_with fail
        refine (hN _).mono ?_
        rintro e w4 ⟨rfl,rfl⟩
        go_wp2_with fail
        refine (hV _).mono ?_
        rintro e w5 ⟨rfl,hb5⟩
        have hbf:=hb1.trans (hb5.mono hb1.size)
        obtain ⟨q0,q1,q2,hprev⟩:=hS.out _ hb5
        clear hS hb5 hb1
        obtain ⟨p0,p1⟩:=HP.out _ hprev
        clear hprev
        go_wp2_with fail
        go_big_quiet (fail)
        clear hgt hge
        go_wp2_with fail
        go_ret
        exact ⟨by rw [HB.out];rfl,below_drewN hbf _⟩
      ·have hne:(yu == xu)=false:=by simpa using hyx
       by_cases hbl:Op.bytesLess yu xu=true
       ·have HG:=Lib.hid (hgoodO ((cmpG_neg _ _ _ _).2 (.inl hbl)))
        rw [show (Op.bytesLess yu xu || yu == xu)=true by rw [hbl];rfl] at hgt
        clear hbadO hgoodO hbl hge
        go_wp2_with fail
        refine (hN _).mono ?_
        rintro e w4 ⟨rfl,rfl⟩
        go_wp2_with fail
        refine (hV _).mono ?_
        rintro e w5 ⟨rfl,hb5⟩
        have hbf:=hb1.trans (hb5.mono hb1.size)
        obtain ⟨q0,q1,q2,hprev⟩:=hS.out _ hb5
        clear hS hb5 hb1
        obtain ⟨p0,p1⟩:=HP.out _ hprev
        clear hprev
        go_wp2_with fail
        go_big_quiet (fail)
        clear hgt
        go_wp2_with fail
        go_roundw
        case rel=>exact ⟨k+1,by omega,by go_num,HG,below_drewN hbf _⟩
        case measure=>simp [intOf];omega
       ·have HB:=Lib.hid (hbadO (fun h=>by
         rcases (cmpG_neg _ _ _ _).1 h with h | h
         ·exact hbl h
         ·exact hyx h.1))
        rw [show (Op.bytesLess yu xu || yu == xu)=false by rw [hne,show Op.bytesLess yu xu=false by simpa using hbl];rfl] at hgt
        clear hbadO hgoodO hbl hge
        go_wp2_with fail
        refine (hN _).mono ?_
        rintro e w4 ⟨rfl,rfl⟩
        go_wp2_with fail
        refine (hV _).mono ?_
        rintro e w5 ⟨rfl,hb5⟩
        have hbf:=hb1.trans (hb5.mono hb1.size)
        obtain ⟨q0,q1,q2,hprev⟩:=hS.out _ hb5
        clear hS hb5 hb1
        obtain ⟨p0,p1⟩:=HP.out _ hprev
        clear hprev
        go_wp2_with fail
        go_big_quiet (fail)
        clear hgt
        go_wp2_with fail
        go_ret
        exact ⟨by rw [HB.out];rfl,below_drewN hbf _⟩
  ·have hkn:k=n:=by omega
   have hF:Hid (E=if n≤16 then 0 else 9):=by
    show _=_
    rw [hPE.out true]
    ·simp
    rw [hok.out,List.drop_of_length_le (by rw [hkn,HN.out];exact Nat.le_refl _)]
    rfl
   clear hok hr hkn hPE
   by_cases h8:n≤16
   ·have hi8:¬ (16:Int)<(n:Int):=by omega
    have HV:Hid (E=0):=by show _=_;rw [hF.out,if_pos h8]
    clear hF
    go_wp2_with fail
    go_ret
    exact ⟨by rw [HV.out];rfl,hbw⟩
   ·have hi8:(16:Int)<(n:Int):=by omega
    have HV:Hid (E=9):=by show _=_;rw [hF.out,if_neg h8]
    clear hF
    go_wp2_with fail
    go_ret
    exact ⟨by rw [HV.out];rfl,hbw⟩
end Go.Proofs.YtcgclpcocdappaaGreatDoor
namespace Go.Proofs.YtcgclpcocdappaaGreatDoor
open Go.RowKit
section
variable {P:Program}
theorem run_append_rowK (w:World) (t ty elem:TypeId) (k:Nat) (g sLen sCap:Nat) (a:Addr) (xLen xCap:Nat) (cur:List Value) (T:TypeId) (cs:List Value)
  (hu:P.underlying t=some (.slice elem)) (hs:(P.info? elem).map (·.size)=some k)
  (hg:w.heap[g]?=some (.cells cur.toArray T (0,0))) (hn:cs.length=xLen*k)
  (hsrc:∀ j v,cs[j]?=some v→w.cell? (a.add j)=some v) (hfit:sLen*k+cs.length≤cur.length) (hroom:sLen+xLen≤sCap) (h1:∀ v∈cs,v.oneCell'=true) :
  (Builtin.append_ #[t,t] ty #[.slice (some ⟨g,0,none⟩) sLen sCap,.slice (some a) xLen xCap]).run P w =
   .ok (.slice (some ⟨g,0,none⟩) (sLen+xLen) sCap) (w.setRow g (splice cur (sLen*k) cs).toArray):=by
 have hl:=run_loadCells_list (P:=P) w a cs hsrc
 have hst:=run_storeCells_at P g (sLen*k) T cs 0 cur.toArray w hg (by simpa using hfit) h1
 cases hq:P.info? elem with
 | none=>simp [hq] at hs
 | some i =>
  have hi:i.size=k:=by simpa [hq] using hs
  simp [Builtin.append_,run_underlying hu,Builtin.lenOf,Builtin.firstCells,sizeOf,typeInfo,hq,hi,← hn,hl,hroom,addr_add0,hst,splice]
theorem wp_appendK {o:Oper} {a:Act} {w:World} {K:Act→World→Prop} {Q:Exit→Act→World→Prop} (d s:Operand) (t:TypeId)
  (ho:o.op=.call { callee:=.builtin .append,args:=#[d,s],argTypes:=#[t,t] }) (elem:TypeId) (k:Nat) (hu:P.underlying t=some (.slice elem)) (hsz:(P.info? elem).map (·.size)=some k)
  (g sLen sCap:Nat) (ad:Addr) (xLen xCap:Nat) (hd:a.eval d=.slice (some ⟨g,0,none⟩) sLen sCap) (hs:a.eval s=.slice (some ad) xLen xCap)
  (cur:List Value) (T:TypeId) (hg:w.heap[g]?=some (.cells cur.toArray T (0,0))) (cs:List Value) (hn:cs.length=xLen*k)
  (hsrc:∀ j v,cs[j]?=some v→w.cell? (ad.add j)=some v) (hfit:sLen*k+cs.length≤cur.length) (hroom:sLen+xLen≤sCap) (h1:∀ v∈cs,v.oneCell'=true)
  (h:∀ w',Hid (w'.heap[g]?=some (.cells (splice cur (sLen*k) cs).toArray T (0,0)))→w.grownBy w' (some g)→K (a.put o.dst (.slice (some ⟨g,0,none⟩) (sLen+xLen) sCap)) w'):o.wp P a w K Q:=by
 have hrun:=run_append_rowK (P:=P) w t o.type elem k g sLen sCap ad xLen xCap cur T cs hu hsz hg hn hsrc hfit hroom h1
 unfold Oper.wp
 simp [execOp,ho,resolve,invoke,builtin,hd,hs,hrun,Result.andThen]
 exact h _ (show _=_ by simpa [splice] using setRow_heap w g _ _ T _ hg) (grown_setRow _)
theorem step_appendK {ops:Array Oper} {o:Oper} {a:Act} {w:World} {K:Act→World→Prop} {Q:Exit→Act→World→Prop} {E:Prop} (hgd:o.guard=none) (d s:Operand) (t:TypeId)
  (ho:o.op=.call { callee:=.builtin .append,args:=#[d,s],argTypes:=#[t,t] }) (elem:TypeId) (k:Nat) (hu:P.underlying t=some (.slice elem)) (hsz:(P.info? elem).map (·.size)=some k)
  (g sLen sCap:Nat) (ad:Addr) (xLen xCap:Nat) (hd:a.eval d=.slice (some ⟨g,0,none⟩) sLen sCap) (hs:a.eval s=.slice (some ad) xLen xCap)
  (cur:List Value) (T:TypeId) (hg:w.heap[g]?=some (.cells cur.toArray T (0,0))) (cs:List Value) (hn:cs.length=xLen*k)
  (hsrc:∀ j v,cs[j]?=some v→w.cell? (ad.add j)=some v) (hfit:sLen*k+cs.length≤cur.length) (hroom:sLen+xLen≤sCap) (h1:∀ v∈cs,v.oneCell'=true)
  (h:∀ w',Hid (w'.heap[g]?=some (.cells (splice cur (sLen*k) cs).toArray T (0,0)))→w.grownBy w' (some g)→K (a.put o.dst (.slice (some ⟨g,0,none⟩) (sLen+xLen) sCap)) w') :
  if Region.wanted o (yielded ops a.tmps)=true then Oper.wp P o a w K Q else E:=by
 have hw:Region.wanted o (yielded ops a.tmps)=true:=by simp [Region.wanted,hgd]
 rw [if_pos hw]
 exact wp_appendK d s t ho elem k hu hsz g sLen sCap ad xLen xCap hd hs cur T hg cs hn hsrc hfit hroom h1 h
end
end Go.Proofs.YtcgclpcocdappaaGreatDoor
namespace Go.Proofs.YtcgclpcocdappaaGreatDoor
open Go.RowKit
theorem Tryz.delSnap_size:(Tryz.prog.info? 57).map (·.size)=some 5:=by kernel_rfl
theorem Tryz.delSnap_zero (w:World):(zeroValue 57).run Tryz.prog w=.ok (.agg #[.string ByteArray.empty,.int .i64 0,.slice none 0 0,.slice none 0 0,.slice none 0 0]) w:=by kernel_rfl
theorem delSnap_splice (cur:List Value) (n i c0:Nat) (xs:List Value) (hx:cur.take (n*5)=xs) (hi:i<n) (hn:n≤c0) (hl:cur.length=c0*5) (zs:List Value) (hz:zs.length=1*5) :
  (splice (splice cur (i*5) (xs.drop ((i+1)*5))) ((n-1)*5) zs).take ((n-1)*5)=xs.take (i*5)++xs.drop ((i+1)*5)∧(splice (splice cur (i*5) (xs.drop ((i+1)*5))) ((n-1)*5) zs).length=c0*5:=by
 have hxl:xs.length=n*5:=by rw [← hx,List.length_take];omega
 have hdl:(xs.drop ((i+1)*5)).length=(n-1-i)*5:=by rw [List.length_drop,hxl];omega
 have h1:(splice cur (i*5) (xs.drop ((i+1)*5))).length=c0*5:=by
  unfold splice
  simp only [List.length_append,List.length_take,List.length_drop] at hdl ⊢
  omega
 refine ⟨?_,?_⟩
 ·have e1:(splice (splice cur (i*5) (xs.drop ((i+1)*5))) ((n-1)*5) zs).take ((n-1)*5)=(splice cur (i*5) (xs.drop ((i+1)*5))).take ((n-1)*5):=by
   show List.take _ (List.take _ (splice cur (i*5) (xs.drop ((i+1)*5)))++(zs++_))=_
   rw [List.take_append_of_le_length (by rw [List.length_take,h1];omega),List.take_take,Nat.min_self]
  rw [e1]
  have hc:cur.take (i*5)=xs.take (i*5):=by rw [← hx,List.take_take,Nat.min_eq_left (by omega)]
  have hL:(xs.take (i*5)++xs.drop ((i+1)*5)).length=(n-1)*5:=by rw [List.length_append,List.length_take,hdl,hxl];omega
  show List.take _ (cur.take (i*5)++(xs.drop ((i+1)*5)++_))=_
  rw [hc,← List.append_assoc,List.take_append_of_le_length (by rw [hL];exact Nat.le_refl _)]
  exact List.take_of_length_le (by rw [hL];exact Nat.le_refl _)
 ·show (List.take _ (splice cur (i*5) (xs.drop ((i+1)*5)))++(zs++List.drop _ _)).length=_
  rw [List.length_append,List.length_append,List.length_take,List.length_drop,h1,hz]
  omega
set_option maxRecDepth 100000 in
set_option maxHeartbeats 1000000 in
theorem delSnap_any (xs:List Value) (h1:∀ u∈xs,u.oneCell'=true) (n i c0 base:Nat) (A0:Option Addr) (w:World) (hi:i<n) (hn:n≤5000000000000) (hown:w.ownsRow base 57 5 (.slice A0 n c0) n xs) :
  Calls Tryz.prog 71 #[.slice A0 n c0,.int .i64 i,.int .i64 ((i:Int)+1)] w fun e w'=>∃ v,e=.returned v∧w'.ownsRow base 57 5 v (n-1) (xs.take (i*5)++xs.drop ((i+1)*5))∧w.grownBy w' (Value.slice A0 n c0).ownBlock:=by
 rcases hown.2 with ⟨_,h0⟩ | ⟨g,cap,cur,hs,hbg,hh,hnc,hcm,hsz,hx⟩
 ·omega
 injection hs with e1 _ e2
 subst e1 e2
 have hh':w.heap[g]?=some (.cells cur.toList.toArray 57 (0,0)):=by simpa using hh
 have hcl:cur.toList.length=c0*5:=by simpa using hsz
 obtain ⟨cl,hcl0⟩:∃ cl,cl=cur.toList:=⟨_,rfl⟩
 rw [← hcl0] at hh' hcl hx
 have hxl:xs.length=n*5:=hown.1
 have hdl:(xs.drop ((i+1)*5)).length=(n-1-i)*5:=by rw [List.length_drop,hxl];omega
 have hcells:∀ (w':World),w'.heap[g]?=w.heap[g]?→∀ j v,(xs.drop ((i+1)*5))[j]?=some v→w'.cell? ((⟨g,(i+1)*5,none⟩:Addr).add j)=some v:=by
  intro w' hw j v hv
  have hv2:cl[(i+1)*5+j]?=some v:=by
   rw [List.getElem?_drop,← hx] at hv
   obtain ⟨hlt,_⟩:=List.getElem?_eq_some_iff.1 hv
   rw [List.length_take] at hlt
   rwa [List.getElem?_take_of_lt (by omega)] at hv
  have had:(⟨g,(i+1)*5,none⟩:Addr).add j=⟨g,(i+1)*5+j,none⟩:=by unfold Addr.add;split <;> simp_all
  rw [had,cell_of_row w' g _ _ _ _ (hw.trans hh')]
  simpa using hv2
 have hni:(i:Int)+1≤(n:Int):=by omega
 have hin:(i:Int)≤(n:Int):=by omega
 have hnci:(n:Int)≤(c0:Int):=by omega
 have hcmi:c0≤9223372036854775807:=by unfold maxLen at hcm;omega
 have hne:(((i:Int)) == (i:Int)+1)=false:=by rw [beq_eq_false_iff_ne];omega
 have ht1:((i:Int)+1).toNat=i+1:=by omega
 have hsub:n-(i+1)=n-1-i:=by omega
 have hi1c:(i:Int)+1≤(c0:Int):=by omega
 have hic:(i:Int)≤(c0:Int):=by omega
 have hi0:(0:Int)≤(i:Int)+1:=by omega
 have HC:=Lib.hid hcells
 have HH:=Lib.hid hh'
 have HDL:=Lib.hid hdl
 have HXL:=Lib.hid hxl
 have HCL:=Lib.hid hcl
 have HX:=Lib.hid hx
 have H1:=Lib.hid (fun u hu=>h1 u (List.mem_of_mem_drop (i:=(i+1)*5) hu))
 have HSP:=Lib.hid (fun zs hz=>delSnap_splice cl n i c0 xs hx hi hnc hcl zs hz)
 have hgl:g<w.heap.size:=heap_lt hh'
 clear hcells hh' hdl hxl hcl hx h1 hown hh hsz hcl0
 go_enter Tryz.func71,Tryz.ntmps71
 go_wp2_with fail
 by_cases hlast:c0=i+1
 ·have hnl:n=i+1:=by omega
  subst hlast
  subst hnl
  have hic2:(i:Int)≤(i:Int)+1:=by omega
  have hnil:xs.drop ((i+1)*5)=[]:=List.drop_eq_nil_of_le (by rw [HXL.out];exact Nat.le_refl _)
  have HNIL:=Lib.hid hnil
  clear hnil
  go_region_law (refine step_appendK rfl _ _ 39 rfl 57 5 Tryz.underlying39 Tryz.delSnap_size g i (i+1) ⟨g,0,none⟩ 0 0 (by simp [Act.eval,Act.put]) (by simp [Act.eval,Act.put]) cl 57 HH.out [] (by simp) (by simp) (by rw [HCL.out];simp;omega) (by omega) (by simp) ?_;intro w1 hg1 hgr1)
  have hgr:=grown_drew hgr1
  have HGR:=Lib.hid hgr
  have HG1:=hg1
  have hz1:∀ u∈(.agg #[.string ByteArray.empty,.int .i64 0,.slice none 0 0,.slice none 0 0,.slice none 0 0]:Value).cells.toList,u.oneCell'=true:=fun u hu=>List.all_eq_true.1 (show ((.agg #[.string ByteArray.empty,.int .i64 0,.slice none 0 0,.slice none 0 0,.slice none 0 0]:Value).cells.toList.all (·.oneCell'))=true from rfl) u hu
  clear hg1 hgr1 hgr
  simp only [Act.put,zA]
  go_wp2_with (with_reducible refine wpList_clearK rfl (.tmp 31) 39 rfl 57 (.agg #[.string ByteArray.empty,.int .i64 0,.slice none 0 0,.slice none 0 0,.slice none 0 0]) Tryz.underlying39 Tryz.delSnap_zero hz1 g (i*5) 1 1 (by simp [Act.eval]) (splice cl (i*5) ([])) 57 HG1.out (by simp [splice,Value.cells,HCL.out];omega) ?_;intro w2 zs hzs hg2 hgr2)
  have hzz:zs.length=1*5:=by rw [hzs];rfl
  have hsp:=HSP.out zs hzz
  rw [HNIL.out,Nat.add_sub_cancel] at hsp
  have hrow:=own_of_row (base:=base) hg2.out hbg (Nat.le_succ i) hcm hsp.2 hsp.1
  have hgr:=HGR.out.trans hgr2
  have HROW:=Lib.hid hrow
  clear hrow hsp hg2 hgr2 hzs hzz
  go_ret
  exact ⟨_,rfl,by rw [HNIL.out];exact HROW.out,hgr⟩
 ·have hlt2:i+1<c0:=by omega
  obtain ⟨p,hp⟩:∃ p,p=n-1:=⟨_,rfl⟩
  have hip:i+(n-1-i)=p:=by omega
  have hnp1:n-p=1:=by omega
  have hpn:(p:Int)≤(n:Int):=by omega
  have hpc:(p:Int)≤(c0:Int):=by omega
  have hcp:¬ c0=p:=by omega
  have HIP:=Lib.hid hip
  have HP:=Lib.hid hp
  clear hip hp
  go_region_law (refine step_appendK rfl _ _ 39 rfl 57 5 Tryz.underlying39 Tryz.delSnap_size g i c0 ⟨g,(i+1)*5,none⟩ (n-1-i) (c0-(i+1)) (by simp [Act.eval,Act.put]) (by simp [Act.eval,Act.put]) cl 57 HH.out (xs.drop ((i+1)*5)) HDL.out (HC.out _ rfl) (by rw [HDL.out,HCL.out];omega) (by omega) H1.out ?_;intro w1 hg1 hgr1)
  have hgr:=grown_drew hgr1
  have HGR:=Lib.hid hgr
  have HG1:=hg1
  have hz1:∀ u∈(.agg #[.string ByteArray.empty,.int .i64 0,.slice none 0 0,.slice none 0 0,.slice none 0 0]:Value).cells.toList,u.oneCell'=true:=fun u hu=>List.all_eq_true.1 (show ((.agg #[.string ByteArray.empty,.int .i64 0,.slice none 0 0,.slice none 0 0,.slice none 0 0]:Value).cells.toList.all (·.oneCell'))=true from rfl) u hu
  clear hg1 hgr1 hgr
  simp only [Act.put,zA]
  rw [HIP.out]
  go_wp2_with (with_reducible refine wpList_clearK rfl (.tmp 31) 39 rfl 57 (.agg #[.string ByteArray.empty,.int .i64 0,.slice none 0 0,.slice none 0 0,.slice none 0 0]) Tryz.underlying39 Tryz.delSnap_zero hz1 g (p*5) 1 (c0-p) (by simp [Act.eval]) (splice cl (i*5) (xs.drop ((i+1)*5))) 57 HG1.out (by have h2:=(HSP.out (.agg #[.string ByteArray.empty,.int .i64 0,.slice none 0 0,.slice none 0 0,.slice none 0 0]:Value).cells.toList rfl).2;have h3:=HDL.out;have h4:=HCL.out;have h5:=HP.out;unfold splice;simp only [List.length_append,List.length_take,List.length_drop] at h3 ⊢;simp [Value.cells];omega) ?_;intro w2 zs hzs hg2 hgr2)
  have hzz:zs.length=1*5:=by rw [hzs];rfl
  have hsp:=HSP.out zs hzz
  rw [← HP.out] at hsp
  have hrow:=own_of_row (base:=base) hg2.out hbg (by have:=HP.out;omega) hcm hsp.2 hsp.1
  have hgr:=HGR.out.trans hgr2
  have HROW:=Lib.hid hrow
  clear hrow hsp hg2 hgr2 hzs hzz
  go_ret
  exact ⟨_,rfl,by rw [← HP.out];exact HROW.out,hgr⟩
end Go.Proofs.YtcgclpcocdappaaGreatDoor
namespace Go.Proofs.YtcgclpcocdappaaGreatDoor
open Go.RowKit
section
variable {P:Program} {ops:Array Oper}
def depsOf (ops:Array Oper) (i:Nat):List Nat:=match ops[i]? with
 | some o=>(o.after.toList.filter fun e=>Region.binds .any e).map (·.on)
 | none=>[]
def reachL (ops:Array Oper):Nat→List Nat→List Nat
 | 0,l=>l
 | f+1,l=>reachL ops f (l++(l.flatMap (depsOf ops)).filter fun i=>!l.contains i).eraseDups
/-- all others stand ahead of the last one -/
def lastOk (ops:Array Oper) (L:Nat):Bool:=(List.range ops.size).all fun i=>i == L || (reachL ops ops.size (depsOf ops L)).contains i
theorem reach_some {m:Nat→Option Value} (hcl:∀ j o',ops[j]?=some o'→(m j).isSome=true→∀ e∈o'.after,Region.binds .any e=true→(m e.on).isSome=true) (f:Nat):∀ l:List Nat,(∀ i∈l,(m i).isSome=true)→∀ i∈reachL ops f l,(m i).isSome=true:=by
 induction f with
 | zero=>intro l h;exact h
 | succ f ih =>
  intro l h
  refine ih _ (fun i hi=>?_)
  rw [List.mem_eraseDups,List.mem_append] at hi
  rcases hi with hi | hi
  ·exact h i hi
  ·obtain ⟨hi,_⟩:=List.mem_filter.1 hi
   obtain ⟨j,hj,hij⟩:=List.mem_flatMap.1 hi
   unfold depsOf at hij
   cases ho:ops[j]? with
   | none=>rw [ho] at hij;cases hij
   | some o =>
    rw [ho] at hij
    obtain ⟨e,he,rfl⟩:=List.mem_map.1 hij
    obtain ⟨he,hb⟩:=List.mem_filter.1 he
    exact hcl j o ho (h j hj) e (Array.mem_toList_iff.1 he) hb
end
end Go.Proofs.YtcgclpcocdappaaGreatDoor
namespace Go.Proofs.YtcgclpcocdappaaGreatDoor
open Go.RowKit
section
variable {P:Program} {ops:Array Oper}
theorem wp_region_two {id:Nat} {a0:Act} {w:World} {Q:Exit→Act→World→Prop} (S L:Nat) (late:List Nat) (hm:P.follows .mixedOrders=true) (hok:regionOk ops a0.tmps.size=true) (hlo:lastOk ops L=true) (hLs:L<ops.size) (hSs:S<ops.size) (hSL:S≠L) (Gs:List (Value→World→Prop)) (hst:∀ p∈Gs,Stays p)
  (hlt:∀ i,i<ops.size→i≠S→i≠L→i ∉ late→∀ m,ClosedM ops m→(m S).isSome=true→(m i).isSome=true)
  (hstep:∀ i o,ops[i]?=some o→i≠S→i≠L→i ∉ late→∀ (m:Nat→Option Value) (W:World),Below w.heap.size w W→m i=none→ClosedM ops m→(∀ e∈o.after,Region.binds .any e=true→∃ v,m e.on=some v∧Says Gs e.on v W) →
   ∀ (A:Act) (K:Act→World→Prop),A=frameM a0 ops m→(∀ v W',Below W.heap.size W W'→Says Gs i v W'→K (A.put o.dst v) W')→if Region.wanted o (yielded ops A.tmps)=true then o.wp P A W K Q else K (A.put o.dst undef) W)
  (R:World→Value→World→Prop)
  (hlate:∀ i o,ops[i]?=some o→i≠S→i≠L→i∈late→∀ (m:Nat→Option Value) (W9 W:World),Below w.heap.size w W9→m i=none→ClosedM ops m→(∀ e∈o.after,Region.binds .any e=true→e.on≠S→∃ v,m e.on=some v∧Says Gs e.on v W9)→(W=W9∨∃ u,m S=some u∧R W9 u W) →
   ∀ (A:Act) (K:Act→World→Prop),A=frameM a0 ops m→(∀ v,(∀ W',Says Gs i v W')→K (A.put o.dst v) W)→if Region.wanted o (yielded ops A.tmps)=true then o.wp P A W K Q else K (A.put o.dst undef) W)
  (hS:∀ o,ops[S]?=some o→∀ (m:Nat→Option Value) (W:World),Below w.heap.size w W→m S=none→ClosedM ops m→(∀ e∈o.after,Region.binds .any e=true→∃ v,m e.on=some v∧Says Gs e.on v W) →
   ∀ (A:Act) (K:Act→World→Prop),A=frameM a0 ops m→(∀ u W',R W u W'→K (A.put o.dst u) W')→if Region.wanted o (yielded ops A.tmps)=true then o.wp P A W K Q else K (A.put o.dst undef) W)
  (hL:∀ o,ops[L]?=some o→∀ (m:Nat→Option Value) (W9 W:World) (u:Value),Below w.heap.size w W9→m L=none→(∀ i,i<ops.size→i≠S→i≠L→∃ v,m i=some v∧Says Gs i v W9)→m S=some u→R W9 u W →
   ∀ (A:Act) (K:Act→World→Prop),A=frameM a0 ops m→(∀ v W',Q .normal (frameM a0 ops (upd m L v)) W'→K (A.put o.dst v) W')→if Region.wanted o (yielded ops A.tmps)=true then o.wp P A W K Q else K (A.put o.dst undef) W) :
  (Code.region id ops true).wp P Q a0 w:=by
 have hsay:∀ i v W W',Says Gs i v W→Below W.heap.size W W'→Says Gs i v W':=by
  intro i v W W' h hb
  unfold Says at h ⊢
  cases hG:Gs[i]? with
  | none=>trivial
  | some p=>rw [hG] at h;exact hst p (List.mem_of_getElem? hG) v W W' h hb
 refine wp_region_inv hm hok (fun m W=>(m L=none∧∃ W9,Below w.heap.size w W9∧(∀ i v,m i=some v→i≠S→Says Gs i v W9)∧ClosedM ops m∧((m S=none∧W=W9)∨∃ u,m S=some u∧R W9 u W))∨((∀ i,i<ops.size→(m i).isSome=true)∧Q .normal (frameM a0 ops m) W))
  (.inl ⟨rfl,_,(Below.refl _ _).drew,fun _ _ h=>(by cases h),fun _ _ _ h=>(by cases h),.inl ⟨rfl,rfl⟩⟩) ?_ ?_
 ·intro i o ho m W hJ hmi hdeps A K hA hK
  have his:i<ops.size:=(Array.getElem?_eq_some_iff.1 ho).1
  rcases hJ with ⟨hLn,W9,hb,hs,hcl,hW⟩ | ⟨hall,_⟩
  ·have hdv:∀ e∈o.after,Region.binds .any e=true→e.on≠S→∃ v,m e.on=some v∧Says Gs e.on v W9:=fun e he hbi hne=>by
    have:=hdeps e he hbi
    cases hme:m e.on with
    | none=>rw [hme] at this;cases this
    | some v=>exact ⟨v,rfl,hs _ _ hme hne⟩
   have hsu:∀ v W',Below W9.heap.size W9 W'→(i≠S→Says Gs i v W')→∀ j u,upd m i v j=some u→j≠S→Says Gs j u W':=fun v W' hbw hSy j u hu hjS=>by
    by_cases hji:j=i
    ·subst hji;rw [upd_self] at hu;injection hu with hu;subst hu;exact hSy hjS
    ·rw [upd_ne m v hji] at hu;exact hsay j u W9 W' (hs j u hu hjS) hbw
   by_cases hiL:i=L
   ·subst hiL
    have hr:=reach_some hcl ops.size (depsOf ops i) (fun k hk=>by
     unfold depsOf at hk
     rw [ho] at hk
     obtain ⟨e,he,rfl⟩:=List.mem_map.1 hk
     obtain ⟨he,hbi⟩:=List.mem_filter.1 he
     exact hdeps e (Array.mem_toList_iff.1 he) hbi)
    have hoth:∀ j,j<ops.size→j≠i→(m j).isSome=true:=fun j hj hne=>by
     have h1:=List.all_eq_true.1 hlo j (List.mem_range.2 hj)
     simp only [Bool.or_eq_true,beq_iff_eq,List.contains_iff_mem] at h1
     rcases h1 with h1 | h1
     ·exact absurd h1 hne
     ·exact hr j h1
    rcases hW with ⟨hn,_⟩ | ⟨u,hu,hR⟩
    ·have:=hoth S hSs hSL
     rw [hn] at this
     cases this
    ·refine hL o ho m W9 W u hb hmi (fun j hj h1 h2=>?_) hu hR A K hA (fun v W' hQ=>hK v W' (.inr ⟨fun j hj=>?_,hQ⟩))
     ·have h3:=hoth j hj h2
      cases hmj:m j with
      | none=>rw [hmj] at h3;cases h3
      | some v=>exact ⟨v,rfl,hs j v hmj h1⟩
     ·by_cases hji:j=i
      ·subst hji;rw [upd_self];rfl
      ·rw [upd_ne m v hji];exact hoth j hj hji
   ·by_cases hiS:i=S
    ·subst hiS
     rcases hW with ⟨_,rfl⟩ | ⟨u,hu,_⟩
     ·refine hS o ho m W hb hmi hcl (fun e he hbi=>hdv e he hbi (fun hne=>by have:=hdeps e he hbi;rw [hne,hmi] at this;cases this)) A K hA fun u W' hR=>hK u W' (.inl ⟨by rw [upd_ne m u (Ne.symm hiL)];exact hLn,W,hb,hsu u W (Below.refl _ _) (fun h=>absurd rfl h),hcl.upd ho hdeps u,.inr ⟨u,upd_self _ _ _,hR⟩⟩)
     ·rw [hmi] at hu;cases hu
    ·by_cases hil:i∈late
     ·refine hlate i o ho hiS hiL hil m W9 W hb hmi hcl hdv (by rcases hW with ⟨_,h⟩ | h;exact .inl h;exact .inr h) A K hA fun v hv=>hK v W (.inl ⟨by rw [upd_ne m v (Ne.symm hiL)];exact hLn,W9,hb,hsu v W9 (Below.refl _ _) (fun _=>hv _),hcl.upd ho hdeps v,?_⟩)
      rw [upd_ne m v (fun e=>hiS e.symm)]
      exact hW
     ·rcases hW with ⟨hn,rfl⟩ | ⟨u,hu,_⟩
      ·refine hstep i o ho hiS hiL hil m W hb hmi hcl (fun e he hbi=>hdv e he hbi (fun hne=>by have:=hdeps e he hbi;rw [hne,hn] at this;cases this)) A K hA fun v W' hbw hSy=>hK v W' (.inl ⟨by rw [upd_ne m v (Ne.symm hiL)];exact hLn,W',below_step hb hbw,hsu v W' hbw (fun _=>hSy),hcl.upd ho hdeps v,.inl ⟨?_,rfl⟩⟩)
       rw [upd_ne m v (fun e=>hiS e.symm)]
       exact hn
      ·have:=hlt i his hiS hiL hil m hcl (by rw [hu];rfl)
       rw [hmi] at this
       cases this
  ·have:=hall i his
   rw [hmi] at this
   cases this
 ·intro m W hJ hall
  rcases hJ with ⟨hLn,_⟩ | ⟨_,hQ⟩
  ·have:=hall L hLs
   rw [hLn] at this
   cases this
  ·exact hQ
end
end Go.Proofs.YtcgclpcocdappaaGreatDoor
namespace Go.Proofs.YtcgclpcocdappaaGreatDoor
open Go.RowKit
section
variable {ops:Array Oper}
theorem reach_closed {m:Nat→Option Value} (hcl:ClosedM ops m) {S:Nat} (hS:(m S).isSome=true):∀ i∈reachL ops ops.size (depsOf ops S),(m i).isSome=true:=by
 refine reach_some hcl ops.size _ (fun k hk=>?_)
 unfold depsOf at hk
 cases ho:ops[S]? with
 | none=>rw [ho] at hk;cases hk
 | some o =>
  rw [ho] at hk
  obtain ⟨e,he,rfl⟩:=List.mem_map.1 hk
  obtain ⟨he,hbi⟩:=List.mem_filter.1 he
  exact hcl S o ho hS e (Array.mem_toList_iff.1 he) hbi
theorem early2 {S L:Nat} {late:List Nat} (h:((List.range ops.size).all fun j=>j == S || (j == L || (late.contains j || (reachL ops ops.size (depsOf ops S)).contains j)))=true) :
  ∀ i,i<ops.size→i≠S→i≠L→i ∉ late→∀ m,ClosedM ops m→(m S).isSome=true→(m i).isSome=true:=by
 intro i hi h1 h2 h3 m hcl hS
 have h4:=List.all_eq_true.1 h i (List.mem_range.2 hi)
 simp only [Bool.or_eq_true,beq_iff_eq,List.contains_iff_mem] at h4
 rcases h4 with h4 | h4 | h4 | h4
 ·exact absurd h4 h1
 ·exact absurd h4 h2
 ·exact absurd h4 h3
 ·exact reach_closed hcl hS i h4
end
/-- what lies in the slot of an operation that a late one waits for -/
theorem eL {o:Oper} {Gs:List (Value→World→Prop)} {W:World} {ops:Array Oper} {a0 A:Act} {m:Nat→Option Value} {val:Value} {S:Nat}
  (hd:∀ e∈o.after,Region.binds .any e=true→e.on≠S→∃ v,m e.on=some v∧Says Gs e.on v W) (hA:A=frameM a0 ops m) (j k:Nat)
  (hm:(o.after.any fun e=>Region.binds .any e && e.on == j)=true:=by kernel_rfl)
  (hp:∀ v,Says Gs j v W→v=val:=by exact fun _ h=>h) (hne:j≠S:=by decide) (hw:ownerOf ops k=some j:=by kernel_rfl) (hk:k<a0.tmps.size:=by exact of_decide_eq_true (by kernel_rfl)):A.tmps[k]?.getD undef=val:=by
 obtain ⟨i,hi,hm⟩:=Array.any_eq_true.1 hm
 obtain ⟨e,he⟩:∃ e,e=o.after[i]:=⟨_,rfl⟩
 rw [← he] at hm
 have he:e∈o.after:=by rw [he];exact Array.getElem_mem hi
 have hb:Region.binds .any e=true:=by cases h:Region.binds .any e <;> simp [h] at hm ⊢
 obtain rfl:e.on=j:=by simpa [hb] using hm
 obtain ⟨v,h1,h2⟩:=hd e he hb hne
 rw [hA]
 exact tmps_own hw (h1.trans (congrArg some (hp v h2))) hk
/-- the end of a late step of one value -/
theorem zL {p:Prop} (h:p:=by
  try clear hdeps
  try clear hcl
  try clear hmi
  have hK0:=hK _ (fun _=>Eq.refl _)
  clear hA hK
  go_simp
  exact hK0):p:=h
end Go.Proofs.YtcgclpcocdappaaGreatDoor
