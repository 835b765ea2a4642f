/-
  The sets of a tenant that may be lie in order: where a path's place is. The reference's Prop, Text, Set, Unset; props.Same: by their contracts. tree.amount; slices.IndexFunc at sets and at snapshots; tree.Find, tree.Snap: by their contracts. slices.Index, Contains, IsSorted at texts; tree.unlike, tree.tagged: by their contracts. tree.origin, by its contract.
-/
import Derived.Test.YtcgclpcocdappaaGreatDoorXM1
import Derived.Test.YtcgclpcocdappaaGreatDoorX0
import Derived.Test.YtcgclpcocdappaaGreatDoorX10
import Derived.Test.YtcgclpcocdappaaGreatDoorX3
import Derived.Test.YtcgclpcocdappaaGreatDoorX11
import Derived.Test.YtcgclpcocdappaaGreatDoorX8
namespace Go.Proofs.YtcgclpcocdappaaGreatDoor
open Go.RowKit
theorem setsB_pairs (l:List SetR) (h:setsB l=true):l.length≤32∧l.Pairwise fun a b=>Op.bytesLess a.path b.path=true:=by
 unfold setsB at h
 simp only [Bool.and_eq_true,decide_eq_true_eq] at h
 exact ⟨h.1.1,((setsFrom_iff l none l).1 h.2).2.1⟩
theorem pairs_asc (l:List SetR) (h:l.Pairwise fun a b=>Op.bytesLess a.path b.path=true) (p:BS):SignAsc (fun s:SetR=>cmpS s.path p) l:=by
 intro i j a b hij ha hb hlt
 obtain ⟨hi,hai⟩:=List.getElem?_eq_some_iff.1 ha
 obtain ⟨hj,hbj⟩:=List.getElem?_eq_some_iff.1 hb
 have h1:=List.pairwise_iff_getElem.1 h i j hi hj hij
 rw [hai,hbj] at h1
 have hlt:cmpS b.path p<0:=hlt
 show cmpS a.path p<0
 rw [cmpS_neg] at hlt ⊢
 exact bl_trans h1 hlt
theorem tenE_ord (t:TenR) (h:tenE t=0):t.sets.l.length≤32∧t.sets.l.Pairwise fun a b=>Op.bytesLess a.path b.path=true:=by
 unfold tenE at h
 have hb:tenB t=true:=by
  by_cases hb:tenB t=true
  ·exact hb
  ·rw [if_neg hb] at h;exact absurd h tZ4
 unfold tenB at hb
 simp only [Bool.and_eq_true] at hb
 exact setsB_pairs _ hb.1.1.1.2
end Go.Proofs.YtcgclpcocdappaaGreatDoor
namespace Go.Proofs.YtcgclpcocdappaaGreatDoor
open Go.RowKit
set_option maxRecDepth 100000 in
set_option maxHeartbeats 1000000 in
theorem rset_any (l:PL) (n:Nat) (hnl:n=l.length) (A:Option Addr) (c:Nat) (nm tx:BS) (w:World) (B:Nat) (hr:Reads w B 2 A n (pcells l)) (hB:B≤w.heap.size) (hn:n≤4398046511104) (hv:strOk l) (hnm:nm.length≤140737488351232) (htx:tx.length≤140737488351232) :
  Calls Tryz.prog 52 #[.slice A n c,.string ⟨nm.toArray⟩,.string ⟨tx.toArray⟩] w (PPost w (putP (nm,tx) l) (setE l nm tx)):=by
 have hp:=refProp_any l nm n hnl A c w B hr tZ1
 have hck:=fun q=>refProps_any l n hnl A c (w.drewN q) B (show Reads _ _ _ _ _ _ from hr) tZ1 hv
 have hNM:=fun W=>refName_any nm W hnm
 have hVA:=fun W=>refValue_any tx W htx
 have hGV:getV l nm=.tuple #[.string ⟨((getP l nm).getD []).toArray⟩,.bool (getP l nm).isSome]:=rfl
 obtain ⟨g,hg⟩:∃ g,g=(getP l nm).getD []:=⟨_,rfl⟩
 obtain ⟨t,ht⟩:∃ t,t=(getP l nm).isSome:=⟨_,rfl⟩
 rw [← hg,← ht] at hGV
 rw [hGV] at hp
 have HT:=Lib.hid ht
 have HN:=Lib.hid hnl
 by_cases hok:propsB l=true
 ·have h1:propsE l=0:=tZ89
  rw [h1] at hck
  have HOK:=Lib.hid hok
  clear hg ht hGV hnl hok h1
  cases hnb:nameB nm with
  | false =>
   have HPE:Hid (setE l nm tx=31):=tZ82
   rw [hnb] at hNM
   clear hnb hr hVA
   go_enter Tryz.func52,Tryz.ntmps52
   go_wp2_with fail
   refine hp.mono ?_
   rintro e w1 ⟨rfl,q1,rfl⟩
   go_wp2_with fail
   refine (hck q1).mono ?_
   rintro e w2 ⟨rfl,q2,hw⟩
   rw [World.drewN_drewN] at hw
   subst hw
   go_wp2_with fail
   refine (hNM _).mono ?_
   rintro e w3 ⟨rfl,hw⟩
   rw [hw]
   clear hw w3
   exact mZ113
  | true =>
   rw [hnb] at hNM
   have HNB:=Lib.hid hnb
   cases hvb:valB tx with
   | false =>
    have HPE:Hid (setE l nm tx=9):=tZ70
    rw [hvb] at hVA
    clear hvb hnb hr
    exact mZ115
   | true =>
    rw [hvb] at hVA
    have HVB:=Lib.hid hvb
    have hso:=propsB_sort l HOK.out
    have h8l:=(propsB_small l HOK.out).1
    have hput:=fun q=>rputP_any nm tx l n HN.out A c (w.drewN q) B (show Reads _ _ _ _ _ _ from hr) hB tZ7
    rw [rput_put (nm,tx) l hso] at hput
    have HPUT:=Lib.hid hput
    clear hput
    by_cases h38:t=false∧n=8
    ·have HPE:Hid (setE l nm tx=3):=by show _=_;unfold setE;rw [if_pos HOK.out,if_pos HNB.out,if_pos HVB.out,if_pos ⟨HT.out.symm.trans h38.1,by rw [← HN.out];exact h38.2⟩]
     obtain ⟨rfl,h8⟩:=h38
     have h8a:((n:Int) == 8)=true:=by simp [h8]
     clear h8 hvb hnb hr h8l hso
     exact mZ115
    ·have HPE:Hid (setE l nm tx=0):=by show _=_;unfold setE;rw [if_pos HOK.out,if_pos HNB.out,if_pos HVB.out,if_neg (fun h=>h38 ⟨HT.out.trans h.1,by rw [HN.out];exact h.2⟩)]
     have hcase:t=true∨(t=false∧((n:Int) == 8)=false):=by
      cases t with
      | true=>exact .inl rfl
      | false=>exact .inr ⟨rfl,by simp;exact fun h=>h38 ⟨rfl,by omega⟩⟩
     clear h38 hvb hnb hr h8l hso
     rcases hcase with rfl | ⟨rfl,h8a⟩
     all_goals
      go_enter Tryz.func52,Tryz.ntmps52
      go_wp2_with fail
      refine hp.mono ?_
      rintro e w1 ⟨rfl,q1,rfl⟩
      go_wp2_with fail
      refine (hck q1).mono ?_
      rintro e w2 ⟨rfl,q2,hw⟩
      rw [World.drewN_drewN] at hw
      subst hw
      go_wp2_with fail
      refine (hNM _).mono ?_
      rintro e w3 ⟨rfl,hw⟩
      rw [hw]
      clear hw w3
      go_wp2_with fail
      refine (hVA _).mono ?_
      rintro e w3 ⟨rfl,hw⟩
      rw [hw]
      clear hw w3
      go_wp2_with fail
      refine (HPUT.out _).mono ?_
      rintro e w4 ⟨v4,rfl,hown,hb⟩
      have HO:=Lib.hid hown
      have HB:=Lib.hid hb
      clear hown hb
      go_wp2_with fail
      go_ret2
      refine ⟨v4,by rw [HPE.out];rfl,?_,(below_drewN (Below.refl _ _) _).trans HB.out⟩
      rw [if_pos HPE.out]
      exact HO.out
 ·have h1:propsE l=9:=tZ90
  rw [h1] at hck
  have HPE:Hid (setE l nm tx=9):=tZ155
  clear hg ht hGV hnl hok h1 hr hVA hNM hv
  go_enter Tryz.func52,Tryz.ntmps52
  exact mZ114
set_option maxRecDepth 100000 in
set_option maxHeartbeats 1000000 in
theorem runset_any (l:PL) (n:Nat) (hnl:n=l.length) (A:Option Addr) (c:Nat) (nm:BS) (w:World) (B:Nat) (hr:Reads w B 2 A n (pcells l)) (hB:B≤w.heap.size) (hn:n≤4398046511104) (hv:strOk l) :
  Calls Tryz.prog 53 #[.slice A n c,.string ⟨nm.toArray⟩] w (PPost w (dropP nm l) (unsetE l nm)):=by
 obtain ⟨i0,hi0,hz0,hz1,hz2⟩:=info_parts Tryz.infoP
 have hp:=refProp_any l nm n hnl A c w B hr tZ1
 have hck:=fun q=>refProps_any l n hnl A c (w.drewN q) B (show Reads _ _ _ _ _ _ from hr) tZ1 hv
 have hGV:getV l nm=.tuple #[.string ⟨((getP l nm).getD []).toArray⟩,.bool (getP l nm).isSome]:=rfl
 obtain ⟨g,hg⟩:∃ g,g=(getP l nm).getD []:=⟨_,rfl⟩
 obtain ⟨t,ht⟩:∃ t,t=(getP l nm).isSome:=⟨_,rfl⟩
 rw [← hg,← ht] at hGV
 rw [hGV] at hp
 have HT:=Lib.hid ht
 have HN:=Lib.hid hnl
 by_cases hok:propsB l=true
 ·have h1:propsE l=0:=tZ89
  rw [h1] at hck
  have HOK:=Lib.hid hok
  clear hg ht hGV hnl hok h1
  cases t with
  | false =>
   have HPE:Hid (unsetE l nm=71):=by show _=_;unfold unsetE;rw [if_pos HOK.out,if_neg (by rw [← HT.out];simp)]
   clear hr
   go_enter Tryz.func53,Tryz.ntmps53
   exact mZ114
  | true =>
   have HPE:Hid (unsetE l nm=0):=by show _=_;unfold unsetE;rw [if_pos HOK.out,if_pos HT.out.symm]
   go_enter Tryz.func53,Tryz.ntmps53
   go_wp2_with fail
   refine hp.mono ?_
   rintro e w1 ⟨rfl,q1,rfl⟩
   go_wp2_with fail
   refine (hck q1).mono ?_
   rintro e w2 ⟨rfl,q2,hw⟩
   rw [World.drewN_drewN] at hw
   subst hw
   go_wp2_with fail
   go_loopw [8,9] (fun o i wr=>∃ (k m:Nat) (A1:Option Addr) (c1:Nat),k≤n∧m≤k∧i=.int .i64 (k:Int)∧o=.slice A1 m c1∧Hid (m=(dropP nm (l.take k)).length)∧wr.ownsRow w.heap.size 78 2 (.slice A1 m c1) m (pcells (dropP nm (l.take k)))∧Below w.heap.size w wr) (fun _ i _=>n-(intOf i).toNat)
   case atStart=>exact ⟨0,0,none,0,Nat.zero_le _,Nat.le_refl _,rfl,rfl,(show _=_ from rfl),⟨rfl,.inl ⟨rfl,rfl⟩⟩,below_drewN (Below.refl _ _) _⟩
   case round =>
    obtain ⟨k,m,A1,c1,hk,hmk,rfl,rfl,hm,hown,hbw⟩:=hrel
    by_cases hlt:k<n
    ·have hki:(k:Int)<(n:Int):=tZ1
     have hkl:k<l.length:=tZ7
     obtain ⟨ad,rfl,hadB,d0,d1⟩:=(hr.below (hbw.mono hB)).prop HN.out hlt
     obtain ⟨x,hx⟩:∃ x,x=l[k]'hkl:=⟨_,rfl⟩
     have htk:=List.take_succ_eq_append_getElem hkl
     rw [← hx] at d0 d1 htk
     obtain ⟨xn,xv⟩:=x
     simp only [strV] at d0 d1
     by_cases hxn:xn=nm
     ·have hd:(xn == nm)=true:=by simp [hxn]
      have hd2:(xn != nm)=false:=by simp [hxn]
      have HT2:Hid (dropP nm (l.take (k+1))=dropP nm (l.take k)):=tZ85
      have HO:=Lib.hid hown
      clear hx htk hr hown hxn
      go_wp2_with fail
      go_roundw
      case rel=>exact ⟨k+1,m,A1,c1,by omega,by omega,by go_num,rfl,(by show _=_;rw [HT2.out];exact hm.out),by rw [HT2.out];exact HO.out,hbw⟩
      case measure=>simp [intOf];omega
     ·have hd:(xn == nm)=false:=by simp [hxn]
      have hd2:(xn != nm)=true:=by simp [hxn]
      have HT2:Hid (dropP nm (l.take (k+1))=dropP nm (l.take k)++[(xn,xv)]):=tZ85
      have hsz2:=hbw.size
      clear hx htk hr hxn
      go_wp2_with (at_builtin;(refine wpList_push _ rfl (.tmp 36) (.tmp 41) 40 rfl w.heap.size 78 i0 (.agg #[.string ByteArray.empty,.string ByteArray.empty]) 2 32 Tryz.underlying40 hi0 hz0 hz1 hz2 rfl tZ4 (.slice A1 m c1) m _ rfl hown 1 #[.string ⟨xn.toArray⟩,.string ⟨xv.toArray⟩] 78 tZ135 rfl tZ5 tZ9 tZ1 hsz2 ?_);intro v5 w5 hown5 hb5 _)
      obtain ⟨A5,c5,rfl,_,_,_⟩:=own_form hown5
      have HB:=Lib.hid (hbw.trans hb5)
      have HO:Hid (w5.ownsRow w.heap.size 78 2 (.slice A5 (m+1) c5) (m+1) (pcells (dropP nm (l.take (k+1))))):=by show World.ownsRow _ _ _ _ _ _ _;rw [HT2.out,pcells_append];exact hown5
      clear hown hown5 hbw hb5 d0 d1
      go_wp2_with fail
      go_roundw
      case rel=>exact ⟨k+1,m+1,A5,c5,by omega,by omega,by go_num,rfl,(by show _=_;rw [HT2.out,List.length_append,← hm.out];rfl),HO.out,HB.out⟩
      case measure=>simp [intOf];omega
    ·have HLL:Hid (m=(dropP nm l).length):=by
      show _=_
      have:=hm.out
      rwa [List.take_of_length_le tZ7] at this
     have HO:Hid (wr.ownsRow w.heap.size 78 2 (.slice A1 m c1) m (pcells (dropP nm l))):=by
      show World.ownsRow _ _ _ _ _ _ _
      rwa [List.take_of_length_le tZ7] at hown
     clear hr hown hm
     go_wp2_with fail
     go_ret2
     refine ⟨_,by rw [HPE.out];rfl,?_,hbw⟩
     rw [if_pos HPE.out,← HLL.out]
     exact HO.out
 ·have h1:propsE l=9:=tZ90
  rw [h1] at hck
  have HPE:Hid (unsetE l nm=9):=tZ149
  clear hg ht hGV hnl hok h1 hr hv
  go_enter Tryz.func53,Tryz.ntmps53
  exact mZ114
end Go.Proofs.YtcgclpcocdappaaGreatDoor
namespace Go.Proofs.YtcgclpcocdappaaGreatDoor
open Go.RowKit
set_option maxRecDepth 100000 in
theorem amount_any (n k:Int) (w:World):Calls Tryz.prog 124 #[.int .i64 n,.int .i64 k] w fun e w'=>e=.returned (.bool (amt n k))∧w'=w:=by
 go_enter Tryz.func124,Tryz.ntmps124
 exact mZ116
set_option maxRecDepth 100000 in
set_option maxHeartbeats 1000000 in
theorem fiSet_index {α:Type} (f0 f1 f2 f3 f4:α→Value) (p:α→Bool) (l:List α) (n:Nat) (hnl:n=l.length) (A:Option Addr) (c:Nat) (p0:Addr) (Keep:World→Prop) (w:World) (B:Nat)
  (hr:Reads w B 5 A n (cellsK (fun x=>[f0 x,f1 x,f2 x,f3 x,f4 x]) l)) (hB:B≤w.heap.size) (hn:n≤5000000000000) (hp:PredK Tryz.prog 123 #[.pointer (some p0)] (fun x=>#[f0 x,f1 x,f2 x,f3 x,f4 x]) (·∈l) p Keep) (hk0:Keep w) :
  Calls Tryz.prog 122 #[.slice A n c,.func (.func 123) #[] #[.pointer (some p0)]] w fun e w'=>e=.returned (.int .i64 (firstI p l))∧Below w.heap.size w w':=by
 have HN:=Lib.hid hnl
 have HP:=Lib.hid hp
 clear hnl hp
 go_enter Tryz.func122,Tryz.ntmps122
 exact mZ118
set_option maxRecDepth 100000 in
set_option maxHeartbeats 1000000 in
theorem fiSnap_index {α:Type} (f0 f1 f2 f3 f4:α→Value) (p:α→Bool) (l:List α) (n:Nat) (hnl:n=l.length) (A:Option Addr) (c:Nat) (p0:Addr) (Keep:World→Prop) (w:World) (B:Nat)
  (hr:Reads w B 5 A n (cellsK (fun x=>[f0 x,f1 x,f2 x,f3 x,f4 x]) l)) (hB:B≤w.heap.size) (hn:n≤5000000000000) (hp:PredK Tryz.prog 151 #[.pointer (some p0)] (fun x=>#[f0 x,f1 x,f2 x,f3 x,f4 x]) (·∈l) p Keep) (hk0:Keep w) :
  Calls Tryz.prog 130 #[.slice A n c,.func (.func 151) #[] #[.pointer (some p0)]] w fun e w'=>e=.returned (.int .i64 (firstI p l))∧Below w.heap.size w w':=by
 have HN:=Lib.hid hnl
 have HP:=Lib.hid hp
 clear hnl hp
 go_enter Tryz.func130,Tryz.ntmps130
 exact mZ118
set_option maxRecDepth 100000 in
theorem findC_any (s:BS) (v1 v2 v3 v4:Value) (p:BS) (pb:Nat) (w:World) (hpb:pb<w.heap.size) (hk:w.cell? ⟨pb,0,none⟩=some (.string ⟨p.toArray⟩)) :
  Calls Tryz.prog 123 #[.agg #[.string ⟨s.toArray⟩,v1,v2,v3,v4],.pointer (some ⟨pb,0,none⟩)] w fun e w'=>e=.returned (.bool (s == p))∧Below w.heap.size w w':=by
 have hk1:=(World.cell?_alloc_lt w (.cells #[.string ⟨s.toArray⟩,v1,v2,v3,v4] 42) ⟨pb,0,none⟩ hpb).trans hk
 have hb:=(Below.refl w.heap.size w).alloc (Nat.le_refl _) (.cells #[.string ⟨s.toArray⟩,v1,v2,v3,v4] 42)
 go_enter Tryz.func123,Tryz.ntmps123
 exact mZ119
set_option maxRecDepth 100000 in
theorem snapC_any (s:BS) (v1 v2 v3 v4:Value) (p:BS) (pb:Nat) (w:World) (hpb:pb<w.heap.size) (hk:w.cell? ⟨pb,0,none⟩=some (.string ⟨p.toArray⟩)) :
  Calls Tryz.prog 151 #[.agg #[.string ⟨s.toArray⟩,v1,v2,v3,v4],.pointer (some ⟨pb,0,none⟩)] w fun e w'=>e=.returned (.bool (s == p))∧Below w.heap.size w w':=by
 have hk1:=(World.cell?_alloc_lt w (.cells #[.string ⟨s.toArray⟩,v1,v2,v3,v4] 57) ⟨pb,0,none⟩ hpb).trans hk
 have hb:=(Below.refl w.heap.size w).alloc (Nat.le_refl _) (.cells #[.string ⟨s.toArray⟩,v1,v2,v3,v4] 57)
 go_enter Tryz.func151,Tryz.ntmps151
 exact mZ119
set_option maxRecDepth 100000 in
set_option maxHeartbeats 1000000 in
theorem find_any (v0 v1 v2 v4 v5 v6:Value) (l:List SetR) (n:Nat) (hnl:n=l.length) (A:Option Addr) (c:Nat) (p:BS) (w:World) (B:Nat) (hr:Reads w B 5 A n (cellsK encSet l)) (hB:B≤w.heap.size) (hn:n≤5000000000000) :
  Calls Tryz.prog 57 #[.agg #[v0,v1,v2,.slice A n c,v4,v5,v6],.string ⟨p.toArray⟩] w fun e w'=>e=.returned (.int .i64 (findS l p))∧Below w.heap.size w w':=by
 have hb1:=(Below.refl w.heap.size w).alloc (Nat.le_refl _) (.cells #[v0,v1,v2,.slice A n c,v4,v5,v6] 27)
 have hb2:=hb1.alloc hb1.size (.cells #[.string ⟨p.toArray⟩] 9)
 obtain ⟨W2,hW2⟩:∃ W,W=(w.alloc (.cells #[v0,v1,v2,.slice A n c,v4,v5,v6] 27)).alloc (.cells #[.string ⟨p.toArray⟩] 9):=⟨_,rfl⟩
 have hsz:W2.heap.size=w.heap.size+2:=tZ53
 have hk:W2.cell? ⟨w.heap.size+1,0,none⟩=some (.string ⟨p.toArray⟩):=by
  rw [hW2]
  have:=(Blk.new (w.alloc (.cells #[v0,v1,v2,.slice A n c,v4,v5,v6] 27)) 9 #[.string ⟨p.toArray⟩]).cell 0
  rw [show (w.alloc (.cells #[v0,v1,v2,.slice A n c,v4,v5,v6] 27)).heap.size=w.heap.size+1 by simp] at this
  exact this
 rw [← hW2] at hb2
 have HC:=Lib.hid (fiSet_index (fun x=>.string ⟨x.path.toArray⟩) (fun x=>.string ⟨x.org.toArray⟩) (fun x=>.slice x.body.A x.body.n x.body.c) (fun x=>.slice x.snaps.A x.snaps.n x.snaps.c) (fun x=>.slice x.own.A x.own.n x.own.c) (fun x=>x.path == p) l n hnl A c ⟨w.heap.size+1,0,none⟩ (fun W=>W.cell? ⟨w.heap.size+1,0,none⟩=some (.string ⟨p.toArray⟩)∧w.heap.size+1<W.heap.size) W2 B (hr.below (hb2.mono hB)) tZ1 hn
  ⟨fun x W _ hK=>findC_any x.path _ _ _ _ p _ W hK.2 hK.1,fun W W' hK hb=>⟨(hb.cell (p:=⟨w.heap.size+1,0,none⟩) hK.2).trans hK.1,Nat.lt_of_lt_of_le hK.2 hb.size⟩⟩ ⟨hk,by omega⟩)
 have HB:=Lib.hid hb2
 have HSZ:=Lib.hid hsz
 clear hnl hr hk hsz hb1 hb2
 go_enter Tryz.func57,Tryz.ntmps57
 exact mZ120
set_option maxRecDepth 100000 in
set_option maxHeartbeats 1000000 in
theorem snapAt_any (v0 v1 v2 v4:Value) (l:List SnapR) (n:Nat) (hnl:n=l.length) (A:Option Addr) (c:Nat) (p:BS) (w:World) (B:Nat) (hr:Reads w B 5 A n (cellsK encSnap l)) (hB:B≤w.heap.size) (hn:n≤5000000000000) :
  Calls Tryz.prog 84 #[.agg #[v0,v1,v2,.slice A n c,v4],.string ⟨p.toArray⟩] w fun e w'=>e=.returned (.int .i64 (findN l p))∧Below w.heap.size w w':=by
 have hb1:=(Below.refl w.heap.size w).alloc (Nat.le_refl _) (.cells #[v0,v1,v2,.slice A n c,v4] 42)
 have hb2:=hb1.alloc hb1.size (.cells #[.string ⟨p.toArray⟩] 9)
 obtain ⟨W2,hW2⟩:∃ W,W=(w.alloc (.cells #[v0,v1,v2,.slice A n c,v4] 42)).alloc (.cells #[.string ⟨p.toArray⟩] 9):=⟨_,rfl⟩
 have hsz:W2.heap.size=w.heap.size+2:=tZ53
 have hk:W2.cell? ⟨w.heap.size+1,0,none⟩=some (.string ⟨p.toArray⟩):=by
  rw [hW2]
  have:=(Blk.new (w.alloc (.cells #[v0,v1,v2,.slice A n c,v4] 42)) 9 #[.string ⟨p.toArray⟩]).cell 0
  rw [show (w.alloc (.cells #[v0,v1,v2,.slice A n c,v4] 42)).heap.size=w.heap.size+1 by simp] at this
  exact this
 rw [← hW2] at hb2
 have HC:=Lib.hid (fiSnap_index (fun x=>.string ⟨x.nm.toArray⟩) (fun x=>.int .i64 x.gd) (fun x=>.slice x.body.A x.body.n x.body.c) (fun x=>.slice x.tags.A x.tags.n x.tags.c) (fun x=>.slice x.own.A x.own.n x.own.c) (fun x=>x.nm == p) l n hnl A c ⟨w.heap.size+1,0,none⟩ (fun W=>W.cell? ⟨w.heap.size+1,0,none⟩=some (.string ⟨p.toArray⟩)∧w.heap.size+1<W.heap.size) W2 B (hr.below (hb2.mono hB)) tZ1 hn
  ⟨fun x W _ hK=>snapC_any x.nm _ _ _ _ p _ W hK.2 hK.1,fun W W' hK hb=>⟨(hb.cell (p:=⟨w.heap.size+1,0,none⟩) hK.2).trans hK.1,Nat.lt_of_lt_of_le hK.2 hb.size⟩⟩ ⟨hk,by omega⟩)
 have HB:=Lib.hid hb2
 have HSZ:=Lib.hid hsz
 clear hnl hr hk hsz hb1 hb2
 go_enter Tryz.func84,Tryz.ntmps84
 exact mZ120
end Go.Proofs.YtcgclpcocdappaaGreatDoor
namespace Go.Proofs.YtcgclpcocdappaaGreatDoor
open Go.RowKit
theorem scells_enc (l:List BS):cellsK encS l=scells l:=by
 unfold cellsK encS scells
 induction l with
 | nil=>rfl
 | cons x l ih=>rw [List.flatMap_cons,ih];rfl
set_option maxRecDepth 100000 in
set_option maxHeartbeats 1000000 in
theorem indexS_any (l:List BS) (x:BS) (n:Nat) (hnl:n=l.length) (A:Option Addr) (c:Nat) (w:World) (B:Nat) (hr:Reads w B 1 A n (scells l)) (hn:n≤5000000000000) :
  Calls Tryz.prog 131 #[.slice A n c,.string ⟨x.toArray⟩] w fun e w'=>e=.returned (.int .i64 (firstI (fun y=>y == x) l))∧w'=w:=by
 have HN:=Lib.hid hnl
 clear hnl
 go_enter Tryz.func131,Tryz.ntmps131
 go_wp2_with fail
 go_loopw [8] (fun j wr=>∃ k:Nat,k≤n∧j=.int .i64 (k:Int)∧Hid (∀ y∈l.take k,(y == x)=false)∧wr=w) (fun j _=>n-(intOf j).toNat)
 case atStart=>exact ⟨0,Nat.zero_le _,rfl,(show ∀ y∈_,_ by simp),rfl⟩
 case round =>
  obtain ⟨k,hk,rfl,hno,hww⟩:=hrel
  have hww:=hww.symm
  subst hww
  by_cases hlt:k<n
  ·have hki:(k:Int)<(n:Int):=tZ1
   have hkl:k<l.length:=tZ7
   obtain ⟨ad,rfl,_,hcell⟩:=strs_at hr HN.out hlt
   obtain ⟨y,hy⟩:∃ y,y=l[k]'hkl:=⟨_,rfl⟩
   rw [← hy] at hcell
   have htk:=List.take_succ_eq_append_getElem hkl
   rw [← hy] at htk
   have HTK:=Lib.hid htk
   have HX:=Lib.hid (show l[k]?=some y by rw [hy];exact List.getElem?_eq_getElem _)
   simp only [strV] at hcell
   clear hy htk hr
   by_cases hxy:x=y
   ·subst hxy
    go_wp2_with fail
    go_ret
    have hf:=firstP_eq (fun y=>y == x) l k x hno.out HX.out tZ3
    exact ⟨by unfold firstI;rw [hf,if_pos hkl];rfl,rfl⟩
   ·have hd:(x == y)=false:=tZ114
    have HD:Hid ((y == x)=false):=by show _=_;simpa using fun e=>hxy e.symm
    clear hxy
    go_wp2_with fail
    go_roundw
    case rel =>
     refine ⟨k+1,by omega,by go_num,?_,trivial⟩
     show ∀ z∈l.take (k+1),(z == x)=false
     exact mZ122
    case measure=>simp [intOf];omega
  ·have hkn:k=n:=tZ1
   have HF:Hid (firstI (fun y=>y == x) l=-1):=by
    show _=_
    exact mZ121
   clear hr hkn
   go_wp2_with fail
   go_ret
   exact ⟨by rw [HF.out];rfl,rfl⟩
theorem any_contains (l:List BS) (x:BS):l.any (fun y=>y == x)=l.contains x:=by
 rw [Bool.eq_iff_iff,List.any_eq_true,List.contains_iff_mem]
 exact ⟨fun ⟨y,hy,e⟩=>by rw [← (by simpa using e:y=x)];exact hy,fun h=>⟨x,h,by simp⟩⟩
set_option maxRecDepth 100000 in
theorem containsS_any (l:List BS) (x:BS) (n:Nat) (hnl:n=l.length) (A:Option Addr) (c:Nat) (w:World) (B:Nat) (hr:Reads w B 1 A n (scells l)) (hn:n≤5000000000000) :
  Calls Tryz.prog 62 #[.slice A n c,.string ⟨x.toArray⟩] w fun e w'=>e=.returned (.bool (l.contains x))∧w'=w:=by
 have hc:=Lib.hid (indexS_any l x n hnl A c w B hr hn)
 have HA:=Lib.hid ((firstI_any (fun y=>y == x) l).trans (any_contains l x))
 clear hnl hr
 go_enter Tryz.func62,Tryz.ntmps62
 go_wp2_with fail
 refine hc.out.mono ?_
 rintro e w1 ⟨rfl,rfl⟩
 go_wp2_with fail
 go_ret
 exact ⟨by rw [← HA.out];rfl,rfl⟩
set_option maxRecDepth 100000 in
theorem lessS_any (x y:BS) (w:World):Calls Tryz.prog 165 #[.string ⟨x.toArray⟩,.string ⟨y.toArray⟩] w fun e w'=>e=.returned (.bool (Op.bytesLess x y))∧∃ q,w'=w.drewN q:=by
 have hlss:=lssS 9 x y
 go_enter Tryz.func165,Tryz.ntmps165
 go_wp2_with fail
 refine (isNaNS_any x _).mono ?_
 rintro e w1 ⟨rfl,q1,rfl⟩
 go_wp2_with fail
 go_ret
 exact ⟨rfl,q1,rfl⟩
theorem sortF_iff (l:List BS) (p:Option BS):sortF p l=true↔(∀ q x,p=some q→l[0]?=some x→Op.bytesLess x q=false)∧∀ k x y,l[k]?=some x→l[k+1]?=some y→Op.bytesLess y x=false:=by
 induction l generalizing p with
 | nil=>simp [sortF]
 | cons z l ih =>
  rw [sortF_cons,Bool.and_eq_true,ih]
  constructor
  ·rintro ⟨h1,h2,h3⟩
   refine ⟨fun q x hq hx=>?_,fun k x y hx hy=>?_⟩
   ·subst hq
    simp only [zE,Option.some.injEq] at hx
    subst hx
    simpa using h1
   ·cases k with
    | zero =>
     simp only [zE,Option.some.injEq,Nat.zero_add,zD] at hx hy
     subst hx
     exact h2 _ y rfl hy
    | succ k=>exact h3 k x y tZ101 tZ122
  ·rintro ⟨h1,h2⟩
   refine ⟨?_,fun q x hq hx=>?_,fun k x y hx hy=>h2 (k+1) x y tZ101 tZ122⟩
   ·cases p with
    | none=>rfl
    | some q=>simpa using h1 q z rfl tZ3
   ·cases hq
    exact h2 0 _ x tZ3 tZ101
set_option maxRecDepth 100000 in
set_option maxHeartbeats 1000000 in
theorem isSorted_any (l:List BS) (n:Nat) (hnl:n=l.length) (A:Option Addr) (c:Nat) (w:World) (B:Nat) (hr:Reads w B 1 A n (scells l)) (hn:n≤5000000000000) :
  Calls Tryz.prog 215 #[.slice A n c] w fun e w'=>e=.returned (.bool (sortF none l))∧∃ q,w'=w.drewN q:=by
 have HN:=Lib.hid hnl
 have HS:=Lib.hid (sortF_iff l none)
 obtain ⟨V,hV⟩:∃ V,V=sortF none l:=⟨_,rfl⟩
 rw [← hV] at HS ⊢
 clear hnl hV
 have i3:IntKind.i64.wrap ((n:Int)-1)=(n:Int)-1:=IntWalk.i64_in _ tZ1
 go_enter Tryz.func215,Tryz.ntmps215
 go_wp2_with fail
 clear i3
 go_loopw [3] (fun j wr=>∃ z:Int,-1≤z∧z≤(n:Int)-1∧j=.int .i64 z∧Hid (∀ (k:Nat) x y,z≤(k:Int)→l[k]?=some x→l[k+1]?=some y→Op.bytesLess y x=false)∧∃ q,wr=w.drewN q) (fun j _=>(intOf j).toNat)
 case atStart =>
  refine ⟨(n:Int)-1,by omega,by omega,rfl,?_,0,rfl⟩
  show ∀ (k:Nat) x y,_→_→_→_
  intro k x y hk hx hy
  have h1:=(List.getElem?_eq_some_iff.1 hy).1
  have:=HN.out
  omega
 case round =>
  obtain ⟨z,hz1,hz2,rfl,hok,q,rfl⟩:=hrel
  by_cases hz:0<z
  ·obtain ⟨k,rfl⟩:∃ k:Nat,z=((k+1:Nat):Int):=⟨(z-1).toNat,by omega⟩
   have hk1:k+1<n:=tZ1
   obtain ⟨ad,rfl,_,c1⟩:=strs_at hr HN.out hk1
   obtain ⟨ad2,e2,_,c0⟩:=strs_at hr HN.out (show k<n by omega)
   injection e2 with e2
   subst e2
   have hkl:k+1<l.length:=tZ7
   obtain ⟨x,hx⟩:∃ x,x=l[k]'tZ1:=⟨_,rfl⟩
   obtain ⟨y,hy⟩:∃ y,y=l[k+1]'hkl:=⟨_,rfl⟩
   rw [← hx] at c0
   rw [← hy] at c1
   have HX:=Lib.hid (show l[k]?=some x by rw [hx];exact List.getElem?_eq_getElem _)
   have HY:=Lib.hid (show l[k+1]?=some y by rw [hy];exact List.getElem?_eq_getElem _)
   simp only [strV] at c0 c1
   obtain ⟨K,hK⟩:∃ K,K=k+1:=⟨_,rfl⟩
   have hKk:k=K-1:=tZ1
   rw [← hK] at c1 hk1 ⊢
   rw [hKk] at c0
   have i0:(0:Int)<(K:Int):=tZ1
   have i1:(1:Int)≤(K:Int):=tZ1
   have i5:(K:Int)<(n:Int):=tZ1
   have i2:(K:Int)-1<(n:Int):=tZ1
   have i3:IntKind.i64.wrap ((K:Int)-1)=(K:Int)-1:=IntWalk.i64_in _ tZ1
   have i4:((K:Int)-1).toNat=K-1:=tZ1
   have hL:∀ m,Calls Tryz.prog 165 #[.string ⟨y.toArray⟩,.string ⟨x.toArray⟩] (w.drewN (q+m)) fun e W'=>e=.returned (.bool (Op.bytesLess y x))∧∃ n,W'=w.drewN (q+n):=fun m=>by
    refine (lessS_any y x _).mono ?_
    rintro e w1 ⟨rfl,p,rfl⟩
    exact ⟨rfl,m+p,by rw [World.drewN_drewN,Nat.add_assoc]⟩
   obtain ⟨b,hb⟩:∃ b,b=Op.bytesLess y x:=⟨_,rfl⟩
   rw [← hb] at hL
   have HB:=Lib.hid hb
   have HK:=Lib.hid hK
   clear hx hy hb hr hK hKk
   cases b with
   | true =>
    have HV:Hid (V=false):=by
     show _=_
     rw [← Bool.not_eq_true]
     intro e
     have:=(HS.out.1 e).2 k x y HX.out HY.out
     rw [← HB.out] at this
     cases this
    go_wp2_with fail
    go_big_quiet ((go_at_call 165;exact hL _))
    clear hL
    go_wp2_with fail
    go_ret
    exact ⟨by rw [HV.out];rfl,_,World.drewN_drewN _ _ _⟩
   | false =>
    go_wp2_with fail
    go_big_quiet ((go_at_call 165;exact hL _))
    clear hL
    go_wp2_with fail
    go_roundw
    case rel =>
     refine ⟨(K:Int)-1,by omega,by omega,by go_num,?_,_,rfl⟩
     show ∀ (k:Nat) x y,_→_→_→_
     intro k' x' y' hk' hx' hy'
     by_cases e:k'=k
     ·subst e
      rw [HX.out] at hx'
      rw [HY.out] at hy'
      cases hx'
      cases hy'
      exact HB.out.symm
     ·exact hok.out k' x' y' (by have:=HK.out;omega) hx' hy'
    case measure=>simp [intOf];omega
  ·have HV:Hid (V=true):=by
    show _=_
    exact HS.out.2 ⟨fun q x h=>(by cases h),fun k x y hx hy=>hok.out k x y tZ1 hx hy⟩
   clear hr
   go_wp2_with fail
   go_ret
   exact ⟨by rw [HV.out];rfl,q,rfl⟩
set_option maxRecDepth 100000 in
set_option maxHeartbeats 1000000 in
theorem unlike_any (l:List BS) (n:Nat) (hnl:n=l.length) (A:Option Addr) (c:Nat) (hnc:n≤c) (w:World) (B:Nat) (hr:Reads w B 1 A n (scells l)) (hB:B≤w.heap.size) (hn:n≤5000000000000) :
  Calls Tryz.prog 203 #[.slice A n c] w fun e w'=>e=.returned (.bool (unlikeB l))∧Below w.heap.size w w':=by
 have HN:=Lib.hid hnl
 have HV:Hid (unlikeB l=unlikeF [] l):=rfl
 obtain ⟨V,hV⟩:∃ V,V=unlikeB l:=⟨_,rfl⟩
 rw [← hV] at HV ⊢
 clear hnl hV
 go_enter Tryz.func203,Tryz.ntmps203
 go_wp2_with fail
 go_loopw [7] (fun j wr=>∃ k:Nat,k≤n∧j=.int .i64 (k:Int)∧Hid (V=unlikeF (l.take k) (l.drop k))∧Below w.heap.size w wr) (fun j _=>n-(intOf j).toNat)
 case atStart=>exact ⟨0,Nat.zero_le _,rfl,HV,Below.refl _ _⟩
 case round =>
  obtain ⟨k,hk,rfl,hok,hbw⟩:=hrel
  by_cases hlt:k<n
  ·have hki:(k:Int)<(n:Int):=tZ1
   have hkl:k<l.length:=tZ7
   have hrw:=hr.below (hbw.mono hB)
   obtain ⟨ad,rfl,_,hcell⟩:=strs_at hrw HN.out hlt
   obtain ⟨x,hx⟩:∃ x,x=l[k]'hkl:=⟨_,rfl⟩
   rw [← hx] at hcell
   have htk:=List.take_succ_eq_append_getElem hkl
   have hdr:=List.drop_eq_getElem_cons hkl
   rw [← hx] at htk hdr
   have HU:Hid (V=(nameB x && !((l.take k).contains x) && unlikeF (l.take (k+1)) (l.drop (k+1)))):=by
    show _=_
    rw [hok.out,hdr,unlikeF_cons,htk]
   have hN:=name_any ⟨x.toArray⟩ wr
   rw [show (ByteArray.mk x.toArray).data.toList=x from rfl] at hN
   have hcn:∀ W,Below wr.heap.size wr W→Calls Tryz.prog 62 #[.slice (some ad) k c,.string ⟨x.toArray⟩] W fun e w'=>e=.returned (.bool ((l.take k).contains x))∧w'=W:=by
    intro W hW
    have hr2:=((hrw.below (hW.mono (by have:=hbw.size;omega))).pre (k:=k) tZ1)
    rw [Nat.mul_one,show (scells l).take k=scells (l.take k) by unfold scells;rw [List.map_take]] at hr2
    exact containsS_any (l.take k) x k tZ79 (some ad) c W B hr2 tZ1
   have hkc:(k:Int)≤(c:Int):=tZ1
   simp only [strV] at hcell
   obtain ⟨bn,hbn⟩:∃ b,b=nameB x:=⟨_,rfl⟩
   obtain ⟨bc,hbc⟩:∃ b,b=(l.take k).contains x:=⟨_,rfl⟩
   rw [← hbn] at hN HU
   rw [← hbc] at hcn HU
   have HCN:=Lib.hid hcn
   clear hx htk hdr hbn hbc hr hrw hcn hok
   cases bn with
   | false =>
    have HV1:Hid (V=false):=tZ150
    go_wp2_with fail
    refine hN.mono ?_
    exact mZ124
   | true =>
    go_wp2_with fail
    refine hN.mono ?_
    clear hN
    rintro e w1 ⟨rfl,hb1⟩
    have hbf:=hbw.trans (hb1.mono hbw.size)
    have hcl:=HCN.out _ hb1
    clear hb1 hbw HCN
    go_wp2_with fail
    refine hcl.mono ?_
    clear hcl
    rintro e w2 ⟨rfl,rfl⟩
    cases bc with
    | true =>
     have HV1:Hid (V=false):=tZ150
     go_wp2_with fail
     go_ret
     exact ⟨by rw [HV1.out];rfl,hbf⟩
    | false =>
     have HG:Hid (V=unlikeF (l.take (k+1)) (l.drop (k+1))):=tZ150
     go_wp2_with fail
     go_roundw
     case rel=>exact ⟨k+1,by omega,by go_num,HG,hbf⟩
     case measure=>simp [intOf];omega
  ·have hkn:k=n:=tZ1
   have HF:Hid (V=true):=by
    exact mZ123
   clear hr hkn hok
   exact mZ4
set_option maxRecDepth 100000 in
set_option maxHeartbeats 1000000 in
theorem tagged_any (l:List BS) (n:Nat) (hnl:n=l.length) (A:Option Addr) (c:Nat) (hnc:n≤c) (w:World) (B:Nat) (hr:Reads w B 1 A n (scells l)) (hB:B≤w.heap.size) (hn:n≤5000000000000) :
  Calls Tryz.prog 202 #[.slice A n c] w fun e w'=>e=.returned (.bool (tagsB l))∧Below w.heap.size w w':=by
 have hU:=unlike_any l n hnl A c hnc w B hr hB hn
 have hS:=Lib.hid (fun W (hW:Below w.heap.size w W)=>isSorted_any l n hnl A c W B (hr.below (hW.mono hB)) hn)
 have HV:Hid (tagsB l=(decide (n≤4) && (unlikeB l && sortF none l))):=by show _=_;rw [tagged_eq,hnl];rfl
 obtain ⟨V,hV⟩:∃ V,V=tagsB l:=⟨_,rfl⟩
 obtain ⟨bu,hbu⟩:∃ V,V=unlikeB l:=⟨_,rfl⟩
 obtain ⟨bs,hbs⟩:∃ V,V=sortF none l:=⟨_,rfl⟩
 rw [← hV] at HV ⊢
 rw [← hbu] at HV hU
 rw [← hbs] at HV hS
 clear hnl hV hbu hbs hr
 by_cases h4:n≤4
 ·have hi:(n:Int)≤4:=tZ1
  have HV2:Hid (V=(bu && bs)):=by show _=_;rw [HV.out,decide_eq_true h4];rfl
  cases bu with
  | false =>
   have HV3:Hid (V=false):=tZ108
   go_enter Tryz.func202,Tryz.ntmps202
   go_wp2_with fail
   refine hU.mono ?_
   rintro e w1 ⟨rfl,hb1⟩
   go_wp2_with fail
   go_ret
   exact ⟨by rw [HV3.out];rfl,hb1⟩
  | true =>
   have HV3:Hid (V=bs):=tZ108
   go_enter Tryz.func202,Tryz.ntmps202
   go_wp2_with fail
   refine hU.mono ?_
   rintro e w1 ⟨rfl,hb1⟩
   go_wp2_with fail
   refine (hS.out _ hb1).mono ?_
   rintro e w2 ⟨rfl,q,rfl⟩
   go_wp2_with fail
   go_ret
   exact ⟨by rw [HV3.out];rfl,below_drewN hb1 q⟩
 ·have hi:¬ (n:Int)≤4:=tZ1
  have HV2:Hid (V=false):=by show _=_;rw [HV.out,decide_eq_false h4];rfl
  go_enter Tryz.func202,Tryz.ntmps202
  go_wp2_with fail
  go_ret
  exact ⟨by rw [HV2.out];rfl,Below.refl _ _⟩
end Go.Proofs.YtcgclpcocdappaaGreatDoor
namespace Go.Proofs.YtcgclpcocdappaaGreatDoor
open Go.RowKit
theorem set_at {w:World} {B n:Nat} {A:Option Addr} {l:List SetR} (h:Reads w B 5 A n (cellsK encSet l)) (hn:n=l.length) {i:Nat} (hi:i<n) :
  ∃ ad,A=some ad∧ad.block<B∧w.cell? (ad.add (i*5))=some (.string ⟨(l[i]'tZ1).path.toArray⟩)∧w.cell? ⟨(ad.add (i*5)).block,(ad.add (i*5)).off+1,none⟩=some (.string ⟨(l[i]'tZ1).org.toArray⟩) ∧
   w.cell? ⟨(ad.add (i*5)).block,(ad.add (i*5)).off+2,none⟩=some (.slice (l[i]'tZ1).body.A (l[i]'tZ1).body.n (l[i]'tZ1).body.c)∧w.cell? ⟨(ad.add (i*5)).block,(ad.add (i*5)).off+3,none⟩=some (.slice (l[i]'tZ1).snaps.A (l[i]'tZ1).snaps.n (l[i]'tZ1).snaps.c)∧w.cell? ⟨(ad.add (i*5)).block,(ad.add (i*5)).off+4,none⟩=some (.slice (l[i]'tZ1).own.A (l[i]'tZ1).own.n (l[i]'tZ1).own.c) :=
 Reads.el5 (f0:=fun x:SetR=>.string ⟨x.path.toArray⟩) (f1:=fun x=>.string ⟨x.org.toArray⟩) (f2:=fun x=>.slice x.body.A x.body.n x.body.c) (f3:=fun x=>.slice x.snaps.A x.snaps.n x.snaps.c) (f4:=fun x=>.slice x.own.A x.own.n x.own.c) h hn hi
theorem firstI_cases {α:Type} (p:α→Bool) (l:List α):(firstI p l=-1∧l.find? p=none)∨∃ (k:Nat) (h:k<l.length),firstI p l=(k:Int)∧l.find? p=some (l[k]'h):=by
 cases hf:l.find? p with
 | none =>
  have h:=List.find?_eq_none.1 hf
  refine .inl ⟨?_,rfl⟩
  unfold firstI
  rw [firstP_none p l (fun y hy=>by simpa using h y hy),if_neg (Nat.lt_irrefl _)]
 | some x =>
  obtain ⟨hp,i,hi,e,hb⟩:=List.find?_eq_some_iff_getElem.1 hf
  refine .inr ⟨i,hi,?_,by rw [e]⟩
  have:firstP p l=i:=firstP_eq p l i x (fun y hy=>by
   obtain ⟨j,hj,e2⟩:=List.mem_iff_getElem.1 hy
   rw [List.getElem_take] at e2
   have:=hb j (by rw [List.length_take] at hj;omega)
   rw [e2] at this
   simpa using this) (by rw [List.getElem?_eq_getElem hi,e]) hp
  unfold firstI
  rw [this,if_pos hi]
theorem splitV_cases (l:BS):(splitL l=none∧splitV l=.tuple #[.string ⟨#[]⟩,.string ⟨#[]⟩,.int .i64 31])∨∃ p n:BS,splitL l=some (p,n)∧splitV l=.tuple #[.string ⟨p.toArray⟩,.string ⟨n.toArray⟩,.int .i64 0]∧p.length≤l.length∧n.length≤l.length:=by
 unfold splitL splitV
 cases h:atL l with
 | none=>exact .inl ⟨rfl,rfl⟩
 | some pn =>
  obtain ⟨p,n⟩:=pn
  have:=atL_len _ _ _ h
  by_cases hc:(pathB p && nameB n)=true
  ·exact .inr ⟨p,n,by simp only [if_pos hc],by simp only [if_pos hc],by omega,by omega⟩
  ·exact .inl ⟨by simp only [if_neg hc],by simp only [if_neg hc]⟩
def originP (all:List SetR) (sp so:BS):Bool:=so == [] || match splitL so with
 | none=>false
 | some (p,n)=>!(p == sp) && match all.find? (fun x=>x.path == p) with
  | none=>false
  | some x=>x.snaps.l.any fun y=>y.nm == n
set_option maxRecDepth 100000 in
set_option maxHeartbeats 2000000 in
theorem origin_any (v0 v1 v2 v4 v5 v6 v7 v8 v9:Value) (all:List SetR) (n:Nat) (hnl:n=all.length) (A:Option Addr) (c:Nat) (sp so:BS) (w:World) (B:Nat) (hr:Reads w B 5 A n (cellsK encSet all)) (he:∀ y∈all,y.rd w B) (hB:B≤w.heap.size) (hn:n≤1000000000000) (hv:∀ y∈all,y.sz) (hs:so.length≤4000000000) (hmx:HasMax w) :
  Calls Tryz.prog 179 #[.agg #[v0,v1,v2,.slice A n c,v4,v5,v6],.agg #[.string ⟨sp.toArray⟩,.string ⟨so.toArray⟩,v7,v8,v9]] w fun e w'=>e=.returned (.bool (originP all sp so))∧Below w.heap.size w w':=by
 have hb1:=(Below.refl w.heap.size w).alloc (Nat.le_refl _) (.cells #[v0,v1,v2,.slice A n c,v4,v5,v6] 27)
 have hb2:=hb1.alloc hb1.size (.cells #[.string ⟨sp.toArray⟩,.string ⟨so.toArray⟩,v7,v8,v9] 42)
 have k1:=(Blk.new w 27 #[v0,v1,v2,.slice A n c,v4,v5,v6]).alloc (.cells #[.string ⟨sp.toArray⟩,.string ⟨so.toArray⟩,v7,v8,v9] 42)
 have k2:=Blk.new (w.alloc (.cells #[v0,v1,v2,.slice A n c,v4,v5,v6] 27)) 42 #[.string ⟨sp.toArray⟩,.string ⟨so.toArray⟩,v7,v8,v9]
 rw [show (w.alloc (.cells #[v0,v1,v2,.slice A n c,v4,v5,v6] 27)).heap.size=w.heap.size+1 by simp] at k2
 obtain ⟨W2,hW2⟩:∃ W,W=(w.alloc (.cells #[v0,v1,v2,.slice A n c,v4,v5,v6] 27)).alloc (.cells #[.string ⟨sp.toArray⟩,.string ⟨so.toArray⟩,v7,v8,v9] 42):=⟨_,rfl⟩
 have hsz:W2.heap.size=w.heap.size+2:=tZ53
 rw [← hW2] at hb2 k1 k2
 have hS:=Lib.hid (fun (W':World) (hB':Below W2.heap.size W2 W') =>
  (⟨(k1.below hB' tZ1).cell 0,(k1.below hB' tZ1).cell 1,(k1.below hB' tZ1).cell 2,(k1.below hB' tZ1).cell 3,(k1.below hB' tZ1).cell 4,(k1.below hB' tZ1).cell 5,(k1.below hB' tZ1).cell 6,(k2.below hB' tZ1).cell 0⟩ :
   W'.cell? ⟨w.heap.size,0,none⟩=some v0∧W'.cell? ⟨w.heap.size,1,none⟩=some v1∧W'.cell? ⟨w.heap.size,2,none⟩=some v2∧W'.cell? ⟨w.heap.size,3,none⟩=some (.slice A n c)∧W'.cell? ⟨w.heap.size,4,none⟩=some v4∧W'.cell? ⟨w.heap.size,5,none⟩=some v5∧W'.cell? ⟨w.heap.size,6,none⟩=some v6∧W'.cell? ⟨w.heap.size+1,0,none⟩=some (.string ⟨sp.toArray⟩)))
 have HSZ:=Lib.hid hsz
 have HB:=Lib.hid hb2
 have HNL:=Lib.hid hnl
 have hR:=Lib.hid (fun (W':World) (hB':Below W2.heap.size W2 W')=>(⟨hr.below ((hb2.trans (hB'.mono tZ1)).mono hB),hB'.size,hmx.below (hb2.trans (hB'.mono tZ1)),fun y hy=>⟨(he y hy).body.below ((hb2.trans (hB'.mono tZ1)).mono hB),(he y hy).snaps.below ((hb2.trans (hB'.mono tZ1)).mono hB)⟩⟩:Reads W' B 5 A n (cellsK encSet all)∧W2.heap.size≤W'.heap.size∧HasMax W'∧∀ y∈all,y.body.rd W' B 2 encB∧y.snaps.rd W' B 5 encSnap))
 have HV:=Lib.hid hv
 clear k1 k2 hsz hb1 hb2 hnl hr he hv
 by_cases ho:so=[]
 ·subst ho
  have HE:Hid (originP all sp []=true):=rfl
  go_enter Tryz.func179,Tryz.ntmps179
  go_wp2_with fail
  rw [← hW2]
  go_ret
  exact ⟨by rw [HE.out];rfl,HB.out⟩
 ·have ho1:(so == [])=false:=by simpa using ho
  have ho2:so.isEmpty=false:=by cases so <;> simp_all
  have HE:Hid (originP all sp so=match splitL so with
   | none=>false
   | some (p,n)=>!(p == sp) && match all.find? (fun x=>x.path == p) with
    | none=>false
    | some x=>x.snaps.l.any fun y=>y.nm == n):=by show _=_;unfold originP;rw [ho1];rfl
  obtain ⟨V,hV⟩:∃ V,V=originP all sp so:=⟨_,rfl⟩
  rw [← hV] at HE ⊢
  have hspl:=fun (hm:HasMax W2)=>split_any ⟨so.toArray⟩ W2 (by show so.length≤_;exact hs) hm
  rw [show (ByteArray.mk so.toArray).data.toList=so from rfl] at hspl
  have hspl:=hspl (hmx.below HB.out)
  have HO:=Lib.hid ho
  clear hV ho
  rcases splitV_cases so with ⟨h1,h2⟩ | ⟨p,m,h1,h2,h3,h4⟩
  ·rw [h2] at hspl
   rw [h1] at HE
   clear h1 h2
   go_enter Tryz.func179,Tryz.ntmps179
   go_wp2_with fail
   rw [← hW2]
   refine hspl.mono ?_
   clear hspl
   rintro e w1 ⟨rfl,hb1⟩
   obtain ⟨q0,q1,q2,q3,q4,q5,q6,q7⟩:=hS.out _ hb1
   obtain ⟨r1,r2,r3,r4⟩:=hR.out _ hb1
   have hfi:=find_any v0 v1 v2 v4 v5 v6 all n HNL.out A c [] w1 B r1 tZ8 tZ1
   have HB1:=Lib.hid hb1
   clear r1 r2 r3 r4 hb1
   go_wp2_with fail
   refine hfi.mono ?_
   clear hfi
   rintro e w2 ⟨rfl,hb2⟩
   go_wp2_with fail
   go_ret
   exact ⟨by rw [HE.out];rfl,HB.out.trans ((HB1.out.trans (hb2.mono HB1.out.size)).mono tZ8)⟩
  ·rw [h2] at hspl
   rw [h1] at HE
   clear h1 h2
   have HE:Hid (V=(!(p == sp) && match all.find? (fun x=>x.path == p) with
    | none=>false
    | some x=>x.snaps.l.any fun y=>y.nm == m)):=HE
   go_enter Tryz.func179,Tryz.ntmps179
   go_wp2_with fail
   rw [← hW2]
   refine hspl.mono ?_
   clear hspl
   rintro e w1 ⟨rfl,hb1⟩
   obtain ⟨q0,q1,q2,q3,q4,q5,q6,q7⟩:=hS.out _ hb1
   obtain ⟨r1,r2,r3,r4⟩:=hR.out _ hb1
   have hfi:=find_any v0 v1 v2 v4 v5 v6 all n HNL.out A c p w1 B r1 tZ8 tZ1
   obtain ⟨z,hz⟩:∃ z,z=findS all p:=⟨_,rfl⟩
   rw [← hz] at hfi
   have HB1:=Lib.hid hb1
   have HZ:=Lib.hid hz
   clear r1 r2 r3 r4 hb1 hz
   go_wp2_with fail
   refine hfi.mono ?_
   clear hfi q0 q1 q2 q3 q4 q5 q6 q7
   rintro e w2 ⟨rfl,hb2⟩
   have HB2:=Lib.hid (HB1.out.trans (hb2.mono HB1.out.size))
   clear hb2 HB1
   obtain ⟨q0,q1,q2,q3,q4,q5,q6,q7⟩:=hS.out _ HB2.out
   by_cases hps:p=sp
   ·have hpb:(p == sp)=true:=tZ160
    have HE2:Hid (V=false):=tZ96
    subst hps
    exact mZ125
   ·have hpb:(p == sp)=false:=tZ160
    have HE2:Hid (V=match all.find? (fun x=>x.path == p) with
     | none=>false
     | some x=>x.snaps.l.any fun y=>y.nm == m):=tZ96
    clear hps HE
    rcases firstI_cases (fun x:SetR=>x.path == p) all with ⟨f1,f2⟩ | ⟨k,hk,f1,f2⟩
    ·have hz:z=-1:=HZ.out.trans f1
     rw [f2] at HE2
     subst hz
     clear f1 f2
     exact mZ125
    ·have hz:z=(k:Int):=HZ.out.trans f1
     rw [f2] at HE2
     subst hz
     obtain ⟨r1,r2,r3,r4⟩:=hR.out _ HB2.out
     have hkn:k<n:=by have:=HNL.out;omega
     have hki:(k:Int)<(n:Int):=tZ1
     obtain ⟨ad,rfl,-,c0,c1,c2,c3,c4⟩:=set_at r1 HNL.out hkn
     obtain ⟨x,hx⟩:∃ x,x=all[k]'hk:=⟨_,rfl⟩
     rw [← hx] at c0 c1 c2 c3 c4 HE2
     have hxm:x∈all:=tZ14
     obtain ⟨_,r5⟩:=r4 x hxm
     have hsn:=HV.out x hxm
     have HC:=Lib.hid (snapAt_any (.string ⟨x.path.toArray⟩) (.string ⟨x.org.toArray⟩) (.slice x.body.A x.body.n x.body.c) (.slice x.own.A x.own.n x.own.c) x.snaps.l x.snaps.n r5.1 x.snaps.A x.snaps.c m w2 B r5.2.2 tZ8 (by have:=hsn.snaps;omega))
     have HA:=Lib.hid (firstI_any (fun y:SnapR=>y.nm == m) x.snaps.l)
     have HE3:Hid (V=x.snaps.l.any fun y=>y.nm == m):=HE2
     obtain ⟨xp,xo,⟨b1,b2,b3,bl⟩,⟨s1,s2,s3,sl⟩,⟨o1,o2,o3,ol⟩⟩:=x
     simp only at c0 c1 c2 c3 c4 HC HA HE3
     clear hx f1 f2 HE2 r1 r2 r3 r4 r5 hsn hxm hR HZ HV HNL
     go_wp2_with fail
     refine HC.out.mono ?_
     rintro e w3 ⟨rfl,hb3⟩
     have HBF:=Lib.hid (HB.out.trans ((HB2.out.trans (hb3.mono HB2.out.size)).mono tZ8))
     have HA2:Hid (V=decide ((0:Int)≤findN sl m)):=tZ142
     clear c0 c1 c2 c3 c4 hb3 HC HA HE3
     go_wp2_with fail
     go_ret
     exact ⟨by rw [HA2.out];rfl,HBF.out⟩
end Go.Proofs.YtcgclpcocdappaaGreatDoor
