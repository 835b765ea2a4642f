/-
  slices.Delete of one element, at elements of 5 cells, by its contract. The reference's Props, SameProps: by their contracts. A drawn region whose operations read and make memory, with one operation S that changes what was made ahead of it, and a last one, L, that does too. names.Parent and names.Split, by their contracts. Tenants: as they lie in memory, and as they read. names.Join.
-/
import Derived.Test.YtpbejobgickffaaGreatDoorU0
import Derived.Test.YtpbejobgickffaaGreatDoorU6
import Derived.Test.YtpbejobgickffaaGreatDoorRows
import Derived.Handy
import Derived.Lib.Hide
import Derived.Deep.RegionLaw
import Derived.Test.YtpbejobgickffaaGreatDoorU3
import Derived.ShutString
import Derived.Test.YtpbejobgickffaaGreatDoorU4
import Derived.Test.YtpbejobgickffaaGreatDoorU1
namespace Go.Proofs.YtpbejobgickffaaGreatDoor
open Go.RowKit
theorem Tryz.delSnap_size:(Tryz.prog.info? 64).map (·.size)=some 5:=by kernel_rfl
theorem Tryz.delSnap_zero (w:World):(zeroValue 64).run Tryz.prog w=.ok (.agg #[.string ByteArray.empty,.int .i64 0,.slice none 0 0,.slice none 0 0,.slice none 0 0]) w:=by kernel_rfl
theorem delSnap_splice (cur:List Value) (n i c0:Nat) (xs:List Value) (hx:cur.take (n*5)=xs) (hi:i<n) (hn:n≤c0) (hl:cur.length=c0*5) (zs:List Value) (hz:zs.length=1*5) :
  (splice (splice cur (i*5) (xs.drop ((i+1)*5))) ((n-1)*5) zs).take ((n-1)*5)=xs.take (i*5)++xs.drop ((i+1)*5)∧(splice (splice cur (i*5) (xs.drop ((i+1)*5))) ((n-1)*5) zs).length=c0*5:=by
 have hxl:xs.length=n*5:=by rw [← hx,List.length_take];omega
 have hdl:(xs.drop ((i+1)*5)).length=(n-1-i)*5:=by rw [List.length_drop,hxl];omega
 have h1:(splice cur (i*5) (xs.drop ((i+1)*5))).length=c0*5:=by
  unfold splice
  simp only [List.length_append,List.length_take,List.length_drop] at hdl ⊢
  omega
 refine ⟨?_,?_⟩
 ·have e1:(splice (splice cur (i*5) (xs.drop ((i+1)*5))) ((n-1)*5) zs).take ((n-1)*5)=(splice cur (i*5) (xs.drop ((i+1)*5))).take ((n-1)*5):=by
   show List.take _ (List.take _ (splice cur (i*5) (xs.drop ((i+1)*5)))++(zs++_))=_
   rw [List.take_append_of_le_length (by rw [List.length_take,h1];omega),List.take_take,Nat.min_self]
  rw [e1]
  have hc:cur.take (i*5)=xs.take (i*5):=by rw [← hx,List.take_take,Nat.min_eq_left (by omega)]
  have hL:(xs.take (i*5)++xs.drop ((i+1)*5)).length=(n-1)*5:=by rw [List.length_append,List.length_take,hdl,hxl];omega
  show List.take _ (cur.take (i*5)++(xs.drop ((i+1)*5)++_))=_
  rw [hc,← List.append_assoc,List.take_append_of_le_length (by rw [hL];exact Nat.le_refl _)]
  exact List.take_of_length_le (by rw [hL];exact Nat.le_refl _)
 ·show (List.take _ (splice cur (i*5) (xs.drop ((i+1)*5)))++(zs++List.drop _ _)).length=_
  rw [List.length_append,List.length_append,List.length_take,List.length_drop,h1,hz]
  omega
set_option maxRecDepth 100000 in
set_option maxHeartbeats 1000000 in
theorem delSnap_any (xs:List Value) (h1:∀ u∈xs,u.oneCell'=true) (n i c0 base:Nat) (A0:Option Addr) (w:World) (hi:i<n) (hn:n≤5000000000000) (hown:w.ownsRow base 64 5 (.slice A0 n c0) n xs) :
  Calls Tryz.prog 86 #[.slice A0 n c0,.int .i64 i,.int .i64 ((i:Int)+1)] w fun e w'=>∃ v,e=.returned v∧w'.ownsRow base 64 5 v (n-1) (xs.take (i*5)++xs.drop ((i+1)*5))∧w.grownBy w' (Value.slice A0 n c0).ownBlock:=by
 rcases hown.2 with ⟨_,h0⟩ | ⟨g,cap,cur,hs,hbg,hh,hnc,hcm,hsz,hx⟩
 ·omega
 injection hs with e1 _ e2
 subst e1 e2
 have hh':w.heap[g]?=some (.cells cur.toList.toArray 64 (0,0)):=by simpa using hh
 have hcl:cur.toList.length=c0*5:=by simpa using hsz
 obtain ⟨cl,hcl0⟩:∃ cl,cl=cur.toList:=⟨_,rfl⟩
 rw [← hcl0] at hh' hcl hx
 have hxl:xs.length=n*5:=hown.1
 have hdl:(xs.drop ((i+1)*5)).length=(n-1-i)*5:=by rw [List.length_drop,hxl];omega
 have hcells:∀ (w':World),w'.heap[g]?=w.heap[g]?→∀ j v,(xs.drop ((i+1)*5))[j]?=some v→w'.cell? ((⟨g,(i+1)*5,none⟩:Addr).add j)=some v:=by
  intro w' hw j v hv
  have hv2:cl[(i+1)*5+j]?=some v:=by
   rw [List.getElem?_drop,← hx] at hv
   obtain ⟨hlt,_⟩:=List.getElem?_eq_some_iff.1 hv
   rw [List.length_take] at hlt
   rwa [List.getElem?_take_of_lt (by omega)] at hv
  have had:(⟨g,(i+1)*5,none⟩:Addr).add j=⟨g,(i+1)*5+j,none⟩:=by unfold Addr.add;split <;> simp_all
  rw [had,cell_of_row w' g _ _ _ _ (hw.trans hh')]
  simpa using hv2
 have hni:(i:Int)+1≤(n:Int):=by omega
 have hin:(i:Int)≤(n:Int):=by omega
 have hnci:(n:Int)≤(c0:Int):=by omega
 have hcmi:c0≤9223372036854775807:=by unfold maxLen at hcm;omega
 have hne:(((i:Int)) == (i:Int)+1)=false:=by rw [beq_eq_false_iff_ne];omega
 have ht1:((i:Int)+1).toNat=i+1:=by omega
 have hsub:n-(i+1)=n-1-i:=by omega
 have hi1c:(i:Int)+1≤(c0:Int):=by omega
 have hic:(i:Int)≤(c0:Int):=by omega
 have hi0:(0:Int)≤(i:Int)+1:=by omega
 have HC:=Lib.hid hcells
 have HH:=Lib.hid hh'
 have HDL:=Lib.hid hdl
 have HXL:=Lib.hid hxl
 have HCL:=Lib.hid hcl
 have HX:=Lib.hid hx
 have H1:=Lib.hid (fun u hu=>h1 u (List.mem_of_mem_drop (i:=(i+1)*5) hu))
 have HSP:=Lib.hid (fun zs hz=>delSnap_splice cl n i c0 xs hx hi hnc hcl zs hz)
 have hgl:g<w.heap.size:=heap_lt hh'
 clear hcells hh' hdl hxl hcl hx h1 hown hh hsz hcl0
 go_enter Tryz.func86,Tryz.ntmps86
 go_wp2_with fail
 by_cases hlast:c0=i+1
 ·have hnl:n=i+1:=by omega
  subst hlast
  subst hnl
  have hic2:(i:Int)≤(i:Int)+1:=by omega
  have hnil:xs.drop ((i+1)*5)=[]:=List.drop_eq_nil_of_le (by rw [HXL.out];exact Nat.le_refl _)
  have HNIL:=Lib.hid hnil
  clear hnil
  go_region_law (refine step_appendK rfl _ _ 39 rfl 64 5 Tryz.underlying39 Tryz.delSnap_size g i (i+1) ⟨g,0,none⟩ 0 0 (by simp [Act.eval,Act.put]) (by simp [Act.eval,Act.put]) cl 64 HH.out [] (by simp) (by simp) (by rw [HCL.out];simp;omega) (by omega) (by simp) ?_;intro w1 hg1 hgr1)
  have hgr:=grown_drew hgr1
  have HGR:=Lib.hid hgr
  have HG1:=hg1
  have hz1:∀ u∈(.agg #[.string ByteArray.empty,.int .i64 0,.slice none 0 0,.slice none 0 0,.slice none 0 0]:Value).cells.toList,u.oneCell'=true:=fun u hu=>List.all_eq_true.1 (show ((.agg #[.string ByteArray.empty,.int .i64 0,.slice none 0 0,.slice none 0 0,.slice none 0 0]:Value).cells.toList.all (·.oneCell'))=true from rfl) u hu
  clear hg1 hgr1 hgr
  simp only [Act.put,zA]
  go_wp2_with (with_reducible refine wpList_clearK rfl (.tmp 31) 39 rfl 64 (.agg #[.string ByteArray.empty,.int .i64 0,.slice none 0 0,.slice none 0 0,.slice none 0 0]) Tryz.underlying39 Tryz.delSnap_zero hz1 g (i*5) 1 1 (by simp [Act.eval]) (splice cl (i*5) ([])) 64 HG1.out (by simp [splice,Value.cells,HCL.out];omega) ?_;intro w2 zs hzs hg2 hgr2)
  have hzz:zs.length=1*5:=by rw [hzs];rfl
  have hsp:=HSP.out zs hzz
  rw [HNIL.out,Nat.add_sub_cancel] at hsp
  have hrow:=own_of_row (base:=base) hg2.out hbg (Nat.le_succ i) hcm hsp.2 hsp.1
  have hgr:=HGR.out.trans hgr2
  have HROW:=Lib.hid hrow
  clear hrow hsp hg2 hgr2 hzs hzz
  go_ret
  exact ⟨_,rfl,by rw [HNIL.out];exact HROW.out,hgr⟩
 ·have hlt2:i+1<c0:=by omega
  obtain ⟨p,hp⟩:∃ p,p=n-1:=⟨_,rfl⟩
  have hip:i+(n-1-i)=p:=by omega
  have hnp1:n-p=1:=by omega
  have hpn:(p:Int)≤(n:Int):=by omega
  have hpc:(p:Int)≤(c0:Int):=by omega
  have hcp:¬ c0=p:=by omega
  have HIP:=Lib.hid hip
  have HP:=Lib.hid hp
  clear hip hp
  go_region_law (refine step_appendK rfl _ _ 39 rfl 64 5 Tryz.underlying39 Tryz.delSnap_size g i c0 ⟨g,(i+1)*5,none⟩ (n-1-i) (c0-(i+1)) (by simp [Act.eval,Act.put]) (by simp [Act.eval,Act.put]) cl 64 HH.out (xs.drop ((i+1)*5)) HDL.out (HC.out _ rfl) (by rw [HDL.out,HCL.out];omega) (by omega) H1.out ?_;intro w1 hg1 hgr1)
  have hgr:=grown_drew hgr1
  have HGR:=Lib.hid hgr
  have HG1:=hg1
  have hz1:∀ u∈(.agg #[.string ByteArray.empty,.int .i64 0,.slice none 0 0,.slice none 0 0,.slice none 0 0]:Value).cells.toList,u.oneCell'=true:=fun u hu=>List.all_eq_true.1 (show ((.agg #[.string ByteArray.empty,.int .i64 0,.slice none 0 0,.slice none 0 0,.slice none 0 0]:Value).cells.toList.all (·.oneCell'))=true from rfl) u hu
  clear hg1 hgr1 hgr
  simp only [Act.put,zA]
  rw [HIP.out]
  go_wp2_with (with_reducible refine wpList_clearK rfl (.tmp 31) 39 rfl 64 (.agg #[.string ByteArray.empty,.int .i64 0,.slice none 0 0,.slice none 0 0,.slice none 0 0]) Tryz.underlying39 Tryz.delSnap_zero hz1 g (p*5) 1 (c0-p) (by simp [Act.eval]) (splice cl (i*5) (xs.drop ((i+1)*5))) 64 HG1.out (by have h2:=(HSP.out (.agg #[.string ByteArray.empty,.int .i64 0,.slice none 0 0,.slice none 0 0,.slice none 0 0]:Value).cells.toList rfl).2;have h3:=HDL.out;have h4:=HCL.out;have h5:=HP.out;unfold splice;simp only [List.length_append,List.length_take,List.length_drop] at h3 ⊢;simp [Value.cells];omega) ?_;intro w2 zs hzs hg2 hgr2)
  have hzz:zs.length=1*5:=by rw [hzs];rfl
  have hsp:=HSP.out zs hzz
  rw [← HP.out] at hsp
  have hrow:=own_of_row (base:=base) hg2.out hbg (by have:=HP.out;omega) hcm hsp.2 hsp.1
  have hgr:=HGR.out.trans hgr2
  have HROW:=Lib.hid hrow
  clear hrow hsp hg2 hgr2 hzs hzz
  go_ret
  exact ⟨_,rfl,by rw [← HP.out];exact HROW.out,hgr⟩
end Go.Proofs.YtpbejobgickffaaGreatDoor
namespace Go.Proofs.YtpbejobgickffaaGreatDoor
open Go.RowKit
theorem quietN {P:Program} {f:FuncId} {args:Array Value} {w:World} {p m:Nat} {v:Value} (h:Calls P f args (w.drewN (p+m)) fun e w'=>e=.returned v∧w'=w.drewN (p+m)) :
  Calls P f args (w.drewN (p+m)) fun e w''=>e=.returned v∧∃ n,w''=w.drewN (p+n):=h.mono fun _ _ ⟨h1,h2⟩=>⟨h1,m,h2⟩
set_option maxRecDepth 100000 in
set_option maxHeartbeats 2000000 in
theorem refProps_any (l:PL) (n:Nat) (hnl:n=l.length) (A:Option Addr) (c:Nat) (w:World) (B:Nat) (hr:Reads w B 2 A n (pcells l)) (hn:n≤5000000000000) (hv:∀ x∈l,x.1.length≤140737488351232∧x.2.length≤140737488351232) :
  Calls Tryz.prog 111 #[.slice A n c] w fun e w'=>e=.returned (.int .i64 (propsE l))∧∃ q,w'=w.drewN q:=by
 have HN:=Lib.hid hnl
 obtain ⟨E,hE⟩:∃ E,E=propsE l:=⟨_,rfl⟩
 have hPE:Hid (∀ b,propsFrom none l=b→E=if b=true∧n≤8 then 0 else 9):=by
  show ∀ b,_→_
  rintro b rfl
  rw [hE]
  unfold propsE propsB
  rw [← hnl]
  by_cases h8:n≤8
  ·simp [h8]
  ·simp [h8]
 rw [← hE]
 clear hnl hE
 go_enter Tryz.func111,Tryz.ntmps111
 go_wp2_with fail
 go_loopw [3] (fun j wr=>∃ k:Nat,k≤n∧j=.int .i64 (k:Int)∧Hid (propsFrom none l=propsFrom (prevP l k) (l.drop k))∧∃ p,wr=w.drewN p) (fun j _=>n-(intOf j).toNat)
 case atStart=>exact ⟨0,Nat.zero_le _,rfl,rfl,0,rfl⟩
 case round =>
  obtain ⟨k,hk,rfl,hok,p,rfl⟩:=hrel
  by_cases hlt:k<n
  ·obtain ⟨ad,rfl,hadB,c0,c1⟩:=hr.prop HN.out hlt
   have hki:(k:Int)<(n:Int):=by omega
   have hkl:k<l.length:=by have:=HN.out;omega
   obtain ⟨x,hx⟩:∃ x,x=l[k]'hkl:=⟨_,rfl⟩
   have hxl:=hv x (by rw [hx];exact List.getElem_mem _)
   rw [← hx] at c0 c1
   have hdr:=List.drop_eq_getElem_cons hkl
   rw [← hx] at hdr
   have HX:=Lib.hid hx
   have HDR:=Lib.hid hdr
   obtain ⟨xn,xv⟩:=x
   simp only [strV] at c0 c1 hxl
   have hbad:Hid ((nameB xn=false∨valB xv=false∨(∃ y,prevP l k=some y∧Op.bytesLess y xn=false))→E=9):=by
    show _→_
    intro h
    rw [hPE.out false]
    ·rfl
    rw [hok.out,HDR.out,propsFrom_cons]
    rcases h with h | h | ⟨y,hy,h⟩
    ·rw [h];rfl
    ·rw [h];simp
    ·rw [hy];simp [h]
   have hgood:Hid (nameB xn=true→valB xv=true→(∀ y,prevP l k=some y→Op.bytesLess y xn=true)→propsFrom none l=propsFrom (prevP l (k+1)) (l.drop (k+1))):=by
    show _→_→_→_
    intro h1 h2 h3
    rw [hok.out,HDR.out]
    have hp:prevP l (k+1)=some xn:=by
     show (l[k]?).map (·.1)=_
     rw [List.getElem?_eq_getElem hkl,← HX.out]
     rfl
    rw [hp,propsFrom_cons,h1,h2]
    cases hq:prevP l k with
    | none=>rfl
    | some y=>simp [h3 y hq]
   have hN:∀ m,Calls Tryz.prog 87 #[.string ⟨xn.toArray⟩] (w.drewN (p+m)) fun e W'=>e=.returned (.bool (nameB xn))∧∃ n,W'=w.drewN (p+n):=fun m=>quietN (refName_any xn _ hxl.1)
   have hV:∀ m,Calls Tryz.prog 112 #[.string ⟨xv.toArray⟩] (w.drewN (p+m)) fun e W'=>e=.returned (.bool (valB xv))∧∃ n,W'=w.drewN (p+n):=fun m=>quietN (refValue_any xv _ hxl.2)
   clear hx hdr hok hxl hv
   obtain ⟨bn,hbn0⟩:∃ b,b=nameB xn:=⟨_,rfl⟩
   obtain ⟨bv,hbv0⟩:∃ b,b=valB xv:=⟨_,rfl⟩
   rw [← hbn0] at hbad hgood hN
   rw [← hbv0] at hbad hgood hV
   clear hbn0 hbv0
   cases bn with
   | false =>
    have HB:=Lib.hid (hbad.out (.inl rfl))
    clear hr hbad hgood hV
    go_wp2_with fail
    go_big_quiet ((go_at_call 87;exact hN _))
    clear hN
    go_wp2_with fail
    go_ret
    exact ⟨by rw [HB.out];rfl,_,World.drewN_drewN _ _ _⟩
   | true =>
    cases bv with
    | false =>
     have HB:=Lib.hid (hbad.out (.inr (.inl rfl)))
     clear hr hbad hgood
     go_wp2_with fail
     go_big_quiet (first | (go_at_call 87;exact hN _) | (go_at_call 112;exact hV _))
     clear hN hV
     go_wp2_with fail
     go_ret
     exact ⟨by rw [HB.out];rfl,_,World.drewN_drewN _ _ _⟩
    | true =>
     rcases Nat.eq_zero_or_pos k with h0 | h0
     ·have HG:=Lib.hid (hgood.out rfl rfl (fun y hy=>by subst h0;cases hy))
      have d4:decide ((0:Int)<(k:Int))=false:=by simp;omega
      have d4':decide (0<k)=false:=by simp;omega
      clear h0 hr hbad hgood
      go_wp2_with fail
      go_big_quiet (first | (go_at_call 87;exact hN _) | (go_at_call 112;exact hV _))
      clear hN hV
      go_wp2_with fail
      go_roundw
      case rel=>exact ⟨k+1,by omega,by go_num,HG,_,rfl⟩
      case measure=>simp [intOf];omega
     ·have d4:decide ((0:Int)<(k:Int))=true:=by simp;omega
      have d4':decide (0<k)=true:=by simp;omega
      have hk1l:k-1<l.length:=by omega
      obtain ⟨y,hy⟩:∃ y,y=(l[k-1]'hk1l).1:=⟨_,rfl⟩
      have hpv:prevP l k=some y:=by
       obtain ⟨j,rfl⟩:∃ j,k=j+1:=⟨k-1,by omega⟩
       show (l[j]?).map (·.1)=_
       have hj:j<l.length:=by simpa using hk1l
       rw [List.getElem?_eq_getElem hj,hy]
       rfl
      obtain ⟨ad2,e2,-,c2,-⟩:=(hr.prop HN.out (k:=k-1) (by omega))
      injection e2 with e2
      subst e2
      rw [← hy] at c2
      simp only [strV] at c2
      have i1:(1:Int)≤(k:Int):=by omega
      have i2:(k:Int)-1<(n:Int):=by omega
      have i3:IntKind.i64.wrap ((k:Int)-1)=(k:Int)-1:=IntWalk.i64_in _ (by omega)
      have i4:((k:Int)-1).toNat=k-1:=by omega
      have hleq:=leqS 9 xn y
      cases hcmp:Op.bytesLess y xn with
      | true =>
       have HG:=Lib.hid (hgood.out rfl rfl (fun y' hy'=>by rw [hpv] at hy';cases hy';exact hcmp))
       have f1:(Op.bytesLess xn y || xn == y)=false:=by
        rw [Bool.or_eq_false_iff]
        refine ⟨?_,by simpa using (bl_ne hcmp).symm⟩
        rw [← Bool.not_eq_true]
        intro h
        have:=bl_trans hcmp h
        rw [bl_irrefl] at this
        cases this
       rw [f1] at hleq
       clear hr hbad hgood h0 hpv hy hcmp f1
       go_wp2_with fail
       go_big_quiet (first | (go_at_call 87;exact hN _) | (go_at_call 112;exact hV _))
       clear hN hV hleq
       go_wp2_with fail
       go_roundw
       case rel=>exact ⟨k+1,by omega,by go_num,HG,_,rfl⟩
       case measure=>simp [intOf];omega
      | false =>
       have HB:=Lib.hid (hbad.out (.inr (.inr ⟨y,hpv,hcmp⟩)))
       have f1:(Op.bytesLess xn y || xn == y)=true:=by
        by_cases e:xn=y
        ·simp [e]
        ·rw [bl_tri y xn hcmp (fun h=>e h.symm)];rfl
       rw [f1] at hleq
       clear hr hbad hgood h0 hpv hy hcmp f1
       go_wp2_with fail
       go_big_quiet (first | (go_at_call 87;exact hN _) | (go_at_call 112;exact hV _))
       clear hN hV hleq
       go_wp2_with fail
       go_ret
       exact ⟨by rw [HB.out];rfl,_,World.drewN_drewN _ _ _⟩
  ·have hkn:k=n:=by omega
   have hF:Hid (E=if n≤8 then 0 else 9):=by
    show _=_
    rw [hPE.out true]
    ·simp
    rw [hok.out,List.drop_of_length_le (by rw [hkn,HN.out];exact Nat.le_refl _)]
    rfl
   clear hok hr hkn hPE
   by_cases h8:n≤8
   ·have hi8:¬ (8:Int)<(n:Int):=by omega
    have HV:Hid (E=0):=by show _=_;rw [hF.out,if_pos h8]
    clear hF
    go_wp2_with fail
    go_ret
    exact ⟨by rw [HV.out];rfl,p,rfl⟩
   ·have hi8:(8:Int)<(n:Int):=by omega
    have HV:Hid (E=9):=by show _=_;rw [hF.out,if_neg h8]
    clear hF
    go_wp2_with fail
    go_ret
    exact ⟨by rw [HV.out];rfl,p,rfl⟩
end Go.Proofs.YtpbejobgickffaaGreatDoor
namespace Go.Proofs.YtpbejobgickffaaGreatDoor
open Go.RowKit
section
variable {P:Program} {ops:Array Oper}
theorem wp_region_two {id:Nat} {a0:Act} {w:World} {Q:Exit→Act→World→Prop} (S L:Nat) (late:List Nat) (hm:P.follows .mixedOrders=true) (hok:regionOk ops a0.tmps.size=true) (hlo:lastOk ops L=true) (hLs:L<ops.size) (hSs:S<ops.size) (hSL:S≠L) (Gs:List (Value→World→Prop)) (hst:∀ p∈Gs,Stays p)
  (hlt:∀ i,i<ops.size→i≠S→i≠L→i ∉ late→∀ m,ClosedM ops m→(m S).isSome=true→(m i).isSome=true)
  (hstep:∀ i o,ops[i]?=some o→i≠S→i≠L→i ∉ late→∀ (m:Nat→Option Value) (W:World),Below w.heap.size w W→m i=none→ClosedM ops m→(∀ e∈o.after,Region.binds .any e=true→∃ v,m e.on=some v∧Says Gs e.on v W) →
   ∀ (A:Act) (K:Act→World→Prop),A=frameM a0 ops m→(∀ v W',Below W.heap.size W W'→Says Gs i v W'→K (A.put o.dst v) W')→if Region.wanted o (yielded ops A.tmps)=true then o.wp P A W K Q else K (A.put o.dst undef) W)
  (R:World→Value→World→Prop)
  (hlate:∀ i o,ops[i]?=some o→i≠S→i≠L→i∈late→∀ (m:Nat→Option Value) (W9 W:World),Below w.heap.size w W9→m i=none→ClosedM ops m→(∀ e∈o.after,Region.binds .any e=true→e.on≠S→∃ v,m e.on=some v∧Says Gs e.on v W9)→(W=W9∨∃ u,m S=some u∧R W9 u W) →
   ∀ (A:Act) (K:Act→World→Prop),A=frameM a0 ops m→(∀ v,(∀ W',Says Gs i v W')→K (A.put o.dst v) W)→if Region.wanted o (yielded ops A.tmps)=true then o.wp P A W K Q else K (A.put o.dst undef) W)
  (hS:∀ o,ops[S]?=some o→∀ (m:Nat→Option Value) (W:World),Below w.heap.size w W→m S=none→ClosedM ops m→(∀ e∈o.after,Region.binds .any e=true→∃ v,m e.on=some v∧Says Gs e.on v W) →
   ∀ (A:Act) (K:Act→World→Prop),A=frameM a0 ops m→(∀ u W',R W u W'→K (A.put o.dst u) W')→if Region.wanted o (yielded ops A.tmps)=true then o.wp P A W K Q else K (A.put o.dst undef) W)
  (hL:∀ o,ops[L]?=some o→∀ (m:Nat→Option Value) (W9 W:World) (u:Value),Below w.heap.size w W9→m L=none→(∀ i,i<ops.size→i≠S→i≠L→∃ v,m i=some v∧Says Gs i v W9)→m S=some u→R W9 u W →
   ∀ (A:Act) (K:Act→World→Prop),A=frameM a0 ops m→(∀ v W',Q .normal (frameM a0 ops (upd m L v)) W'→K (A.put o.dst v) W')→if Region.wanted o (yielded ops A.tmps)=true then o.wp P A W K Q else K (A.put o.dst undef) W) :
  (Code.region id ops true).wp P Q a0 w:=by
 have hsay:∀ i v W W',Says Gs i v W→Below W.heap.size W W'→Says Gs i v W':=by
  intro i v W W' h hb
  unfold Says at h ⊢
  cases hG:Gs[i]? with
  | none=>trivial
  | some p=>rw [hG] at h;exact hst p (List.mem_of_getElem? hG) v W W' h hb
 refine wp_region_inv hm hok (fun m W=>(m L=none∧∃ W9,Below w.heap.size w W9∧(∀ i v,m i=some v→i≠S→Says Gs i v W9)∧ClosedM ops m∧((m S=none∧W=W9)∨∃ u,m S=some u∧R W9 u W))∨((∀ i,i<ops.size→(m i).isSome=true)∧Q .normal (frameM a0 ops m) W))
  (.inl ⟨rfl,_,(Below.refl _ _).drew,fun _ _ h=>(by cases h),fun _ _ _ h=>(by cases h),.inl ⟨rfl,rfl⟩⟩) ?_ ?_
 ·intro i o ho m W hJ hmi hdeps A K hA hK
  have his:i<ops.size:=(Array.getElem?_eq_some_iff.1 ho).1
  rcases hJ with ⟨hLn,W9,hb,hs,hcl,hW⟩ | ⟨hall,_⟩
  ·have hdv:∀ e∈o.after,Region.binds .any e=true→e.on≠S→∃ v,m e.on=some v∧Says Gs e.on v W9:=fun e he hbi hne=>by
    have:=hdeps e he hbi
    cases hme:m e.on with
    | none=>rw [hme] at this;cases this
    | some v=>exact ⟨v,rfl,hs _ _ hme hne⟩
   have hsu:∀ v W',Below W9.heap.size W9 W'→(i≠S→Says Gs i v W')→∀ j u,upd m i v j=some u→j≠S→Says Gs j u W':=fun v W' hbw hSy j u hu hjS=>by
    by_cases hji:j=i
    ·subst hji;rw [upd_self] at hu;injection hu with hu;subst hu;exact hSy hjS
    ·rw [upd_ne m v hji] at hu;exact hsay j u W9 W' (hs j u hu hjS) hbw
   by_cases hiL:i=L
   ·subst hiL
    have hr:=reach_some hcl ops.size (depsOf ops i) (fun k hk=>by
     unfold depsOf at hk
     rw [ho] at hk
     obtain ⟨e,he,rfl⟩:=List.mem_map.1 hk
     obtain ⟨he,hbi⟩:=List.mem_filter.1 he
     exact hdeps e (Array.mem_toList_iff.1 he) hbi)
    have hoth:∀ j,j<ops.size→j≠i→(m j).isSome=true:=fun j hj hne=>by
     have h1:=List.all_eq_true.1 hlo j (List.mem_range.2 hj)
     simp only [Bool.or_eq_true,beq_iff_eq,List.contains_iff_mem] at h1
     rcases h1 with h1 | h1
     ·exact absurd h1 hne
     ·exact hr j h1
    rcases hW with ⟨hn,_⟩ | ⟨u,hu,hR⟩
    ·have:=hoth S hSs hSL
     rw [hn] at this
     cases this
    ·refine hL o ho m W9 W u hb hmi (fun j hj h1 h2=>?_) hu hR A K hA (fun v W' hQ=>hK v W' (.inr ⟨fun j hj=>?_,hQ⟩))
     ·have h3:=hoth j hj h2
      cases hmj:m j with
      | none=>rw [hmj] at h3;cases h3
      | some v=>exact ⟨v,rfl,hs j v hmj h1⟩
     ·by_cases hji:j=i
      ·subst hji;rw [upd_self];rfl
      ·rw [upd_ne m v hji];exact hoth j hj hji
   ·by_cases hiS:i=S
    ·subst hiS
     rcases hW with ⟨_,rfl⟩ | ⟨u,hu,_⟩
     ·refine hS o ho m W hb hmi hcl (fun e he hbi=>hdv e he hbi (fun hne=>by have:=hdeps e he hbi;rw [hne,hmi] at this;cases this)) A K hA fun u W' hR=>hK u W' (.inl ⟨by rw [upd_ne m u (Ne.symm hiL)];exact hLn,W,hb,hsu u W (Below.refl _ _) (fun h=>absurd rfl h),hcl.upd ho hdeps u,.inr ⟨u,upd_self _ _ _,hR⟩⟩)
     ·rw [hmi] at hu;cases hu
    ·by_cases hil:i∈late
     ·refine hlate i o ho hiS hiL hil m W9 W hb hmi hcl hdv (by rcases hW with ⟨_,h⟩ | h;exact .inl h;exact .inr h) A K hA fun v hv=>hK v W (.inl ⟨by rw [upd_ne m v (Ne.symm hiL)];exact hLn,W9,hb,hsu v W9 (Below.refl _ _) (fun _=>hv _),hcl.upd ho hdeps v,?_⟩)
      rw [upd_ne m v (fun e=>hiS e.symm)]
      exact hW
     ·rcases hW with ⟨hn,rfl⟩ | ⟨u,hu,_⟩
      ·refine hstep i o ho hiS hiL hil m W hb hmi hcl (fun e he hbi=>hdv e he hbi (fun hne=>by have:=hdeps e he hbi;rw [hne,hn] at this;cases this)) A K hA fun v W' hbw hSy=>hK v W' (.inl ⟨by rw [upd_ne m v (Ne.symm hiL)];exact hLn,W',below_step hb hbw,hsu v W' hbw (fun _=>hSy),hcl.upd ho hdeps v,.inl ⟨?_,rfl⟩⟩)
       rw [upd_ne m v (fun e=>hiS e.symm)]
       exact hn
      ·have:=hlt i his hiS hiL hil m hcl (by rw [hu];rfl)
       rw [hmi] at this
       cases this
  ·have:=hall i his
   rw [hmi] at this
   cases this
 ·intro m W hJ hall
  rcases hJ with ⟨hLn,_⟩ | ⟨_,hQ⟩
  ·have:=hall L hLs
   rw [hLn] at this
   cases this
  ·exact hQ
end
end Go.Proofs.YtpbejobgickffaaGreatDoor
namespace Go.Proofs.YtpbejobgickffaaGreatDoor
open Go.RowKit
set_option maxRecDepth 100000 in
theorem parent_any (s:ByteArray) (w:World) (hs:s.size≤4000000000) (hm:HasMax w) :
  Calls Tryz.prog 59 #[.string s] w fun e w'=>Below w.heap.size w w' ∧
   ((s.data.toList=[]∨pathB s.data.toList=false)∧e=.returned (.tuple #[.string ⟨#[]⟩,.bool false]) ∨
    s.data.toList≠[]∧pathB s.data.toList=true∧e=.returned (.tuple #[.string ⟨(upL s.data.toList).toArray⟩,.bool true])):=by
 have hts:=Lib.hid (toList_data s)
 go_enter Tryz.func59,Tryz.ntmps59
 go_wp2_with fail
 ·have h0:s.toList=[]:=by assumption
  rw [hts.out] at h0
  refine bodyPost_ret (v:=.tuple #[.string ⟨#[]⟩,.bool false]) (by simp [results,Tryz.results59,go_sem]) rfl ⟨Below.refl _ _,.inl ⟨.inl h0,rfl⟩⟩
 ·have h0:¬ s.toList=[]:=by assumption
  have hie:s.toList.isEmpty=false:=by simpa using h0
  rw [hts.out] at h0
  refine (path_any s w hs hm).mono ?_
  rintro e w1 ⟨rfl,hb1⟩
  obtain ⟨bs,hbs0⟩:∃ b,b=pathB s.data.toList:=⟨_,rfl⟩
  rw [← hbs0]
  simp only [hie]
  clear hie
  have hbs:=Lib.hid hbs0
  have hne:=Lib.hid h0
  have hlast:=Lib.hid (last_eq s)
  have hlb:=Lib.hid (last_bound s.data.toList)
  clear hbs0 h0
  cases bs
  ·go_wp2_with fail
   refine bodyPost_ret (v:=.tuple #[.string ⟨#[]⟩,.bool false]) (by simp [results,Tryz.results59,go_sem]) rfl ⟨hb1,.inl ⟨.inr hbs.out.symm,rfl⟩⟩
  ·go_wp2_with fail
   refine (Tryz.strings_LastIndexByte s 47 (by omega) _).mono ?_
   rintro e w2 ⟨rfl,rfl⟩
   have hm1:=Lib.hid (show max (Lib.lastIndexByte s 47) 0=(((lastS s.data.toList).getD 0:Nat):Int) from hlast.out)
   obtain ⟨k,hk⟩:∃ k,k=(lastS s.data.toList).getD 0:=⟨_,rfl⟩
   rw [← hk] at hlb hm1
   have HK:=Lib.hid hk
   have hks:k≤s.size:=by rw [Lib.size_eq];exact hlb.out
   clear hlast hlb hk
   go_wp2_with fail
   ·have hv:(s.extract 0 (max (Lib.lastIndexByte s 47) 0).toNat)=⟨(upL s.data.toList).toArray⟩:=by
     apply eq_mk
     rw [hm1.out,Lib.extract_from_zero]
     unfold upL
     rw [← HK.out]
     rfl
    refine bodyPost_ret (v:=.tuple #[.string ⟨(upL s.data.toList).toArray⟩,.bool true]) (by simp [results,Tryz.results59,go_sem,hv]) rfl ⟨hb1,.inr ⟨hne.out,hbs.out.symm,rfl⟩⟩
   ·rename_i h0
    exact absurd ⟨by omega,by rw [hm1.out];omega⟩ h0
/-- what Split answers -/
def splitV (l:List UInt8):Value:=match atL l with
 | some (p,n)=>if (pathB p && nameB n)=true then .tuple #[.string ⟨p.toArray⟩,.string ⟨n.toArray⟩,.int .i64 0] else .tuple #[.string ⟨#[]⟩,.string ⟨#[]⟩,.int .i64 31]
 | none=>.tuple #[.string ⟨#[]⟩,.string ⟨#[]⟩,.int .i64 31]
theorem atL_len (l p n:List UInt8) (h:atL l=some (p,n)):p.length+n.length<l.length:=by
 induction l generalizing p with
 | nil=>cases h
 | cons a r ih =>
  unfold atL at h
  split at h
  ·simp only [Option.some.injEq,Prod.mk.injEq] at h
   obtain ⟨rfl,rfl⟩:=h
   simp
  ·split at h
   ·rename_i p' n' e
    simp only [Option.some.injEq,Prod.mk.injEq] at h
    obtain ⟨rfl,rfl⟩:=h
    have:=ih _ e
    simp
    omega
   ·cases h
set_option maxRecDepth 100000 in
theorem split_any (s:ByteArray) (w:World) (hs:s.size≤4000000000) (hm:HasMax w) :
  Calls Tryz.prog 124 #[.string s] w fun e w'=>e=.returned (splitV s.data.toList)∧Below w.heap.size w w':=by
 obtain ⟨m,hmm⟩:=id hm
 have hcut:∃ p n:ByteArray,∃ b:Bool,p.size≤4000000000∧splitV s.data.toList=(if (b && pathB p.data.toList && nameB n.data.toList)=true then .tuple #[.string p,.string n,.int .i64 0] else .tuple #[.string ⟨#[]⟩,.string ⟨#[]⟩,.int .i64 31]) ∧
   Calls Tryz.prog 169 #[.string s,.string ⟨#[64]⟩] w fun e w'=>e=.returned (.tuple #[.string p,.string n,.bool b])∧∃ q,w'=w.drewN q:=by
  have hc:=Tryz.strings_Cut s ⟨#[64]⟩ m w (by omega) hmm
  have he:=cut_at s.data.toList
  have hsz:=Lib.size_eq s
  cases ha:atL s.data.toList with
  | none =>
   rw [ha] at he
   refine ⟨s,⟨#[]⟩,false,hs,by unfold splitV;rw [ha];rfl,hc.mono ?_⟩
   rintro e w' ⟨h1,h2⟩
   refine ⟨?_,h2⟩
   rw [h1]
   simp only at he
   rw [he]
  | some pn =>
   obtain ⟨p,n⟩:=pn
   rw [ha] at he
   have hl:=atL_len _ _ _ ha
   refine ⟨⟨p.toArray⟩,⟨n.toArray⟩,true,by rw [Lib.size_eq];simp;omega,by unfold splitV;rw [ha];rfl,hc.mono ?_⟩
   rintro e w' ⟨h1,h2⟩
   refine ⟨?_,h2⟩
   rw [h1]
   simp only at he
   rw [he]
 clear hmm
 obtain ⟨p,n,b,hps,hv,hcut⟩:=hcut
 have HV:=Lib.hid hv
 clear hv
 go_enter Tryz.func124,Tryz.ntmps124
 go_wp2_with fail
 refine hcut.mono ?_
 clear hcut
 rintro e w1 ⟨rfl,q,rfl⟩
 have hb1:Below w.heap.size w (w.drewN q):=below_drewN (Below.refl _ _) q
 have hm1:=hm.below hb1
 cases b
 ·go_wp2_with fail
  exact bodyPost_ret (v:=.tuple #[.string ⟨#[]⟩,.string ⟨#[]⟩,.int .i64 31]) (by simp [results,Tryz.results124,go_sem]) rfl ⟨by rw [HV.out];rfl,hb1⟩
 ·go_wp2_with fail
  refine (path_any p _ hps hm1).mono ?_
  rintro e w2 ⟨rfl,hb2⟩
  have hb:=hb1.trans (hb2.mono hb1.size)
  obtain ⟨b,hbb⟩:∃ b,b=pathB p.data.toList:=⟨_,rfl⟩
  rw [← hbb] at HV ⊢
  clear hbb
  cases b
  ·go_wp2_with fail
   exact bodyPost_ret (v:=.tuple #[.string ⟨#[]⟩,.string ⟨#[]⟩,.int .i64 31]) (by simp [results,Tryz.results124,go_sem]) rfl ⟨by rw [HV.out];rfl,hb⟩
  ·go_wp2_with fail
   refine (name_any n _).mono ?_
   rintro e w3 ⟨rfl,hb3⟩
   have hb':=hb.trans (hb3.mono hb.size)
   obtain ⟨b,hbb⟩:∃ b,b=nameB n.data.toList:=⟨_,rfl⟩
   rw [← hbb] at HV ⊢
   clear hbb
   cases b
   ·go_wp2_with fail
    exact bodyPost_ret (v:=.tuple #[.string ⟨#[]⟩,.string ⟨#[]⟩,.int .i64 31]) (by simp [results,Tryz.results124,go_sem]) rfl ⟨by rw [HV.out];rfl,hb'⟩
   ·go_wp2_with fail
    exact bodyPost_ret (v:=.tuple #[.string p,.string n,.int .i64 0]) (by simp [results,Tryz.results124,go_sem]) rfl ⟨by rw [HV.out];rfl,hb'⟩
end Go.Proofs.YtpbejobgickffaaGreatDoor
namespace Go.Proofs.YtpbejobgickffaaGreatDoor
open Go.RowKit
abbrev BlkT:=Int×BS
def encB (x:BlkT):List Value:=[.int .i64 x.1,strV x.2]
def encP (x:BS×BS):List Value:=[strV x.1,strV x.2]
def encS (x:BS):List Value:=[strV x]
def encG (x:GT):List Value:=[strV x.1,strV x.2.1,.int .i64 x.2.2]
structure SnapR where
 nm:BS
 gd:Int
 body:FS BlkT
 tags:FS BS
 own:FS (BS×BS)
def encSnap (x:SnapR):List Value:=[strV x.nm,.int .i64 x.gd,x.body.val,x.tags.val,x.own.val]
structure SetR where
 path:BS
 org:BS
 body:FS BlkT
 snaps:FS SnapR
 own:FS (BS×BS)
def encSet (x:SetR):List Value:=[strV x.path,strV x.org,x.body.val,x.snaps.val,x.own.val]
structure StageR where
 into:BS
 kind:Int
 nm:BS
 frm:Int
 gd:Int
 own:FS (BS×BS)
 ix:Int
 ct:Int
 dt:BS
 sm:Sm
 body:FS BlkT
 at_:Int
 nx:Int
 sum:Sm
 done:Bool
def smV (s:Sm):List Value:=[.int .u64 s.a,.int .u64 s.b,.int .u64 s.c,.int .u64 s.d]
def encStage (x:StageR):List Value :=
 [strV x.into,.int .i64 x.kind,strV x.nm,.int .i64 x.frm,.int .i64 x.gd,x.own.val,.int .i64 x.ix,.int .i64 x.ct,strV x.dt]++smV x.sm++[x.body.val,.int .i64 x.at_,.int .i64 x.nx]++smV x.sum++[.bool x.done]
structure EntryR where
 user:BS
 kind:Int
 path:BS
 err:Int
def encEntry (x:EntryR):List Value:=[strV x.user,.int .i64 x.kind,strV x.path,.int .i64 x.err]
structure TenR where
 nm:BS
 quota:Int
 next:Int
 sets:FS SetR
 grants:FS GT
 stages:FS StageR
 log:FS EntryR
def TenR.cells (t:TenR):List Value:=[strV t.nm,.int .i64 t.quota,.int .i64 t.next,t.sets.val,t.grants.val,t.stages.val,t.log.val]
def TenR.val (t:TenR):Value:=.agg t.cells.toArray
structure SnapR.rd (w:World) (B:Nat) (x:SnapR):Prop where
 body:x.body.rd w B 2 encB
 tags:x.tags.rd w B 1 encS
 own:x.own.rd w B 2 encP
structure SetR.rd (w:World) (B:Nat) (x:SetR):Prop where
 body:x.body.rd w B 2 encB
 snaps:x.snaps.rd w B 5 encSnap
 each:∀ y∈x.snaps.l,y.rd w B
 own:x.own.rd w B 2 encP
structure StageR.rd (w:World) (B:Nat) (x:StageR):Prop where
 own:x.own.rd w B 2 encP
 body:x.body.rd w B 2 encB
structure TenR.rd (w:World) (B:Nat) (t:TenR):Prop where
 sets:t.sets.rd w B 5 encSet
 eachS:∀ y∈t.sets.l,y.rd w B
 grants:t.grants.rd w B 3 encG
 stages:t.stages.rd w B 21 encStage
 eachG:∀ y∈t.stages.l,y.rd w B
 log:t.log.rd w B 4 encEntry
/-! ### sizes -/
structure SnapR.sz (x:SnapR):Prop where
 nm:x.nm.length≤4000000000
 body:x.body.n≤1000000000000
 tags:x.tags.n≤1000000000000
 each:∀ t∈x.tags.l,t.length≤4000000000
 own:x.own.n≤1000000000000
 props:∀ p∈x.own.l,p.1.length≤4000000000∧p.2.length≤4000000000
structure SetR.sz (x:SetR):Prop where
 path:x.path.length≤4000000000
 org:x.org.length≤4000000000
 body:x.body.n≤1000000000000
 snaps:x.snaps.n≤1000000000000
 each:∀ y∈x.snaps.l,y.sz
 own:x.own.n≤1000000000000
 props:∀ p∈x.own.l,p.1.length≤4000000000∧p.2.length≤4000000000
structure StageR.sz (x:StageR):Prop where
 into:x.into.length≤4000000000
 nm:x.nm.length≤4000000000
 dt:x.dt.length≤4000000000
 own:x.own.n≤1000000000000
 props:∀ p∈x.own.l,p.1.length≤4000000000∧p.2.length≤4000000000
 body:x.body.n≤1000000000000
structure EntryR.sz (x:EntryR):Prop where
 user:x.user.length≤4000000000
 path:x.path.length≤4000000000
structure TenR.sz (t:TenR):Prop where
 nm:t.nm.length≤4000000000
 sets:t.sets.n≤1000000000000
 eachS:∀ y∈t.sets.l,y.sz
 grants:t.grants.n≤1000000000000
 eachG:∀ g∈t.grants.l,g.1.length≤4000000000∧g.2.1.length≤4000000000
 stages:t.stages.n≤1000000000000
 eachT:∀ y∈t.stages.l,y.sz
 log:t.log.n≤1000000000000
 eachL:∀ y∈t.log.l,y.sz
end Go.Proofs.YtpbejobgickffaaGreatDoor
namespace Go.Proofs.YtpbejobgickffaaGreatDoor
open Go.RowKit
set_option maxRecDepth 100000 in
theorem join_any (s n:ByteArray) (w:World) (hs:s.size≤4000000000000000000) (hn:n.size≤4000000000000000000) :
  Calls Tryz.prog 81 #[.string s,.string n] w fun e w'=>e=.returned (.string ⟨(s.data.toList++64 :: n.data.toList).toArray⟩)∧w'=w:=by
 go_enter Tryz.func81,Tryz.ntmps81
 go_wp2_with fail
 go_ret
 refine ⟨congrArg Ending.returned (congrArg Value.string (eq_mk _ _ ?_)),rfl⟩
 rw [append_data,append_data,List.append_assoc]
 rfl
end Go.Proofs.YtpbejobgickffaaGreatDoor
