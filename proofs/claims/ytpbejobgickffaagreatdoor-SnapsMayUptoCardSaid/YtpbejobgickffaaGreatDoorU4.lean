/-
  Properties in memory; props.value, props.Check, by their contracts.
-/
import Derived.Test.YtpbejobgickffaaGreatDoorU0
import Derived.Test.YtpbejobgickffaaGreatDoorU3
import Derived.Test.YtpbejobgickffaaGreatDoorU2
namespace Go.Proofs.YtpbejobgickffaaGreatDoor
open Go.RowKit
def strV (s:BS):Value:=.string ⟨s.toArray⟩
def pcells (l:PL):List Value:=l.flatMap fun x=>[strV x.1,strV x.2]
theorem pcells_get (l:PL) (k:Nat) (h:k<l.length):(pcells l)[k*2]?=some (strV (l[k]).1)∧(pcells l)[k*2+1]?=some (strV (l[k]).2):=by
 induction l generalizing k with
 | nil=>simp at h
 | cons x l ih =>
  have e:pcells (x :: l)=strV x.1 :: strV x.2 :: pcells l:=rfl
  rw [e]
  cases k with
  | zero=>exact ⟨rfl,rfl⟩
  | succ k =>
   rw [show (k+1)*2=k*2+1+1 by omega]
   simp only [zD,List.getElem_cons_succ]
   exact ih k (by simpa using h)
theorem Reads.prop {w:World} {B n:Nat} {A:Option Addr} {l:PL} (h:Reads w B 2 A n (pcells l)) (hn:n=l.length) {k:Nat} (hk:k<n) :
  ∃ ad,A=some ad∧ad.block<B∧w.cell? (ad.add (k*2))=some (strV (l[k]'(by omega)).1)∧w.cell? ⟨(ad.add (k*2)).block,(ad.add (k*2)).off+1,none⟩=some (strV (l[k]'(by omega)).2):=by
 obtain ⟨ad,e,hb,hc⟩:=h.2 (by omega)
 obtain ⟨g1,g2⟩:=pcells_get l k (by omega)
 refine ⟨ad,e,hb,hc _ _ g1,?_⟩
 have h2:=hc _ _ g2
 rw [← add_of_add] at h2
 simpa [Addr.add] using h2
set_option maxRecDepth 100000 in
theorem valOdd_any (c:UInt8) (w:World):Calls Tryz.prog 185 #[.int .u8 (c.toNat:Int)] w fun e w'=>e=.returned (.bool (!(decide (32≤c) && decide (c≤126))))∧w'=w:=by
 have hc:c.toNat<256:=c.toNat_lt
 have hk:=Lib.hid (show (decide (32≤c) && decide (c≤126))=true↔32≤(c.toNat:Int)∧(c.toNat:Int)≤126 by
  simp only [Bool.and_eq_true,decide_eq_true_eq,UInt8.le_iff_toNat_le]
  have e1:(32:UInt8).toNat=32:=rfl
  have e2:(126:UInt8).toNat=126:=rfl
  omega)
 obtain ⟨b,hb⟩:∃ b,b=(decide (32≤c) && decide (c≤126)):=⟨_,rfl⟩
 rw [← hb] at hk ⊢
 clear hb
 go_enter Tryz.func185,Tryz.ntmps185
 go_wp2
 all_goals go_ret
 all_goals refine ⟨congrArg Ending.returned (congrArg Value.bool ?_),rfl⟩
 all_goals rw [Bool.eq_iff_iff,Bool.not_eq_true',← Bool.not_eq_true,hk.out]
 all_goals simp
 all_goals omega
set_option maxRecDepth 100000 in
set_option maxHeartbeats 1000000 in
theorem fiV_index {α:Type} (f:α→Value) (p:α→Bool) (l:List α) (n:Nat) (hnl:n=l.length) (A:Option Addr) (c:Nat) (w:World) (B:Nat)
  (hr:Reads w B 1 A n (l.map f)) (hB:B≤w.heap.size) (hn:n≤5000000000000)
  (hp:∀ x∈l,∀ W,Calls Tryz.prog 185 #[f x] W fun e W'=>e=.returned (.bool (p x))∧Below W.heap.size W W') :
  Calls Tryz.prog 179 #[.slice A n c,.func (.func 185) #[] #[]] w fun e w'=>e=.returned (.int .i64 (firstI p l))∧Below w.heap.size w w':=by
 have HN:=Lib.hid hnl
 have HP:=Lib.hid hp
 clear hnl hp
 go_enter Tryz.func179,Tryz.ntmps179
 go_wp2_with fail
 go_loopw [8] (fun j wr=>∃ k:Nat,k≤n∧j=.int .i64 (k:Int)∧Hid (∀ y∈l.take k,p y=false)∧Below w.heap.size w wr) (fun j _=>n-(intOf j).toNat)
 case atStart=>exact ⟨0,Nat.zero_le _,rfl,(show ∀ y∈_,_ by simp),Below.refl _ _⟩
 case round =>
  obtain ⟨k,hk,rfl,hno,hbw⟩:=hrel
  by_cases hlt:k<n
  ·have hki:(k:Int)<(n:Int):=by omega
   have hkl:k<l.length:=by have:=HN.out;omega
   obtain ⟨ad,u,rfl,_,hxu,hcell⟩:=(hr.below (hbw.mono hB)).at_ hlt
   obtain ⟨x,hx⟩:∃ x,x=l[k]'hkl:=⟨_,rfl⟩
   have hux:u=f x:=by
    rw [List.getElem?_map,List.getElem?_eq_getElem hkl] at hxu
    rw [hx]
    exact (Option.some.inj hxu).symm
   subst hux
   clear hxu
   have htk:=List.take_succ_eq_append_getElem hkl
   rw [← hx] at htk
   have HTK:=Lib.hid htk
   have HX:=Lib.hid (show l[k]?=some x by rw [hx];exact List.getElem?_eq_getElem _)
   have hc:=HP.out x (List.mem_of_getElem? HX.out) wr
   obtain ⟨b,hb⟩:∃ b,b=p x:=⟨_,rfl⟩
   rw [← hb] at hc
   have HBX:=Lib.hid hb
   clear hx htk hr hb
   obtain ⟨fx,hfx⟩:∃ v,v=f x:=⟨_,rfl⟩
   rw [← hfx] at hc hcell
   clear hfx
   go_wp2_with fail
   refine hc.mono ?_
   clear hc
   rintro e w1 ⟨rfl,hb1⟩
   have hbw1:=hbw.trans (hb1.mono hbw.size)
   cases b with
   | true =>
    go_wp2_with fail
    go_ret
    have hf:=firstP_eq p l k x hno.out HX.out HBX.out.symm
    exact ⟨by unfold firstI;rw [hf,if_pos hkl];rfl,hbw1⟩
   | false =>
    go_wp2_with fail
    go_roundw
    case rel =>
     refine ⟨k+1,by omega,by go_num,?_,hbw1⟩
     show ∀ y∈l.take (k+1),p y=false
     intro y hy
     rw [HTK.out] at hy
     rcases List.mem_append.1 hy with hy | hy
     ·exact hno.out y hy
     ·simp at hy;subst hy;exact HBX.out.symm
    case measure=>simp [intOf];omega
  ·have hkn:k=n:=by omega
   have HF:Hid (firstI p l=-1):=by
    show _=_
    unfold firstI
    rw [firstP_none p l (fun y hy=>hno.out y (by rw [List.take_of_length_le (by rw [hkn,HN.out];exact Nat.le_refl _)];exact hy)),if_neg (Nat.lt_irrefl _)]
   clear hr hkn
   go_wp2_with fail
   go_ret
   exact ⟨by rw [HF.out];rfl,hbw⟩
theorem fiV_contains {α:Type} (f:α→Value) (p:α→Bool) (l:List α) (n:Nat) (hnl:n=l.length) (A:Option Addr) (c:Nat) (w:World) (B:Nat)
  (hr:Reads w B 1 A n (l.map f)) (hB:B≤w.heap.size) (hn:n≤5000000000000)
  (hp:∀ x∈l,∀ W,Calls Tryz.prog 185 #[f x] W fun e W'=>e=.returned (.bool (p x))∧Below W.heap.size W W') :
  Calls Tryz.prog 142 #[.slice A n c,.func (.func 185) #[] #[]] w fun e w'=>e=.returned (.bool (l.any p))∧Below w.heap.size w w':=by
 have hcall:=Lib.hid (fiV_index f p l n hnl A c w B hr hB hn hp)
 have HA:=Lib.hid (firstI_any p l)
 clear hnl hr hp
 go_enter Tryz.func142,Tryz.ntmps142
 go_wp2_with fail
 refine hcall.out.mono ?_
 rintro e w1 ⟨rfl,hb⟩
 go_wp2_with fail
 go_ret
 exact ⟨by rw [← HA.out];rfl,hb⟩
set_option maxRecDepth 100000 in
set_option maxHeartbeats 1000000 in
theorem value_any (s:ByteArray) (w:World) (hs:s.size≤140737488351232):Calls Tryz.prog 158 #[.string s] w fun e w'=>e=.returned (.bool (valB s.data.toList))∧Below w.heap.size w w':=by
 have hcv:=Lib.hid (Lib.run_convert_string_bytes (P:=Tryz.prog) w 9 170 5 s Tryz.underlying9 Tryz.underlying170 Tryz.underlying5)
 have hb:=Lib.hid (bytesWorld_below w 5 s)
 have hr:=Lib.hid (bytesWorld_reads w 5 s)
 have hsz:=Lib.hid (Lib.size_eq s)
 go_enter Tryz.func158,Tryz.ntmps158
 go_wp2_with fail
 ·have h16:(s.size:Int)≤32:=by assumption
  rw [hcv.out]
  have hB:=hb.out.size
  have hc:=Lib.hid (fiV_contains (fun c:UInt8=>Value.int .u8 (c.toNat:Int)) (fun c=>!(decide (32≤c) && decide (c≤126))) s.data.toList s.size hsz.out (some ⟨w.heap.size,0,none⟩) (grownCap w s.size 0 5) (Lib.bytesWorld w 5 s) (w.heap.size+1) hr.out
   (by rw [Lib.bytesWorld_size];omega) (by omega) (fun x _ W=>(valOdd_any x W).mono fun _ _ ⟨h1,h2⟩=>⟨h1,by rw [h2];exact Below.refl _ _⟩))
  obtain ⟨b,hbe0⟩:∃ b,b=s.data.toList.any fun c=>!(decide (32≤c) && decide (c≤126)):=⟨_,rfl⟩
  rw [← hbe0] at hc
  have hbe:=Lib.hid hbe0
  clear hbe0
  go_wp2_with fail
  refine hc.out.mono ?_
  rintro e w1 ⟨rfl,hb1⟩
  go_wp2_with fail
  go_ret
  refine ⟨congrArg Ending.returned (congrArg Value.bool ?_),hb.out.trans (hb1.mono hB)⟩
  have e2:decide (s.data.toList.length≤32)=true:=by
   rw [← hsz.out]
   exact decide_eq_true (by omega)
  unfold valB
  rw [e2,List.all_eq_not_any_not,← hbe.out]
  rfl
 ·have h16:32<(s.size:Int):=by assumption
  go_ret
  refine ⟨congrArg Ending.returned (congrArg Value.bool ?_),Below.refl _ _⟩
  have e2:decide (s.data.toList.length≤32)=false:=by
   rw [← hsz.out]
   exact decide_eq_false (by omega)
  unfold valB
  rw [e2]
  simp
/-! ### Check -/
def prevP (l:PL) (k:Nat):Option BS:=match k with
 | 0=>none
 | j+1=>(l[j]?).map (·.1)
theorem propsFrom_cons (p:Option BS) (x:BS×BS) (l:PL):propsFrom p (x :: l)=(nameB x.1 && valB x.2 && (match p with | none=>true | some q=>Op.bytesLess q x.1) && propsFrom (some x.1) l):=by
 cases p <;> rfl
def propsE (l:PL):Int:=if propsB l=true then 0 else 9
set_option maxRecDepth 100000 in
set_option maxHeartbeats 2000000 in
theorem checkP_any (l:PL) (n:Nat) (hnl:n=l.length) (A:Option Addr) (c:Nat) (w:World) (B:Nat) (hr:Reads w B 2 A n (pcells l)) (hB:B≤w.heap.size) (hn:n≤140737488351232) (hv:∀ x∈l,x.2.length≤140737488351232) :
  Calls Tryz.prog 155 #[.slice A n c] w fun e w'=>e=.returned (.int .i64 (propsE l))∧Below w.heap.size w w':=by
 have HN:=Lib.hid hnl
 clear hnl
 go_enter Tryz.func155,Tryz.ntmps155
 by_cases hn8:8<n
 ·have hi:(8:Int)<(n:Int):=by omega
  have HE:Hid (propsE l=9):=by
   show _=_
   unfold propsE propsB
   rw [if_neg]
   rw [Bool.and_eq_true,decide_eq_true_eq]
   have:=HN.out
   omega
  clear hr hv
  go_wp2_with fail
  go_ret
  exact ⟨by rw [HE.out];rfl,Below.refl _ _⟩
 have hi:¬ (8:Int)<(n:Int):=by omega
 have hPE:Hid (∀ b,propsFrom none l=b→propsE l=if b=true then 0 else 9):=by
  show ∀ b,_→_
  rintro b rfl
  unfold propsE propsB
  rw [decide_eq_true (show l.length≤8 by have:=HN.out;omega),Bool.true_and]
 go_wp2_with fail
 go_loopw [10] (fun j wr=>∃ k:Nat,k≤n∧j=.int .i64 (k:Int)∧Hid (propsFrom none l=propsFrom (prevP l k) (l.drop k))∧Below w.heap.size w wr) (fun j _=>n-(intOf j).toNat)
 case atStart=>exact ⟨0,Nat.zero_le _,rfl,rfl,Below.refl _ _⟩
 case round =>
  obtain ⟨k,hk,rfl,hok,hbw⟩:=hrel
  by_cases hlt:k<n
  ·have hrw:=hr.below (hbw.mono hB)
   obtain ⟨ad,rfl,hadB,c0,c1⟩:=hrw.prop HN.out hlt
   have hki:(k:Int)<(n:Int):=by omega
   have hkl:k<l.length:=by have:=HN.out;omega
   obtain ⟨x,hx⟩:∃ x,x=l[k]'hkl:=⟨_,rfl⟩
   have hxl:x.2.length≤140737488351232:=hv x (by rw [hx];exact List.getElem_mem _)
   rw [← hx] at c0 c1
   have hdr:=List.drop_eq_getElem_cons hkl
   rw [← hx] at hdr
   have HX:=Lib.hid hx
   have HDR:=Lib.hid hdr
   obtain ⟨xn,xv⟩:=x
   simp only [strV] at c0 c1 hxl
   obtain ⟨W0,hW0⟩:∃ W0,W0=wr.alloc (.cells #[.string ⟨xn.toArray⟩,.string ⟨xv.toArray⟩] 80):=⟨_,rfl⟩
   have k0:W0.cell? ⟨wr.heap.size,0,none⟩=some (.string ⟨xn.toArray⟩):=by rw [hW0];exact (Blk.new wr _ _).cell 0
   have k1:W0.cell? ⟨wr.heap.size,1,none⟩=some (.string ⟨xv.toArray⟩):=by rw [hW0];exact (Blk.new wr _ _).cell 1
   have hszW:W0.heap.size=wr.heap.size+1:=by rw [hW0];show (wr.heap.push _).size=_;rw [Array.size_push]
   have hlt0:wr.heap.size<W0.heap.size:=by omega
   have HSZ:=Lib.hid hszW
   have hwr:=hbw.size
   have hbW:Below w.heap.size w W0:=by rw [hW0];exact hbw.alloc hbw.size _
   have hS0:=(Below.refl W0.heap.size W0).drew
   have hbad:Hid ((nameB xn=false∨valB xv=false∨(∃ y,prevP l k=some y∧Op.bytesLess y xn=false))→propsE l=9):=by
    show _→_
    intro h
    rw [hPE.out false]
    ·rfl
    rw [hok.out,HDR.out,propsFrom_cons]
    rcases h with h | h | ⟨y,hy,h⟩
    ·rw [h];rfl
    ·rw [h];simp
    ·rw [hy];simp [h]
   have hgood:Hid (nameB xn=true→valB xv=true→(∀ y,prevP l k=some y→Op.bytesLess y xn=true)→propsFrom none l=propsFrom (prevP l (k+1)) (l.drop (k+1))):=by
    show _→_→_→_
    intro h1 h2 h3
    rw [hok.out,HDR.out]
    have hp:prevP l (k+1)=some xn:=by
     show (l[k]?).map (·.1)=_
     rw [List.getElem?_eq_getElem hkl,← HX.out]
     rfl
    rw [hp,propsFrom_cons,h1,h2]
    cases hq:prevP l k with
    | none=>rfl
    | some y=>simp [h3 y hq]
   have hN:∀ W,Calls Tryz.prog 84 #[.string ⟨xn.toArray⟩] W fun e W'=>e=.returned (.bool (nameB xn))∧Below W.heap.size W W':=fun W=>name_any ⟨xn.toArray⟩ W
   have hV:∀ W,Calls Tryz.prog 158 #[.string ⟨xv.toArray⟩] W fun e W'=>e=.returned (.bool (valB xv))∧Below W.heap.size W W':=fun W=>value_any ⟨xv.toArray⟩ W hxl
   clear hx hdr hok hxl
   obtain ⟨bn,hbn0⟩:∃ b,b=nameB xn:=⟨_,rfl⟩
   obtain ⟨bv,hbv0⟩:∃ b,b=valB xv:=⟨_,rfl⟩
   rw [← hbn0] at hbad hgood hN
   rw [← hbv0] at hbad hgood hV
   clear hbn0 hbv0
   cases bn with
   | false =>
    have HB:=Lib.hid (hbad.out (.inl rfl))
    have hS:=Lib.hid (fun (W':World) (hB:Below W0.heap.size W0 W')=>(⟨(hB.cell (p:=⟨wr.heap.size,0,none⟩) hlt0).trans k0,(hB.cell (p:=⟨wr.heap.size,1,none⟩) hlt0).trans k1,hB⟩:W'.cell? ⟨wr.heap.size,0,none⟩=some (.string ⟨xn.toArray⟩)∧W'.cell? ⟨wr.heap.size,1,none⟩=some (.string ⟨xv.toArray⟩)∧Below W0.heap.size W0 W'))
    clear hr hrw hbad hgood hV
    go_wp2_with fail
    rw [← hW0]
    clear hW0 hszW
    refine wpC_region (fun W'=>W'.cell? ⟨wr.heap.size,0,none⟩=some (.string ⟨xn.toArray⟩)∧W'.cell? ⟨wr.heap.size,1,none⟩=some (.string ⟨xv.toArray⟩)∧Below W0.heap.size W0 W') (by kernel_rfl) (by kernel_rfl) (hS.out _ hS0) (fun OPS D QQ HO hD hD2 hQQ=>?_)
    have hgo4:Hid ((OPS[4]?).bind (·.dst)=some 19):=by show _=_;rw [HO.out];rfl
    have hgo10:Hid ((OPS[10]?).bind (·.dst)=some 25):=by show _=_;rw [HO.out];rfl
    have hgo13:Hid ((OPS[13]?).bind (·.dst)=some 28):=by show _=_;rw [HO.out];rfl
    clear HO
    have HD:=Lib.hid hD
    have HD2:=Lib.hid hD2
    have HQQ:=Lib.hid hQQ
    clear hD hD2 hQQ
    refine wpC_read (v:=?_) rfl (fun W hW=>?_) ?_
    rotate_left
    ·clear hW;go_simp;try (with_reducible rfl)
    try simp only [Act.put,zA,zB,zC]
    refine wpC_read (v:=?_) rfl (fun W hW=>?_) ?_
    rotate_left
    ·replace hW:=HD.out W hW
     obtain ⟨q0,q1,hcW⟩:=hW
     go_simp;try (with_reducible rfl)
    try simp only [Act.put,zA,zB,zC]
    refine wpC_read (v:=.bool false) rfl (fun W hW=>?_) ?_
    ·replace hW:=HD.out W hW
     obtain ⟨q0,q1,hcW⟩:=hW
     go_simp
     refine (hN _).mono ?_
     rintro e w4 ⟨rfl,hbn⟩
     exact ⟨rfl,HD2.out _ (hS.out _ (below_step hcW hbn))⟩
    try simp only [Act.put,zA,zB,zC]
    refine wpC_read (v:=?_) rfl (fun W hW=>?_) ?_
    rotate_left
    ·clear hW;go_simp;try (with_reducible rfl)
    try simp only [Act.put,zA,zB,zC]
    refine wpC_read (v:=?_) rfl (fun W hW=>?_) ?_
    rotate_left
    ·clear hW;go_simp;try (with_reducible rfl)
    try simp only [Act.put,zA,zB,zC]
    refine wpC_skip rfl hgo4.out (.inl rfl) ?_
    try simp only [Act.put,zA,zB,zC]
    refine wpC_skip rfl hgo4.out (.inl rfl) ?_
    try simp only [Act.put,zA,zB,zC]
    refine wpC_skip rfl hgo4.out (.inl rfl) ?_
    try simp only [Act.put,zA,zB,zC]
    refine wpC_skip rfl hgo4.out (.inl rfl) ?_
    try simp only [Act.put,zA,zB,zC]
    refine wpC_read (v:=?_) rfl (fun W hW=>?_) ?_
    rotate_left
    ·clear hW;go_simp;try (with_reducible rfl)
    try simp only [Act.put,zA,zB,zC]
    refine wpC_read (v:=?_) rfl (fun W hW=>?_) ?_
    rotate_left
    ·clear hW;go_simp;try (with_reducible rfl)
    try simp only [Act.put,zA,zB,zC]
    refine wpC_skip rfl hgo10.out (.inl rfl) ?_
    try simp only [Act.put,zA,zB,zC]
    refine wpC_skip rfl hgo10.out (.inl rfl) ?_
    try simp only [Act.put,zA,zB,zC]
    refine wpC_skip rfl hgo10.out (.inl rfl) ?_
    try simp only [Act.put,zA,zB,zC]
    refine wpC_skip rfl hgo13.out (.inr rfl) ?_
    try simp only [Act.put,zA,zB,zC]
    refine wpC_skip rfl hgo13.out (.inr rfl) ?_
    try simp only [Act.put,zA,zB,zC]
    refine wpC_skip rfl hgo13.out (.inr rfl) ?_
    try simp only [Act.put,zA,zB,zC]
    refine wpC_skip rfl hgo13.out (.inr rfl) ?_
    try simp only [Act.put,zA,zB,zC]
    refine wpC_skip rfl hgo13.out (.inr rfl) ?_
    try simp only [Act.put,zA,zB,zC]
    refine wpC_skip rfl hgo13.out (.inr rfl) ?_
    try simp only [Act.put,zA,zB,zC]
    refine wpC_skip rfl hgo13.out (.inr rfl) ?_
    try simp only [Act.put,zA,zB,zC]
    refine wpC_skip rfl hgo13.out (.inr rfl) ?_
    try simp only [Act.put,zA,zB,zC]
    refine wpC_skip rfl hgo13.out (.inr rfl) ?_
    try simp only [Act.put,zA,zB,zC]
    refine wpC_skip rfl hgo10.out (.inl rfl) ?_
    try simp only [Act.put,zA,zB,zC]
    refine wpC_read (v:=?_) rfl (fun W hW=>?_) ?_
    rotate_left
    ·clear hW;go_simp;try (with_reducible rfl)
    try simp only [Act.put,zA,zB,zC]
    refine wpQuiet_nil (HQQ.out _ (fun W hW=>?_))
    obtain ⟨q0,q1,hcW⟩:=hW
    go_wp2_with fail
    go_ret
    exact ⟨by rw [HB.out];rfl,hbW.trans (hcW.mono (by have:=HSZ.out;omega))⟩
   | true =>
    cases bv with
    | false =>
     have HB:=Lib.hid (hbad.out (.inr (.inl rfl)))
     have hS:=Lib.hid (fun (W':World) (hB:Below W0.heap.size W0 W')=>(⟨(hB.cell (p:=⟨wr.heap.size,0,none⟩) hlt0).trans k0,(hB.cell (p:=⟨wr.heap.size,1,none⟩) hlt0).trans k1,hB⟩:W'.cell? ⟨wr.heap.size,0,none⟩=some (.string ⟨xn.toArray⟩)∧W'.cell? ⟨wr.heap.size,1,none⟩=some (.string ⟨xv.toArray⟩)∧Below W0.heap.size W0 W'))
     clear hr hrw hbad hgood
     go_wp2_with fail
     rw [← hW0]
     clear hW0 hszW
     refine wpC_region (fun W'=>W'.cell? ⟨wr.heap.size,0,none⟩=some (.string ⟨xn.toArray⟩)∧W'.cell? ⟨wr.heap.size,1,none⟩=some (.string ⟨xv.toArray⟩)∧Below W0.heap.size W0 W') (by kernel_rfl) (by kernel_rfl) (hS.out _ hS0) (fun OPS D QQ HO hD hD2 hQQ=>?_)
     have hgo4:Hid ((OPS[4]?).bind (·.dst)=some 19):=by show _=_;rw [HO.out];rfl
     have hgo10:Hid ((OPS[10]?).bind (·.dst)=some 25):=by show _=_;rw [HO.out];rfl
     have hgo13:Hid ((OPS[13]?).bind (·.dst)=some 28):=by show _=_;rw [HO.out];rfl
     clear HO
     have HD:=Lib.hid hD
     have HD2:=Lib.hid hD2
     have HQQ:=Lib.hid hQQ
     clear hD hD2 hQQ
     refine wpC_read (v:=?_) rfl (fun W hW=>?_) ?_
     rotate_left
     ·clear hW;go_simp;try (with_reducible rfl)
     try simp only [Act.put,zA,zB,zC]
     refine wpC_read (v:=?_) rfl (fun W hW=>?_) ?_
     rotate_left
     ·replace hW:=HD.out W hW
      obtain ⟨q0,q1,hcW⟩:=hW
      go_simp;try (with_reducible rfl)
     try simp only [Act.put,zA,zB,zC]
     refine wpC_read (v:=.bool true) rfl (fun W hW=>?_) ?_
     ·replace hW:=HD.out W hW
      obtain ⟨q0,q1,hcW⟩:=hW
      go_simp
      refine (hN _).mono ?_
      rintro e w4 ⟨rfl,hbn⟩
      exact ⟨rfl,HD2.out _ (hS.out _ (below_step hcW hbn))⟩
     try simp only [Act.put,zA,zB,zC]
     refine wpC_read (v:=?_) rfl (fun W hW=>?_) ?_
     rotate_left
     ·clear hW;go_simp;try (with_reducible rfl)
     try simp only [Act.put,zA,zB,zC]
     refine wpC_read (v:=?_) rfl (fun W hW=>?_) ?_
     rotate_left
     ·clear hW;go_simp;try (with_reducible rfl)
     try simp only [Act.put,zA,zB,zC]
     refine wpC_gread (v:=?_) rfl hgo4.out rfl (fun W hW=>?_) ?_
     rotate_left
     ·clear hW;go_simp;try (with_reducible rfl)
     try simp only [Act.put,zA,zB,zC]
     refine wpC_gread (v:=?_) rfl hgo4.out rfl (fun W hW=>?_) ?_
     rotate_left
     ·replace hW:=HD.out W hW
      obtain ⟨q0,q1,hcW⟩:=hW
      go_simp;try (with_reducible rfl)
     try simp only [Act.put,zA,zB,zC]
     refine wpC_gread (v:=.bool false) rfl hgo4.out rfl (fun W hW=>?_) ?_
     ·replace hW:=HD.out W hW
      obtain ⟨q0,q1,hcW⟩:=hW
      go_simp
      refine (hV _).mono ?_
      rintro e w5 ⟨rfl,hbn⟩
      exact ⟨rfl,HD2.out _ (hS.out _ (below_step hcW hbn))⟩
     try simp only [Act.put,zA,zB,zC]
     refine wpC_gread (v:=?_) rfl hgo4.out rfl (fun W hW=>?_) ?_
     rotate_left
     ·clear hW;go_simp;try (with_reducible rfl)
     try simp only [Act.put,zA,zB,zC]
     refine wpC_read (v:=?_) rfl (fun W hW=>?_) ?_
     rotate_left
     ·clear hW;go_simp;try (with_reducible rfl)
     try simp only [Act.put,zA,zB,zC]
     refine wpC_read (v:=?_) rfl (fun W hW=>?_) ?_
     rotate_left
     ·clear hW;go_simp;try (with_reducible rfl)
     try simp only [Act.put,zA,zB,zC]
     refine wpC_skip rfl hgo10.out (.inl rfl) ?_
     try simp only [Act.put,zA,zB,zC]
     refine wpC_skip rfl hgo10.out (.inl rfl) ?_
     try simp only [Act.put,zA,zB,zC]
     refine wpC_skip rfl hgo10.out (.inl rfl) ?_
     try simp only [Act.put,zA,zB,zC]
     refine wpC_skip rfl hgo13.out (.inr rfl) ?_
     try simp only [Act.put,zA,zB,zC]
     refine wpC_skip rfl hgo13.out (.inr rfl) ?_
     try simp only [Act.put,zA,zB,zC]
     refine wpC_skip rfl hgo13.out (.inr rfl) ?_
     try simp only [Act.put,zA,zB,zC]
     refine wpC_skip rfl hgo13.out (.inr rfl) ?_
     try simp only [Act.put,zA,zB,zC]
     refine wpC_skip rfl hgo13.out (.inr rfl) ?_
     try simp only [Act.put,zA,zB,zC]
     refine wpC_skip rfl hgo13.out (.inr rfl) ?_
     try simp only [Act.put,zA,zB,zC]
     refine wpC_skip rfl hgo13.out (.inr rfl) ?_
     try simp only [Act.put,zA,zB,zC]
     refine wpC_skip rfl hgo13.out (.inr rfl) ?_
     try simp only [Act.put,zA,zB,zC]
     refine wpC_skip rfl hgo13.out (.inr rfl) ?_
     try simp only [Act.put,zA,zB,zC]
     refine wpC_skip rfl hgo10.out (.inl rfl) ?_
     try simp only [Act.put,zA,zB,zC]
     refine wpC_read (v:=?_) rfl (fun W hW=>?_) ?_
     rotate_left
     ·clear hW;go_simp;try (with_reducible rfl)
     try simp only [Act.put,zA,zB,zC]
     refine wpQuiet_nil (HQQ.out _ (fun W hW=>?_))
     obtain ⟨q0,q1,hcW⟩:=hW
     go_wp2_with fail
     go_ret
     exact ⟨by rw [HB.out];rfl,hbW.trans (hcW.mono (by have:=HSZ.out;omega))⟩
    | true =>
     rcases Nat.eq_zero_or_pos k with h0 | h0
     ·have HG:=Lib.hid (hgood.out rfl rfl (fun y hy=>by subst h0;cases hy))
      have d4:decide ((0:Int)<(k:Int))=false:=by simp;omega
      have d4':decide (0<k)=false:=by simp;omega
      clear h0
      have hS:=Lib.hid (fun (W':World) (hB:Below W0.heap.size W0 W')=>(⟨(hB.cell (p:=⟨wr.heap.size,0,none⟩) hlt0).trans k0,(hB.cell (p:=⟨wr.heap.size,1,none⟩) hlt0).trans k1,hB⟩:W'.cell? ⟨wr.heap.size,0,none⟩=some (.string ⟨xn.toArray⟩)∧W'.cell? ⟨wr.heap.size,1,none⟩=some (.string ⟨xv.toArray⟩)∧Below W0.heap.size W0 W'))
      clear hr hrw hbad hgood
      go_wp2_with fail
      rw [← hW0]
      clear hW0 hszW
      refine wpC_region (fun W'=>W'.cell? ⟨wr.heap.size,0,none⟩=some (.string ⟨xn.toArray⟩)∧W'.cell? ⟨wr.heap.size,1,none⟩=some (.string ⟨xv.toArray⟩)∧Below W0.heap.size W0 W') (by kernel_rfl) (by kernel_rfl) (hS.out _ hS0) (fun OPS D QQ HO hD hD2 hQQ=>?_)
      have hgo4:Hid ((OPS[4]?).bind (·.dst)=some 19):=by show _=_;rw [HO.out];rfl
      have hgo10:Hid ((OPS[10]?).bind (·.dst)=some 25):=by show _=_;rw [HO.out];rfl
      have hgo13:Hid ((OPS[13]?).bind (·.dst)=some 28):=by show _=_;rw [HO.out];rfl
      clear HO
      have HD:=Lib.hid hD
      have HD2:=Lib.hid hD2
      have HQQ:=Lib.hid hQQ
      clear hD hD2 hQQ
      refine wpC_read (v:=?_) rfl (fun W hW=>?_) ?_
      rotate_left
      ·clear hW;go_simp;try (with_reducible rfl)
      try simp only [Act.put,zA,zB,zC]
      refine wpC_read (v:=?_) rfl (fun W hW=>?_) ?_
      rotate_left
      ·replace hW:=HD.out W hW
       obtain ⟨q0,q1,hcW⟩:=hW
       go_simp;try (with_reducible rfl)
      try simp only [Act.put,zA,zB,zC]
      refine wpC_read (v:=.bool true) rfl (fun W hW=>?_) ?_
      ·replace hW:=HD.out W hW
       obtain ⟨q0,q1,hcW⟩:=hW
       go_simp
       refine (hN _).mono ?_
       rintro e w4 ⟨rfl,hbn⟩
       exact ⟨rfl,HD2.out _ (hS.out _ (below_step hcW hbn))⟩
      try simp only [Act.put,zA,zB,zC]
      refine wpC_read (v:=?_) rfl (fun W hW=>?_) ?_
      rotate_left
      ·clear hW;go_simp;try (with_reducible rfl)
      try simp only [Act.put,zA,zB,zC]
      refine wpC_read (v:=?_) rfl (fun W hW=>?_) ?_
      rotate_left
      ·clear hW;go_simp;try (with_reducible rfl)
      try simp only [Act.put,zA,zB,zC]
      refine wpC_gread (v:=?_) rfl hgo4.out rfl (fun W hW=>?_) ?_
      rotate_left
      ·clear hW;go_simp;try (with_reducible rfl)
      try simp only [Act.put,zA,zB,zC]
      refine wpC_gread (v:=?_) rfl hgo4.out rfl (fun W hW=>?_) ?_
      rotate_left
      ·replace hW:=HD.out W hW
       obtain ⟨q0,q1,hcW⟩:=hW
       go_simp;try (with_reducible rfl)
      try simp only [Act.put,zA,zB,zC]
      refine wpC_gread (v:=.bool true) rfl hgo4.out rfl (fun W hW=>?_) ?_
      ·replace hW:=HD.out W hW
       obtain ⟨q0,q1,hcW⟩:=hW
       go_simp
       refine (hV _).mono ?_
       rintro e w5 ⟨rfl,hbn⟩
       exact ⟨rfl,HD2.out _ (hS.out _ (below_step hcW hbn))⟩
      try simp only [Act.put,zA,zB,zC]
      refine wpC_gread (v:=?_) rfl hgo4.out rfl (fun W hW=>?_) ?_
      rotate_left
      ·clear hW;go_simp;try (with_reducible rfl)
      try simp only [Act.put,zA,zB,zC]
      refine wpC_read (v:=?_) rfl (fun W hW=>?_) ?_
      rotate_left
      ·clear hW;go_simp;try (with_reducible rfl)
      try simp only [Act.put,zA,zB,zC]
      refine wpC_read (v:=?_) rfl (fun W hW=>?_) ?_
      rotate_left
      ·clear hW;go_simp;try (with_reducible rfl)
      try simp only [Act.put,zA,zB,zC]
      refine wpC_gread (v:=?_) rfl hgo10.out rfl (fun W hW=>?_) ?_
      rotate_left
      ·clear hW;go_simp;try (with_reducible rfl)
      try simp only [Act.put,zA,zB,zC]
      refine wpC_gread (v:=?_) rfl hgo10.out rfl (fun W hW=>?_) ?_
      rotate_left
      ·clear hW;go_simp;try (with_reducible rfl)
      try simp only [Act.put,zA,zB,zC]
      refine wpC_gread (v:=?_) rfl hgo10.out rfl (fun W hW=>?_) ?_
      rotate_left
      ·clear hW;go_simp;try (with_reducible rfl)
      try simp only [Act.put,zA,zB,zC]
      refine wpC_skip rfl hgo13.out (.inl rfl) ?_
      try simp only [Act.put,zA,zB,zC]
      refine wpC_skip rfl hgo13.out (.inl rfl) ?_
      try simp only [Act.put,zA,zB,zC]
      refine wpC_skip rfl hgo13.out (.inl rfl) ?_
      try simp only [Act.put,zA,zB,zC]
      refine wpC_skip rfl hgo13.out (.inl rfl) ?_
      try simp only [Act.put,zA,zB,zC]
      refine wpC_skip rfl hgo13.out (.inl rfl) ?_
      try simp only [Act.put,zA,zB,zC]
      refine wpC_skip rfl hgo13.out (.inl rfl) ?_
      try simp only [Act.put,zA,zB,zC]
      refine wpC_skip rfl hgo13.out (.inl rfl) ?_
      try simp only [Act.put,zA,zB,zC]
      refine wpC_skip rfl hgo13.out (.inl rfl) ?_
      try simp only [Act.put,zA,zB,zC]
      refine wpC_skip rfl hgo13.out (.inl rfl) ?_
      try simp only [Act.put,zA,zB,zC]
      refine wpC_gread (v:=?_) rfl hgo10.out rfl (fun W hW=>?_) ?_
      rotate_left
      ·clear hW;go_simp;try (with_reducible rfl)
      try simp only [Act.put,zA,zB,zC]
      refine wpC_read (v:=?_) rfl (fun W hW=>?_) ?_
      rotate_left
      ·clear hW;go_simp;try (with_reducible rfl)
      try simp only [Act.put,zA,zB,zC]
      refine wpQuiet_nil (HQQ.out _ (fun W hW=>?_))
      obtain ⟨q0,q1,hcW⟩:=hW
      go_wp2_with fail
      go_roundw
      case rel=>exact ⟨k+1,by omega,by go_num,HG,hbW.trans (hcW.mono (by have:=HSZ.out;omega))⟩
      case measure=>simp [intOf];omega
     ·have d4:decide ((0:Int)<(k:Int))=true:=by simp;omega
      have d4':decide (0<k)=true:=by simp;omega
      have hk1l:k-1<l.length:=by omega
      obtain ⟨y,hy⟩:∃ y,y=(l[k-1]'hk1l).1:=⟨_,rfl⟩
      have hpv:prevP l k=some y:=by
       obtain ⟨j,rfl⟩:∃ j,k=j+1:=⟨k-1,by omega⟩
       show (l[j]?).map (·.1)=_
       have hj:j<l.length:=by simpa using hk1l
       rw [List.getElem?_eq_getElem hj,hy]
       rfl
      obtain ⟨ad2,e2,-,c2,-⟩:=(hrw.prop HN.out (k:=k-1) (by omega))
      injection e2 with e2
      subst e2
      rw [← hy] at c2
      simp only [strV] at c2
      have hltp:(ad.add ((k-1)*2)).block<W0.heap.size:=by rw [block_of_add];omega
      have kp:W0.cell? (ad.add ((k-1)*2))=some (.string ⟨y.toArray⟩):=by rw [hW0];exact (World.cell?_alloc_lt wr _ _ (by rw [block_of_add];omega)).trans c2
      have hgeq:=geqS 9 y xn
      have i1:(1:Int)≤(k:Int):=by omega
      have i2:(k:Int)-1<(n:Int):=by omega
      have i3:IntKind.i64.wrap ((k:Int)-1)=(k:Int)-1:=IntWalk.i64_in _ (by omega)
      have i4:((k:Int)-1).toNat=k-1:=by omega
      have hS:=Lib.hid (fun (W':World) (hB:Below W0.heap.size W0 W')=>(⟨(hB.cell (p:=⟨wr.heap.size,0,none⟩) hlt0).trans k0,(hB.cell (p:=⟨wr.heap.size,1,none⟩) hlt0).trans k1,(hB.cell (p:=ad.add ((k-1)*2)) hltp).trans kp,hB⟩:W'.cell? ⟨wr.heap.size,0,none⟩=some (.string ⟨xn.toArray⟩)∧W'.cell? ⟨wr.heap.size,1,none⟩=some (.string ⟨xv.toArray⟩)∧W'.cell? (ad.add ((k-1)*2))=some (.string ⟨y.toArray⟩)∧Below W0.heap.size W0 W'))
      cases hcmp:Op.bytesLess y xn with
      | true =>
       have HG:=Lib.hid (hgood.out rfl rfl (fun y' hy'=>by rw [hpv] at hy';cases hy';exact hcmp))
       clear hr hrw hbad hgood h0 hpv hy c2
       go_wp2_with fail
       rw [← hW0]
       clear hW0 hszW
       refine wpC_region (fun W'=>W'.cell? ⟨wr.heap.size,0,none⟩=some (.string ⟨xn.toArray⟩)∧W'.cell? ⟨wr.heap.size,1,none⟩=some (.string ⟨xv.toArray⟩)∧W'.cell? (ad.add ((k-1)*2))=some (.string ⟨y.toArray⟩)∧Below W0.heap.size W0 W') (by kernel_rfl) (by kernel_rfl) (hS.out _ hS0) (fun OPS D QQ HO hD hD2 hQQ=>?_)
       have hgo4:Hid ((OPS[4]?).bind (·.dst)=some 19):=by show _=_;rw [HO.out];rfl
       have hgo10:Hid ((OPS[10]?).bind (·.dst)=some 25):=by show _=_;rw [HO.out];rfl
       have hgo13:Hid ((OPS[13]?).bind (·.dst)=some 28):=by show _=_;rw [HO.out];rfl
       clear HO
       have HD:=Lib.hid hD
       have HD2:=Lib.hid hD2
       have HQQ:=Lib.hid hQQ
       clear hD hD2 hQQ
       refine wpC_read (v:=?_) rfl (fun W hW=>?_) ?_
       rotate_left
       ·clear hW;go_simp;try (with_reducible rfl)
       try simp only [Act.put,zA,zB,zC]
       refine wpC_read (v:=?_) rfl (fun W hW=>?_) ?_
       rotate_left
       ·replace hW:=HD.out W hW
        obtain ⟨q0,q1,q2,hcW⟩:=hW
        go_simp;try (with_reducible rfl)
       try simp only [Act.put,zA,zB,zC]
       refine wpC_read (v:=.bool true) rfl (fun W hW=>?_) ?_
       ·replace hW:=HD.out W hW
        obtain ⟨q0,q1,q2,hcW⟩:=hW
        go_simp
        refine (hN _).mono ?_
        rintro e w4 ⟨rfl,hbn⟩
        exact ⟨rfl,HD2.out _ (hS.out _ (below_step hcW hbn))⟩
       try simp only [Act.put,zA,zB,zC]
       refine wpC_read (v:=?_) rfl (fun W hW=>?_) ?_
       rotate_left
       ·clear hW;go_simp;try (with_reducible rfl)
       try simp only [Act.put,zA,zB,zC]
       refine wpC_read (v:=?_) rfl (fun W hW=>?_) ?_
       rotate_left
       ·clear hW;go_simp;try (with_reducible rfl)
       try simp only [Act.put,zA,zB,zC]
       refine wpC_gread (v:=?_) rfl hgo4.out rfl (fun W hW=>?_) ?_
       rotate_left
       ·clear hW;go_simp;try (with_reducible rfl)
       try simp only [Act.put,zA,zB,zC]
       refine wpC_gread (v:=?_) rfl hgo4.out rfl (fun W hW=>?_) ?_
       rotate_left
       ·replace hW:=HD.out W hW
        obtain ⟨q0,q1,q2,hcW⟩:=hW
        go_simp;try (with_reducible rfl)
       try simp only [Act.put,zA,zB,zC]
       refine wpC_gread (v:=.bool true) rfl hgo4.out rfl (fun W hW=>?_) ?_
       ·replace hW:=HD.out W hW
        obtain ⟨q0,q1,q2,hcW⟩:=hW
        go_simp
        refine (hV _).mono ?_
        rintro e w5 ⟨rfl,hbn⟩
        exact ⟨rfl,HD2.out _ (hS.out _ (below_step hcW hbn))⟩
       try simp only [Act.put,zA,zB,zC]
       refine wpC_gread (v:=?_) rfl hgo4.out rfl (fun W hW=>?_) ?_
       rotate_left
       ·clear hW;go_simp;try (with_reducible rfl)
       try simp only [Act.put,zA,zB,zC]
       refine wpC_read (v:=?_) rfl (fun W hW=>?_) ?_
       rotate_left
       ·clear hW;go_simp;try (with_reducible rfl)
       try simp only [Act.put,zA,zB,zC]
       refine wpC_read (v:=?_) rfl (fun W hW=>?_) ?_
       rotate_left
       ·clear hW;go_simp;try (with_reducible rfl)
       try simp only [Act.put,zA,zB,zC]
       refine wpC_gread (v:=?_) rfl hgo10.out rfl (fun W hW=>?_) ?_
       rotate_left
       ·clear hW;go_simp;try (with_reducible rfl)
       try simp only [Act.put,zA,zB,zC]
       refine wpC_gread (v:=?_) rfl hgo10.out rfl (fun W hW=>?_) ?_
       rotate_left
       ·clear hW;go_simp;try (with_reducible rfl)
       try simp only [Act.put,zA,zB,zC]
       refine wpC_gread (v:=?_) rfl hgo10.out rfl (fun W hW=>?_) ?_
       rotate_left
       ·clear hW;go_simp;try (with_reducible rfl)
       try simp only [Act.put,zA,zB,zC]
       refine wpC_gread (v:=?_) rfl hgo13.out rfl (fun W hW=>?_) ?_
       rotate_left
       ·clear hW;go_simp;try (with_reducible rfl)
       try simp only [Act.put,zA,zB,zC]
       refine wpC_gread (v:=?_) rfl hgo13.out rfl (fun W hW=>?_) ?_
       rotate_left
       ·clear hW;go_simp;try (with_reducible rfl)
       try simp only [Act.put,zA,zB,zC]
       refine wpC_gread (v:=?_) rfl hgo13.out rfl (fun W hW=>?_) ?_
       rotate_left
       ·clear hW;go_simp;try (with_reducible rfl)
       try simp only [Act.put,zA,zB,zC]
       refine wpC_gread (v:=?_) rfl hgo13.out rfl (fun W hW=>?_) ?_
       rotate_left
       ·clear hW;go_simp;try (with_reducible rfl)
       try simp only [Act.put,zA,zB,zC]
       refine wpC_gread (v:=?_) rfl hgo13.out rfl (fun W hW=>?_) ?_
       rotate_left
       ·clear hW;go_simp;try (with_reducible rfl)
       try simp only [Act.put,zA,zB,zC]
       refine wpC_gread (v:=?_) rfl hgo13.out rfl (fun W hW=>?_) ?_
       rotate_left
       ·replace hW:=HD.out W hW
        obtain ⟨q0,q1,q2,hcW⟩:=hW
        go_simp;try (with_reducible rfl)
       try simp only [Act.put,zA,zB,zC]
       refine wpC_gread (v:=?_) rfl hgo13.out rfl (fun W hW=>?_) ?_
       rotate_left
       ·clear hW;go_simp;try (with_reducible rfl)
       try simp only [Act.put,zA,zB,zC]
       refine wpC_gread (v:=?_) rfl hgo13.out rfl (fun W hW=>?_) ?_
       rotate_left
       ·replace hW:=HD.out W hW
        obtain ⟨q0,q1,q2,hcW⟩:=hW
        go_simp;try (with_reducible rfl)
       try simp only [Act.put,zA,zB,zC]
       refine wpC_gread (v:=?_) rfl hgo13.out rfl (fun W hW=>?_) ?_
       rotate_left
       ·clear hW;go_simp;try (with_reducible rfl)
       try simp only [Act.put,zA,zB,zC]
       refine wpC_gread (v:=?_) rfl hgo10.out rfl (fun W hW=>?_) ?_
       rotate_left
       ·clear hW;go_simp;try (with_reducible rfl)
       try simp only [Act.put,zA,zB,zC]
       refine wpC_read (v:=?_) rfl (fun W hW=>?_) ?_
       rotate_left
       ·clear hW;go_simp;try (with_reducible rfl)
       try simp only [Act.put,zA,zB,zC]
       refine wpQuiet_nil (HQQ.out _ (fun W hW=>?_))
       obtain ⟨q0,q1,q2,hcW⟩:=hW
       go_wp2_with fail
       go_roundw
       case rel=>exact ⟨k+1,by omega,by go_num,HG,hbW.trans (hcW.mono (by have:=HSZ.out;omega))⟩
       case measure=>simp [intOf];omega
      | false =>
       have HB:=Lib.hid (hbad.out (.inr (.inr ⟨y,hpv,hcmp⟩)))
       clear hr hrw hbad hgood h0 hpv hy c2
       go_wp2_with fail
       rw [← hW0]
       clear hW0 hszW
       refine wpC_region (fun W'=>W'.cell? ⟨wr.heap.size,0,none⟩=some (.string ⟨xn.toArray⟩)∧W'.cell? ⟨wr.heap.size,1,none⟩=some (.string ⟨xv.toArray⟩)∧W'.cell? (ad.add ((k-1)*2))=some (.string ⟨y.toArray⟩)∧Below W0.heap.size W0 W') (by kernel_rfl) (by kernel_rfl) (hS.out _ hS0) (fun OPS D QQ HO hD hD2 hQQ=>?_)
       have hgo4:Hid ((OPS[4]?).bind (·.dst)=some 19):=by show _=_;rw [HO.out];rfl
       have hgo10:Hid ((OPS[10]?).bind (·.dst)=some 25):=by show _=_;rw [HO.out];rfl
       have hgo13:Hid ((OPS[13]?).bind (·.dst)=some 28):=by show _=_;rw [HO.out];rfl
       clear HO
       have HD:=Lib.hid hD
       have HD2:=Lib.hid hD2
       have HQQ:=Lib.hid hQQ
       clear hD hD2 hQQ
       refine wpC_read (v:=?_) rfl (fun W hW=>?_) ?_
       rotate_left
       ·clear hW;go_simp;try (with_reducible rfl)
       try simp only [Act.put,zA,zB,zC]
       refine wpC_read (v:=?_) rfl (fun W hW=>?_) ?_
       rotate_left
       ·replace hW:=HD.out W hW
        obtain ⟨q0,q1,q2,hcW⟩:=hW
        go_simp;try (with_reducible rfl)
       try simp only [Act.put,zA,zB,zC]
       refine wpC_read (v:=.bool true) rfl (fun W hW=>?_) ?_
       ·replace hW:=HD.out W hW
        obtain ⟨q0,q1,q2,hcW⟩:=hW
        go_simp
        refine (hN _).mono ?_
        rintro e w4 ⟨rfl,hbn⟩
        exact ⟨rfl,HD2.out _ (hS.out _ (below_step hcW hbn))⟩
       try simp only [Act.put,zA,zB,zC]
       refine wpC_read (v:=?_) rfl (fun W hW=>?_) ?_
       rotate_left
       ·clear hW;go_simp;try (with_reducible rfl)
       try simp only [Act.put,zA,zB,zC]
       refine wpC_read (v:=?_) rfl (fun W hW=>?_) ?_
       rotate_left
       ·clear hW;go_simp;try (with_reducible rfl)
       try simp only [Act.put,zA,zB,zC]
       refine wpC_gread (v:=?_) rfl hgo4.out rfl (fun W hW=>?_) ?_
       rotate_left
       ·clear hW;go_simp;try (with_reducible rfl)
       try simp only [Act.put,zA,zB,zC]
       refine wpC_gread (v:=?_) rfl hgo4.out rfl (fun W hW=>?_) ?_
       rotate_left
       ·replace hW:=HD.out W hW
        obtain ⟨q0,q1,q2,hcW⟩:=hW
        go_simp;try (with_reducible rfl)
       try simp only [Act.put,zA,zB,zC]
       refine wpC_gread (v:=.bool true) rfl hgo4.out rfl (fun W hW=>?_) ?_
       ·replace hW:=HD.out W hW
        obtain ⟨q0,q1,q2,hcW⟩:=hW
        go_simp
        refine (hV _).mono ?_
        rintro e w5 ⟨rfl,hbn⟩
        exact ⟨rfl,HD2.out _ (hS.out _ (below_step hcW hbn))⟩
       try simp only [Act.put,zA,zB,zC]
       refine wpC_gread (v:=?_) rfl hgo4.out rfl (fun W hW=>?_) ?_
       rotate_left
       ·clear hW;go_simp;try (with_reducible rfl)
       try simp only [Act.put,zA,zB,zC]
       refine wpC_read (v:=?_) rfl (fun W hW=>?_) ?_
       rotate_left
       ·clear hW;go_simp;try (with_reducible rfl)
       try simp only [Act.put,zA,zB,zC]
       refine wpC_read (v:=?_) rfl (fun W hW=>?_) ?_
       rotate_left
       ·clear hW;go_simp;try (with_reducible rfl)
       try simp only [Act.put,zA,zB,zC]
       refine wpC_gread (v:=?_) rfl hgo10.out rfl (fun W hW=>?_) ?_
       rotate_left
       ·clear hW;go_simp;try (with_reducible rfl)
       try simp only [Act.put,zA,zB,zC]
       refine wpC_gread (v:=?_) rfl hgo10.out rfl (fun W hW=>?_) ?_
       rotate_left
       ·clear hW;go_simp;try (with_reducible rfl)
       try simp only [Act.put,zA,zB,zC]
       refine wpC_gread (v:=?_) rfl hgo10.out rfl (fun W hW=>?_) ?_
       rotate_left
       ·clear hW;go_simp;try (with_reducible rfl)
       try simp only [Act.put,zA,zB,zC]
       refine wpC_gread (v:=?_) rfl hgo13.out rfl (fun W hW=>?_) ?_
       rotate_left
       ·clear hW;go_simp;try (with_reducible rfl)
       try simp only [Act.put,zA,zB,zC]
       refine wpC_gread (v:=?_) rfl hgo13.out rfl (fun W hW=>?_) ?_
       rotate_left
       ·clear hW;go_simp;try (with_reducible rfl)
       try simp only [Act.put,zA,zB,zC]
       refine wpC_gread (v:=?_) rfl hgo13.out rfl (fun W hW=>?_) ?_
       rotate_left
       ·clear hW;go_simp;try (with_reducible rfl)
       try simp only [Act.put,zA,zB,zC]
       refine wpC_gread (v:=?_) rfl hgo13.out rfl (fun W hW=>?_) ?_
       rotate_left
       ·clear hW;go_simp;try (with_reducible rfl)
       try simp only [Act.put,zA,zB,zC]
       refine wpC_gread (v:=?_) rfl hgo13.out rfl (fun W hW=>?_) ?_
       rotate_left
       ·clear hW;go_simp;try (with_reducible rfl)
       try simp only [Act.put,zA,zB,zC]
       refine wpC_gread (v:=?_) rfl hgo13.out rfl (fun W hW=>?_) ?_
       rotate_left
       ·replace hW:=HD.out W hW
        obtain ⟨q0,q1,q2,hcW⟩:=hW
        go_simp;try (with_reducible rfl)
       try simp only [Act.put,zA,zB,zC]
       refine wpC_gread (v:=?_) rfl hgo13.out rfl (fun W hW=>?_) ?_
       rotate_left
       ·clear hW;go_simp;try (with_reducible rfl)
       try simp only [Act.put,zA,zB,zC]
       refine wpC_gread (v:=?_) rfl hgo13.out rfl (fun W hW=>?_) ?_
       rotate_left
       ·replace hW:=HD.out W hW
        obtain ⟨q0,q1,q2,hcW⟩:=hW
        go_simp;try (with_reducible rfl)
       try simp only [Act.put,zA,zB,zC]
       refine wpC_gread (v:=?_) rfl hgo13.out rfl (fun W hW=>?_) ?_
       rotate_left
       ·clear hW;go_simp;try (with_reducible rfl)
       try simp only [Act.put,zA,zB,zC]
       refine wpC_gread (v:=?_) rfl hgo10.out rfl (fun W hW=>?_) ?_
       rotate_left
       ·clear hW;go_simp;try (with_reducible rfl)
       try simp only [Act.put,zA,zB,zC]
       refine wpC_read (v:=?_) rfl (fun W hW=>?_) ?_
       rotate_left
       ·clear hW;go_simp;try (with_reducible rfl)
       try simp only [Act.put,zA,zB,zC]
       refine wpQuiet_nil (HQQ.out _ (fun W hW=>?_))
       obtain ⟨q0,q1,q2,hcW⟩:=hW
       go_wp2_with fail
       go_ret
       exact ⟨by rw [HB.out];rfl,hbW.trans (hcW.mono (by have:=HSZ.out;omega))⟩
  ·obtain rfl:k=n:=by omega
   have HF:Hid (propsE l=0):=by
    show _=_
    rw [hPE.out true]
    ·rfl
    rw [hok.out,List.drop_of_length_le (by rw [HN.out];exact Nat.le_refl _)]
    rfl
   clear hok hr
   go_wp2_with fail
   go_ret
   exact ⟨by rw [HF.out];rfl,hbw⟩
end Go.Proofs.YtpbejobgickffaaGreatDoor
