/-
  Properties in memory; props.value, props.Check, by their contracts. cmp.Or at a row of two numbers; the order of grants: by their contracts. slices.Delete of one element, at elements of 5 cells, by its contract. names.Parent and names.Split, by their contracts. slices.Clone at strings: of nothing it is a row without room. Short words for drawn regions with a store: what stands ahead of it, by reckoning; the values that an operation waits for. names.Join.
-/
import Derived.Test.YtmladblmknbgnaaGreatDoorH0
import Derived.Test.YtmladblmknbgnaaGreatDoorH3
import Derived.Test.YtmladblmknbgnaaGreatDoorH2
import Derived.Test.YtmladblmknbgnaaGreatDoorH4
import Derived.Test.YtmladblmknbgnaaGreatDoorRows
import Derived.Handy
import Derived.Lib.Hide
import Derived.Deep.RegionLaw
import Derived.ShutString
namespace Go.Proofs.YtmladblmknbgnaaGreatDoor
open Go.RowKit
def strV (s:BS):Value:=.string ⟨s.toArray⟩
def pcells (l:PL):List Value:=l.flatMap fun x=>[strV x.1,strV x.2]
theorem pcells_get (l:PL) (k:Nat) (h:k<l.length):(pcells l)[k*2]?=some (strV (l[k]).1)∧(pcells l)[k*2+1]?=some (strV (l[k]).2):=by
 induction l generalizing k with
 | nil=>simp at h
 | cons x l ih =>
  have e:pcells (x :: l)=strV x.1 :: strV x.2 :: pcells l:=rfl
  rw [e]
  cases k with
  | zero=>exact ⟨rfl,rfl⟩
  | succ k =>
   rw [show (k+1)*2=k*2+1+1 by omega]
   simp only [zD,List.getElem_cons_succ]
   exact ih k (by simpa using h)
theorem Reads.prop {w:World} {B n:Nat} {A:Option Addr} {l:PL} (h:Reads w B 2 A n (pcells l)) (hn:n=l.length) {k:Nat} (hk:k<n) :
  ∃ ad,A=some ad∧ad.block<B∧w.cell? (ad.add (k*2))=some (strV (l[k]'(by omega)).1)∧w.cell? ⟨(ad.add (k*2)).block,(ad.add (k*2)).off+1,none⟩=some (strV (l[k]'(by omega)).2):=by
 obtain ⟨ad,e,hb,hc⟩:=h.2 (by omega)
 obtain ⟨g1,g2⟩:=pcells_get l k (by omega)
 refine ⟨ad,e,hb,hc _ _ g1,?_⟩
 have h2:=hc _ _ g2
 rw [← add_of_add] at h2
 simpa [Addr.add] using h2
set_option maxRecDepth 100000 in
theorem valOdd_any (c:UInt8) (w:World):Calls Tryz.prog 218 #[.int .u8 (c.toNat:Int)] w fun e w'=>e=.returned (.bool (!(decide (32≤c) && decide (c≤126))))∧w'=w:=by
 have hc:c.toNat<256:=c.toNat_lt
 have hk:=Lib.hid (show (decide (32≤c) && decide (c≤126))=true↔32≤(c.toNat:Int)∧(c.toNat:Int)≤126 by
  simp only [Bool.and_eq_true,decide_eq_true_eq,UInt8.le_iff_toNat_le]
  have e1:(32:UInt8).toNat=32:=rfl
  have e2:(126:UInt8).toNat=126:=rfl
  omega)
 obtain ⟨b,hb⟩:∃ b,b=(decide (32≤c) && decide (c≤126)):=⟨_,rfl⟩
 rw [← hb] at hk ⊢
 clear hb
 go_enter Tryz.func218,Tryz.ntmps218
 go_wp2
 all_goals go_ret
 all_goals refine ⟨congrArg Ending.returned (congrArg Value.bool ?_),rfl⟩
 all_goals rw [Bool.eq_iff_iff,Bool.not_eq_true',← Bool.not_eq_true,hk.out]
 all_goals simp
 all_goals omega
set_option maxRecDepth 100000 in
set_option maxHeartbeats 1000000 in
theorem fiV_index {α:Type} (f:α→Value) (p:α→Bool) (l:List α) (n:Nat) (hnl:n=l.length) (A:Option Addr) (c:Nat) (w:World) (B:Nat)
  (hr:Reads w B 1 A n (l.map f)) (hB:B≤w.heap.size) (hn:n≤5000000000000)
  (hp:∀ x∈l,∀ W,Calls Tryz.prog 218 #[f x] W fun e W'=>e=.returned (.bool (p x))∧Below W.heap.size W W') :
  Calls Tryz.prog 212 #[.slice A n c,.func (.func 218) #[] #[]] w fun e w'=>e=.returned (.int .i64 (firstI p l))∧Below w.heap.size w w':=by
 have HN:=Lib.hid hnl
 have HP:=Lib.hid hp
 clear hnl hp
 go_enter Tryz.func212,Tryz.ntmps212
 go_wp2_with fail
 go_loopw [8] (fun j wr=>∃ k:Nat,k≤n∧j=.int .i64 (k:Int)∧Hid (∀ y∈l.take k,p y=false)∧Below w.heap.size w wr) (fun j _=>n-(intOf j).toNat)
 case atStart=>exact ⟨0,Nat.zero_le _,rfl,(show ∀ y∈_,_ by simp),Below.refl _ _⟩
 case round =>
  obtain ⟨k,hk,rfl,hno,hbw⟩:=hrel
  by_cases hlt:k<n
  ·have hki:(k:Int)<(n:Int):=by omega
   have hkl:k<l.length:=by have:=HN.out;omega
   obtain ⟨ad,u,rfl,_,hxu,hcell⟩:=(hr.below (hbw.mono hB)).at_ hlt
   obtain ⟨x,hx⟩:∃ x,x=l[k]'hkl:=⟨_,rfl⟩
   have hux:u=f x:=by
    rw [List.getElem?_map,List.getElem?_eq_getElem hkl] at hxu
    rw [hx]
    exact (Option.some.inj hxu).symm
   subst hux
   clear hxu
   have htk:=List.take_succ_eq_append_getElem hkl
   rw [← hx] at htk
   have HTK:=Lib.hid htk
   have HX:=Lib.hid (show l[k]?=some x by rw [hx];exact List.getElem?_eq_getElem _)
   have hc:=HP.out x (List.mem_of_getElem? HX.out) wr
   obtain ⟨b,hb⟩:∃ b,b=p x:=⟨_,rfl⟩
   rw [← hb] at hc
   have HBX:=Lib.hid hb
   clear hx htk hr hb
   obtain ⟨fx,hfx⟩:∃ v,v=f x:=⟨_,rfl⟩
   rw [← hfx] at hc hcell
   clear hfx
   go_wp2_with fail
   refine hc.mono ?_
   clear hc
   rintro e w1 ⟨rfl,hb1⟩
   have hbw1:=hbw.trans (hb1.mono hbw.size)
   cases b with
   | true =>
    go_wp2_with fail
    go_ret
    have hf:=firstP_eq p l k x hno.out HX.out HBX.out.symm
    exact ⟨by unfold firstI;rw [hf,if_pos hkl];rfl,hbw1⟩
   | false =>
    go_wp2_with fail
    go_roundw
    case rel =>
     refine ⟨k+1,by omega,by go_num,?_,hbw1⟩
     show ∀ y∈l.take (k+1),p y=false
     intro y hy
     rw [HTK.out] at hy
     rcases List.mem_append.1 hy with hy | hy
     ·exact hno.out y hy
     ·simp at hy;subst hy;exact HBX.out.symm
    case measure=>simp [intOf];omega
  ·have hkn:k=n:=by omega
   have HF:Hid (firstI p l=-1):=by
    show _=_
    unfold firstI
    rw [firstP_none p l (fun y hy=>hno.out y (by rw [List.take_of_length_le (by rw [hkn,HN.out];exact Nat.le_refl _)];exact hy)),if_neg (Nat.lt_irrefl _)]
   clear hr hkn
   go_wp2_with fail
   go_ret
   exact ⟨by rw [HF.out];rfl,hbw⟩
theorem fiV_contains {α:Type} (f:α→Value) (p:α→Bool) (l:List α) (n:Nat) (hnl:n=l.length) (A:Option Addr) (c:Nat) (w:World) (B:Nat)
  (hr:Reads w B 1 A n (l.map f)) (hB:B≤w.heap.size) (hn:n≤5000000000000)
  (hp:∀ x∈l,∀ W,Calls Tryz.prog 218 #[f x] W fun e W'=>e=.returned (.bool (p x))∧Below W.heap.size W W') :
  Calls Tryz.prog 175 #[.slice A n c,.func (.func 218) #[] #[]] w fun e w'=>e=.returned (.bool (l.any p))∧Below w.heap.size w w':=by
 have hcall:=Lib.hid (fiV_index f p l n hnl A c w B hr hB hn hp)
 have HA:=Lib.hid (firstI_any p l)
 clear hnl hr hp
 go_enter Tryz.func175,Tryz.ntmps175
 go_wp2_with fail
 refine hcall.out.mono ?_
 rintro e w1 ⟨rfl,hb⟩
 go_wp2_with fail
 go_ret
 exact ⟨by rw [← HA.out];rfl,hb⟩
set_option maxRecDepth 100000 in
set_option maxHeartbeats 1000000 in
theorem value_any (s:ByteArray) (w:World) (hs:s.size≤140737488351232):Calls Tryz.prog 191 #[.string s] w fun e w'=>e=.returned (.bool (valB s.data.toList))∧Below w.heap.size w w':=by
 have hcv:=Lib.hid (Lib.run_convert_string_bytes (P:=Tryz.prog) w 9 193 5 s Tryz.underlying9 Tryz.underlying193 Tryz.underlying5)
 have hb:=Lib.hid (bytesWorld_below w 5 s)
 have hr:=Lib.hid (bytesWorld_reads w 5 s)
 have hsz:=Lib.hid (Lib.size_eq s)
 go_enter Tryz.func191,Tryz.ntmps191
 go_wp2_with fail
 ·have h16:(s.size:Int)≤32:=by assumption
  rw [hcv.out]
  have hB:=hb.out.size
  have hc:=Lib.hid (fiV_contains (fun c:UInt8=>Value.int .u8 (c.toNat:Int)) (fun c=>!(decide (32≤c) && decide (c≤126))) s.data.toList s.size hsz.out (some ⟨w.heap.size,0,none⟩) (grownCap w s.size 0 5) (Lib.bytesWorld w 5 s) (w.heap.size+1) hr.out
   (by rw [Lib.bytesWorld_size];omega) (by omega) (fun x _ W=>(valOdd_any x W).mono fun _ _ ⟨h1,h2⟩=>⟨h1,by rw [h2];exact Below.refl _ _⟩))
  obtain ⟨b,hbe0⟩:∃ b,b=s.data.toList.any fun c=>!(decide (32≤c) && decide (c≤126)):=⟨_,rfl⟩
  rw [← hbe0] at hc
  have hbe:=Lib.hid hbe0
  clear hbe0
  go_wp2_with fail
  refine hc.out.mono ?_
  rintro e w1 ⟨rfl,hb1⟩
  go_wp2_with fail
  go_ret
  refine ⟨congrArg Ending.returned (congrArg Value.bool ?_),hb.out.trans (hb1.mono hB)⟩
  have e2:decide (s.data.toList.length≤32)=true:=by
   rw [← hsz.out]
   exact decide_eq_true (by omega)
  unfold valB
  rw [e2,List.all_eq_not_any_not,← hbe.out]
  rfl
 ·have h16:32<(s.size:Int):=by assumption
  go_ret
  refine ⟨congrArg Ending.returned (congrArg Value.bool ?_),Below.refl _ _⟩
  have e2:decide (s.data.toList.length≤32)=false:=by
   rw [← hsz.out]
   exact decide_eq_false (by omega)
  unfold valB
  rw [e2]
  simp
/-! ### Check -/
def prevP (l:PL) (k:Nat):Option BS:=match k with
 | 0=>none
 | j+1=>(l[j]?).map (·.1)
theorem propsFrom_cons (p:Option BS) (x:BS×BS) (l:PL):propsFrom p (x :: l)=(nameB x.1 && valB x.2 && (match p with | none=>true | some q=>Op.bytesLess q x.1) && propsFrom (some x.1) l):=by
 cases p <;> rfl
def propsE (l:PL):Int:=if propsB l=true then 0 else 9
set_option maxRecDepth 100000 in
set_option maxHeartbeats 2000000 in
theorem checkP_any (l:PL) (n:Nat) (hnl:n=l.length) (A:Option Addr) (c:Nat) (w:World) (B:Nat) (hr:Reads w B 2 A n (pcells l)) (hB:B≤w.heap.size) (hn:n≤140737488351232) (hv:∀ x∈l,x.2.length≤140737488351232) :
  Calls Tryz.prog 188 #[.slice A n c] w fun e w'=>e=.returned (.int .i64 (propsE l))∧Below w.heap.size w w':=by
 have HN:=Lib.hid hnl
 clear hnl
 go_enter Tryz.func188,Tryz.ntmps188
 by_cases hn8:8<n
 ·have hi:(8:Int)<(n:Int):=by omega
  have HE:Hid (propsE l=9):=by
   show _=_
   unfold propsE propsB
   rw [if_neg]
   rw [Bool.and_eq_true,decide_eq_true_eq]
   have:=HN.out
   omega
  clear hr hv
  go_wp2_with fail
  go_ret
  exact ⟨by rw [HE.out];rfl,Below.refl _ _⟩
 have hi:¬ (8:Int)<(n:Int):=by omega
 have hPE:Hid (∀ b,propsFrom none l=b→propsE l=if b=true then 0 else 9):=by
  show ∀ b,_→_
  rintro b rfl
  unfold propsE propsB
  rw [decide_eq_true (show l.length≤8 by have:=HN.out;omega),Bool.true_and]
 go_wp2_with fail
 go_loopw [10] (fun j wr=>∃ k:Nat,k≤n∧j=.int .i64 (k:Int)∧Hid (propsFrom none l=propsFrom (prevP l k) (l.drop k))∧Below w.heap.size w wr) (fun j _=>n-(intOf j).toNat)
 case atStart=>exact ⟨0,Nat.zero_le _,rfl,rfl,Below.refl _ _⟩
 case round =>
  obtain ⟨k,hk,rfl,hok,hbw⟩:=hrel
  by_cases hlt:k<n
  ·have hrw:=hr.below (hbw.mono hB)
   obtain ⟨ad,rfl,hadB,c0,c1⟩:=hrw.prop HN.out hlt
   have hki:(k:Int)<(n:Int):=by omega
   have hkl:k<l.length:=by have:=HN.out;omega
   obtain ⟨x,hx⟩:∃ x,x=l[k]'hkl:=⟨_,rfl⟩
   have hxl:x.2.length≤140737488351232:=hv x (by rw [hx];exact List.getElem_mem _)
   rw [← hx] at c0 c1
   have hdr:=List.drop_eq_getElem_cons hkl
   rw [← hx] at hdr
   have HX:=Lib.hid hx
   have HDR:=Lib.hid hdr
   obtain ⟨xn,xv⟩:=x
   simp only [strV] at c0 c1 hxl
   obtain ⟨W0,hW0⟩:∃ W0,W0=wr.alloc (.cells #[.string ⟨xn.toArray⟩,.string ⟨xv.toArray⟩] 91):=⟨_,rfl⟩
   have k0:W0.cell? ⟨wr.heap.size,0,none⟩=some (.string ⟨xn.toArray⟩):=by rw [hW0];exact (Blk.new wr _ _).cell 0
   have k1:W0.cell? ⟨wr.heap.size,1,none⟩=some (.string ⟨xv.toArray⟩):=by rw [hW0];exact (Blk.new wr _ _).cell 1
   have hszW:W0.heap.size=wr.heap.size+1:=by rw [hW0];show (wr.heap.push _).size=_;rw [Array.size_push]
   have hlt0:wr.heap.size<W0.heap.size:=by omega
   have HSZ:=Lib.hid hszW
   have hwr:=hbw.size
   have hbW:Below w.heap.size w W0:=by rw [hW0];exact hbw.alloc hbw.size _
   have hS0:=(Below.refl W0.heap.size W0).drew
   have hbad:Hid ((nameB xn=false∨valB xv=false∨(∃ y,prevP l k=some y∧Op.bytesLess y xn=false))→propsE l=9):=by
    show _→_
    intro h
    rw [hPE.out false]
    ·rfl
    rw [hok.out,HDR.out,propsFrom_cons]
    rcases h with h | h | ⟨y,hy,h⟩
    ·rw [h];rfl
    ·rw [h];simp
    ·rw [hy];simp [h]
   have hgood:Hid (nameB xn=true→valB xv=true→(∀ y,prevP l k=some y→Op.bytesLess y xn=true)→propsFrom none l=propsFrom (prevP l (k+1)) (l.drop (k+1))):=by
    show _→_→_→_
    intro h1 h2 h3
    rw [hok.out,HDR.out]
    have hp:prevP l (k+1)=some xn:=by
     show (l[k]?).map (·.1)=_
     rw [List.getElem?_eq_getElem hkl,← HX.out]
     rfl
    rw [hp,propsFrom_cons,h1,h2]
    cases hq:prevP l k with
    | none=>rfl
    | some y=>simp [h3 y hq]
   have hN:∀ W,Calls Tryz.prog 115 #[.string ⟨xn.toArray⟩] W fun e W'=>e=.returned (.bool (nameB xn))∧Below W.heap.size W W':=fun W=>name_any ⟨xn.toArray⟩ W
   have hV:∀ W,Calls Tryz.prog 191 #[.string ⟨xv.toArray⟩] W fun e W'=>e=.returned (.bool (valB xv))∧Below W.heap.size W W':=fun W=>value_any ⟨xv.toArray⟩ W hxl
   clear hx hdr hok hxl
   obtain ⟨bn,hbn0⟩:∃ b,b=nameB xn:=⟨_,rfl⟩
   obtain ⟨bv,hbv0⟩:∃ b,b=valB xv:=⟨_,rfl⟩
   rw [← hbn0] at hbad hgood hN
   rw [← hbv0] at hbad hgood hV
   clear hbn0 hbv0
   cases bn with
   | false =>
    have HB:=Lib.hid (hbad.out (.inl rfl))
    have hS:=Lib.hid (fun (W':World) (hB:Below W0.heap.size W0 W')=>(⟨(hB.cell (p:=⟨wr.heap.size,0,none⟩) hlt0).trans k0,(hB.cell (p:=⟨wr.heap.size,1,none⟩) hlt0).trans k1,hB⟩:W'.cell? ⟨wr.heap.size,0,none⟩=some (.string ⟨xn.toArray⟩)∧W'.cell? ⟨wr.heap.size,1,none⟩=some (.string ⟨xv.toArray⟩)∧Below W0.heap.size W0 W'))
    clear hr hrw hbad hgood hV
    go_wp2_with fail
    rw [← hW0]
    clear hW0 hszW
    refine wpC_regionH (fun W'=>W'.cell? ⟨wr.heap.size,0,none⟩=some (.string ⟨xn.toArray⟩)∧W'.cell? ⟨wr.heap.size,1,none⟩=some (.string ⟨xv.toArray⟩)∧Below W0.heap.size W0 W') (hS.out _ hS0) (fun OPS D QQ HO HD HD2 HQQ=>?_)
    have hgo4:=hgoL HO 4 19 rfl
    have hgo10:=hgoL HO 10 25 rfl
    have hgo13:=hgoL HO 13 28 rfl
    clear HO
    refine zX ?_
    refine zY ?_
    refine zN hN ?_
    iterate 22 refine zX ?_
    refine wpQuiet_nil (HQQ.out _ (fun W hW=>?_))
    obtain ⟨q0,q1,hcW⟩:=hW
    go_wp2_with fail
    go_ret
    exact ⟨by rw [HB.out];rfl,hbW.trans (hcW.mono (by have:=HSZ.out;omega))⟩
   | true =>
    cases bv with
    | false =>
     have HB:=Lib.hid (hbad.out (.inr (.inl rfl)))
     have hS:=Lib.hid (fun (W':World) (hB:Below W0.heap.size W0 W')=>(⟨(hB.cell (p:=⟨wr.heap.size,0,none⟩) hlt0).trans k0,(hB.cell (p:=⟨wr.heap.size,1,none⟩) hlt0).trans k1,hB⟩:W'.cell? ⟨wr.heap.size,0,none⟩=some (.string ⟨xn.toArray⟩)∧W'.cell? ⟨wr.heap.size,1,none⟩=some (.string ⟨xv.toArray⟩)∧Below W0.heap.size W0 W'))
     clear hr hrw hbad hgood
     go_wp2_with fail
     rw [← hW0]
     clear hW0 hszW
     refine wpC_regionH (fun W'=>W'.cell? ⟨wr.heap.size,0,none⟩=some (.string ⟨xn.toArray⟩)∧W'.cell? ⟨wr.heap.size,1,none⟩=some (.string ⟨xv.toArray⟩)∧Below W0.heap.size W0 W') (hS.out _ hS0) (fun OPS D QQ HO HD HD2 HQQ=>?_)
     have hgo4:=hgoL HO 4 19 rfl
     have hgo10:=hgoL HO 10 25 rfl
     have hgo13:=hgoL HO 13 28 rfl
     clear HO
     refine zX ?_
     refine zY ?_
     refine zN hN ?_
     iterate 3 refine zX ?_
     refine zY ?_
     refine zN hV ?_
     iterate 17 refine zX ?_
     refine wpQuiet_nil (HQQ.out _ (fun W hW=>?_))
     obtain ⟨q0,q1,hcW⟩:=hW
     go_wp2_with fail
     go_ret
     exact ⟨by rw [HB.out];rfl,hbW.trans (hcW.mono (by have:=HSZ.out;omega))⟩
    | true =>
     rcases Nat.eq_zero_or_pos k with h0 | h0
     ·have HG:=Lib.hid (hgood.out rfl rfl (fun y hy=>by subst h0;cases hy))
      have d4:decide ((0:Int)<(k:Int))=false:=by simp;omega
      have d4':decide (0<k)=false:=by simp;omega
      clear h0
      have hS:=Lib.hid (fun (W':World) (hB:Below W0.heap.size W0 W')=>(⟨(hB.cell (p:=⟨wr.heap.size,0,none⟩) hlt0).trans k0,(hB.cell (p:=⟨wr.heap.size,1,none⟩) hlt0).trans k1,hB⟩:W'.cell? ⟨wr.heap.size,0,none⟩=some (.string ⟨xn.toArray⟩)∧W'.cell? ⟨wr.heap.size,1,none⟩=some (.string ⟨xv.toArray⟩)∧Below W0.heap.size W0 W'))
      clear hr hrw hbad hgood
      go_wp2_with fail
      rw [← hW0]
      clear hW0 hszW
      refine wpC_regionH (fun W'=>W'.cell? ⟨wr.heap.size,0,none⟩=some (.string ⟨xn.toArray⟩)∧W'.cell? ⟨wr.heap.size,1,none⟩=some (.string ⟨xv.toArray⟩)∧Below W0.heap.size W0 W') (hS.out _ hS0) (fun OPS D QQ HO HD HD2 HQQ=>?_)
      have hgo4:=hgoL HO 4 19 rfl
      have hgo10:=hgoL HO 10 25 rfl
      have hgo13:=hgoL HO 13 28 rfl
      clear HO
      refine zX ?_
      refine zY ?_
      refine zN hN ?_
      iterate 3 refine zX ?_
      refine zY ?_
      refine zN hV ?_
      iterate 17 refine zX ?_
      refine wpQuiet_nil (HQQ.out _ (fun W hW=>?_))
      obtain ⟨q0,q1,hcW⟩:=hW
      go_wp2_with fail
      go_roundw
      case rel=>exact ⟨k+1,by omega,by go_num,HG,hbW.trans (hcW.mono (by have:=HSZ.out;omega))⟩
      case measure=>simp [intOf];omega
     ·have d4:decide ((0:Int)<(k:Int))=true:=by simp;omega
      have d4':decide (0<k)=true:=by simp;omega
      have hk1l:k-1<l.length:=by omega
      obtain ⟨y,hy⟩:∃ y,y=(l[k-1]'hk1l).1:=⟨_,rfl⟩
      have hpv:prevP l k=some y:=by
       obtain ⟨j,rfl⟩:∃ j,k=j+1:=⟨k-1,by omega⟩
       show (l[j]?).map (·.1)=_
       have hj:j<l.length:=by simpa using hk1l
       rw [List.getElem?_eq_getElem hj,hy]
       rfl
      obtain ⟨ad2,e2,-,c2,-⟩:=(hrw.prop HN.out (k:=k-1) (by omega))
      injection e2 with e2
      subst e2
      rw [← hy] at c2
      simp only [strV] at c2
      have hltp:(ad.add ((k-1)*2)).block<W0.heap.size:=by rw [block_of_add];omega
      have kp:W0.cell? (ad.add ((k-1)*2))=some (.string ⟨y.toArray⟩):=by rw [hW0];exact (World.cell?_alloc_lt wr _ _ (by rw [block_of_add];omega)).trans c2
      have hgeq:=geqS 9 y xn
      have i1:(1:Int)≤(k:Int):=by omega
      have i2:(k:Int)-1<(n:Int):=by omega
      have i3:IntKind.i64.wrap ((k:Int)-1)=(k:Int)-1:=IntWalk.i64_in _ (by omega)
      have i4:((k:Int)-1).toNat=k-1:=by omega
      have hS:=Lib.hid (fun (W':World) (hB:Below W0.heap.size W0 W')=>(⟨(hB.cell (p:=⟨wr.heap.size,0,none⟩) hlt0).trans k0,(hB.cell (p:=⟨wr.heap.size,1,none⟩) hlt0).trans k1,(hB.cell (p:=ad.add ((k-1)*2)) hltp).trans kp,hB⟩:W'.cell? ⟨wr.heap.size,0,none⟩=some (.string ⟨xn.toArray⟩)∧W'.cell? ⟨wr.heap.size,1,none⟩=some (.string ⟨xv.toArray⟩)∧W'.cell? (ad.add ((k-1)*2))=some (.string ⟨y.toArray⟩)∧Below W0.heap.size W0 W'))
      cases hcmp:Op.bytesLess y xn with
      | true =>
       have HG:=Lib.hid (hgood.out rfl rfl (fun y' hy'=>by rw [hpv] at hy';cases hy';exact hcmp))
       clear hr hrw hbad hgood h0 hpv hy c2
       go_wp2_with fail
       rw [← hW0]
       clear hW0 hszW
       refine wpC_regionH (fun W'=>W'.cell? ⟨wr.heap.size,0,none⟩=some (.string ⟨xn.toArray⟩)∧W'.cell? ⟨wr.heap.size,1,none⟩=some (.string ⟨xv.toArray⟩)∧W'.cell? (ad.add ((k-1)*2))=some (.string ⟨y.toArray⟩)∧Below W0.heap.size W0 W') (hS.out _ hS0) (fun OPS D QQ HO HD HD2 HQQ=>?_)
       have hgo4:=hgoL HO 4 19 rfl
       have hgo10:=hgoL HO 10 25 rfl
       have hgo13:=hgoL HO 13 28 rfl
       clear HO
       refine zX ?_
       refine zY ?_
       refine zN hN ?_
       iterate 3 refine zX ?_
       refine zY ?_
       refine zN hV ?_
       iterate 11 refine zX ?_
       refine zY ?_
       refine zX ?_
       refine zY ?_
       iterate 3 refine zX ?_
       refine wpQuiet_nil (HQQ.out _ (fun W hW=>?_))
       obtain ⟨q0,q1,q2,hcW⟩:=hW
       go_wp2_with fail
       go_roundw
       case rel=>exact ⟨k+1,by omega,by go_num,HG,hbW.trans (hcW.mono (by have:=HSZ.out;omega))⟩
       case measure=>simp [intOf];omega
      | false =>
       have HB:=Lib.hid (hbad.out (.inr (.inr ⟨y,hpv,hcmp⟩)))
       clear hr hrw hbad hgood h0 hpv hy c2
       go_wp2_with fail
       rw [← hW0]
       clear hW0 hszW
       refine wpC_regionH (fun W'=>W'.cell? ⟨wr.heap.size,0,none⟩=some (.string ⟨xn.toArray⟩)∧W'.cell? ⟨wr.heap.size,1,none⟩=some (.string ⟨xv.toArray⟩)∧W'.cell? (ad.add ((k-1)*2))=some (.string ⟨y.toArray⟩)∧Below W0.heap.size W0 W') (hS.out _ hS0) (fun OPS D QQ HO HD HD2 HQQ=>?_)
       have hgo4:=hgoL HO 4 19 rfl
       have hgo10:=hgoL HO 10 25 rfl
       have hgo13:=hgoL HO 13 28 rfl
       clear HO
       refine zX ?_
       refine zY ?_
       refine zN hN ?_
       iterate 3 refine zX ?_
       refine zY ?_
       refine zN hV ?_
       iterate 11 refine zX ?_
       refine zY ?_
       refine zX ?_
       refine zY ?_
       iterate 3 refine zX ?_
       refine wpQuiet_nil (HQQ.out _ (fun W hW=>?_))
       obtain ⟨q0,q1,q2,hcW⟩:=hW
       go_wp2_with fail
       go_ret
       exact ⟨by rw [HB.out];rfl,hbW.trans (hcW.mono (by have:=HSZ.out;omega))⟩
  ·obtain rfl:k=n:=by omega
   have HF:Hid (propsE l=0):=by
    show _=_
    rw [hPE.out true]
    ·rfl
    rw [hok.out,List.drop_of_length_le (by rw [HN.out];exact Nat.le_refl _)]
    rfl
   clear hok hr
   go_wp2_with fail
   go_ret
   exact ⟨by rw [HF.out];rfl,hbw⟩
end Go.Proofs.YtmladblmknbgnaaGreatDoor
namespace Go.Proofs.YtmladblmknbgnaaGreatDoor
open Go.RowKit
def orI2 (x y:Int):Int:=if x=0 then y else x
set_option maxRecDepth 100000 in
theorem orI2_any (x y:Int) (A:Option Addr) (c:Nat) (w:World) (B:Nat) (hr:Reads w B 1 A 2 [.int .i64 x,.int .i64 y]) :
  Calls Tryz.prog 223 #[.slice A 2 c] w fun e w'=>e=.returned (.int .i64 (orI2 x y))∧∃ q,w'=w.drewN q:=by
 obtain ⟨ad,rfl,_,hc⟩:=hr.2 (by omega)
 have h0:w.cell? ad=some (.int .i64 x):=by have:=hc 0 _ rfl;rwa [add_zero] at this
 have h1:w.cell? ⟨ad.block,ad.off+1,none⟩=some (.int .i64 y):=by have:=hc 1 _ rfl;rwa [addr_add_succ] at this
 clear hc hr
 by_cases hx:x=0
 ·subst hx
  by_cases hy:y=0
  ·subst hy
   go_enter Tryz.func223,Tryz.ntmps223
   go_wp2_with fail
   refine wp_loop_rounds 3 ?_
   rw [rounds_succ]
   go_wp2_with fail
   rw [rounds_succ]
   go_wp2_with fail
   rw [rounds_succ]
   go_wp2_with fail
   go_ret
   exact ⟨rfl,0,rfl⟩
  ·have hyb:(y == 0)=false:=by simp [hy]
   go_enter Tryz.func223,Tryz.ntmps223
   go_wp2_with fail
   refine wp_loop_rounds 3 ?_
   rw [rounds_succ]
   go_wp2_with fail
   rw [rounds_succ]
   go_wp2_with fail
   go_ret
   exact ⟨by unfold orI2;rw [if_pos rfl];rfl,0,rfl⟩
 ·have hxb:(x == 0)=false:=by simp [hx]
  go_enter Tryz.func223,Tryz.ntmps223
  go_wp2_with fail
  refine wp_loop_rounds 3 ?_
  rw [rounds_succ]
  go_wp2_with fail
  go_ret
  exact ⟨by unfold orI2;rw [if_neg hx];rfl,0,rfl⟩
theorem cmpG_or (a b c d:BS):orI2 (cmpS a c) (cmpS b d)=cmpG a b c d:=rfl
set_option maxRecDepth 100000 in
set_option maxHeartbeats 1000000 in
theorem orderG_any (a b c d:BS) (n m:Int) (w:World) :
  Calls Tryz.prog 199 #[.agg #[.string ⟨a.toArray⟩,.string ⟨b.toArray⟩,.int .i64 n],.agg #[.string ⟨c.toArray⟩,.string ⟨d.toArray⟩,.int .i64 m]] w fun e w'=>e=.returned (.int .i64 (cmpG a b c d))∧Below w.heap.size w w':=by
 obtain ⟨W0,hW0⟩:∃ W0,W0=(w.alloc (.cells #[.string ⟨a.toArray⟩,.string ⟨b.toArray⟩,.int .i64 n] 139)).alloc (.cells #[.string ⟨c.toArray⟩,.string ⟨d.toArray⟩,.int .i64 m] 139):=⟨_,rfl⟩
 have hb1:=(Below.refl w.heap.size w).alloc (Nat.le_refl _) (.cells #[.string ⟨a.toArray⟩,.string ⟨b.toArray⟩,.int .i64 n] 139)
 have hb2:=hb1.alloc hb1.size (.cells #[.string ⟨c.toArray⟩,.string ⟨d.toArray⟩,.int .i64 m] 139)
 have k0:=(Blk.new w 139 #[.string ⟨a.toArray⟩,.string ⟨b.toArray⟩,.int .i64 n]).alloc (.cells #[.string ⟨c.toArray⟩,.string ⟨d.toArray⟩,.int .i64 m] 139)
 have k1:=Blk.new (w.alloc (.cells #[.string ⟨a.toArray⟩,.string ⟨b.toArray⟩,.int .i64 n] 139)) 139 #[.string ⟨c.toArray⟩,.string ⟨d.toArray⟩,.int .i64 m]
 have e1:(w.alloc (.cells #[.string ⟨a.toArray⟩,.string ⟨b.toArray⟩,.int .i64 n] 139)).heap.size=w.heap.size+1:=by simp
 rw [e1] at k1
 rw [← hW0] at hb2 k0 k1
 have hsz:W0.heap.size=w.heap.size+2:=by rw [hW0];simp
 have hS:=Lib.hid (fun (W':World) (hB:Below W0.heap.size W0 W') =>
  (⟨(k0.below hB (by omega)).cell 0,(k0.below hB (by omega)).cell 1,(k1.below hB (by omega)).cell 0,(k1.below hB (by omega)).cell 1⟩ :
   W'.cell? ⟨w.heap.size,0,none⟩=some (.string ⟨a.toArray⟩)∧W'.cell? ⟨w.heap.size,1,none⟩=some (.string ⟨b.toArray⟩)∧W'.cell? ⟨w.heap.size+1,0,none⟩=some (.string ⟨c.toArray⟩)∧W'.cell? ⟨w.heap.size+1,1,none⟩=some (.string ⟨d.toArray⟩)))
 have HSZ:=Lib.hid hsz
 have HG:=Lib.hid (cmpG_or a b c d)
 have HB:=Lib.hid hb2
 clear k0 k1 e1 hsz hb1 hb2
 go_enter Tryz.func199,Tryz.ntmps199
 go_wp2_with fail
 rw [← hW0]
 clear hW0
 refine wp_region_good2 (by kernel_rfl) (by kernel_rfl) [(fun v _=>v=.pointer (some ⟨w.heap.size,0,none⟩)),
  (fun v _=>v=.string ⟨a.toArray⟩),
  (fun v _=>v=.pointer (some ⟨(w.heap.size+1),0,none⟩)),
  (fun v _=>v=.string ⟨c.toArray⟩),
  (fun v _=>v=.int .i64 (cmpS a c)),
  (fun v _=>v=.pointer (some ⟨w.heap.size,1,none⟩)),
  (fun v _=>v=.string ⟨b.toArray⟩),
  (fun v _=>v=.pointer (some ⟨(w.heap.size+1),1,none⟩)),
  (fun v _=>v=.string ⟨d.toArray⟩),
  (fun v _=>v=.int .i64 (cmpS b d)),
  (fun v W=>W.ownsRow w.heap.size 3 1 v 2 [.int .i64 (cmpS a c),.int .i64 (cmpS b d)]),
  (fun v _=>v=.int .i64 (cmpG a b c d)),
  (fun v _=>v=.int .i64 (cmpG a b c d))] ?_ ?_ ?_
 ·repeat' (first | exact stays_nil | refine stays_cons ?_ ?_ | exact Stays.pure | exact Stays.own _ _ _ _ _)
 ·intro i oo ho m2 W hb0 hmi hcl hdeps AA KK hA hK
  rcases i with _ | _ | _ | _ | _ | _ | _ | _ | _ | _ | _ | _ | _ | i
  ·injection ho with ho
   subst ho
   have ef2:AA.tmps[2]?.getD undef=.pointer (some ⟨w.heap.size,0,none⟩):=by rw [hA];exact tmps_free (by kernel_rfl)
   clear hA hdeps hcl hmi
   have hK0:KK (AA.put (some 5) _) _:=hK (.pointer (some ⟨w.heap.size,0,none⟩)) _ (Below.refl _ _) (Eq.refl _)
   clear hK
   go_simp
   exact hK0
  ·injection ho with ho
   subst ho
   obtain ⟨x0,hx0,hg0⟩:=hdeps ⟨0,.data⟩ (by simp) rfl
   have hg0:x0=.pointer (some ⟨w.heap.size,0,none⟩):=hg0
   subst hg0
   have e0:AA.tmps[5]?.getD undef=.pointer (some ⟨w.heap.size,0,none⟩):=by rw [hA];exact tmps_own (by kernel_rfl) hx0 (of_decide_eq_true (by kernel_rfl))
   clear hA hdeps hcl hmi hx0
   obtain ⟨c0,c1,c2,c3⟩:=hS.out W hb0
   have hK0:KK (AA.put (some 6) _) _:=hK (.string ⟨a.toArray⟩) _ (Below.refl _ _) (Eq.refl _)
   clear hK
   go_simp
   exact hK0
  ·injection ho with ho
   subst ho
   have ef3:AA.tmps[3]?.getD undef=.pointer (some ⟨(w.heap.size+1),0,none⟩):=by rw [hA];exact tmps_free (by kernel_rfl)
   clear hA hdeps hcl hmi
   have hK0:KK (AA.put (some 7) _) _:=hK (.pointer (some ⟨(w.heap.size+1),0,none⟩)) _ (Below.refl _ _) (Eq.refl _)
   clear hK
   go_simp
   exact hK0
  ·injection ho with ho
   subst ho
   obtain ⟨x2,hx2,hg2⟩:=hdeps ⟨2,.data⟩ (by simp) rfl
   have hg2:x2=.pointer (some ⟨(w.heap.size+1),0,none⟩):=hg2
   subst hg2
   have e2:AA.tmps[7]?.getD undef=.pointer (some ⟨(w.heap.size+1),0,none⟩):=by rw [hA];exact tmps_own (by kernel_rfl) hx2 (of_decide_eq_true (by kernel_rfl))
   clear hA hdeps hcl hmi hx2
   obtain ⟨c0,c1,c2,c3⟩:=hS.out W hb0
   have hK0:KK (AA.put (some 8) _) _:=hK (.string ⟨c.toArray⟩) _ (Below.refl _ _) (Eq.refl _)
   clear hK
   go_simp
   exact hK0
  ·injection ho with ho
   subst ho
   obtain ⟨x1,hx1,hg1⟩:=hdeps ⟨1,.data⟩ (by simp) rfl
   have hg1:x1=.string ⟨a.toArray⟩:=hg1
   subst hg1
   have e1:AA.tmps[6]?.getD undef=.string ⟨a.toArray⟩:=by rw [hA];exact tmps_own (by kernel_rfl) hx1 (of_decide_eq_true (by kernel_rfl))
   obtain ⟨x3,hx3,hg3⟩:=hdeps ⟨3,.data⟩ (by simp) rfl
   have hg3:x3=.string ⟨c.toArray⟩:=hg3
   subst hg3
   have e3:AA.tmps[8]?.getD undef=.string ⟨c.toArray⟩:=by rw [hA];exact tmps_own (by kernel_rfl) hx3 (of_decide_eq_true (by kernel_rfl))
   clear hA hdeps hcl hmi hx1 hx3
   have hKK:=Lib.hid hK
   clear hK
   go_simp
   refine (compareS_any a c _).mono ?_
   rintro e w5 ⟨rfl,q,rfl⟩
   exact hKK.out _ _ (below_drewN (Below.refl _ _) q) rfl
  ·injection ho with ho
   subst ho
   have ef2:AA.tmps[2]?.getD undef=.pointer (some ⟨w.heap.size,0,none⟩):=by rw [hA];exact tmps_free (by kernel_rfl)
   clear hA hdeps hcl hmi
   have hK0:KK (AA.put (some 10) _) _:=hK (.pointer (some ⟨w.heap.size,1,none⟩)) _ (Below.refl _ _) (Eq.refl _)
   clear hK
   go_simp
   exact hK0
  ·injection ho with ho
   subst ho
   obtain ⟨x5,hx5,hg5⟩:=hdeps ⟨5,.data⟩ (by simp) rfl
   have hg5:x5=.pointer (some ⟨w.heap.size,1,none⟩):=hg5
   subst hg5
   have e5:AA.tmps[10]?.getD undef=.pointer (some ⟨w.heap.size,1,none⟩):=by rw [hA];exact tmps_own (by kernel_rfl) hx5 (of_decide_eq_true (by kernel_rfl))
   clear hA hdeps hcl hmi hx5
   obtain ⟨c0,c1,c2,c3⟩:=hS.out W hb0
   have hK0:KK (AA.put (some 11) _) _:=hK (.string ⟨b.toArray⟩) _ (Below.refl _ _) (Eq.refl _)
   clear hK
   go_simp
   exact hK0
  ·injection ho with ho
   subst ho
   have ef3:AA.tmps[3]?.getD undef=.pointer (some ⟨(w.heap.size+1),0,none⟩):=by rw [hA];exact tmps_free (by kernel_rfl)
   clear hA hdeps hcl hmi
   have hK0:KK (AA.put (some 12) _) _:=hK (.pointer (some ⟨(w.heap.size+1),1,none⟩)) _ (Below.refl _ _) (Eq.refl _)
   clear hK
   go_simp
   exact hK0
  ·injection ho with ho
   subst ho
   obtain ⟨x7,hx7,hg7⟩:=hdeps ⟨7,.data⟩ (by simp) rfl
   have hg7:x7=.pointer (some ⟨(w.heap.size+1),1,none⟩):=hg7
   subst hg7
   have e7:AA.tmps[12]?.getD undef=.pointer (some ⟨(w.heap.size+1),1,none⟩):=by rw [hA];exact tmps_own (by kernel_rfl) hx7 (of_decide_eq_true (by kernel_rfl))
   clear hA hdeps hcl hmi hx7
   obtain ⟨c0,c1,c2,c3⟩:=hS.out W hb0
   have hK0:KK (AA.put (some 13) _) _:=hK (.string ⟨d.toArray⟩) _ (Below.refl _ _) (Eq.refl _)
   clear hK
   go_simp
   exact hK0
  ·injection ho with ho
   subst ho
   obtain ⟨x6,hx6,hg6⟩:=hdeps ⟨6,.data⟩ (by simp) rfl
   have hg6:x6=.string ⟨b.toArray⟩:=hg6
   subst hg6
   have e6:AA.tmps[11]?.getD undef=.string ⟨b.toArray⟩:=by rw [hA];exact tmps_own (by kernel_rfl) hx6 (of_decide_eq_true (by kernel_rfl))
   obtain ⟨x8,hx8,hg8⟩:=hdeps ⟨8,.data⟩ (by simp) rfl
   have hg8:x8=.string ⟨d.toArray⟩:=hg8
   subst hg8
   have e8:AA.tmps[13]?.getD undef=.string ⟨d.toArray⟩:=by rw [hA];exact tmps_own (by kernel_rfl) hx8 (of_decide_eq_true (by kernel_rfl))
   clear hA hdeps hcl hmi hx6 hx8
   have hKK:=Lib.hid hK
   clear hK
   go_simp
   refine (compareS_any b d _).mono ?_
   rintro e w5 ⟨rfl,q,rfl⟩
   exact hKK.out _ _ (below_drewN (Below.refl _ _) q) rfl
  ·injection ho with ho
   subst ho
   obtain ⟨x4,hx4,hg4⟩:=hdeps ⟨4,.data⟩ (by simp) rfl
   have hg4:x4=.int .i64 (cmpS a c):=hg4
   subst hg4
   have e4:AA.tmps[9]?.getD undef=.int .i64 (cmpS a c):=by rw [hA];exact tmps_own (by kernel_rfl) hx4 (of_decide_eq_true (by kernel_rfl))
   obtain ⟨x9,hx9,hg9⟩:=hdeps ⟨9,.data⟩ (by simp) rfl
   have hg9:x9=.int .i64 (cmpS b d):=hg9
   subst hg9
   have e9:AA.tmps[14]?.getD undef=.int .i64 (cmpS b d):=by rw [hA];exact tmps_own (by kernel_rfl) hx9 (of_decide_eq_true (by kernel_rfl))
   clear hA hdeps hcl hmi hx4 hx9
   have hK0:KK (AA.put (some 15) _) _:=hK _ _ ((Below.refl _ _).alloc (Nat.le_refl _) _) (own_mono (own_lit W #[.int .i64 (cmpS a c),.int .i64 (cmpS b d)] 3 2 rfl (by decide)) (by have:=hb0.size;have:=HSZ.out;omega))
   clear hK
   go_simp
   exact hK0
  ·injection ho with ho
   subst ho
   obtain ⟨x10,hx10,hg10⟩:=hdeps ⟨10,.data⟩ (by simp) rfl
   have hg10:W.ownsRow w.heap.size 3 1 x10 2 [.int .i64 (cmpS a c),.int .i64 (cmpS b d)]:=hg10
   have e10:AA.tmps[15]?.getD undef=x10:=by rw [hA];exact tmps_own (by kernel_rfl) hx10 (of_decide_eq_true (by kernel_rfl))
   clear hA hdeps hcl hmi hx10
   obtain ⟨A1,c1,rfl,_,_,hr1⟩:=own_form hg10
   have hKK:=Lib.hid hK
   clear hK hg10
   go_simp
   refine (orI2_any _ _ A1 c1 W W.heap.size hr1).mono ?_
   rintro e w5 ⟨rfl,q,rfl⟩
   exact hKK.out _ _ (below_drewN (Below.refl _ _) q) (show Value.int .i64 (orI2 (cmpS a c) (cmpS b d))=.int .i64 (cmpG a b c d) from congrArg (Value.int .i64) HG.out)
  ·injection ho with ho
   subst ho
   obtain ⟨x11,hx11,hg11⟩:=hdeps ⟨11,.data⟩ (by simp) rfl
   have hg11:x11=.int .i64 (cmpG a b c d):=hg11
   subst hg11
   have e11:AA.tmps[16]?.getD undef=.int .i64 (cmpG a b c d):=by rw [hA];exact tmps_own (by kernel_rfl) hx11 (of_decide_eq_true (by kernel_rfl))
   clear hA hdeps hcl hmi hx11
   have hK0:KK (AA.put (some 4) _) _:=hK (.int .i64 (cmpG a b c d)) _ (Below.refl _ _) (Eq.refl _)
   clear hK
   go_simp
   exact hK0
  ·simp at ho
 ·intro m W hbx hall
  obtain ⟨x0,m0,g0⟩:=hall 0 (by simp)
  replace g0:x0=.pointer (some ⟨w.heap.size,0,none⟩):=g0
  subst g0
  obtain ⟨x1,m1,g1⟩:=hall 1 (by simp)
  replace g1:x1=.string ⟨a.toArray⟩:=g1
  subst g1
  obtain ⟨x2,m2,g2⟩:=hall 2 (by simp)
  replace g2:x2=.pointer (some ⟨(w.heap.size+1),0,none⟩):=g2
  subst g2
  obtain ⟨x3,m3,g3⟩:=hall 3 (by simp)
  replace g3:x3=.string ⟨c.toArray⟩:=g3
  subst g3
  obtain ⟨x4,m4,g4⟩:=hall 4 (by simp)
  replace g4:x4=.int .i64 (cmpS a c):=g4
  subst g4
  obtain ⟨x5,m5,g5⟩:=hall 5 (by simp)
  replace g5:x5=.pointer (some ⟨w.heap.size,1,none⟩):=g5
  subst g5
  obtain ⟨x6,m6,g6⟩:=hall 6 (by simp)
  replace g6:x6=.string ⟨b.toArray⟩:=g6
  subst g6
  obtain ⟨x7,m7,g7⟩:=hall 7 (by simp)
  replace g7:x7=.pointer (some ⟨(w.heap.size+1),1,none⟩):=g7
  subst g7
  obtain ⟨x8,m8,g8⟩:=hall 8 (by simp)
  replace g8:x8=.string ⟨d.toArray⟩:=g8
  subst g8
  obtain ⟨x9,m9,g9⟩:=hall 9 (by simp)
  replace g9:x9=.int .i64 (cmpS b d):=g9
  subst g9
  obtain ⟨x10,m10,g10⟩:=hall 10 (by simp)
  replace g10:W.ownsRow w.heap.size 3 1 x10 2 [.int .i64 (cmpS a c),.int .i64 (cmpS b d)]:=g10
  obtain ⟨x11,m11,g11⟩:=hall 11 (by simp)
  replace g11:x11=.int .i64 (cmpG a b c d):=g11
  subst g11
  obtain ⟨x12,m12,g12⟩:=hall 12 (by simp)
  replace g12:x12=.int .i64 (cmpG a b c d):=g12
  subst g12
  rw [frameM_all (by kernel_rfl) [.pointer (some ⟨w.heap.size,0,none⟩),.string ⟨a.toArray⟩,.pointer (some ⟨(w.heap.size+1),0,none⟩),.string ⟨c.toArray⟩,.int .i64 (cmpS a c),.pointer (some ⟨w.heap.size,1,none⟩),.string ⟨b.toArray⟩,.pointer (some ⟨(w.heap.size+1),1,none⟩),.string ⟨d.toArray⟩,.int .i64 (cmpS b d),x10,.int .i64 (cmpG a b c d),.int .i64 (cmpG a b c d)] rfl (fun i hi=>by
    rcases i with _ | _ | _ | _ | _ | _ | _ | _ | _ | _ | _ | _ | _ | i
    ·exact m0
    ·exact m1
    ·exact m2
    ·exact m3
    ·exact m4
    ·exact m5
    ·exact m6
    ·exact m7
    ·exact m8
    ·exact m9
    ·exact m10
    ·exact m11
    ·exact m12
    ·simp at hi;omega)]
  clear hall m0 m1 m2 m3 m4 m5 m6 m7 m8 m9 m10 m11 m12
  simp only [putAll,Act.put,zA,zC,zB]
  go_wp2_with fail
  go_ret
  exact ⟨rfl,HB.out.trans (hbx.mono (by have:=HSZ.out;omega))⟩
end Go.Proofs.YtmladblmknbgnaaGreatDoor
namespace Go.Proofs.YtmladblmknbgnaaGreatDoor
open Go.RowKit
theorem Tryz.delSnap_size:(Tryz.prog.info? 70).map (·.size)=some 5:=by kernel_rfl
theorem Tryz.delSnap_zero (w:World):(zeroValue 70).run Tryz.prog w=.ok (.agg #[.string ByteArray.empty,.int .i64 0,.slice none 0 0,.slice none 0 0,.slice none 0 0]) w:=by kernel_rfl
theorem delSnap_splice (cur:List Value) (n i c0:Nat) (xs:List Value) (hx:cur.take (n*5)=xs) (hi:i<n) (hn:n≤c0) (hl:cur.length=c0*5) (zs:List Value) (hz:zs.length=1*5) :
  (splice (splice cur (i*5) (xs.drop ((i+1)*5))) ((n-1)*5) zs).take ((n-1)*5)=xs.take (i*5)++xs.drop ((i+1)*5)∧(splice (splice cur (i*5) (xs.drop ((i+1)*5))) ((n-1)*5) zs).length=c0*5:=by
 have hxl:xs.length=n*5:=by rw [← hx,List.length_take];omega
 have hdl:(xs.drop ((i+1)*5)).length=(n-1-i)*5:=by rw [List.length_drop,hxl];omega
 have h1:(splice cur (i*5) (xs.drop ((i+1)*5))).length=c0*5:=by
  unfold splice
  simp only [List.length_append,List.length_take,List.length_drop] at hdl ⊢
  omega
 refine ⟨?_,?_⟩
 ·have e1:(splice (splice cur (i*5) (xs.drop ((i+1)*5))) ((n-1)*5) zs).take ((n-1)*5)=(splice cur (i*5) (xs.drop ((i+1)*5))).take ((n-1)*5):=by
   show List.take _ (List.take _ (splice cur (i*5) (xs.drop ((i+1)*5)))++(zs++_))=_
   rw [List.take_append_of_le_length (by rw [List.length_take,h1];omega),List.take_take,Nat.min_self]
  rw [e1]
  have hc:cur.take (i*5)=xs.take (i*5):=by rw [← hx,List.take_take,Nat.min_eq_left (by omega)]
  have hL:(xs.take (i*5)++xs.drop ((i+1)*5)).length=(n-1)*5:=by rw [List.length_append,List.length_take,hdl,hxl];omega
  show List.take _ (cur.take (i*5)++(xs.drop ((i+1)*5)++_))=_
  rw [hc,← List.append_assoc,List.take_append_of_le_length (by rw [hL];exact Nat.le_refl _)]
  exact List.take_of_length_le (by rw [hL];exact Nat.le_refl _)
 ·show (List.take _ (splice cur (i*5) (xs.drop ((i+1)*5)))++(zs++List.drop _ _)).length=_
  rw [List.length_append,List.length_append,List.length_take,List.length_drop,h1,hz]
  omega
set_option maxRecDepth 100000 in
set_option maxHeartbeats 1000000 in
theorem delSnap_any (xs:List Value) (h1:∀ u∈xs,u.oneCell'=true) (n i c0 base:Nat) (A0:Option Addr) (w:World) (hi:i<n) (hn:n≤5000000000000) (hown:w.ownsRow base 70 5 (.slice A0 n c0) n xs) :
  Calls Tryz.prog 89 #[.slice A0 n c0,.int .i64 i,.int .i64 ((i:Int)+1)] w fun e w'=>∃ v,e=.returned v∧w'.ownsRow base 70 5 v (n-1) (xs.take (i*5)++xs.drop ((i+1)*5))∧w.grownBy w' (Value.slice A0 n c0).ownBlock:=by
 rcases hown.2 with ⟨_,h0⟩ | ⟨g,cap,cur,hs,hbg,hh,hnc,hcm,hsz,hx⟩
 ·omega
 injection hs with e1 _ e2
 subst e1 e2
 have hh':w.heap[g]?=some (.cells cur.toList.toArray 70 (0,0)):=by simpa using hh
 have hcl:cur.toList.length=c0*5:=by simpa using hsz
 obtain ⟨cl,hcl0⟩:∃ cl,cl=cur.toList:=⟨_,rfl⟩
 rw [← hcl0] at hh' hcl hx
 have hxl:xs.length=n*5:=hown.1
 have hdl:(xs.drop ((i+1)*5)).length=(n-1-i)*5:=by rw [List.length_drop,hxl];omega
 have hcells:∀ (w':World),w'.heap[g]?=w.heap[g]?→∀ j v,(xs.drop ((i+1)*5))[j]?=some v→w'.cell? ((⟨g,(i+1)*5,none⟩:Addr).add j)=some v:=by
  intro w' hw j v hv
  have hv2:cl[(i+1)*5+j]?=some v:=by
   rw [List.getElem?_drop,← hx] at hv
   obtain ⟨hlt,_⟩:=List.getElem?_eq_some_iff.1 hv
   rw [List.length_take] at hlt
   rwa [List.getElem?_take_of_lt (by omega)] at hv
  have had:(⟨g,(i+1)*5,none⟩:Addr).add j=⟨g,(i+1)*5+j,none⟩:=by unfold Addr.add;split <;> simp_all
  rw [had,cell_of_row w' g _ _ _ _ (hw.trans hh')]
  simpa using hv2
 have hni:(i:Int)+1≤(n:Int):=by omega
 have hin:(i:Int)≤(n:Int):=by omega
 have hnci:(n:Int)≤(c0:Int):=by omega
 have hcmi:c0≤9223372036854775807:=by unfold maxLen at hcm;omega
 have hne:(((i:Int)) == (i:Int)+1)=false:=by rw [beq_eq_false_iff_ne];omega
 have ht1:((i:Int)+1).toNat=i+1:=by omega
 have hsub:n-(i+1)=n-1-i:=by omega
 have hi1c:(i:Int)+1≤(c0:Int):=by omega
 have hic:(i:Int)≤(c0:Int):=by omega
 have hi0:(0:Int)≤(i:Int)+1:=by omega
 have HC:=Lib.hid hcells
 have HH:=Lib.hid hh'
 have HDL:=Lib.hid hdl
 have HXL:=Lib.hid hxl
 have HCL:=Lib.hid hcl
 have HX:=Lib.hid hx
 have H1:=Lib.hid (fun u hu=>h1 u (List.mem_of_mem_drop (i:=(i+1)*5) hu))
 have HSP:=Lib.hid (fun zs hz=>delSnap_splice cl n i c0 xs hx hi hnc hcl zs hz)
 have hgl:g<w.heap.size:=heap_lt hh'
 clear hcells hh' hdl hxl hcl hx h1 hown hh hsz hcl0
 go_enter Tryz.func89,Tryz.ntmps89
 go_wp2_with fail
 by_cases hlast:c0=i+1
 ·have hnl:n=i+1:=by omega
  subst hlast
  subst hnl
  have hic2:(i:Int)≤(i:Int)+1:=by omega
  have hnil:xs.drop ((i+1)*5)=[]:=List.drop_eq_nil_of_le (by rw [HXL.out];exact Nat.le_refl _)
  have HNIL:=Lib.hid hnil
  clear hnil
  go_region_law (refine step_appendK rfl _ _ 39 rfl 70 5 Tryz.underlying39 Tryz.delSnap_size g i (i+1) ⟨g,0,none⟩ 0 0 (by simp [Act.eval,Act.put]) (by simp [Act.eval,Act.put]) cl 70 HH.out [] (by simp) (by simp) (by rw [HCL.out];simp;omega) (by omega) (by simp) ?_;intro w1 hg1 hgr1)
  have hgr:=grown_drew hgr1
  have HGR:=Lib.hid hgr
  have HG1:=hg1
  have hz1:∀ u∈(.agg #[.string ByteArray.empty,.int .i64 0,.slice none 0 0,.slice none 0 0,.slice none 0 0]:Value).cells.toList,u.oneCell'=true:=fun u hu=>List.all_eq_true.1 (show ((.agg #[.string ByteArray.empty,.int .i64 0,.slice none 0 0,.slice none 0 0,.slice none 0 0]:Value).cells.toList.all (·.oneCell'))=true from rfl) u hu
  clear hg1 hgr1 hgr
  simp only [Act.put,zA]
  go_wp2_with (with_reducible refine wpList_clearK rfl (.tmp 31) 39 rfl 70 (.agg #[.string ByteArray.empty,.int .i64 0,.slice none 0 0,.slice none 0 0,.slice none 0 0]) Tryz.underlying39 Tryz.delSnap_zero hz1 g (i*5) 1 1 (by simp [Act.eval]) (splice cl (i*5) ([])) 70 HG1.out (by simp [splice,Value.cells,HCL.out];omega) ?_;intro w2 zs hzs hg2 hgr2)
  have hzz:zs.length=1*5:=by rw [hzs];rfl
  have hsp:=HSP.out zs hzz
  rw [HNIL.out,Nat.add_sub_cancel] at hsp
  have hrow:=own_of_row (base:=base) hg2.out hbg (Nat.le_succ i) hcm hsp.2 hsp.1
  have hgr:=HGR.out.trans hgr2
  have HROW:=Lib.hid hrow
  clear hrow hsp hg2 hgr2 hzs hzz
  go_ret
  exact ⟨_,rfl,by rw [HNIL.out];exact HROW.out,hgr⟩
 ·have hlt2:i+1<c0:=by omega
  obtain ⟨p,hp⟩:∃ p,p=n-1:=⟨_,rfl⟩
  have hip:i+(n-1-i)=p:=by omega
  have hnp1:n-p=1:=by omega
  have hpn:(p:Int)≤(n:Int):=by omega
  have hpc:(p:Int)≤(c0:Int):=by omega
  have hcp:¬ c0=p:=by omega
  have HIP:=Lib.hid hip
  have HP:=Lib.hid hp
  clear hip hp
  go_region_law (refine step_appendK rfl _ _ 39 rfl 70 5 Tryz.underlying39 Tryz.delSnap_size g i c0 ⟨g,(i+1)*5,none⟩ (n-1-i) (c0-(i+1)) (by simp [Act.eval,Act.put]) (by simp [Act.eval,Act.put]) cl 70 HH.out (xs.drop ((i+1)*5)) HDL.out (HC.out _ rfl) (by rw [HDL.out,HCL.out];omega) (by omega) H1.out ?_;intro w1 hg1 hgr1)
  have hgr:=grown_drew hgr1
  have HGR:=Lib.hid hgr
  have HG1:=hg1
  have hz1:∀ u∈(.agg #[.string ByteArray.empty,.int .i64 0,.slice none 0 0,.slice none 0 0,.slice none 0 0]:Value).cells.toList,u.oneCell'=true:=fun u hu=>List.all_eq_true.1 (show ((.agg #[.string ByteArray.empty,.int .i64 0,.slice none 0 0,.slice none 0 0,.slice none 0 0]:Value).cells.toList.all (·.oneCell'))=true from rfl) u hu
  clear hg1 hgr1 hgr
  simp only [Act.put,zA]
  rw [HIP.out]
  go_wp2_with (with_reducible refine wpList_clearK rfl (.tmp 31) 39 rfl 70 (.agg #[.string ByteArray.empty,.int .i64 0,.slice none 0 0,.slice none 0 0,.slice none 0 0]) Tryz.underlying39 Tryz.delSnap_zero hz1 g (p*5) 1 (c0-p) (by simp [Act.eval]) (splice cl (i*5) (xs.drop ((i+1)*5))) 70 HG1.out (by have h2:=(HSP.out (.agg #[.string ByteArray.empty,.int .i64 0,.slice none 0 0,.slice none 0 0,.slice none 0 0]:Value).cells.toList rfl).2;have h3:=HDL.out;have h4:=HCL.out;have h5:=HP.out;unfold splice;simp only [List.length_append,List.length_take,List.length_drop] at h3 ⊢;simp [Value.cells];omega) ?_;intro w2 zs hzs hg2 hgr2)
  have hzz:zs.length=1*5:=by rw [hzs];rfl
  have hsp:=HSP.out zs hzz
  rw [← HP.out] at hsp
  have hrow:=own_of_row (base:=base) hg2.out hbg (by have:=HP.out;omega) hcm hsp.2 hsp.1
  have hgr:=HGR.out.trans hgr2
  have HROW:=Lib.hid hrow
  clear hrow hsp hg2 hgr2 hzs hzz
  go_ret
  exact ⟨_,rfl,by rw [← HP.out];exact HROW.out,hgr⟩
end Go.Proofs.YtmladblmknbgnaaGreatDoor
namespace Go.Proofs.YtmladblmknbgnaaGreatDoor
open Go.RowKit
set_option maxRecDepth 100000 in
theorem parent_any (s:ByteArray) (w:World) (hs:s.size≤4000000000) (hm:HasMax w) :
  Calls Tryz.prog 99 #[.string s] w fun e w'=>Below w.heap.size w w' ∧
   ((s.data.toList=[]∨pathB s.data.toList=false)∧e=.returned (.tuple #[.string ⟨#[]⟩,.bool false]) ∨
    s.data.toList≠[]∧pathB s.data.toList=true∧e=.returned (.tuple #[.string ⟨(upL s.data.toList).toArray⟩,.bool true])):=by
 have hts:=Lib.hid (toList_data s)
 go_enter Tryz.func99,Tryz.ntmps99
 go_wp2_with fail
 ·have h0:s.toList=[]:=by assumption
  rw [hts.out] at h0
  refine bodyPost_ret (v:=.tuple #[.string ⟨#[]⟩,.bool false]) (by simp [results,Tryz.results99,go_sem]) rfl ⟨Below.refl _ _,.inl ⟨.inl h0,rfl⟩⟩
 ·have h0:¬ s.toList=[]:=by assumption
  have hie:s.toList.isEmpty=false:=by simpa using h0
  rw [hts.out] at h0
  refine (path_any s w hs hm).mono ?_
  rintro e w1 ⟨rfl,hb1⟩
  obtain ⟨bs,hbs0⟩:∃ b,b=pathB s.data.toList:=⟨_,rfl⟩
  rw [← hbs0]
  simp only [hie]
  clear hie
  have hbs:=Lib.hid hbs0
  have hne:=Lib.hid h0
  have hlast:=Lib.hid (last_eq s)
  have hlb:=Lib.hid (last_bound s.data.toList)
  clear hbs0 h0
  cases bs
  ·go_wp2_with fail
   refine bodyPost_ret (v:=.tuple #[.string ⟨#[]⟩,.bool false]) (by simp [results,Tryz.results99,go_sem]) rfl ⟨hb1,.inl ⟨.inr hbs.out.symm,rfl⟩⟩
  ·go_wp2_with fail
   refine (Tryz.strings_LastIndexByte s 47 (by omega) _).mono ?_
   rintro e w2 ⟨rfl,rfl⟩
   have hm1:=Lib.hid (show max (Lib.lastIndexByte s 47) 0=(((lastS s.data.toList).getD 0:Nat):Int) from hlast.out)
   obtain ⟨k,hk⟩:∃ k,k=(lastS s.data.toList).getD 0:=⟨_,rfl⟩
   rw [← hk] at hlb hm1
   have HK:=Lib.hid hk
   have hks:k≤s.size:=by rw [Lib.size_eq];exact hlb.out
   clear hlast hlb hk
   go_wp2_with fail
   ·have hv:(s.extract 0 (max (Lib.lastIndexByte s 47) 0).toNat)=⟨(upL s.data.toList).toArray⟩:=by
     apply eq_mk
     rw [hm1.out,Lib.extract_from_zero]
     unfold upL
     rw [← HK.out]
     rfl
    refine bodyPost_ret (v:=.tuple #[.string ⟨(upL s.data.toList).toArray⟩,.bool true]) (by simp [results,Tryz.results99,go_sem,hv]) rfl ⟨hb1,.inr ⟨hne.out,hbs.out.symm,rfl⟩⟩
   ·rename_i h0
    exact absurd ⟨by omega,by rw [hm1.out];omega⟩ h0
/-- what Split answers -/
def splitV (l:List UInt8):Value:=match atL l with
 | some (p,n)=>if (pathB p && nameB n)=true then .tuple #[.string ⟨p.toArray⟩,.string ⟨n.toArray⟩,.int .i64 0] else .tuple #[.string ⟨#[]⟩,.string ⟨#[]⟩,.int .i64 31]
 | none=>.tuple #[.string ⟨#[]⟩,.string ⟨#[]⟩,.int .i64 31]
theorem atL_len (l p n:List UInt8) (h:atL l=some (p,n)):p.length+n.length<l.length:=by
 induction l generalizing p with
 | nil=>cases h
 | cons a r ih =>
  unfold atL at h
  split at h
  ·simp only [Option.some.injEq,Prod.mk.injEq] at h
   obtain ⟨rfl,rfl⟩:=h
   simp
  ·split at h
   ·rename_i p' n' e
    simp only [Option.some.injEq,Prod.mk.injEq] at h
    obtain ⟨rfl,rfl⟩:=h
    have:=ih _ e
    simp
    omega
   ·cases h
set_option maxRecDepth 100000 in
theorem split_any (s:ByteArray) (w:World) (hs:s.size≤4000000000) (hm:HasMax w) :
  Calls Tryz.prog 157 #[.string s] w fun e w'=>e=.returned (splitV s.data.toList)∧Below w.heap.size w w':=by
 obtain ⟨m,hmm⟩:=id hm
 have hcut:∃ p n:ByteArray,∃ b:Bool,p.size≤4000000000∧splitV s.data.toList=(if (b && pathB p.data.toList && nameB n.data.toList)=true then .tuple #[.string p,.string n,.int .i64 0] else .tuple #[.string ⟨#[]⟩,.string ⟨#[]⟩,.int .i64 31]) ∧
   Calls Tryz.prog 203 #[.string s,.string ⟨#[64]⟩] w fun e w'=>e=.returned (.tuple #[.string p,.string n,.bool b])∧∃ q,w'=w.drewN q:=by
  have hc:=Tryz.strings_Cut s ⟨#[64]⟩ m w (by omega) hmm
  have he:=cut_at s.data.toList
  have hsz:=Lib.size_eq s
  cases ha:atL s.data.toList with
  | none =>
   rw [ha] at he
   refine ⟨s,⟨#[]⟩,false,hs,by unfold splitV;rw [ha];rfl,hc.mono ?_⟩
   rintro e w' ⟨h1,h2⟩
   refine ⟨?_,h2⟩
   rw [h1]
   simp only at he
   rw [he]
  | some pn =>
   obtain ⟨p,n⟩:=pn
   rw [ha] at he
   have hl:=atL_len _ _ _ ha
   refine ⟨⟨p.toArray⟩,⟨n.toArray⟩,true,by rw [Lib.size_eq];simp;omega,by unfold splitV;rw [ha];rfl,hc.mono ?_⟩
   rintro e w' ⟨h1,h2⟩
   refine ⟨?_,h2⟩
   rw [h1]
   simp only at he
   rw [he]
 clear hmm
 obtain ⟨p,n,b,hps,hv,hcut⟩:=hcut
 have HV:=Lib.hid hv
 clear hv
 go_enter Tryz.func157,Tryz.ntmps157
 go_wp2_with fail
 refine hcut.mono ?_
 clear hcut
 rintro e w1 ⟨rfl,q,rfl⟩
 have hb1:Below w.heap.size w (w.drewN q):=below_drewN (Below.refl _ _) q
 have hm1:=hm.below hb1
 cases b
 ·go_wp2_with fail
  exact bodyPost_ret (v:=.tuple #[.string ⟨#[]⟩,.string ⟨#[]⟩,.int .i64 31]) (by simp [results,Tryz.results157,go_sem]) rfl ⟨by rw [HV.out];rfl,hb1⟩
 ·go_wp2_with fail
  refine (path_any p _ hps hm1).mono ?_
  rintro e w2 ⟨rfl,hb2⟩
  have hb:=hb1.trans (hb2.mono hb1.size)
  obtain ⟨b,hbb⟩:∃ b,b=pathB p.data.toList:=⟨_,rfl⟩
  rw [← hbb] at HV ⊢
  clear hbb
  cases b
  ·go_wp2_with fail
   exact bodyPost_ret (v:=.tuple #[.string ⟨#[]⟩,.string ⟨#[]⟩,.int .i64 31]) (by simp [results,Tryz.results157,go_sem]) rfl ⟨by rw [HV.out];rfl,hb⟩
  ·go_wp2_with fail
   refine (name_any n _).mono ?_
   rintro e w3 ⟨rfl,hb3⟩
   have hb':=hb.trans (hb3.mono hb.size)
   obtain ⟨b,hbb⟩:∃ b,b=nameB n.data.toList:=⟨_,rfl⟩
   rw [← hbb] at HV ⊢
   clear hbb
   cases b
   ·go_wp2_with fail
    exact bodyPost_ret (v:=.tuple #[.string ⟨#[]⟩,.string ⟨#[]⟩,.int .i64 31]) (by simp [results,Tryz.results157,go_sem]) rfl ⟨by rw [HV.out];rfl,hb'⟩
   ·go_wp2_with fail
    exact bodyPost_ret (v:=.tuple #[.string p,.string n,.int .i64 0]) (by simp [results,Tryz.results157,go_sem]) rfl ⟨by rw [HV.out];rfl,hb'⟩
end Go.Proofs.YtmladblmknbgnaaGreatDoor
namespace Go.Proofs.YtmladblmknbgnaaGreatDoor
open Go.RowKit
theorem Tryz.cloneS0_size:(Tryz.prog.info? 9).map (·.size)=some 1:=by kernel_rfl
section
variable {P:Program}
theorem wpList_appendK {ops:Array Oper} {rest:List Oper} {o:Oper} {a:Act} {w:World} {Q:Exit→Act→World→Prop} (hgd:o.guard=none) (d s:Operand) (t:TypeId)
  (ho:o.op=.call { callee:=.builtin .append,args:=#[d,s],argTypes:=#[t,t] }) (elem:TypeId) (k:Nat) (hu:P.underlying t=some (.slice elem)) (hsz:(P.info? elem).map (·.size)=some k)
  (g sLen sCap:Nat) (ad:Addr) (xLen xCap:Nat) (hd:a.eval d=.slice (some ⟨g,0,none⟩) sLen sCap) (hs:a.eval s=.slice (some ad) xLen xCap)
  (cur:List Value) (T:TypeId) (hg:w.heap[g]?=some (.cells cur.toArray T (0,0))) (cs:List Value) (hn:cs.length=xLen*k)
  (hsrc:∀ j v,cs[j]?=some v→w.cell? (ad.add j)=some v) (hfit:sLen*k+cs.length≤cur.length) (hroom:sLen+xLen≤sCap) (h1:∀ v∈cs,v.oneCell'=true)
  (h:∀ w',Hid (w'.heap[g]?=some (.cells (splice cur (sLen*k) cs).toArray T (0,0)))→w.grownBy w' (some g)→wpList P ops Q rest (a.put o.dst (.slice (some ⟨g,0,none⟩) (sLen+xLen) sCap)) w'):wpList P ops Q (o :: rest) a w :=
 wpList_plain hgd fun _ hK=>wp_appendK d s t ho elem k hu hsz g sLen sCap ad xLen xCap hd hs cur T hg cs hn hsrc hfit hroom h1 fun w' h2 h3=>hK _ _ (h w' h2 h3)
end
set_option maxRecDepth 100000 in
theorem cloneS0_any (A:Option Addr) (c:Nat) (w:World) :
  Calls Tryz.prog 120 #[.slice A 0 c] w fun e w'=>∃ A',e=.returned (.slice A' 0 0)∧w'.ownsRow w.heap.size 9 1 (.slice A' 0 0) 0 []∧Below w.heap.size w w':=by
 rcases A with _ | ad
 ·have heq:=fun W=>Lib.run_eql_slice_nil (P:=Tryz.prog) W 48 9 none 0 c 0 0 Tryz.underlying48
  go_enter Tryz.func120,Tryz.ntmps120
  go_wp2_with fail
  go_ret
  exact ⟨_,rfl,World.ownsRow_nil _ _ _ _,Below.refl _ _⟩
 ·have heq:=fun W=>Lib.run_eql_slice_nil (P:=Tryz.prog) W 48 9 (some ad) 0 c 0 0 Tryz.underlying48
  go_enter Tryz.func120,Tryz.ntmps120
  go_wp2_with (at_builtin;(refine wpList_appendK rfl (.tmp 5) (.tmp 6) _ rfl 9 1 Tryz.underlying48 Tryz.cloneS0_size w.heap.size 0 0 ad 0 c rfl rfl [] 9 (Blk.new w 9 #[]) [] rfl (fun j v h=>by simp at h) (Nat.le_refl _) (Nat.le_refl _) (fun v h=>by simp at h) ?_);intro w2 hh1 hg1)
  go_ret
  refine ⟨_,rfl,⟨rfl,.inr ⟨w.heap.size,0,#[],rfl,Nat.le_refl _,hh1,Nat.le_refl _,by simp [maxLen],rfl,rfl⟩⟩,((Below.refl _ _).alloc (Nat.le_refl _) _).grown hg1 (by simp) (fun k hk=>?_)⟩
  injection hk with hk
  omega
theorem cloneS2_any (xs:List Value) (n:Nat) (A:Option Addr) (c:Nat) (w:World) (B:Nat) (hr:Reads w B 1 A n xs) (hB:B≤w.heap.size) (h1:∀ u∈xs,u.oneCell'=true) (hn:n*16≤140737488355328) :
  Calls Tryz.prog 120 #[.slice A n c] w fun e w'=>∃ A' c',e=.returned (.slice A' n c')∧(n=0→c'=0)∧w'.ownsRow w.heap.size 9 1 (.slice A' n c') n xs∧Below w.heap.size w w':=by
 rcases Nat.eq_zero_or_pos n with h0 | h0
 ·subst h0
  obtain rfl:xs=[]:=List.eq_nil_of_length_eq_zero (by simpa using hr.1)
  refine (cloneS0_any A c w).mono ?_
  rintro e w' ⟨A',rfl,ho,hb⟩
  exact ⟨A',0,rfl,fun _=>rfl,ho,hb⟩
 ·refine (cloneSt_any xs n A c w B hr hB h1 hn).mono ?_
  rintro e w' ⟨v,rfl,ho,hb⟩
  obtain ⟨v1,v3,rfl,_⟩:=own_form ho
  exact ⟨v1,v3,rfl,fun h=>by omega,ho,hb⟩
/-- a row of tags is another block than a row of one other tag -/
theorem own_ne_one {W:World} {base n b:Nat} {A:Option Addr} {c:Nat} {xs:List Value} {u:Value} (h:W.ownsRow base 9 1 (.slice A n c) n xs) (hc:n=0→c=0) (hb:Blk W b 9 #[u]) (hne:xs≠[u]):(Value.slice A n c).ownBlock≠some b:=by
 intro e
 rcases h.2 with ⟨h1,_⟩ | ⟨g,cap,cur,h1,_,hg,hn,_,hs,hx⟩
 ·rw [h1] at e;simp [Value.ownBlock] at e
 ·rw [h1] at e
  have e:g=b:=by simpa [Value.ownBlock] using e
  subst e
  injection h1 with h2 h3 h4
  subst h4
  have hg2:W.heap[g]?=some (.cells #[u] 9 (0,0)):=hb
  rw [hg] at hg2
  injection hg2 with hg2
  injection hg2 with hg2
  subst hg2
  have h5:c=1:=by simpa using hs.symm
  have h6:n=1:=by omega
  subst h6
  exact hne (by simpa using hx.symm)
end Go.Proofs.YtmladblmknbgnaaGreatDoor
namespace Go.Proofs.YtmladblmknbgnaaGreatDoor
open Go.RowKit
section
variable {ops:Array Oper}
theorem reach_closed {m:Nat→Option Value} (hcl:ClosedM ops m) {S:Nat} (hS:(m S).isSome=true):∀ i∈reachL ops ops.size (depsOf ops S),(m i).isSome=true:=by
 refine reach_some hcl ops.size _ (fun k hk=>?_)
 unfold depsOf at hk
 cases ho:ops[S]? with
 | none=>rw [ho] at hk;cases hk
 | some o =>
  rw [ho] at hk
  obtain ⟨e,he,rfl⟩:=List.mem_map.1 hk
  obtain ⟨he,hbi⟩:=List.mem_filter.1 he
  exact hcl S o ho hS e (Array.mem_toList_iff.1 he) hbi
theorem early2 {S L:Nat} {late:List Nat} (h:((List.range ops.size).all fun j=>j == S || (j == L || (late.contains j || (reachL ops ops.size (depsOf ops S)).contains j)))=true) :
  ∀ i,i<ops.size→i≠S→i≠L→i ∉ late→∀ m,ClosedM ops m→(m S).isSome=true→(m i).isSome=true:=by
 intro i hi h1 h2 h3 m hcl hS
 have h4:=List.all_eq_true.1 h i (List.mem_range.2 hi)
 simp only [Bool.or_eq_true,beq_iff_eq,List.contains_iff_mem] at h4
 rcases h4 with h4 | h4 | h4 | h4
 ·exact absurd h4 h1
 ·exact absurd h4 h2
 ·exact absurd h4 h3
 ·exact reach_closed hcl hS i h4
end
/-- what lies in the slot of an operation that a late one waits for -/
theorem eL {o:Oper} {Gs:List (Value→World→Prop)} {W:World} {ops:Array Oper} {a0 A:Act} {m:Nat→Option Value} {val:Value} {S:Nat}
  (hd:∀ e∈o.after,Region.binds .any e=true→e.on≠S→∃ v,m e.on=some v∧Says Gs e.on v W) (hA:A=frameM a0 ops m) (j k:Nat)
  (hm:(o.after.any fun e=>Region.binds .any e && e.on == j)=true:=by kernel_rfl)
  (hp:∀ v,Says Gs j v W→v=val:=by exact fun _ h=>h) (hne:j≠S:=by decide) (hw:ownerOf ops k=some j:=by kernel_rfl) (hk:k<a0.tmps.size:=by exact of_decide_eq_true (by kernel_rfl)):A.tmps[k]?.getD undef=val:=by
 obtain ⟨i,hi,hm⟩:=Array.any_eq_true.1 hm
 obtain ⟨e,he⟩:∃ e,e=o.after[i]:=⟨_,rfl⟩
 rw [← he] at hm
 have he:e∈o.after:=by rw [he];exact Array.getElem_mem hi
 have hb:Region.binds .any e=true:=by cases h:Region.binds .any e <;> simp [h] at hm ⊢
 obtain rfl:e.on=j:=by simpa [hb] using hm
 obtain ⟨v,h1,h2⟩:=hd e he hb hne
 rw [hA]
 exact tmps_own hw (h1.trans (congrArg some (hp v h2))) hk
/-- the end of a late step of one value -/
theorem zL {p:Prop} (h:p:=by
  try clear hdeps
  try clear hcl
  try clear hmi
  have hK0:=hK _ (fun _=>Eq.refl _)
  clear hA hK
  go_simp
  exact hK0):p:=h
end Go.Proofs.YtmladblmknbgnaaGreatDoor
namespace Go.Proofs.YtmladblmknbgnaaGreatDoor
open Go.RowKit
set_option maxRecDepth 100000 in
theorem join_any (s n:ByteArray) (w:World) (hs:s.size≤4000000000000000000) (hn:n.size≤4000000000000000000) :
  Calls Tryz.prog 97 #[.string s,.string n] w fun e w'=>e=.returned (.string ⟨(s.data.toList++64 :: n.data.toList).toArray⟩)∧w'=w:=by
 go_enter Tryz.func97,Tryz.ntmps97
 go_wp2_with fail
 go_ret
 refine ⟨congrArg Ending.returned (congrArg Value.string (eq_mk _ _ ?_)),rfl⟩
 rw [append_data,append_data,List.append_assoc]
 rfl
end Go.Proofs.YtmladblmknbgnaaGreatDoor
