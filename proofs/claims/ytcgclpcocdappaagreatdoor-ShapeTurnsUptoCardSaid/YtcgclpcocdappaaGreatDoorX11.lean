/-
  The reference's put, Over: by their contracts. props.Set, props.Unset, walked. The page's Grants, by its contract (for tenants). Tenants: tags and snapshots, as the program and the page look at them. The page's Prop, by its contract.
-/
import Derived.Test.YtcgclpcocdappaaGreatDoorXM1
import Derived.Test.YtcgclpcocdappaaGreatDoorX0
import Derived.Test.YtcgclpcocdappaaGreatDoorX10
import Derived.Test.YtcgclpcocdappaaGreatDoorX8
import Derived.Test.YtcgclpcocdappaaGreatDoorX5
import Derived.Test.YtcgclpcocdappaaGreatDoorX7
import Derived.Handy
namespace Go.Proofs.YtcgclpcocdappaaGreatDoor
open Go.RowKit
def leN (a b:BS):Bool:=Op.bytesLess a b || a == b
def rput (p:BS×BS):Bool→PL→PL
 | d,[]=>if d=true then [] else [p]
 | d,x :: l=>(if (!d && leN p.1 x.1)=true then [p] else [])++(if x.1=p.1 then [] else [x])++rput p (d || leN p.1 x.1) l
theorem rput_cons (p:BS×BS) (d:Bool) (x:BS×BS) (l:PL):rput p d (x :: l)=(if (!d && leN p.1 x.1)=true then [p] else [])++(if x.1=p.1 then [] else [x])++rput p (d || leN p.1 x.1) l:=rfl
theorem rput_true (p:BS×BS) (l:PL) (h:∀ x∈l,x.1≠p.1):rput p true l=l:=by
 induction l with
 | nil=>rfl
 | cons x l ih =>
  rw [rput_cons,if_neg tZ3,if_neg (h x (List.mem_cons_self ..)),Bool.true_or,ih (fun y hy=>h y (List.mem_cons_of_mem _ hy))]
  rfl
theorem rput_put (p:BS×BS) (l:PL) (h:SortP l):rput p false l=putP p l:=by
 induction l with
 | nil=>rfl
 | cons x l ih =>
  obtain ⟨h1,h2⟩:=List.pairwise_cons.1 h
  rw [rput_cons]
  unfold putP
  by_cases hp:Op.bytesLess p.1 x.1=true
  ·have hl:leN p.1 x.1=true:=by unfold leN;rw [hp];rfl
   rw [if_pos hp,hl,if_pos (by rfl),if_neg (fun e=>bl_ne hp e.symm),Bool.false_or,rput_true p l (fun y hy e=>bl_ne (bl_trans hp (h1 y hy)) e.symm)]
   rfl
  rw [if_neg hp]
  by_cases hq:p.1=x.1
  ·have hl:leN p.1 x.1=true:=by unfold leN;rw [hq];simp
   rw [if_pos hq,hl,if_pos (by rfl),if_pos hq.symm,Bool.false_or,rput_true p l (fun y hy e=>bl_ne (h1 y hy) (by rw [e,hq]))]
   rfl
  ·have hl:leN p.1 x.1=false:=by
    unfold leN
    rw [Bool.or_eq_false_iff]
    exact ⟨by simpa using hp,by simpa using hq⟩
   rw [if_neg hq,hl,if_neg tZ4,if_neg (fun e=>hq e.symm),Bool.false_or,ih h2]
   rfl
structure PutS (h:Nat) (W0 W:World) (T:TypeId) (ad:Addr) (k:Nat) (xn xv pn pv:BS) (m:Nat) (A1:Option Addr) (c1:Nat) (O:PL):Prop where
 c0:W.cell? (ad.add (k*2))=some (.string ⟨xn.toArray⟩)
 e1:W.cell? ⟨(ad.add (k*2)).block,(ad.add (k*2)).off+1,none⟩=some (.string ⟨xv.toArray⟩)
 p0:W.cell? ⟨h,0,none⟩=some (.string ⟨pn.toArray⟩)
 p1:W.cell? ⟨h,1,none⟩=some (.string ⟨pv.toArray⟩)
 hbw:Below (h+1) W0 W
 hown:W.ownsRow (h+1) T 2 (.slice A1 m c1) m (pcells O)
theorem PutS.drew {h:Nat} {W0 W:World} {T:TypeId} {ad:Addr} {k:Nat} {xn xv pn pv:BS} {m:Nat} {A1:Option Addr} {c1:Nat} {O:PL} (s:PutS h W0 W T ad k xn xv pn pv m A1 c1 O):PutS h W0 W.drew T ad k xn xv pn pv m A1 c1 O :=
 ⟨s.c0,s.e1,s.p0,s.p1,s.hbw.drew,s.hown⟩
theorem PutS.push {h:Nat} {W0 W W':World} {T:TypeId} {ad:Addr} {k:Nat} {xn xv pn pv:BS} {m m':Nat} {A1 A2:Option Addr} {c1 c2:Nat} {O O':PL} (s:PutS h W0 W T ad k xn xv pn pv m A1 c1 O) (hb:Below (h+1) W W') (had:ad.block<h+1) (ho:W'.ownsRow (h+1) T 2 (.slice A2 m' c2) m' (pcells O')):PutS h W0 W' T ad k xn xv pn pv m' A2 c2 O' :=
 ⟨(hb.cell (by rw [block_of_add];exact had)).trans s.c0,(hb.cell (p:=⟨(ad.add (k*2)).block,(ad.add (k*2)).off+1,none⟩) (by show (ad.add (k*2)).block<_;rw [block_of_add];exact had)).trans s.e1,(hb.cell (p:=⟨h,0,none⟩) (by show h<h+1;omega)).trans s.p0,(hb.cell (p:=⟨h,1,none⟩) (by show h<h+1;omega)).trans s.p1,s.hbw.trans hb,ho⟩
set_option maxRecDepth 100000 in
set_option maxHeartbeats 4000000 in
theorem rputP_any (pn pv:BS) (l:PL) (n:Nat) (hnl:n=l.length) (A:Option Addr) (c:Nat) (w:World) (B:Nat) (hr:Reads w B 2 A n (pcells l)) (hB:B≤w.heap.size) (hn:n≤1000000) :
  Calls Tryz.prog 121 #[.slice A n c,.agg #[.string ⟨pn.toArray⟩,.string ⟨pv.toArray⟩]] w fun e w'=>∃ v,e=.returned v∧w'.ownsRow w.heap.size 78 2 v (rput (pn,pv) false l).length (pcells (rput (pn,pv) false l))∧Below w.heap.size w w':=by
 obtain ⟨i0,hi0,hz0,hz1,hz2⟩:=info_parts Tryz.infoP
 have HN:=Lib.hid hnl
 obtain ⟨W0,hW0⟩:∃ W0,W0=w.alloc (.cells #[.string ⟨pn.toArray⟩,.string ⟨pv.toArray⟩] 78):=⟨_,rfl⟩
 have b0:W0.cell? ⟨w.heap.size,0,none⟩=some (.string ⟨pn.toArray⟩):=by rw [hW0];exact (Blk.new w _ _).cell 0
 have b1:W0.cell? ⟨w.heap.size,1,none⟩=some (.string ⟨pv.toArray⟩):=by rw [hW0];exact (Blk.new w _ _).cell 1
 have hsz0:W0.heap.size=w.heap.size+1:=by rw [hW0];simp
 have hb00:Below w.heap.size w W0:=by rw [hW0];exact (Below.refl _ w).alloc (Nat.le_refl _) _
 have hr0:=hr.below (hb00.mono hB)
 have hB1:B≤w.heap.size+1:=tZ1
 have hlt0:w.heap.size<w.heap.size+1:=tZ1
 have HS0:=Lib.hid hsz0
 obtain ⟨RES,hRES⟩:∃ R,R=rput (pn,pv) false l:=⟨_,rfl⟩
 rw [← hRES]
 have HRES:=Lib.hid hRES
 have HB00:=Lib.hid hb00
 clear hnl hr hb00 hsz0 hRES
 go_enter Tryz.func121,Tryz.ntmps121
 go_wp2_with fail
 rw [← hW0]
 clear hW0
 go_loopw [5,6,7] (fun o dn i wr=>∃ (k m:Nat) (A1:Option Addr) (c1:Nat) (O:PL) (d:Bool),k≤n∧m≤2*k∧m=O.length∧i=.int .i64 (k:Int)∧dn=.bool d∧o=.slice A1 m c1∧Hid (rput (pn,pv) false l=O++rput (pn,pv) d (l.drop k)) ∧
   wr.ownsRow (w.heap.size+1) 78 2 (.slice A1 m c1) m (pcells O)∧Below (w.heap.size+1) W0 wr) (fun _ _ i _=>n-(intOf i).toNat)
 case atStart=>exact ⟨0,0,none,0,[],false,Nat.zero_le _,Nat.zero_le _,rfl,rfl,rfl,rfl,rfl,⟨rfl,.inl ⟨rfl,rfl⟩⟩,Below.refl _ _⟩
 case round =>
  obtain ⟨k,m,A1,c1,O,d,hk,hm,hmO,rfl,rfl,rfl,hinv,hown,hbw⟩:=hrel
  have HM:=Lib.hid hmO
  clear hmO
  have hszw:=Nat.le_trans (Nat.le_of_eq HS0.out.symm) hbw.size
  by_cases hlt:k<n
  ·have hrr:=hr0.below (hbw.mono hB1)
   obtain ⟨ad,rfl,hadB,c0,e1⟩:=hrr.prop HN.out hlt
   have hki:(k:Int)<(n:Int):=tZ1
   have hkl:k<l.length:=tZ7
   obtain ⟨x,hx⟩:∃ x,x=l[k]'hkl:=⟨_,rfl⟩
   rw [← hx] at c0 e1
   have hdr:=List.drop_eq_getElem_cons hkl
   rw [← hx] at hdr
   have HX:=Lib.hid hx
   have HDR:=Lib.hid hdr
   obtain ⟨xn,xv⟩:=x
   simp only [strV] at c0 e1
   have hadW:ad.block<w.heap.size+1:=tZ1
   have hS:PutS w.heap.size W0 wr 78 ad k xn xv pn pv m A1 c1 O:=⟨c0,e1,(hbw.cell (p:=⟨w.heap.size,0,none⟩) hlt0).trans b0,(hbw.cell (p:=⟨w.heap.size,1,none⟩) hlt0).trans b1,hbw,hown⟩
   have hleq:=leqS 9 pn xn
   clear hx hdr hrr c0 e1 hown hbw hszw
   cases d with
   | true =>
    by_cases hne:xn=pn
    ·have hbe:(xn == pn)=true:=by simp [hne]
     have hle:leN pn xn=true:=by unfold leN;simp [hne]
     have HNE:=Lib.hid hne
     clear hne
     have HINV:Hid (rput (pn,pv) false l=(O)++rput (pn,pv) true (l.drop (k+1))):=by
      show _=_
      rw [hinv.out,HDR.out,rput_cons,if_pos (show (xn,xv).1=(pn,pv).1 from HNE.out)]
      simp
     clear hinv
     obtain ⟨c0,e1,p0,p1,hbw,hown⟩:=hS
     have hS0:PutS _ _ _ _ _ _ _ _ _ _ _ _ _ _:=⟨c0,e1,p0,p1,hbw,hown⟩
     have HS:=Lib.hid hS0
     have hszw:=Nat.le_trans (Nat.le_of_eq HS0.out.symm) hbw.size
     clear hS0
     go_wp2_with fail
     go_region
     have hS:=HS.out.drew
     clear HS c0 e1 p0 p1 hbw hown hszw
     generalize World.drew _=X1 at hS ⊢
     obtain ⟨c0,e1,p0,p1,hbw,hown⟩:=hS
     have hS0:PutS _ _ _ _ _ _ _ _ _ _ _ _ _ _:=⟨c0,e1,p0,p1,hbw,hown⟩
     have HS:=Lib.hid hS0
     have hszw:=Nat.le_trans (Nat.le_of_eq HS0.out.symm) hbw.size
     clear hS0
     go_wp2_with fail
     go_region
     have hS:=HS.out.drew
     clear HS c0 e1 p0 p1 hbw hown hszw
     generalize World.drew _=X2 at hS ⊢
     obtain ⟨c0,e1,p0,p1,hbw,hown⟩:=hS
     have hS0:PutS _ _ _ _ _ _ _ _ _ _ _ _ _ _:=⟨c0,e1,p0,p1,hbw,hown⟩
     have HS:=Lib.hid hS0
     have hszw:=Nat.le_trans (Nat.le_of_eq HS0.out.symm) hbw.size
     clear hS0
     go_wp2_with fail
     go_roundw
     case rel=>exact ⟨k+1,m+0,A1,c1,O,true,by omega,by omega,by simp [← HM.out],by go_num,rfl,rfl,HINV,HS.out.hown,HS.out.hbw⟩
     case measure=>simp [intOf];omega
    ·have hbe:(xn == pn)=false:=by simp [hne]
     have HNE:Hid (¬ xn=pn):=hne
     clear hne
     obtain ⟨lb,hle⟩:∃ b,leN pn xn=b:=⟨_,rfl⟩
     have HINV:Hid (rput (pn,pv) false l=(O++[(xn,xv)])++rput (pn,pv) true (l.drop (k+1))):=by
      show _=_
      rw [hinv.out,HDR.out,rput_cons,if_neg (show ¬ (xn,xv).1=(pn,pv).1 from HNE.out)]
      simp
     clear hinv
     obtain ⟨c0,e1,p0,p1,hbw,hown⟩:=hS
     have hS0:PutS _ _ _ _ _ _ _ _ _ _ _ _ _ _:=⟨c0,e1,p0,p1,hbw,hown⟩
     have HS:=Lib.hid hS0
     have hszw:=Nat.le_trans (Nat.le_of_eq HS0.out.symm) hbw.size
     clear hS0
     go_wp2_with fail
     go_region
     have hS:=HS.out.drew
     clear HS c0 e1 p0 p1 hbw hown hszw
     generalize World.drew _=X1 at hS ⊢
     obtain ⟨c0,e1,p0,p1,hbw,hown⟩:=hS
     have hS0:PutS _ _ _ _ _ _ _ _ _ _ _ _ _ _:=⟨c0,e1,p0,p1,hbw,hown⟩
     have HS:=Lib.hid hS0
     have hszw:=Nat.le_trans (Nat.le_of_eq HS0.out.symm) hbw.size
     clear hS0
     go_wp2_with fail
     go_region
     have hS:=HS.out.drew
     clear HS c0 e1 p0 p1 hbw hown hszw
     generalize World.drew _=X2 at hS ⊢
     obtain ⟨c0,e1,p0,p1,hbw,hown⟩:=hS
     have hS0:PutS _ _ _ _ _ _ _ _ _ _ _ _ _ _:=⟨c0,e1,p0,p1,hbw,hown⟩
     have HS:=Lib.hid hS0
     have hszw:=Nat.le_trans (Nat.le_of_eq HS0.out.symm) hbw.size
     clear hS0
     go_wp2_with (at_builtin;(refine wpList_push _ rfl (.tmp 38) (.tmp 43) 40 rfl (w.heap.size+1) 78 i0 (.agg #[.string ByteArray.empty,.string ByteArray.empty]) 2 32 Tryz.underlying40 hi0 hz0 hz1 hz2 rfl tZ4 (.slice A1 m c1) m _ rfl hown 1 #[.string ⟨xn.toArray⟩,.string ⟨xv.toArray⟩] 78 rfl rfl tZ5 tZ9 tZ1 hszw ?_);intro v5 w5 hown5 hb5 _)
     obtain ⟨A5,c5,rfl,_,_,_⟩:=own_form hown5
     have hS:=HS.out.push (O':=O++[(xn,xv)]) hb5 hadW tZ126
     clear HS c0 e1 p0 p1 hbw hown hszw hown5 hb5
     obtain ⟨c0,e1,p0,p1,hbw,hown⟩:=hS
     have hS0:PutS _ _ _ _ _ _ _ _ _ _ _ _ _ _:=⟨c0,e1,p0,p1,hbw,hown⟩
     have HS:=Lib.hid hS0
     have hszw:=Nat.le_trans (Nat.le_of_eq HS0.out.symm) hbw.size
     clear hS0
     go_wp2_with fail
     go_roundw
     case rel=>exact ⟨k+1,m+1,A5,c5,(O++[(xn,xv)]),true,by omega,by omega,by simp [← HM.out],by go_num,rfl,rfl,HINV,HS.out.hown,HS.out.hbw⟩
     case measure=>simp [intOf];omega
   | false =>
    by_cases hne:xn=pn
    ·have hbe:(xn == pn)=true:=by simp [hne]
     have hle:leN pn xn=true:=by unfold leN;simp [hne]
     have HNE:=Lib.hid hne
     clear hne
     have hle2:=hle
     unfold leN at hle2
     rw [hle2] at hleq
     clear hle2
     have HINV:Hid (rput (pn,pv) false l=(O++[(pn,pv)])++rput (pn,pv) true (l.drop (k+1))):=by
      show _=_
      rw [hinv.out,HDR.out,rput_cons,if_pos (show (xn,xv).1=(pn,pv).1 from HNE.out)]
      simp [hle]
     clear hinv
     obtain ⟨c0,e1,p0,p1,hbw,hown⟩:=hS
     have hS0:PutS _ _ _ _ _ _ _ _ _ _ _ _ _ _:=⟨c0,e1,p0,p1,hbw,hown⟩
     have HS:=Lib.hid hS0
     have hszw:=Nat.le_trans (Nat.le_of_eq HS0.out.symm) hbw.size
     clear hS0
     go_wp2_with fail
     go_region
     have hS:=HS.out.drew
     clear HS c0 e1 p0 p1 hbw hown hszw
     generalize World.drew _=X1 at hS ⊢
     obtain ⟨c0,e1,p0,p1,hbw,hown⟩:=hS
     have hS0:PutS _ _ _ _ _ _ _ _ _ _ _ _ _ _:=⟨c0,e1,p0,p1,hbw,hown⟩
     have HS:=Lib.hid hS0
     have hszw:=Nat.le_trans (Nat.le_of_eq HS0.out.symm) hbw.size
     clear hS0
     go_wp2_with (at_builtin;(refine wpList_push _ rfl (.tmp 26) (.tmp 28) 40 rfl (w.heap.size+1) 78 i0 (.agg #[.string ByteArray.empty,.string ByteArray.empty]) 2 32 Tryz.underlying40 hi0 hz0 hz1 hz2 rfl tZ4 (.slice A1 m c1) m _ rfl hown 1 #[.string ⟨pn.toArray⟩,.string ⟨pv.toArray⟩] 78 rfl rfl tZ5 tZ9 tZ1 hszw ?_);intro v4 w4 hown4 hb4 _)
     obtain ⟨A4,c4,rfl,_,_,_⟩:=own_form hown4
     have hS:=HS.out.push (O':=O++[(pn,pv)]) hb4 hadW tZ166
     clear HS c0 e1 p0 p1 hbw hown hszw hown4 hb4
     obtain ⟨c0,e1,p0,p1,hbw,hown⟩:=hS
     have hS0:PutS _ _ _ _ _ _ _ _ _ _ _ _ _ _:=⟨c0,e1,p0,p1,hbw,hown⟩
     have HS:=Lib.hid hS0
     have hszw:=Nat.le_trans (Nat.le_of_eq HS0.out.symm) hbw.size
     clear hS0
     go_wp2_with fail
     go_region
     have hS:=HS.out.drew
     clear HS c0 e1 p0 p1 hbw hown hszw
     generalize World.drew _=X2 at hS ⊢
     obtain ⟨c0,e1,p0,p1,hbw,hown⟩:=hS
     have hS0:PutS _ _ _ _ _ _ _ _ _ _ _ _ _ _:=⟨c0,e1,p0,p1,hbw,hown⟩
     have HS:=Lib.hid hS0
     have hszw:=Nat.le_trans (Nat.le_of_eq HS0.out.symm) hbw.size
     clear hS0
     go_wp2_with fail
     go_roundw
     case rel=>exact ⟨k+1,m+1,A4,c4,(O++[(pn,pv)]),true,by omega,by omega,by simp [← HM.out],by go_num,rfl,rfl,HINV,HS.out.hown,HS.out.hbw⟩
     case measure=>simp [intOf];omega
    ·have hbe:(xn == pn)=false:=by simp [hne]
     have HNE:Hid (¬ xn=pn):=hne
     clear hne
     cases hle:leN pn xn with
     | true =>
      have hle2:=hle
      unfold leN at hle2
      rw [hle2] at hleq
      clear hle2
      have HINV:Hid (rput (pn,pv) false l=(O++[(pn,pv)]++[(xn,xv)])++rput (pn,pv) true (l.drop (k+1))):=by
       exact mZ107
      clear hinv
      obtain ⟨c0,e1,p0,p1,hbw,hown⟩:=hS
      have hS0:PutS _ _ _ _ _ _ _ _ _ _ _ _ _ _:=⟨c0,e1,p0,p1,hbw,hown⟩
      have HS:=Lib.hid hS0
      have hszw:=Nat.le_trans (Nat.le_of_eq HS0.out.symm) hbw.size
      clear hS0
      go_wp2_with fail
      go_region
      have hS:=HS.out.drew
      clear HS c0 e1 p0 p1 hbw hown hszw
      generalize World.drew _=X1 at hS ⊢
      obtain ⟨c0,e1,p0,p1,hbw,hown⟩:=hS
      have hS0:PutS _ _ _ _ _ _ _ _ _ _ _ _ _ _:=⟨c0,e1,p0,p1,hbw,hown⟩
      have HS:=Lib.hid hS0
      have hszw:=Nat.le_trans (Nat.le_of_eq HS0.out.symm) hbw.size
      clear hS0
      go_wp2_with (at_builtin;(refine wpList_push _ rfl (.tmp 26) (.tmp 28) 40 rfl (w.heap.size+1) 78 i0 (.agg #[.string ByteArray.empty,.string ByteArray.empty]) 2 32 Tryz.underlying40 hi0 hz0 hz1 hz2 rfl tZ4 (.slice A1 m c1) m _ rfl hown 1 #[.string ⟨pn.toArray⟩,.string ⟨pv.toArray⟩] 78 rfl rfl tZ5 tZ9 tZ1 hszw ?_);intro v4 w4 hown4 hb4 _)
      obtain ⟨A4,c4,rfl,_,_,_⟩:=own_form hown4
      have hS:=HS.out.push (O':=O++[(pn,pv)]) hb4 hadW tZ166
      clear HS c0 e1 p0 p1 hbw hown hszw hown4 hb4
      obtain ⟨c0,e1,p0,p1,hbw,hown⟩:=hS
      have hS0:PutS _ _ _ _ _ _ _ _ _ _ _ _ _ _:=⟨c0,e1,p0,p1,hbw,hown⟩
      have HS:=Lib.hid hS0
      have hszw:=Nat.le_trans (Nat.le_of_eq HS0.out.symm) hbw.size
      clear hS0
      go_wp2_with fail
      go_region
      have hS:=HS.out.drew
      clear HS c0 e1 p0 p1 hbw hown hszw
      generalize World.drew _=X2 at hS ⊢
      obtain ⟨c0,e1,p0,p1,hbw,hown⟩:=hS
      have hS0:PutS _ _ _ _ _ _ _ _ _ _ _ _ _ _:=⟨c0,e1,p0,p1,hbw,hown⟩
      have HS:=Lib.hid hS0
      have hszw:=Nat.le_trans (Nat.le_of_eq HS0.out.symm) hbw.size
      clear hS0
      go_wp2_with (at_builtin;(refine wpList_push _ rfl (.tmp 38) (.tmp 43) 40 rfl (w.heap.size+1) 78 i0 (.agg #[.string ByteArray.empty,.string ByteArray.empty]) 2 32 Tryz.underlying40 hi0 hz0 hz1 hz2 rfl tZ4 (.slice A4 (m+1) c4) (m+1) _ rfl hown 1 #[.string ⟨xn.toArray⟩,.string ⟨xv.toArray⟩] 78 rfl rfl tZ5 tZ9 tZ1 hszw ?_);intro v5 w5 hown5 hb5 _)
      obtain ⟨A5,c5,rfl,_,_,_⟩:=own_form hown5
      have hS:=HS.out.push (O':=(O++[(pn,pv)])++[(xn,xv)]) hb5 hadW tZ126
      clear HS c0 e1 p0 p1 hbw hown hszw hown5 hb5
      obtain ⟨c0,e1,p0,p1,hbw,hown⟩:=hS
      have hS0:PutS _ _ _ _ _ _ _ _ _ _ _ _ _ _:=⟨c0,e1,p0,p1,hbw,hown⟩
      have HS:=Lib.hid hS0
      have hszw:=Nat.le_trans (Nat.le_of_eq HS0.out.symm) hbw.size
      clear hS0
      go_wp2_with fail
      go_roundw
      case rel=>exact ⟨k+1,m+2,A5,c5,((O++[(pn,pv)])++[(xn,xv)]),true,by omega,by omega,by simp [← HM.out],by go_num,rfl,rfl,HINV,HS.out.hown,HS.out.hbw⟩
      case measure=>simp [intOf];omega
     | false =>
      have hle2:=hle
      unfold leN at hle2
      rw [hle2] at hleq
      clear hle2
      have HINV:Hid (rput (pn,pv) false l=(O++[(xn,xv)])++rput (pn,pv) false (l.drop (k+1))):=by
       exact mZ107
      clear hinv
      obtain ⟨c0,e1,p0,p1,hbw,hown⟩:=hS
      have hS0:PutS _ _ _ _ _ _ _ _ _ _ _ _ _ _:=⟨c0,e1,p0,p1,hbw,hown⟩
      have HS:=Lib.hid hS0
      have hszw:=Nat.le_trans (Nat.le_of_eq HS0.out.symm) hbw.size
      clear hS0
      go_wp2_with fail
      go_region
      have hS:=HS.out.drew
      clear HS c0 e1 p0 p1 hbw hown hszw
      generalize World.drew _=X1 at hS ⊢
      obtain ⟨c0,e1,p0,p1,hbw,hown⟩:=hS
      have hS0:PutS _ _ _ _ _ _ _ _ _ _ _ _ _ _:=⟨c0,e1,p0,p1,hbw,hown⟩
      have HS:=Lib.hid hS0
      have hszw:=Nat.le_trans (Nat.le_of_eq HS0.out.symm) hbw.size
      clear hS0
      go_wp2_with fail
      go_region
      have hS:=HS.out.drew
      clear HS c0 e1 p0 p1 hbw hown hszw
      generalize World.drew _=X2 at hS ⊢
      obtain ⟨c0,e1,p0,p1,hbw,hown⟩:=hS
      have hS0:PutS _ _ _ _ _ _ _ _ _ _ _ _ _ _:=⟨c0,e1,p0,p1,hbw,hown⟩
      have HS:=Lib.hid hS0
      have hszw:=Nat.le_trans (Nat.le_of_eq HS0.out.symm) hbw.size
      clear hS0
      go_wp2_with (at_builtin;(refine wpList_push _ rfl (.tmp 38) (.tmp 43) 40 rfl (w.heap.size+1) 78 i0 (.agg #[.string ByteArray.empty,.string ByteArray.empty]) 2 32 Tryz.underlying40 hi0 hz0 hz1 hz2 rfl tZ4 (.slice A1 m c1) m _ rfl hown 1 #[.string ⟨xn.toArray⟩,.string ⟨xv.toArray⟩] 78 rfl rfl tZ5 tZ9 tZ1 hszw ?_);intro v5 w5 hown5 hb5 _)
      obtain ⟨A5,c5,rfl,_,_,_⟩:=own_form hown5
      have hS:=HS.out.push (O':=O++[(xn,xv)]) hb5 hadW tZ126
      clear HS c0 e1 p0 p1 hbw hown hszw hown5 hb5
      obtain ⟨c0,e1,p0,p1,hbw,hown⟩:=hS
      have hS0:PutS _ _ _ _ _ _ _ _ _ _ _ _ _ _:=⟨c0,e1,p0,p1,hbw,hown⟩
      have HS:=Lib.hid hS0
      have hszw:=Nat.le_trans (Nat.le_of_eq HS0.out.symm) hbw.size
      clear hS0
      go_wp2_with fail
      go_roundw
      case rel=>exact ⟨k+1,m+1,A5,c5,(O++[(xn,xv)]),false,by omega,by omega,by simp [← HM.out],by go_num,rfl,rfl,HINV,HS.out.hown,HS.out.hbw⟩
      case measure=>simp [intOf];omega
  ·have hkn:k=n:=tZ1
   have HD:Hid (rput (pn,pv) false l=O++rput (pn,pv) d []):=by
    show _=_
    rw [hinv.out,List.drop_of_length_le tZ7]
   clear hinv hkn hr0
   have hB0:=HB00.out.trans (hbw.mono tZ1)
   cases d with
   | true =>
    have hR:Hid (RES=O):=tZ136
    have HO:Hid (World.ownsRow wr w.heap.size 78 2 (.slice A1 m c1) RES.length (pcells RES)):=by
     show World.ownsRow _ _ _ _ _ _ _
     rw [hR.out,← HM.out]
     exact own_mono hown tZ1
    clear hown hbw
    go_wp2_with fail
    go_ret
    exact ⟨_,rfl,HO.out,hB0⟩
   | false =>
    have p0:=(hbw.cell (p:=⟨w.heap.size,0,none⟩) hlt0).trans b0
    have p1:=(hbw.cell (p:=⟨w.heap.size,1,none⟩) hlt0).trans b1
    have hR:Hid (RES=O++[(pn,pv)]):=tZ136
    go_wp2_with (at_builtin;(refine wpList_push _ rfl (.tmp 47) (.tmp 49) 40 rfl (w.heap.size+1) 78 i0 (.agg #[.string ByteArray.empty,.string ByteArray.empty]) 2 32 Tryz.underlying40 hi0 hz0 hz1 hz2 rfl tZ4 (.slice A1 m c1) m _ rfl hown 1 #[.string ⟨pn.toArray⟩,.string ⟨pv.toArray⟩] 78 rfl rfl tZ5 tZ9 tZ1 hszw ?_);intro v4 w4 hown4 hb4 _)
    have hB4:=HB00.out.trans ((hbw.trans hb4).mono tZ1)
    have HO:Hid (World.ownsRow w4 w.heap.size 78 2 v4 RES.length (pcells RES)):=by
     show World.ownsRow _ _ _ _ _ _ _
     rw [hR.out,pcells_append,List.length_append,← HM.out]
     exact own_mono hown4 tZ1
    clear hown hown4 hbw hb4 hB0 p0 p1
    go_wp2_with fail
    go_ret
    exact ⟨_,rfl,HO.out,hB4⟩
end Go.Proofs.YtcgclpcocdappaaGreatDoor
namespace Go.Proofs.YtcgclpcocdappaaGreatDoor
open Go.RowKit
theorem set_atP (l:PL) (p:Nat) (nm tx:BS) (h:(l[p]?).any (fun x=>cfN nm x == 0)=true):(pcells l).set (p*2+1) (.string ⟨tx.toArray⟩)=pcells (l.take p++[(nm,tx)]++l.drop (p+1)):=by
 cases hp:l[p]? with
 | none=>rw [hp] at h;simp at h
 | some x =>
  rw [hp] at h
  have hx:x.1=nm:=(cmpS_zero _ _).1 (by simpa [cfN] using h)
  obtain ⟨hlt,hpx⟩:=List.getElem?_eq_some_iff.1 hp
  have hl:l=l.take p++[x]++l.drop (p+1):=by
   exact mZ57
  conv=>lhs;rw [hl]
  rw [pcells_append,pcells_append,pcells_append,pcells_append,List.append_assoc,List.append_assoc]
  rw [List.set_append_right _ _ (by rw [pcells_length,List.length_take];omega),pcells_length,List.length_take,Nat.min_eq_left tZ1,show p*2+1-p*2=1 by omega]
  subst hx
  rfl
set_option maxRecDepth 100000 in
set_option maxHeartbeats 2000000 in
theorem set_any (l:PL) (n:Nat) (hnl:n=l.length) (A:Option Addr) (c:Nat) (nm tx:BS) (w:World) (B:Nat) (hr:Reads w B 2 A n (pcells l)) (hB:B≤w.heap.size) (hn:n≤4398046511104) (hv:∀ x∈l,x.2.length≤140737488351232) (htx:tx.length≤140737488351232) :
  Calls Tryz.prog 91 #[.slice A n c,.string ⟨nm.toArray⟩,.string ⟨tx.toArray⟩] w (PPost w (putP (nm,tx) l) (setE l nm tx)):=by
 have hck:=checkP_any l n hnl A c w B hr hB tZ1 hv
 have hNM:=fun W=>name_any ⟨nm.toArray⟩ W
 have hVA:=fun W=>value_any ⟨tx.toArray⟩ W (by show tx.length≤_;exact htx)
 simp only [] at hNM hVA
 by_cases hok:propsB l=true
 ·have h1:propsE l=0:=tZ89
  rw [h1] at hck
  have hso:=propsB_sort l hok
  have hsr:=fun w' (hb:Below w.heap.size w w')=>searchP_any (fun x:BS×BS=>.string ⟨x.1.toArray⟩) (fun x=>.string ⟨x.2.toArray⟩) (cfN nm) l (cfN_asc l hso nm) n hnl A c (.string ⟨nm.toArray⟩) w' B (hr.below (hb.mono hB)) tZ13 tZ1 (fun x W _=>byP_any x.1 x.2 nm W)
  have hp:=posF_le (cfN nm) l
  have hag:=atF_get l nm hso
  have hpl:=putP_split (nm,tx) l hso
  simp only [] at hpl
  obtain ⟨p,hpp⟩:∃ p,p=posF (cfN nm) l:=⟨_,rfl⟩
  obtain ⟨t,htt⟩:∃ t,t=atF (cfN nm) l:=⟨_,rfl⟩
  have hat:t=(l[p]?).any (fun x=>cfN nm x == 0):=by rw [htt,hpp];rfl
  rw [← hpp] at hp
  rw [← hpp,← htt] at hsr hpl
  rw [← htt] at hag
  have hpn:p≤n:=tZ1
  have HN:=Lib.hid hnl
  have HAT:=Lib.hid hat
  have HAG:=Lib.hid hag
  have HPL:=Lib.hid hpl
  have HOK:=Lib.hid hok
  have HCK:=Lib.hid hck
  have HSR:=Lib.hid hsr
  have HVA:=Lib.hid hVA
  clear hpp htt hpl hat hnl h1 hok hp hag hso hck hsr hVA hv
  cases hnb:nameB nm with
  | false =>
   have HPE:Hid (setE l nm tx=31):=tZ82
   rw [hnb] at hNM
   clear hnb hr
   go_enter Tryz.func91,Tryz.ntmps91
   go_wp2_with fail
   refine HCK.out.mono ?_
   rintro e w1 ⟨rfl,hb1⟩
   go_wp2_with fail
   refine (HSR.out w1 hb1).mono ?_
   rintro e w2 ⟨rfl,hb2⟩
   have hb12:=hb1.trans (hb2.mono hb1.size)
   clear hb1 hb2
   go_wp2_with fail
   refine (hNM w2).mono ?_
   rintro e w3 ⟨rfl,hb3⟩
   have hb13:=hb12.trans (hb3.mono hb12.size)
   go_wp2_with fail
   go_ret2
   refine ⟨_,by rw [HPE.out];rfl,?_,hb13⟩
   exact mZ58
  | true =>
   rw [hnb] at hNM
   have HNB:=Lib.hid hnb
   cases hvb:valB tx with
   | false =>
    have HPE:Hid (setE l nm tx=9):=tZ70
    have hVA:=HVA.out
    rw [hvb] at hVA
    clear hvb hnb hr
    exact mZ108
   | true =>
    have hVA:=HVA.out
    rw [hvb] at hVA
    have HVB:=Lib.hid hvb
    have hcl:=fun w' (hb:Below w.heap.size w w')=>cloneP_any (pcells l) n A c w' B (hr.below (hb.mono hB)) tZ13 (pcells_one l) tZ1
    have HCL:=Lib.hid hcl
    clear hvb hnb hr hcl HVA
    cases t with
    | true =>
     have HPE:Hid (setE l nm tx=0):=by show _=_;unfold setE;rw [if_pos HOK.out,if_pos HNB.out,if_pos HVB.out,if_neg (by rw [← HAG.out];simp)]
     have HLL:Hid ((putP (nm,tx) l).length=n∧p<n):=by
      have hlt:p<l.length:=by
       exact mZ110
      refine ⟨?_,by rw [HN.out];exact hlt⟩
      rw [HPL.out,if_pos rfl]
      exact mZ109
     go_enter Tryz.func91,Tryz.ntmps91
     go_wp2_with fail
     refine HCK.out.mono ?_
     rintro e w1 ⟨rfl,hb1⟩
     go_wp2_with fail
     refine (HSR.out w1 hb1).mono ?_
     rintro e w2 ⟨rfl,hb2⟩
     have hb12:=hb1.trans (hb2.mono hb1.size)
     clear hb1 hb2
     go_wp2_with fail
     refine (hNM w2).mono ?_
     rintro e w3 ⟨rfl,hb3⟩
     have hb13:=hb12.trans (hb3.mono hb12.size)
     clear hb3 hb12
     go_wp2_with fail
     refine (hVA w3).mono ?_
     rintro e w4 ⟨rfl,hb4⟩
     have hb14:=hb13.trans (hb4.mono hb13.size)
     clear hb4 hb13
     go_wp2_with fail
     refine (HCL.out w4 hb14).mono ?_
     rintro e w5 ⟨v5,rfl,hown,hb5⟩
     have hbb:=hb14.trans (hb5.mono hb14.size)
     have hsz:=hb14.size
     have hsz5:w4.heap.size≤w5.heap.size:=hb5.size
     clear hb14 hb5 HCL HCK HSR hNM hVA
     have hpn':p<n:=HLL.out.2
     rcases hown.2 with ⟨_,h0⟩ | ⟨g,cap,cur,rfl,hbg,_,_,_,_,_⟩
     ·omega
     ·have hst:=hown.stored (p*2+1) (.string ⟨tx.toArray⟩)
      have hl:=HAT.out
      rw [set_atP l p nm tx hl.symm] at hst
      have hcell:=(hown.cellAt (p*2+1) tZ1).trans (pcells_get l p tZ7).2
      generalize (l[p]'tZ7).2=old at hcell
      have hfz:=hown.frozenAt (p*2+1)
      have hpi:(p:Int)<(n:Int):=tZ1
      have HST:=Lib.hid hst
      simp only [strV] at hcell
      clear hl hst
      go_wp2_with fail
      go_ret2
      refine ⟨_,by rw [HPE.out];rfl,?_,hbb.setCell (by show _≤g;omega) _⟩
      rw [if_pos HPE.out,HLL.out.1,HPL.out,if_pos trivial]
      exact own_mono HST.out.1 hsz
    | false =>
     by_cases h8:n=8
     ·have HPE:Hid (setE l nm tx=3):=by show _=_;unfold setE;rw [if_pos HOK.out,if_pos HNB.out,if_pos HVB.out,if_pos ⟨HAG.out.symm,by rw [← HN.out];exact h8⟩]
      have h8a:((n:Int) == 8)=true:=by simp [h8]
      clear h8
      exact mZ108
     ·have HPE:Hid (setE l nm tx=0):=by show _=_;unfold setE;rw [if_pos HOK.out,if_pos HNB.out,if_pos HVB.out,if_neg (by rw [← HN.out];exact fun h=>h8 h.2)]
      have h8a:((n:Int) == 8)=false:=tZ6
      have HLL:Hid ((putP (nm,tx) l).length=n+1):=by
       show _=_
       rw [HPL.out,if_neg tZ3]
       exact mZ109
      clear h8
      go_enter Tryz.func91,Tryz.ntmps91
      go_wp2_with fail
      refine HCK.out.mono ?_
      rintro e w1 ⟨rfl,hb1⟩
      go_wp2_with fail
      refine (HSR.out w1 hb1).mono ?_
      rintro e w2 ⟨rfl,hb2⟩
      have hb12:=hb1.trans (hb2.mono hb1.size)
      clear hb1 hb2
      go_wp2_with fail
      refine (hNM w2).mono ?_
      rintro e w3 ⟨rfl,hb3⟩
      have hb13:=hb12.trans (hb3.mono hb12.size)
      clear hb3 hb12
      go_wp2_with fail
      refine (hVA w3).mono ?_
      rintro e w4 ⟨rfl,hb4⟩
      have hb14:=hb13.trans (hb4.mono hb13.size)
      clear hb4 hb13
      go_wp2_with fail
      refine (HCL.out w4 hb14).mono ?_
      rintro e w5 ⟨v5,rfl,hown,hb5⟩
      have hbb:=hb14.trans (hb5.mono hb14.size)
      have hsz:=hb14.size
      have hsz5:w4.heap.size≤w5.heap.size:=hb5.size
      clear hb14 hb5 HCL HCK HSR hNM hVA
      obtain ⟨A3,c3,rfl,_,_,_⟩:=own_form hown
      have hown4:=hown.alloc (.cells #[.string ⟨nm.toArray⟩,.string ⟨tx.toArray⟩] 78)
      have hnew:=Blk.new w5 78 #[.string ⟨nm.toArray⟩,.string ⟨tx.toArray⟩]
      have hins:=insP_any #[.string ⟨nm.toArray⟩,.string ⟨tx.toArray⟩] rfl tZ5 (pcells l) (pcells_one l) w5.heap.size 78 _ n p A3 c3 _ hpn hown4 (by show w4.heap.size≤_;simp;omega) (by have:=(propsB_small l HOK.out).1;have:=HN.out;omega) hnew (fun e=>by have:=(hown.lt _ e).2;omega)
      have HLT:=Lib.hid (fun k hk=>(hown4.lt k hk).1)
      have HB2:=Lib.hid (hbb.alloc tZ1 (.cells #[.string ⟨nm.toArray⟩,.string ⟨tx.toArray⟩] 78))
      clear hown4 hnew hown
      go_wp2_with fail
      refine hins.mono ?_
      clear hins
      rintro e w6 ⟨v6,rfl,hown5,hg⟩
      have HO:=Lib.hid hown5
      have HG:=Lib.hid hg
      clear hown5 hg
      go_wp2_with fail
      go_ret2
      refine ⟨v6,by rw [HPE.out];rfl,?_,HB2.out.grown HG.out tZ6 (fun k hk=>by have:=HLT.out k hk;omega)⟩
      rw [if_pos HPE.out,HLL.out,HPL.out,if_neg tZ3,pcells_append,pcells_append,pcells_take,pcells_drop]
      exact own_mono HO.out hsz
 ·have h1:propsE l=9:=tZ90
  rw [h1] at hck
  have HPE:Hid (setE l nm tx=9):=tZ155
  clear hok h1 hnl hr hVA hNM hv
  go_enter Tryz.func91,Tryz.ntmps91
  exact mZ59
def unsetE (l:PL) (nm:BS):Int:=if propsB l=true then (if (getP l nm).isSome=true then 0 else 71) else 9
set_option maxRecDepth 100000 in
set_option maxHeartbeats 2000000 in
theorem unset_any (l:PL) (n:Nat) (hnl:n=l.length) (A:Option Addr) (c:Nat) (nm:BS) (w:World) (B:Nat) (hr:Reads w B 2 A n (pcells l)) (hB:B≤w.heap.size) (hn:n≤4398046511104) (hv:∀ x∈l,x.2.length≤140737488351232) :
  Calls Tryz.prog 93 #[.slice A n c,.string ⟨nm.toArray⟩] w (PPost w (dropP nm l) (unsetE l nm)):=by
 have hck:=checkP_any l n hnl A c w B hr hB tZ1 hv
 by_cases hok:propsB l=true
 ·have h1:propsE l=0:=tZ89
  rw [h1] at hck
  have hso:=propsB_sort l hok
  have hsr:=fun w' (hb:Below w.heap.size w w')=>searchP_any (fun x:BS×BS=>.string ⟨x.1.toArray⟩) (fun x=>.string ⟨x.2.toArray⟩) (cfN nm) l (cfN_asc l hso nm) n hnl A c (.string ⟨nm.toArray⟩) w' B (hr.below (hb.mono hB)) tZ13 tZ1 (fun x W _=>byP_any x.1 x.2 nm W)
  have hp:=posF_le (cfN nm) l
  have hag:=atF_get l nm hso
  have hpl:=dropP_split nm l hso
  obtain ⟨p,hpp⟩:∃ p,p=posF (cfN nm) l:=⟨_,rfl⟩
  obtain ⟨t,htt⟩:∃ t,t=atF (cfN nm) l:=⟨_,rfl⟩
  have hat:t=(l[p]?).any (fun x=>cfN nm x == 0):=by rw [htt,hpp];rfl
  rw [← hpp] at hp
  rw [← hpp,← htt] at hsr hpl
  rw [← htt] at hag
  have HN:=Lib.hid hnl
  have HAT:=Lib.hid hat
  have HAG:=Lib.hid hag
  have HPL:=Lib.hid hpl
  have HOK:=Lib.hid hok
  have HCK:=Lib.hid hck
  have HSR:=Lib.hid hsr
  have hcl:=fun w' (hb:Below w.heap.size w w')=>cloneP_any (pcells l) n A c w' B (hr.below (hb.mono hB)) tZ13 (pcells_one l) tZ1
  have HCL:=Lib.hid hcl
  clear hpp htt hpl hat hnl h1 hok hp hag hso hck hsr hv hcl hr
  cases t with
  | true =>
   have HPE:Hid (unsetE l nm=0):=by show _=_;unfold unsetE;rw [if_pos HOK.out,if_pos HAG.out.symm]
   have HLL:Hid ((dropP nm l).length=n-1∧p<n):=by
    have hlt:p<l.length:=by
     exact mZ110
    refine ⟨?_,by rw [HN.out];exact hlt⟩
    rw [HPL.out rfl]
    simp only [List.length_append,List.length_take,List.length_drop]
    have:=HN.out;omega
   go_enter Tryz.func93,Tryz.ntmps93
   go_wp2_with fail
   refine HCK.out.mono ?_
   rintro e w1 ⟨rfl,hb1⟩
   go_wp2_with fail
   refine (HSR.out w1 hb1).mono ?_
   rintro e w2 ⟨rfl,hb2⟩
   have hb12:=hb1.trans (hb2.mono hb1.size)
   clear hb1 hb2
   go_wp2_with fail
   refine (HCL.out w2 hb12).mono ?_
   rintro e w3 ⟨v3,rfl,hown,hb3⟩
   have hbb:=hb12.trans (hb3.mono hb12.size)
   have hsz:=hb12.size
   have hsz3:w2.heap.size≤w3.heap.size:=hb3.size
   clear hb12 hb3 HCL HCK HSR
   obtain ⟨A3,c3,rfl,_,_,_⟩:=own_form hown
   have hpn':p<n:=HLL.out.2
   have hdel:=delP_any (pcells l) (pcells_one l) n p c3 _ A3 w3 hpn' tZ1 hown
   have HLT:=Lib.hid (fun k hk=>(hown.lt k hk).1)
   have HB2:=Lib.hid hbb
   clear hown hbb
   go_wp2_with fail
   refine hdel.mono ?_
   clear hdel
   rintro e w4 ⟨v4,rfl,hown5,hg⟩
   have HO:=Lib.hid hown5
   have HG:=Lib.hid hg
   clear hown5 hg
   go_wp2_with fail
   go_ret2
   refine ⟨v4,by rw [HPE.out];rfl,?_,HB2.out.grown HG.out tZ1 (fun k hk=>by have:=HLT.out k hk;omega)⟩
   rw [if_pos HPE.out,HLL.out.1,HPL.out tZ20,pcells_append,pcells_take,pcells_drop]
   exact own_mono HO.out hsz
  | false =>
   have HPE:Hid (unsetE l nm=71):=by show _=_;unfold unsetE;rw [if_pos HOK.out,if_neg (by rw [← HAG.out];simp)]
   go_enter Tryz.func93,Tryz.ntmps93
   go_wp2_with fail
   refine HCK.out.mono ?_
   rintro e w1 ⟨rfl,hb1⟩
   go_wp2_with fail
   refine (HSR.out w1 hb1).mono ?_
   rintro e w2 ⟨rfl,hb2⟩
   have hb12:=hb1.trans (hb2.mono hb1.size)
   clear hb1 hb2
   go_wp2_with fail
   go_ret2
   refine ⟨_,by rw [HPE.out];rfl,?_,hb12⟩
   exact mZ58
 ·have h1:propsE l=9:=tZ90
  rw [h1] at hck
  have HPE:Hid (unsetE l nm=9):=tZ149
  clear hok h1 hnl hr hv
  go_enter Tryz.func93,Tryz.ntmps93
  exact mZ59
end Go.Proofs.YtcgclpcocdappaaGreatDoor
namespace Go.Proofs.YtcgclpcocdappaaGreatDoor
open Go.RowKit
set_option maxRecDepth 100000 in
set_option maxHeartbeats 4000000 in
theorem refGrants_any (l:GL) (n:Nat) (hnl:n=l.length) (A:Option Addr) (c:Nat) (w:World) (B:Nat) (hr:Reads w B 3 A n (gcells l)) (hB:B≤w.heap.size) (hn:n≤5000000000000) (hv:lenG l) :
  Calls Tryz.prog 65 #[.slice A n c] w fun e w'=>e=.returned (.int .i64 (grantsE l))∧Below w.heap.size w w':=by
 have HN:=Lib.hid hnl
 obtain ⟨E,hE⟩:∃ E,E=grantsE l:=⟨_,rfl⟩
 have hPE:Hid (∀ b,grantsFrom none l=b→E=if b=true∧n≤16 then 0 else 9):=by
  show ∀ b,_→_
  rintro b rfl
  rw [hE]
  unfold grantsE grantsB
  rw [← hnl]
  by_cases h8:n≤16
  ·simp [h8]
  ·simp [h8]
 rw [← hE]
 clear hnl hE
 go_enter Tryz.func65,Tryz.ntmps65
 go_wp2_with fail
 go_loopw [3] (fun j wr=>∃ k:Nat,k≤n∧j=.int .i64 (k:Int)∧Hid (grantsFrom none l=grantsFrom (prevG l k) (l.drop k))∧Below w.heap.size w wr) (fun j _=>n-(intOf j).toNat)
 case atStart=>exact ⟨0,Nat.zero_le _,rfl,rfl,Below.refl _ _⟩
 case round =>
  obtain ⟨k,hk,rfl,hok,hbw⟩:=hrel
  by_cases hlt:k<n
  ·have hrw:=hr.below (hbw.mono hB)
   obtain ⟨ad,rfl,hadB,c0,c1,c2⟩:=hrw.el3 HN.out hlt
   have hki:(k:Int)<(n:Int):=tZ1
   have hkl:k<l.length:=tZ7
   obtain ⟨x,hx⟩:∃ x,x=l[k]'hkl:=⟨_,rfl⟩
   have hxl:=hv x tZ14
   rw [← hx] at c0 c1 c2
   have hdr:=List.drop_eq_getElem_cons hkl
   rw [← hx] at hdr
   have HX:=Lib.hid hx
   have HDR:=Lib.hid hdr
   obtain ⟨xu,xp,xz⟩:=x
   simp only at c0 c1 c2 hxl
   have hb1:=hbw.alloc hbw.size (.cells #[.string ⟨xu.toArray⟩,.string ⟨xp.toArray⟩,.int .i64 xz] 147)
   have hbad:Hid ((nameB xu=false∨pathB xp=false∨xz<1∨255<xz∨(∃ y,prevG l k=some y∧¬ cmpG y.1 y.2.1 xu xp<0))→E=9):=by
    exact mZ98
   have hgood:Hid (nameB xu=true→pathB xp=true→1≤xz→xz≤255→(∀ y,prevG l k=some y→cmpG y.1 y.2.1 xu xp<0)→grantsFrom none l=grantsFrom (prevG l (k+1)) (l.drop (k+1))):=by
    exact mZ97
   have hN:∀ W,Calls Tryz.prog 63 #[.string ⟨xu.toArray⟩] W fun e W'=>e=.returned (.bool (nameB xu))∧W'=W:=fun W=>refName_s ⟨xu.toArray⟩ W (by show xu.length≤_;omega)
   have hV:∀ W,Calls Tryz.prog 115 #[.string ⟨xp.toArray⟩] W fun e W'=>e=.returned (.bool (pathB xp))∧Below W.heap.size W W':=fun W=>refPath_any ⟨xp.toArray⟩ W tZ165
   have hwlt:wr.heap.size<(wr.alloc (.cells #[.string ⟨xu.toArray⟩,.string ⟨xp.toArray⟩,.int .i64 xz] 147)).heap.size:=tZ3
   have k0:=(Blk.new wr 147 #[.string ⟨xu.toArray⟩,.string ⟨xp.toArray⟩,.int .i64 xz]).cell 0
   have k1:=(Blk.new wr 147 #[.string ⟨xu.toArray⟩,.string ⟨xp.toArray⟩,.int .i64 xz]).cell 1
   have k2:=(Blk.new wr 147 #[.string ⟨xu.toArray⟩,.string ⟨xp.toArray⟩,.int .i64 xz]).cell 2
   have hbsz:=hbw.size
   have hS:=Lib.hid (fun (W':World) (hB':Below (wr.alloc (.cells #[.string ⟨xu.toArray⟩,.string ⟨xp.toArray⟩,.int .i64 xz] 147)).heap.size (wr.alloc (.cells #[.string ⟨xu.toArray⟩,.string ⟨xp.toArray⟩,.int .i64 xz] 147)) W') =>
    (⟨(hB'.cell (p:=⟨wr.heap.size,0,none⟩) hwlt).trans k0,(hB'.cell (p:=⟨wr.heap.size,1,none⟩) hwlt).trans k1,(hB'.cell (p:=⟨wr.heap.size,2,none⟩) hwlt).trans k2,hr.below ((hbw.alloc hbw.size (.cells #[.string ⟨xu.toArray⟩,.string ⟨xp.toArray⟩,.int .i64 xz] 147)).trans (hB'.mono (Nat.le_trans hbsz (Nat.le_of_lt hwlt))) |>.mono hB)⟩ :
     W'.cell? ⟨wr.heap.size,0,none⟩=some (.string ⟨xu.toArray⟩)∧W'.cell? ⟨wr.heap.size,1,none⟩=some (.string ⟨xp.toArray⟩)∧W'.cell? ⟨wr.heap.size,2,none⟩=some (.int .i64 xz)∧Reads W' B 3 (some ad) n (gcells l)))
   clear hx hdr hok hxl hv k0 k1 k2
   obtain ⟨bn,hbn0⟩:∃ b,b=nameB xu:=⟨_,rfl⟩
   obtain ⟨bp,hbp0⟩:∃ b,b=pathB xp:=⟨_,rfl⟩
   rw [← hbn0] at hbad hgood hN
   rw [← hbp0] at hbad hgood hV
   clear hbn0 hbp0
   cases bn with
   | false =>
    have HB:=Lib.hid (hbad.out (.inl rfl))
    clear hr hrw hbad hgood hV hS
    go_wp2_with fail
    refine (hN _).mono ?_
    rintro e w4 ⟨rfl,rfl⟩
    go_wp2_with fail
    go_ret
    exact ⟨by rw [HB.out];rfl,hb1⟩
   | true =>
    cases bp with
    | false =>
     have HB:=Lib.hid (hbad.out (.inr (.inl rfl)))
     exact mZ111
    | true =>
     by_cases z1:xz<1
     ·have HB:=Lib.hid (hbad.out (.inr (.inr (.inl z1))))
      exact mZ111
     by_cases z2:255<xz
     ·have HB:=Lib.hid (hbad.out (.inr (.inr (.inr (.inl z2)))))
      exact mZ111
     rcases Nat.eq_zero_or_pos k with h0 | h0
     ·have HG:=Lib.hid (hgood.out rfl rfl tZ1 tZ1 (fun y hy=>by subst h0;cases hy))
      have d4:decide ((0:Int)<(k:Int))=false:=tZ6
      have d4':decide (0<k)=false:=tZ6
      clear h0 hr hrw hbad hgood
      go_wp2_with fail
      refine (hN _).mono ?_
      rintro e w4 ⟨rfl,rfl⟩
      go_wp2_with fail
      refine (hV _).mono ?_
      rintro e w5 ⟨rfl,hb5⟩
      have hbf:=hb1.trans (hb5.mono hb1.size)
      obtain ⟨q0,q1,q2,hprev⟩:=hS.out _ hb5
      clear hS hb5 hb1
      clear hprev
      go_wp2_with fail
      go_big_quiet (fail)
      exact mZ112
     ·have d4:decide ((0:Int)<(k:Int))=true:=tZ6
      have d4':decide (0<k)=true:=tZ6
      have hk1l:k-1<l.length:=tZ1
      obtain ⟨y,hy⟩:∃ y,y=l[k-1]'hk1l:=⟨_,rfl⟩
      have hpv:prevG l k=some y:=by
       exact mZ96
      have i1:(1:Int)≤(k:Int):=tZ1
      have i2:(k:Int)-1<(n:Int):=tZ1
      have i3:IntKind.i64.wrap ((k:Int)-1)=(k:Int)-1:=IntWalk.i64_in _ tZ1
      have i4:((k:Int)-1).toNat=k-1:=tZ1
      have HP:Hid (∀ W',Reads W' B 3 (some ad) n (gcells l)→W'.cell? (ad.add ((k-1)*3))=some (.string ⟨y.1.toArray⟩)∧W'.cell? ⟨(ad.add ((k-1)*3)).block,(ad.add ((k-1)*3)).off+1,none⟩=some (.string ⟨y.2.1.toArray⟩)):=by
       show ∀ W',_→_
       intro W' hr'
       obtain ⟨ad2,e2,-,p0,p1,-⟩:=(hr'.el3 HN.out (i:=k-1) tZ1)
       injection e2 with e2
       subst e2
       rw [← hy] at p0 p1
       exact ⟨p0,p1⟩
      obtain ⟨yu,yp,yz⟩:=y
      simp only at HP
      have hgt:=gtrS 9 yu xu
      have hge:=geqS 9 yp xp
      have hbadO:=fun (h:¬ cmpG yu yp xu xp<0)=>hbad.out (.inr (.inr (.inr (.inr ⟨_,hpv,h⟩))))
      have hgoodO:=fun (h:cmpG yu yp xu xp<0)=>hgood.out rfl rfl tZ1 tZ1 (fun y' hy'=>by rw [hpv] at hy';cases hy';exact h)
      clear hbad hgood h0 hpv hy hr hrw
      by_cases hyx:yu=xu
      ·subst hyx
       rw [show (Op.bytesLess yu yu || yu == yu)=true by simp] at hgt
       by_cases hpp:Op.bytesLess yp xp=true
       ·have HG:=Lib.hid (hgoodO ((cmpG_neg _ _ _ _).2 (.inr ⟨rfl,hpp⟩)))
        rw [hpp] at hge
        clear hbadO hgoodO hpp
        go_wp2_with fail
        refine (hN _).mono ?_
        rintro e w4 ⟨rfl,rfl⟩
        go_wp2_with fail
        refine (hV _).mono ?_
        rintro e w5 ⟨rfl,hb5⟩
        have hbf:=hb1.trans (hb5.mono hb1.size)
        obtain ⟨q0,q1,q2,hprev⟩:=hS.out _ hb5
        clear hS hb5 hb1
        obtain ⟨p0,p1⟩:=HP.out _ hprev
        clear hprev
        go_wp2_with fail
        go_big_quiet (fail)
        clear hgt hge
        exact mZ112
       ·have HB:=Lib.hid (hbadO (fun h=>by
         rcases (cmpG_neg _ _ _ _).1 h with h | h
         ·rw [bl_irrefl] at h;cases h
         ·exact hpp h.2))
        rw [show Op.bytesLess yp xp=false by simpa using hpp] at hge
        clear hbadO hgoodO hpp
        go_wp2_with fail
        refine (hN _).mono ?_
        rintro e w4 ⟨rfl,rfl⟩
        go_wp2_with fail
        refine (hV _).mono ?_
        rintro e w5 ⟨rfl,hb5⟩
        have hbf:=hb1.trans (hb5.mono hb1.size)
        obtain ⟨q0,q1,q2,hprev⟩:=hS.out _ hb5
        clear hS hb5 hb1
        obtain ⟨p0,p1⟩:=HP.out _ hprev
        clear hprev
        go_wp2_with fail
        go_big_quiet (fail)
        clear hgt hge
        go_wp2_with fail
        go_ret
        exact ⟨by rw [HB.out];rfl,below_drewN hbf _⟩
      ·have hne:(yu == xu)=false:=by simpa using hyx
       by_cases hbl:Op.bytesLess yu xu=true
       ·have HG:=Lib.hid (hgoodO ((cmpG_neg _ _ _ _).2 (.inl hbl)))
        rw [show (Op.bytesLess yu xu || yu == xu)=true by rw [hbl];rfl] at hgt
        clear hbadO hgoodO hbl hge
        go_wp2_with fail
        refine (hN _).mono ?_
        rintro e w4 ⟨rfl,rfl⟩
        go_wp2_with fail
        refine (hV _).mono ?_
        rintro e w5 ⟨rfl,hb5⟩
        have hbf:=hb1.trans (hb5.mono hb1.size)
        obtain ⟨q0,q1,q2,hprev⟩:=hS.out _ hb5
        clear hS hb5 hb1
        obtain ⟨p0,p1⟩:=HP.out _ hprev
        clear hprev
        go_wp2_with fail
        go_big_quiet (fail)
        clear hgt
        exact mZ112
       ·have HB:=Lib.hid (hbadO (fun h=>by
         rcases (cmpG_neg _ _ _ _).1 h with h | h
         ·exact hbl h
         ·exact hyx h.1))
        rw [show (Op.bytesLess yu xu || yu == xu)=false by rw [hne,show Op.bytesLess yu xu=false by simpa using hbl];rfl] at hgt
        clear hbadO hgoodO hbl hge
        go_wp2_with fail
        refine (hN _).mono ?_
        rintro e w4 ⟨rfl,rfl⟩
        go_wp2_with fail
        refine (hV _).mono ?_
        rintro e w5 ⟨rfl,hb5⟩
        have hbf:=hb1.trans (hb5.mono hb1.size)
        obtain ⟨q0,q1,q2,hprev⟩:=hS.out _ hb5
        clear hS hb5 hb1
        obtain ⟨p0,p1⟩:=HP.out _ hprev
        clear hprev
        go_wp2_with fail
        go_big_quiet (fail)
        clear hgt
        go_wp2_with fail
        go_ret
        exact ⟨by rw [HB.out];rfl,below_drewN hbf _⟩
  ·have hkn:k=n:=tZ1
   have hF:Hid (E=if n≤16 then 0 else 9):=by
    exact mZ100
   clear hok hr hkn hPE
   by_cases h8:n≤16
   ·have hi8:¬ (16:Int)<(n:Int):=tZ1
    have HV:Hid (E=0):=tZ173
    clear hF
    go_wp2_with fail
    go_ret
    exact ⟨by rw [HV.out];rfl,hbw⟩
   ·have hi8:(16:Int)<(n:Int):=tZ1
    have HV:Hid (E=9):=tZ174
    clear hF
    go_wp2_with fail
    go_ret
    exact ⟨by rw [HV.out];rfl,hbw⟩
end Go.Proofs.YtcgclpcocdappaaGreatDoor
namespace Go.Proofs.YtcgclpcocdappaaGreatDoor
open Go.RowKit
/-- texts, none ahead of the one before it (slices.IsSorted) -/
def sortF:Option BS→List BS→Bool
 | _,[]=>true
 | p,x :: l=>(match p with | none=>true | some q=>!(Op.bytesLess x q)) && sortF (some x) l
theorem sortF_cons (p:Option BS) (x:BS) (l:List BS):sortF p (x :: l)=((match p with | none=>true | some q=>!(Op.bytesLess x q)) && sortF (some x) l):=by cases p <;> rfl
theorem ascF_cons (p:Option BS) (x:BS) (l:List BS):ascF p (x :: l)=(nameB x && (match p with | none=>true | some q=>Op.bytesLess q x) && ascF (some x) l):=by cases p <;> rfl
theorem unlikeF_cons (acc:List BS) (x:BS) (l:List BS):unlikeF acc (x :: l)=(nameB x && !(acc.contains x) && unlikeF (acc++[x]) l):=rfl
theorem bl_asym (a b:BS) (h:Op.bytesLess a b=true):Op.bytesLess b a=false:=by
 rw [← Bool.not_eq_true]
 intro h2
 have:=bl_trans h h2
 exact mZ103
theorem tags_to (l:List BS) (acc:List BS) (p:Option BS) (hp:∀ q,p=some q→q∈acc) (h1:unlikeF acc l=true) (h2:sortF p l=true):ascF p l=true:=by
 induction l generalizing acc p with
 | nil=>rfl
 | cons x l ih =>
  rw [unlikeF_cons,Bool.and_eq_true,Bool.and_eq_true] at h1
  rw [sortF_cons,Bool.and_eq_true] at h2
  obtain ⟨⟨h3,h4⟩,h5⟩:=h1
  obtain ⟨h6,h7⟩:=h2
  rw [ascF_cons,h3,Bool.true_and,Bool.and_eq_true]
  refine ⟨?_,ih (acc++[x]) (some x) (fun q hq=>by cases hq;simp) h5 h7⟩
  cases p with
  | none=>rfl
  | some q =>
   simp only at h6 ⊢
   refine bl_tri x q (by simpa using h6) ?_
   rintro rfl
   have:=hp x rfl
   simp [this] at h4
theorem tags_from (l:List BS) (acc:List BS) (p:Option BS) (hp:∀ a∈acc,∃ q,p=some q∧(a=q∨Op.bytesLess a q=true)) (h:ascF p l=true):unlikeF acc l=true∧sortF p l=true:=by
 induction l generalizing acc p with
 | nil=>exact ⟨rfl,rfl⟩
 | cons x l ih =>
  rw [ascF_cons,Bool.and_eq_true,Bool.and_eq_true] at h
  obtain ⟨⟨h1,h2⟩,h3⟩:=h
  have hlt:∀ a∈acc,Op.bytesLess a x=true:=by
   intro a ha
   obtain ⟨q,rfl,hq⟩:=hp a ha
   simp only at h2
   rcases hq with rfl | hq
   ·exact h2
   ·exact bl_trans hq h2
  obtain ⟨i1,i2⟩:=ih (acc++[x]) (some x) (fun a ha=>by
   rcases List.mem_append.1 ha with ha | ha
   ·exact ⟨x,rfl,.inr (hlt a ha)⟩
   ·exact ⟨x,rfl,.inl (by simpa using ha)⟩) h3
  rw [unlikeF_cons,sortF_cons,h1,i1,i2,Bool.and_true,Bool.and_true,Bool.true_and]
  constructor
  ·rw [Bool.not_eq_true',← Bool.not_eq_true,List.contains_iff_mem]
   intro hx
   have:=hlt x hx
   exact mZ103
  ·cases p with
   | none=>rfl
   | some q=>simp only at h2 ⊢;rw [bl_asym _ _ h2];rfl
/-- as the program looks at tags -/
theorem tagged_eq (l:List BS):(unlikeB l && sortF none l)=ascF none l:=by
 rw [Bool.eq_iff_iff,Bool.and_eq_true]
 exact ⟨fun h=>tags_to l [] none (fun q hq=>by cases hq) h.1 h.2,fun h=>tags_from l [] none (fun a ha=>by cases ha) h⟩
/-- as the page looks at snapshots -/
def snapOk (x:SnapR):Bool:=amt x.gd 1 && okL x.body.l && propsB x.own.l && tagsB x.tags.l
def snapsRef:List BS→Option Int→List SnapR→Bool
 | _,_,[]=>true
 | acc,p,x :: l=>nameB x.nm && snapOk x && (match p with | none=>true | some q=>decide (q<x.gd)) && !(acc.contains x.nm) && snapsRef (acc++[x.nm]) (some x.gd) l
theorem snapsFrom_cons (p:Option Int) (x:SnapR) (l:List SnapR):snapsFrom p (x :: l)=(snapOk x && (match p with | none=>true | some q=>decide (q<x.gd)) && snapsFrom (some x.gd) l):=by
 have:snapsFrom p (x :: l)=(amt x.gd 1 && (match p with | none=>true | some q=>decide (q<x.gd)) && okL x.body.l && propsB x.own.l && tagsB x.tags.l && snapsFrom (some x.gd) l):=by cases p <;> rfl
 rw [this]
 unfold snapOk
 generalize (match p with | none=>true | some q=>decide (q<x.gd))=b
 cases amt x.gd 1 <;> cases b <;> cases okL x.body.l <;> cases propsB x.own.l <;> cases tagsB x.tags.l <;> rfl
theorem snapsRef_cons (acc:List BS) (p:Option Int) (x:SnapR) (l:List SnapR):snapsRef acc p (x :: l)=(nameB x.nm && snapOk x && (match p with | none=>true | some q=>decide (q<x.gd)) && !(acc.contains x.nm) && snapsRef (acc++[x.nm]) (some x.gd) l):=by cases p <;> rfl
theorem snapsRef_eq (l:List SnapR) (acc:List BS) (p:Option Int):snapsRef acc p l=(snapsFrom p l && unlikeF acc (l.map (·.nm))):=by
 induction l generalizing acc p with
 | nil=>rfl
 | cons x l ih =>
  rw [snapsRef_cons,snapsFrom_cons,List.map_cons,unlikeF_cons,ih]
  generalize (match p with | none=>true | some q=>decide (q<x.gd))=b
  cases nameB x.nm <;> cases snapOk x <;> cases b <;> cases acc.contains x.nm <;> cases snapsFrom (some x.gd) l <;> rfl
theorem snapsB_ref (l:List SnapR):snapsB l=(decide (l.length≤16) && snapsRef [] none l):=by
 rw [snapsRef_eq]
 unfold snapsB unlikeB
 rw [Bool.and_assoc]
end Go.Proofs.YtcgclpcocdappaaGreatDoor
namespace Go.Proofs.YtcgclpcocdappaaGreatDoor
open Go.RowKit
set_option maxRecDepth 100000 in
set_option maxHeartbeats 1000000 in
theorem refProp_any (l:PL) (nm:BS) (n:Nat) (hnl:n=l.length) (A:Option Addr) (c:Nat) (w:World) (B:Nat) (hr:Reads w B 2 A n (pcells l)) (hn:n≤5000000000000) :
  Calls Tryz.prog 118 #[.slice A n c,.string ⟨nm.toArray⟩] w fun e w'=>e=.returned (getV l nm)∧∃ q,w'=w.drewN q:=by
 have HN:=Lib.hid hnl
 obtain ⟨V,hV⟩:∃ V,V=getV l nm:=⟨_,rfl⟩
 rw [← hV]
 have HV:=Lib.hid hV
 clear hnl hV
 go_enter Tryz.func118,Tryz.ntmps118
 go_wp2_with fail
 go_loopw [6] (fun i wr=>∃ k:Nat,k≤n∧i=.int .i64 (k:Int)∧Hid (∀ y∈l.take k,y.1≠nm)∧∃ q,wr=w.drewN q) (fun i _=>n-(intOf i).toNat)
 case atStart=>exact ⟨0,Nat.zero_le _,rfl,(show ∀ y∈_,_ by simp),0,rfl⟩
 case round =>
  obtain ⟨k,hk,rfl,hno,q,rfl⟩:=hrel
  by_cases hlt:k<n
  ·have hki:(k:Int)<(n:Int):=tZ1
   have hkl:k<l.length:=tZ7
   obtain ⟨ad,rfl,hadB,c0,c1⟩:=hr.prop HN.out hlt
   obtain ⟨x,hx⟩:∃ x,x=l[k]'hkl:=⟨_,rfl⟩
   rw [← hx] at c0 c1
   have htk:=List.take_succ_eq_append_getElem hkl
   rw [← hx] at htk
   have HTK:=Lib.hid htk
   have HX:=Lib.hid (show l[k]?=some x by rw [hx];exact List.getElem?_eq_getElem _)
   obtain ⟨xn,xv⟩:=x
   simp only [strV] at c0 c1
   clear hx htk hr
   by_cases hxn:xn=nm
   ·have hd:(xn == nm)=true:=by simp [hxn]
    have hG:=find_at hno.out HX.out hxn
    have HVV:Hid (V=.tuple #[.string ⟨xv.toArray⟩,.bool true]):=by show _=_;rw [HV.out];unfold getV;rw [hG];rfl
    clear hxn hG
    go_wp2_with fail
    go_ret2
    exact ⟨by rw [HVV.out];rfl,q,rfl⟩
   ·have hd:(xn == nm)=false:=by simp [hxn]
    have HX2:=Lib.hid hxn
    clear hxn
    go_wp2_with fail
    go_roundw
    case rel =>
     refine ⟨k+1,by omega,by go_num,?_,q,rfl⟩
     show ∀ y∈_,_
     intro y hy
     rw [HTK.out,List.mem_append,List.mem_singleton] at hy
     rcases hy with hy | rfl
     ·exact hno.out y hy
     ·exact HX2.out
    case measure=>simp [intOf];omega
  ·have HVV:Hid (V=.tuple #[.string ByteArray.empty,.bool false]):=by
    show _=_
    rw [HV.out]
    unfold getV
    have:=hno.out
    rw [List.take_of_length_le tZ7] at this
    rw [find_none this]
    rfl
   clear hr
   go_wp2_with fail
   go_ret2
   exact ⟨by rw [HVV.out];rfl,q,rfl⟩
end Go.Proofs.YtcgclpcocdappaaGreatDoor
