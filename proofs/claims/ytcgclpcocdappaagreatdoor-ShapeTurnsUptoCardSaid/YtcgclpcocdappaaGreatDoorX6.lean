/-
  blocks.Put, by its contract. A region's class walk by steps that find their own kind: zX (arithmetic, or an operation that is not wanted), zY (a load), zN (a call by its contract). A drawn region whose operations read and make memory, with one store at an operation S, behind which only operations stand that look at no memory. names.Name, names.Path. 'append' into a row that is known whole and has room. A drawn region whose operations read and make memory, and whose last one, behind all others, may do whatever it does. Grants: the plain law. The page's Check, Own, Put of contents, by their contracts.
-/
import Derived.Test.YtcgclpcocdappaaGreatDoorXM1
import Derived.Test.YtcgclpcocdappaaGreatDoorX0
import Derived.Test.YtcgclpcocdappaaGreatDoorX5
import Derived.Test.YtcgclpcocdappaaGreatDoorX3
import Derived.Test.YtcgclpcocdappaaGreatDoorX4
import Derived.Test.YtcgclpcocdappaaGreatDoorX1
import Derived.Test.YtcgclpcocdappaaGreatDoorX2
namespace Go.Proofs.YtcgclpcocdappaaGreatDoor
open Go.RowKit
def cmpI (x y:Int):Int:=if x<y then -1 else if y<x then 1 else 0
theorem cmpI_neg (x y:Int):cmpI x y<0↔x<y:=tZ133
theorem cmpI_zero (x y:Int):cmpI x y=0↔x=y:=tZ133
set_option maxRecDepth 100000 in
theorem isNaN_any (x:Int) (w:World):Calls Tryz.prog 210 #[.int .i64 x] w fun e w'=>e=.returned (.bool false)∧∃ q,w'=w.drewN q:=by
 go_enter Tryz.func210,Tryz.ntmps210
 exact mZ52
set_option maxRecDepth 100000 in
theorem compare_any (x y:Int) (w:World):Calls Tryz.prog 192 #[.int .i64 x,.int .i64 y] w fun e w'=>e=.returned (.int .i64 (cmpI x y))∧∃ q,w'=w.drewN q:=by
 go_enter Tryz.func192,Tryz.ntmps192
 go_wp2_with fail
 refine (isNaN_any x _).mono ?_
 rintro e w1 ⟨rfl,q1,rfl⟩
 go_wp2_with fail
 refine (isNaN_any y _).mono ?_
 rintro e w1 ⟨rfl,q2,rfl⟩
 by_cases h1:x<y
 ·go_wp2_with fail
  go_ret
  exact ⟨by unfold cmpI;rw [if_pos h1];rfl,q1+q2,rfl⟩
 ·by_cases h2:y<x
  ·go_wp2_with fail
   go_ret
   exact ⟨by unfold cmpI;rw [if_neg tZ1,if_pos h2];rfl,q1+q2,rfl⟩
  ·go_wp2_with fail
   go_ret
   exact ⟨by unfold cmpI;rw [if_neg tZ1,if_neg tZ1];rfl,q1+q2,rfl⟩
set_option maxRecDepth 100000 in
theorem by_any (x:Int) (s:ByteArray) (y:Int) (w:World):Calls Tryz.prog 154 #[.agg #[.int .i64 x,.string s],.int .i64 y] w fun e w'=>e=.returned (.int .i64 (cmpI x y))∧Below w.heap.size w w':=by
 have hb0:=(Below.refl w.heap.size w).alloc (Nat.le_refl _) (.cells #[.int .i64 x,.string s] 75)
 have hc:=(Blk.new w 75 #[.int .i64 x,.string s]).cell 0
 go_enter Tryz.func154,Tryz.ntmps154
 go_wp2_with fail
 refine (compare_any x y _).mono ?_
 exact mZ55
/-! ### the plain law's words -/
def Asc (l:BL):Prop:=∀ (i j:Nat) (x y:Int×List UInt8),i<j→l[i]?=some x→l[j]?=some y→x.1<y.1
theorem okFrom_asc (p:Option Int) (l:BL) (h:okFrom p l=true):Asc l∧∀ q,p=some q→∀ x∈l,q<x.1:=by
 induction l generalizing p with
 | nil=>exact ⟨fun i j x y _ h=>by simp at h,fun _ _ x hx=>by simp at hx⟩
 | cons z r ih =>
  simp only [okFrom,Bool.and_eq_true] at h
  obtain ⟨⟨_,h4⟩,h5⟩:=h
  obtain ⟨i1,i2⟩:=ih _ h5
  have i3:=i2 z.1 rfl
  refine ⟨fun i j x y hij hx hy=>?_,fun q hq x hx=>?_⟩
  ·cases j with
   | zero=>omega
   | succ j =>
    cases i with
    | zero =>
     cases hx
     exact i3 y (List.mem_of_getElem? tZ122)
    | succ i=>exact i1 i j x y tZ1 tZ101 tZ122
  ·subst hq
   have h6:q<z.1:=by simpa using h4
   rcases List.mem_cons.1 hx with rfl | hx
   ·exact h6
   ·have:=i3 x hx
    omega
theorem okL_asc (l:BL) (h:okL l=true):Asc l:=(okFrom_asc none l h).1
def cfB (t:Int):Int×List UInt8→Int:=fun x=>cmpI x.1 t
theorem cfB_asc (l:BL) (h:Asc l) (t:Int):SignAsc (cfB t) l:=by
 intro i j x y hij hx hy hlt
 have h1:=h i j x y hij hx hy
 unfold cfB at hlt ⊢
 rw [cmpI_neg] at hlt ⊢
 omega
def putE (l:BL) (i:Int) (d:List UInt8):Int:=if okL l=true then (if 0≤i∧i<1024 then (if d.length=16 then 0 else 5) else 4) else 9
def putL11 (l:BL) (i:Int) (d:List UInt8):BL:=l.take (posF (cfB i) l)++[(i,d)]++l.drop (posF (cfB i) l+if atF (cfB i) l=true then 1 else 0)
def PutPost (w:World) (l:BL) (i:Int) (d:List UInt8) (e:Ending) (w':World):Prop :=
 ∃ v,e=.returned (.tuple #[v,.int .i64 (putE l i d)])∧(if putE l i d=0 then w'.ownsRow w.heap.size 75 2 v (putL11 l i d).length (bcells (putL11 l i d)) else v=.slice none 0 0)∧Below w.heap.size w w'
theorem bcells_one (l:BL):∀ u∈bcells l,u.oneCell'=true:=by
 intro u hu
 simp only [bcells,List.mem_flatMap] at hu
 exact mZ56
theorem bcells_take (l:BL) (k:Nat):bcells (l.take k)=(bcells l).take (k*2):=cellsK_take (enc:=fun x:Int×List UInt8=>[.int .i64 x.1,.string ⟨x.2.toArray⟩]) (fun _=>rfl) l k
theorem bcells_drop (l:BL) (k:Nat):bcells (l.drop k)=(bcells l).drop (k*2):=cellsK_drop (enc:=fun x:Int×List UInt8=>[.int .i64 x.1,.string ⟨x.2.toArray⟩]) (fun _=>rfl) l k
theorem set_atB (l:BL) (p:Nat) (i:Int) (d:List UInt8) (h:(l[p]?).any (fun x=>cfB i x == 0)=true):(bcells l).set (p*2+1) (.string ⟨d.toArray⟩)=bcells (l.take p++[(i,d)]++l.drop (p+1)):=by
 cases hp:l[p]? with
 | none=>rw [hp] at h;simp at h
 | some x =>
  rw [hp] at h
  have hx:x.1=i:=(cmpI_zero _ _).1 (by simpa [cfB] using h)
  obtain ⟨hlt,hpx⟩:=List.getElem?_eq_some_iff.1 hp
  have hl:l=l.take p++[x]++l.drop (p+1):=by
   exact mZ57
  conv=>lhs;rw [hl]
  rw [bcells_append,bcells_append,bcells_append,bcells_append,List.append_assoc,List.append_assoc]
  rw [List.set_append_right _ _ (by rw [bcells_length,List.length_take];omega),bcells_length,List.length_take,Nat.min_eq_left tZ1,show p*2+1-p*2=1 by omega]
  subst hx
  rfl
set_option maxRecDepth 100000 in
set_option maxHeartbeats 2000000 in
theorem bkPut_any (l:BL) (n:Nat) (hnl:n=l.length) (A:Option Addr) (c:Nat) (i:Int) (d:List UInt8) (w:World) (B:Nat) (hr:Reads w B 2 A n (bcells l)) (hB:B≤w.heap.size) (hn:n≤5000000000000) :
  Calls Tryz.prog 87 #[.slice A n c,.int .i64 i,.string ⟨d.toArray⟩] w (PutPost w l i d):=by
 have hck:=checkBk_any l n hnl A c w B hr hB tZ1
 by_cases hok:okL l=true
 ·have h1:okE l=0:=tZ104
  rw [h1] at hck
  by_cases hi:0≤i∧i<1024
  ·obtain ⟨hi1,hi2⟩:=hi
   by_cases hdl:d.length=16
   ·have hpe:putE l i d=0:=tZ94
    have hs:=okL_small l hok
    have hsr:=fun w' (hb:Below w.heap.size w w')=>searchB_any (fun x:Int×List UInt8=>.int .i64 x.1) (fun x=>.string ⟨x.2.toArray⟩) (cfB i) l (cfB_asc l (okL_asc l hok) i) n hnl A c (.int .i64 i) w' B (hr.below (hb.mono hB)) tZ13 hn (fun x W _=>by_any x.1 _ i W)
    have hcl:=fun w' (hb:Below w.heap.size w w')=>cloneB_any (bcells l) n A c w' B (hr.below (hb.mono hB)) tZ13 (bcells_one l) hn
    have hp:=posF_le (cfB i) l
    obtain ⟨p,hpp⟩:∃ p,p=posF (cfB i) l:=⟨_,rfl⟩
    obtain ⟨t,htt⟩:∃ t,t=atF (cfB i) l:=⟨_,rfl⟩
    have hpl:putL11 l i d=l.take p++[(i,d)]++l.drop (p+if t=true then 1 else 0):=by unfold putL11;rw [← hpp,← htt]
    have hat:t=(l[p]?).any (fun x=>cfB i x == 0):=by rw [htt,hpp];rfl
    rw [← hpp,← htt] at hsr
    have hpn:p≤n:=tZ1
    have hll:(putL11 l i d).length=if t=true then n else n+1:=by
     rw [hpl]
     simp only [List.length_append,List.length_take,List.length_drop,List.length_cons,List.length_nil]
     cases t with
     | true =>
      have:p<l.length:=by
       rcases Nat.lt_or_ge p l.length with h | h
       ·exact h
       ·rw [List.getElem?_eq_none h] at hat;cases hat
      simp;omega
     | false=>simp;omega
    have HPE:=Lib.hid hpe
    have HPL:=Lib.hid hpl
    have HAT:=Lib.hid hat
    have HLL:=Lib.hid hll
    have HN:=Lib.hid hnl
    have HD:=Lib.hid hdl
    have g3a:((d.length:Int) == 16)=true:=by simp [hdl]
    have g3b:((d.length:Int) != 16)=false:=by simp [hdl]
    clear hpp htt hpl hat hll hnl hdl hpe h1 hok hr hp
    go_enter Tryz.func87,Tryz.ntmps87
    go_wp2_with fail
    refine hck.mono ?_
    clear hck
    rintro e w1 ⟨rfl,hb1⟩
    go_wp2_with fail
    refine (hsr w1 hb1).mono ?_
    clear hsr
    rintro e w2 ⟨rfl,hb2⟩
    have hb12:=hb1.trans (hb2.mono hb1.size)
    clear hb1 hb2
    go_wp2_with fail
    refine (hcl w2 hb12).mono ?_
    clear hcl
    rintro e w3 ⟨v3,rfl,hown,hb3⟩
    have hbb:=hb12.trans (hb3.mono hb12.size)
    have hsz:=hb12.size
    have hsz3:w2.heap.size≤w3.heap.size:=hb3.size
    clear hb12 hb3 g3a g3b
    cases t with
    | true =>
     have hpn':p<n:=by
      have h1:=HAT.out
      have h2:=HN.out
      rcases Nat.lt_or_ge p l.length with h | h
      ·omega
      ·rw [List.getElem?_eq_none h] at h1;cases h1
     rcases hown.2 with ⟨_,h0⟩ | ⟨g,cap,cur,rfl,hbg,_,_,_,_,_⟩
     ·omega
     ·have hst:=hown.stored (p*2+1) (.string ⟨d.toArray⟩)
      have hl:=HAT.out
      rw [set_atB l p i d hl.symm] at hst
      have hcell:=(hown.cellAt (p*2+1) tZ1).trans (bcells_get l p tZ7).2
      generalize (l[p]'tZ7).2=old at hcell
      have hfz:=hown.frozenAt (p*2+1)
      have hpi:(p:Int)<(n:Int):=tZ1
      have HST:=Lib.hid hst
      clear hl hst
      go_wp2_with fail
      go_ret2
      refine ⟨_,by rw [HPE.out];rfl,?_,hbb.setCell (by show _≤g;omega) _⟩
      rw [if_pos HPE.out,HLL.out,HPL.out,if_pos trivial,if_pos trivial]
      exact own_mono HST.out.1 hsz
    | false =>
     obtain ⟨A3,c3,rfl,_,_,_⟩:=own_form hown
     have hown4:=hown.alloc (.cells #[.int .i64 i,.string ⟨d.toArray⟩] 75)
     have hnew:=Blk.new w3 75 #[.int .i64 i,.string ⟨d.toArray⟩]
     have hins:=insBk_any #[.int .i64 i,.string ⟨d.toArray⟩] rfl tZ5 (bcells l) (bcells_one l) w3.heap.size 75 _ n p A3 c3 _ hpn hown4 (by show w2.heap.size≤_;simp;omega) hn hnew (fun e=>by have:=(hown.lt _ e).2;omega)
     have HLT:=Lib.hid (fun k hk=>(hown4.lt k hk).1)
     have HB2:=Lib.hid (hbb.alloc tZ1 (.cells #[.int .i64 i,.string ⟨d.toArray⟩] 75))
     clear hown4 hnew hown
     go_wp2_with fail
     refine hins.mono ?_
     clear hins
     rintro e w4 ⟨v4,rfl,hown5,hg⟩
     have HO:=Lib.hid hown5
     have HG:=Lib.hid hg
     clear hown5 hg
     go_wp2_with fail
     go_ret2
     refine ⟨v4,by rw [HPE.out];rfl,?_,HB2.out.grown HG.out tZ6 (fun k hk=>by have:=HLT.out k hk;omega)⟩
     rw [if_pos HPE.out,HLL.out,HPL.out,if_neg tZ3,if_neg tZ3,bcells_append,bcells_append,bcells_take,bcells_drop]
     exact own_mono HO.out hsz
   ·have hpe:putE l i d=5:=tZ95
    have g3a:((d.length:Int) == 16)=false:=tZ6
    have g3b:((d.length:Int) != 16)=true:=tZ6
    have HPE:=Lib.hid hpe
    clear hpe hok h1 hdl hnl hr
    exact mZ60
  ·have hpe:putE l i d=4:=tZ153
   have HPE:=Lib.hid hpe
   clear hpe hok h1 hnl hr
   by_cases hi0:i<0
   ·clear hi
    exact mZ60
   ·have hi1:0≤i:=tZ1
    have hi2:1024≤i:=tZ1
    clear hi hi0
    exact mZ60
 ·have h1:okE l=9:=tZ105
  rw [h1] at hck
  have hpe:putE l i d=9:=by unfold putE;rw [if_neg hok]
  have HPE:=Lib.hid hpe
  clear hpe hok h1 hnl hr
  exact mZ60
end Go.Proofs.YtcgclpcocdappaaGreatDoor
namespace Go.Proofs.YtcgclpcocdappaaGreatDoor
open Go.RowKit
/-- one follows from the other -/
structure Imp (β α:Prop):Prop where
 go:β→α
section
variable {P:Program} {ops:Array Oper} {C:World→Prop} {Q:Act→Prop}
theorem yK {o:Oper} {rest:List Oper} {l l':List Value} {d:List Deferred} {j g k:Nat} {b:Bool} (hg:o.guard=some (g,b)) (hj:o.dst=some j) (hd:Hid ((ops[g]?).bind (·.dst)=some k)) (ht:l[k]?.getD undef=.bool (!b)∨l[k]?.getD undef=undef)
  (hl:l.set j undef=l':=by (dsimp only [zB,zC];try (with_reducible rfl))):Imp (wpQuiet P ops C Q rest ⟨l'.toArray,d⟩) (wpQuiet P ops C Q (o :: rest) ⟨l.toArray,d⟩):=.mk fun x=>wpC_skipS hg hj hd.out ht (hl ▸ x)
theorem yR {o:Oper} {rest:List Oper} {l l':List Value} {d:List Deferred} {v:Value} {k:Nat} (hg:o.guard=none) (hd:o.dst=some k)
  (h:∀ w,C w→o.quietAt P ⟨l.toArray,d⟩ C w v:=by
   intro W hW
   clear hW
   go_simp
   try (with_reducible rfl))
  (hl:l.set k v=l':=by (dsimp only [zB,zC];try (with_reducible rfl))):Imp (wpQuiet P ops C Q rest ⟨l'.toArray,d⟩) (wpQuiet P ops C Q (o :: rest) ⟨l.toArray,d⟩):=.mk fun x=>wpC_readS hg hd h (hl ▸ x)
theorem yG {o:Oper} {rest:List Oper} {l l':List Value} {d:List Deferred} {v:Value} {j g k:Nat} {b:Bool} (hg:o.guard=some (g,b)) (hj:o.dst=some j) (hd:Hid ((ops[g]?).bind (·.dst)=some k)) (ht:l[k]?.getD undef=.bool b)
  (h:∀ w,C w→o.quietAt P ⟨l.toArray,d⟩ C w v:=by
   intro W hW
   clear hW
   go_simp
   try (with_reducible rfl))
  (hl:l.set j v=l':=by (dsimp only [zB,zC];try (with_reducible rfl))):Imp (wpQuiet P ops C Q rest ⟨l'.toArray,d⟩) (wpQuiet P ops C Q (o :: rest) ⟨l.toArray,d⟩):=.mk fun x=>wpC_greadS hg hj hd.out ht h (hl ▸ x)
theorem yRm {o:Oper} {rest:List Oper} {l l':List Value} {d:List Deferred} {v:Value} {k:Nat} (hg:o.guard=none) (hd:o.dst=some k)
  (h:∀ w,C w→o.quietAt P ⟨l.toArray,d⟩ C w v:=by
   intro W hW
   replace hW:=HD.out W hW
   try have zf:=hS.out W hW
   try have zg:=zc W hW
   go_simp
   try (with_reducible rfl))
  (hl:l.set k v=l':=by (dsimp only [zB,zC];try (with_reducible rfl))):Imp (wpQuiet P ops C Q rest ⟨l'.toArray,d⟩) (wpQuiet P ops C Q (o :: rest) ⟨l.toArray,d⟩):=.mk fun x=>wpC_readS hg hd h (hl ▸ x)
theorem yGm {o:Oper} {rest:List Oper} {l l':List Value} {d:List Deferred} {v:Value} {j g k:Nat} {b:Bool} (hg:o.guard=some (g,b)) (hj:o.dst=some j) (hd:Hid ((ops[g]?).bind (·.dst)=some k)) (ht:l[k]?.getD undef=.bool b)
  (h:∀ w,C w→o.quietAt P ⟨l.toArray,d⟩ C w v:=by
   intro W hW
   replace hW:=HD.out W hW
   try have zf:=hS.out W hW
   try have zg:=zc W hW
   go_simp
   try (with_reducible rfl))
  (hl:l.set j v=l':=by (dsimp only [zB,zC];try (with_reducible rfl))):Imp (wpQuiet P ops C Q rest ⟨l'.toArray,d⟩) (wpQuiet P ops C Q (o :: rest) ⟨l.toArray,d⟩):=.mk fun x=>wpC_greadS hg hj hd.out ht h (hl ▸ x)
theorem yRc {o:Oper} {rest:List Oper} {l l':List Value} {d:List Deferred} {v:Value} {k:Nat} (hg:o.guard=none) (hd:o.dst=some k)
  (h:∀ w,C w→o.quietAt P ⟨l.toArray,d⟩ C w v:=by
   intro W hW
   replace hW:=HD.out W hW
   try have zf:=hS.out W hW
   go_simp
   first | have zd:=zc W hW | have zd:=zc W
   try simp only [Bool.false_eq_true,if_true,if_false] at zd
   first
   | exact callD zd (fun _ hb=>HD2.out _ (below_step hW hb))
   | exact callD zd (fun _ hb=>HD2.out _ (hS.out _ (below_step (by first | exact hW.2.2 | exact hW.2.2.2 | exact hW.2.2.2.2 | exact hW.2.2.2.2.2.2.2) hb))))
  (hl:l.set k v=l':=by (dsimp only [zB,zC];try (with_reducible rfl))):Imp (wpQuiet P ops C Q rest ⟨l'.toArray,d⟩) (wpQuiet P ops C Q (o :: rest) ⟨l.toArray,d⟩):=.mk fun x=>wpC_readS hg hd h (hl ▸ x)
theorem yGc {o:Oper} {rest:List Oper} {l l':List Value} {d:List Deferred} {v:Value} {j g k:Nat} {b:Bool} (hg:o.guard=some (g,b)) (hj:o.dst=some j) (hd:Hid ((ops[g]?).bind (·.dst)=some k)) (ht:l[k]?.getD undef=.bool b)
  (h:∀ w,C w→o.quietAt P ⟨l.toArray,d⟩ C w v:=by
   intro W hW
   replace hW:=HD.out W hW
   try have zf:=hS.out W hW
   go_simp
   first | have zd:=zc W hW | have zd:=zc W
   try simp only [Bool.false_eq_true,if_true,if_false] at zd
   first
   | exact callD zd (fun _ hb=>HD2.out _ (below_step hW hb))
   | exact callD zd (fun _ hb=>HD2.out _ (hS.out _ (below_step (by first | exact hW.2.2 | exact hW.2.2.2 | exact hW.2.2.2.2 | exact hW.2.2.2.2.2.2.2) hb))))
  (hl:l.set j v=l':=by (dsimp only [zB,zC];try (with_reducible rfl))):Imp (wpQuiet P ops C Q rest ⟨l'.toArray,d⟩) (wpQuiet P ops C Q (o :: rest) ⟨l.toArray,d⟩):=.mk fun x=>wpC_greadS hg hj hd.out ht h (hl ▸ x)
theorem wpC_regionH {id:Nat} {R:Exit→Act→World→Prop} {a:Act} {w:World} {l:List Oper} (C:World→Prop) (hC:C w.drew)
  (h:∀ (OPS:Array Oper) (D:World→Prop) (QQ:Act→Prop),Hid (OPS=l.toArray)→Hid (∀ W,D W→C W)→Hid (∀ W,C W→D W)→Hid (∀ a',(∀ w',C w'→R .normal a' w')→QQ a')→wpQuiet P OPS D QQ l a)
  (hm:P.follows .mixedOrders=true:=by kernel_rfl) (hB:Region.lexB .any l.toArray=true:=by kernel_rfl):(Code.region id l.toArray true).wp P R a w :=
 wpC_region C hm hB hC h
theorem hgoL {OPS:Array Oper} {l:List Oper} (h:Hid (OPS=l.toArray)) (g k:Nat) (hk:(l[g]?).bind (·.dst)=some k):Hid ((OPS[g]?).bind (·.dst)=some k):=by
 show _=_
 rw [h.out,zF]
 exact hk
theorem callD {f:FuncId} {args:Array Value} {W:World} {v:Value} {D:World→Prop} (h:Calls P f args W fun e w'=>e=.returned v∧Below W.heap.size W w') (hD:∀ W',Below W.heap.size W W'→D W'):Calls P f args W fun e w'=>e=.returned v∧D w' :=
 h.mono fun _ _ hh=>⟨hh.1,hD _ hh.2⟩
end
theorem zX {α β:Prop} (k:β) (h:Imp β α:=by
 first
 | exact yK rfl rfl (by with_reducible assumption) (by first | exact .inl rfl | exact .inr rfl)
 | exact yR rfl rfl
 | exact yG rfl rfl (by with_reducible assumption) rfl):α:=h.go k
theorem zY {α β:Prop} (k:β) (h:Imp β α:=by
 first
 | exact yRm rfl rfl
 | exact yGm rfl rfl (by with_reducible assumption) rfl):α:=h.go k
theorem zM {p α β:Prop} (c:p) (k:β) (h:p→Imp β α:=by
 intro zc
 first
 | exact yRm rfl rfl
 | exact yGm rfl rfl (by with_reducible assumption) rfl):α:=(h c).go k
theorem zN {p α β:Prop} (c:p) (k:β) (h:p→Imp β α:=by
 intro zc
 first
 | exact yRc rfl rfl
 | exact yGc rfl rfl (by with_reducible assumption) rfl):α:=(h c).go k
end Go.Proofs.YtcgclpcocdappaaGreatDoor
namespace Go.Proofs.YtcgclpcocdappaaGreatDoor
open Go.RowKit
section
variable {P:Program} {ops:Array Oper}
def ClosedM (ops:Array Oper) (m:Nat→Option Value):Prop:=∀ j o',ops[j]?=some o'→(m j).isSome=true→∀ e∈o'.after,Region.binds .any e=true→(m e.on).isSome=true
theorem ClosedM.upd {m:Nat→Option Value} {i:Nat} {o:Oper} (h:ClosedM ops m) (ho:ops[i]?=some o) (hd:∀ e∈o.after,Region.binds .any e=true→(m e.on).isSome=true) (v:Value):ClosedM ops (upd m i v):=by
 intro j o' ho' hj e he hbi
 by_cases hei:e.on=i
 ·rw [hei,upd_self];rfl
 ·rw [upd_ne m v hei]
  by_cases hji:j=i
  ·subst hji
   rw [ho] at ho'
   injection ho' with ho'
   subst ho'
   exact hd e he hbi
  ·rw [upd_ne m v hji] at hj
   exact h j o' ho' hj e he hbi
/-- the operations that may stand behind the store: late; all others stand ahead of it -/
theorem wp_region_store {id:Nat} {a0:Act} {w:World} {Q:Exit→Act→World→Prop} (S:Nat) (late:List Nat) (hm:P.follows .mixedOrders=true) (hok:regionOk ops a0.tmps.size=true) (Gs:List (Value→World→Prop)) (hst:∀ p∈Gs,Stays p)
  (hlt:∀ i,i<ops.size→i≠S→i ∉ late→∀ m,ClosedM ops m→(m S).isSome=true→(m i).isSome=true)
  (hstep:∀ i o,ops[i]?=some o→i≠S→i ∉ late→∀ (m:Nat→Option Value) (W:World),Below w.heap.size w W→m i=none→ClosedM ops m→(∀ e∈o.after,Region.binds .any e=true→∃ v,m e.on=some v∧Says Gs e.on v W) →
   ∀ (A:Act) (K:Act→World→Prop),A=frameM a0 ops m→(∀ v W',Below W.heap.size W W'→Says Gs i v W'→K (A.put o.dst v) W')→if Region.wanted o (yielded ops A.tmps)=true then o.wp P A W K Q else K (A.put o.dst undef) W)
  (hlate:∀ i o,ops[i]?=some o→i∈late→∀ (m:Nat→Option Value) (W W9:World),m i=none→(∀ e∈o.after,Region.binds .any e=true→e.on≠S→∃ v,m e.on=some v∧Says Gs e.on v W9) →
   ∀ (A:Act) (K:Act→World→Prop),A=frameM a0 ops m→(∀ v,(∀ W',Says Gs i v W')→K (A.put o.dst v) W)→if Region.wanted o (yielded ops A.tmps)=true then o.wp P A W K Q else K (A.put o.dst undef) W)
  (R:World→World→Prop)
  (hstore:∀ o,ops[S]?=some o→∀ (m:Nat→Option Value) (W:World),Below w.heap.size w W→m S=none→(∀ e∈o.after,Region.binds .any e=true→∃ v,m e.on=some v∧Says Gs e.on v W) →
   ∀ (A:Act) (K:Act→World→Prop),A=frameM a0 ops m→(∀ W',R W W'→K (A.put o.dst undef) W')→if Region.wanted o (yielded ops A.tmps)=true then o.wp P A W K Q else K (A.put o.dst undef) W)
  (hSlt:S<ops.size) (hSs:∀ v W,Says Gs S v W)
  (hend:∀ (m:Nat→Option Value) (W9 W:World),Below w.heap.size w W9→R W9 W→(∀ i,i<ops.size→i≠S→∃ v,m i=some v∧Says Gs i v W9)→m S=some undef→Q .normal (frameM a0 ops m) W) :
  (Code.region id ops true).wp P Q a0 w:=by
 have hsay:∀ i v W W',Says Gs i v W→Below W.heap.size W W'→Says Gs i v W':=by
  exact mZ38
 refine wp_region_inv hm hok (fun m W=>∃ W9,Below w.heap.size w W9∧(∀ i v,m i=some v→Says Gs i v W9)∧ClosedM ops m∧((m S=none∧W=W9)∨(m S=some undef∧R W9 W)))
  ⟨_,(Below.refl _ _).drew,fun _ _ h=>(by cases h),fun _ _ _ h=>(by cases h),.inl ⟨rfl,rfl⟩⟩ ?_ ?_
 ·intro i o ho m W hJ hmi hdeps A K hA hK
  obtain ⟨W9,hb,hs,hcl,hW⟩:=hJ
  have his:i<ops.size:=(Array.getElem?_eq_some_iff.1 ho).1
  have hdv:∀ e∈o.after,Region.binds .any e=true→∃ v,m e.on=some v∧Says Gs e.on v W9:=fun e he hbi=>by
   have:=hdeps e he hbi
   cases hme:m e.on with
   | none=>rw [hme] at this;cases this
   | some v=>exact ⟨v,rfl,hs _ _ hme⟩
  have hsu:∀ v W',Below W9.heap.size W9 W'→Says Gs i v W'→∀ j u,upd m i v j=some u→Says Gs j u W':=fun v W' hbw hS j u hu=>by
   by_cases hji:j=i
   ·subst hji;rw [upd_self] at hu;injection hu with hu;subst hu;exact hS
   ·rw [upd_ne m v hji] at hu;exact hsay j u W9 W' (hs j u hu) hbw
  by_cases hiS:i=S
  ·subst hiS
   rcases hW with ⟨_,rfl⟩ | ⟨h,_⟩
   ·refine hstore o ho m W hb hmi hdv A K hA fun W' hR=>hK undef W' ⟨W,hb,hsu undef W (Below.refl _ _) (hSs _ _),hcl.upd ho hdeps undef,.inr ⟨upd_self _ _ _,hR⟩⟩
   ·rw [hmi] at h;cases h
  ·by_cases hil:i∈late
   ·refine hlate i o ho hil m W W9 hmi (fun e he hbi _=>hdv e he hbi) A K hA fun v hv=>hK v W ⟨W9,hb,hsu v W9 (Below.refl _ _) (hv _),hcl.upd ho hdeps v,?_⟩
    rw [upd_ne m v (fun e=>hiS e.symm)]
    exact hW
   ·rcases hW with ⟨hn,rfl⟩ | ⟨h,_⟩
    ·refine hstep i o ho hiS hil m W hb hmi hcl hdv A K hA fun v W' hbw hS=>hK v W' ⟨W',below_step hb hbw,hsu v W' hbw hS,hcl.upd ho hdeps v,.inl ⟨?_,rfl⟩⟩
     rw [upd_ne m v (fun e=>hiS e.symm)]
     exact hn
    ·have:=hlt i his hiS hil m hcl (by rw [h];rfl)
     rw [hmi] at this
     cases this
 ·intro m W hJ hall
  obtain ⟨W9,hb,hs,hcl,hW⟩:=hJ
  have hS:=hall S hSlt
  rcases hW with ⟨hn,_⟩ | ⟨h,hR⟩
  ·rw [hn] at hS;cases hS
  ·refine hend m W9 W hb hR (fun i hi _=>?_) h
   have:=hall i hi
   cases hmi:m i with
   | none=>rw [hmi] at this;cases this
   | some v=>exact ⟨v,rfl,hs _ _ hmi⟩
end
end Go.Proofs.YtcgclpcocdappaaGreatDoor
namespace Go.Proofs.YtcgclpcocdappaaGreatDoor
open Go.RowKit
/-! ### Path -/
set_option maxRecDepth 100000 in
theorem path1_any (s:ByteArray) (w:World):Calls Tryz.prog 143 #[.string s] w fun e w'=>e=.returned (.bool (!nameB s.data.toList))∧Below w.heap.size w w':=by
 go_enter Tryz.func143,Tryz.ntmps143
 go_wp2_with fail
 refine (name_any s w).mono ?_
 rintro e w1 ⟨rfl,hb⟩
 go_wp2_with fail
 go_ret
 exact ⟨rfl,hb⟩
/-- the cell of internal/bytealg.MaxLen holds some number -/
def HasMax (w:World):Prop:=∃ m,w.cell? ⟨0,0,none⟩=some (.int .i64 m)
theorem HasMax.lt {w:World} (h:HasMax w):0<w.heap.size:=by
 obtain ⟨m,hm⟩:=h
 exact World.block_lt_of_cell? w _ hm
theorem HasMax.below {w w':World} (h:HasMax w) (hb:Below w.heap.size w w'):HasMax w':=by
 obtain ⟨m,hm⟩:=h
 exact ⟨m,(hb.cell (World.block_lt_of_cell? w _ hm)).trans hm⟩
theorem HasMax.of_shaped {w:World} (h:w.ShapedOpen Tryz.prog):HasMax w:=Go.Proofs.cell_of_shapedOpen_int (zero:=#[.int .i64 0]) (t:=3) h (of_decide_eq_true tZ2) tZ2 rfl tZ2 tZ2 Tryz.underlying3
theorem path_parts (s:ByteArray) (hne:s.data.toList≠[]):(decide (Lib.countB s ⟨#[47]⟩+1≤4) && !((Lib.splitB ⟨#[47]⟩ 0 (Lib.countB s ⟨#[47]⟩) s).any fun x=>!nameB x.data.toList))=pathB s.data.toList:=by
 have he:s.data.toList.isEmpty=false:=by
  cases h:s.data.toList with
  | nil=>exact absurd h hne
  | cons a r=>rfl
 unfold pathB
 rw [he,← splitB_parts s,List.length_map,splitB_len,List.all_map,List.all_eq_not_any_not]
 rfl
set_option maxRecDepth 100000 in
set_option maxHeartbeats 1000000 in
theorem path_any (s:ByteArray) (w:World) (hs:s.size≤4000000000) (hm:HasMax w) :
  Calls Tryz.prog 80 #[.string s] w fun e w'=>e=.returned (.bool (pathB s.data.toList))∧Below w.heap.size w w':=by
 obtain ⟨m,hm⟩:=hm
 have hsp:=Lib.hid (Tryz.strings_Split s ⟨#[47]⟩ m w tZ1 hm (Nat.le_refl _))
 have hlen:=Lib.hid (splitB_len s)
 have hpp:=Lib.hid (path_parts s)
 have htl:=Lib.hid (toList_data s)
 have hcount:=Lib.hid (Lib.countB_le ⟨#[47]⟩ (Nat.le_refl _) _ s (Nat.le_refl _))
 go_enter Tryz.func80,Tryz.ntmps80
 go_wp2_with fail
 ·exact mZ61
 ·have h0:s.toList.isEmpty=false:=by assumption
  rw [htl.out] at h0
  have h1:=Lib.hid (hpp.out (fun e=>by rw [e] at h0;cases h0))
  clear h0
  obtain ⟨L,hL⟩:∃ L,L=Lib.splitB ⟨#[47]⟩ 0 (Lib.countB s ⟨#[47]⟩) s:=⟨_,rfl⟩
  obtain ⟨N,hN⟩:∃ N,N=Lib.countB s ⟨#[47]⟩+1:=⟨_,rfl⟩
  have hN2:N≤4000000001:=by have:=hcount.out;omega
  rw [← hN] at hsp hlen h1
  rw [← hL] at hsp hlen h1
  have hsp:=hsp.out
  clear hcount hpp hL hN
  obtain ⟨b,hbe⟩:∃ b,b=L.any fun x=>!nameB x.data.toList:=⟨_,rfl⟩
  rw [← hbe] at h1
  obtain ⟨W,hW⟩:∃ W,W=w.alloc (Obj.cells (List.map Value.string L).toArray 9):=⟨_,rfl⟩
  have hbW:Below w.heap.size w W:=by rw [hW];exact Below.alloc (Below.refl _ _) (Nat.le_refl _) _
  have hrW:Reads W (w.heap.size+1) 1 (some ⟨w.heap.size,0,none⟩) N (L.map Value.string):=by
   rw [hW]
   exact Reads.lit w (List.map Value.string L).toArray 9 (by simp [hlen.out])
  have hsW:W.heap.size=w.heap.size+1:=by rw [hW];show (w.heap.push _).size=_;rw [Array.size_push]
  have hc:=Lib.hid (fiS_contains Value.string (fun x=>!nameB x.data.toList) L N hlen.out.symm (some ⟨w.heap.size,0,none⟩) N W (w.heap.size+1) hrW tZ1 tZ1 (fun x _ W=>path1_any x W))
  rw [← hbe] at hc
  rw [← hW] at hsp
  clear hW hbe
  refine hsp.mono ?_
  clear hsp
  rintro e w1 ⟨rfl,rfl⟩
  go_wp2_with fail
  ·have h4:(N:Int)≤4:=by assumption
   refine hc.out.mono ?_
   rintro e w2 ⟨rfl,hb2⟩
   go_wp2_with fail
   go_ret
   refine ⟨congrArg Ending.returned (congrArg Value.bool ?_),hbW.trans (hb2.mono tZ1)⟩
   rw [← h1.out,decide_eq_true (show N≤4 by omega)]
   rfl
  ·have h4:4<(N:Int):=by assumption
   go_ret
   refine ⟨congrArg Ending.returned (congrArg Value.bool ?_),hbW⟩
   rw [← h1.out,decide_eq_false (show ¬ N≤4 by omega)]
   rfl
end Go.Proofs.YtcgclpcocdappaaGreatDoor
namespace Go.Proofs.YtcgclpcocdappaaGreatDoor
open Go.RowKit
section
variable {P:Program}
theorem run_append_rowK (w:World) (t ty elem:TypeId) (k:Nat) (g sLen sCap:Nat) (a:Addr) (xLen xCap:Nat) (cur:List Value) (T:TypeId) (cs:List Value)
  (hu:P.underlying t=some (.slice elem)) (hs:(P.info? elem).map (·.size)=some k)
  (hg:w.heap[g]?=some (.cells cur.toArray T (0,0))) (hn:cs.length=xLen*k)
  (hsrc:∀ j v,cs[j]?=some v→w.cell? (a.add j)=some v) (hfit:sLen*k+cs.length≤cur.length) (hroom:sLen+xLen≤sCap) (h1:∀ v∈cs,v.oneCell'=true) :
  (Builtin.append_ #[t,t] ty #[.slice (some ⟨g,0,none⟩) sLen sCap,.slice (some a) xLen xCap]).run P w =
   .ok (.slice (some ⟨g,0,none⟩) (sLen+xLen) sCap) (w.setRow g (splice cur (sLen*k) cs).toArray):=by
 have hl:=run_loadCells_list (P:=P) w a cs hsrc
 have hst:=run_storeCells_at P g (sLen*k) T cs 0 cur.toArray w hg (by simpa using hfit) h1
 cases hq:P.info? elem with
 | none=>simp [hq] at hs
 | some i =>
  have hi:i.size=k:=by simpa [hq] using hs
  simp [Builtin.append_,run_underlying hu,Builtin.lenOf,Builtin.firstCells,sizeOf,typeInfo,hq,hi,← hn,hl,hroom,addr_add0,hst,splice]
theorem wp_appendK {o:Oper} {a:Act} {w:World} {K:Act→World→Prop} {Q:Exit→Act→World→Prop} (d s:Operand) (t:TypeId)
  (ho:o.op=.call { callee:=.builtin .append,args:=#[d,s],argTypes:=#[t,t] }) (elem:TypeId) (k:Nat) (hu:P.underlying t=some (.slice elem)) (hsz:(P.info? elem).map (·.size)=some k)
  (g sLen sCap:Nat) (ad:Addr) (xLen xCap:Nat) (hd:a.eval d=.slice (some ⟨g,0,none⟩) sLen sCap) (hs:a.eval s=.slice (some ad) xLen xCap)
  (cur:List Value) (T:TypeId) (hg:w.heap[g]?=some (.cells cur.toArray T (0,0))) (cs:List Value) (hn:cs.length=xLen*k)
  (hsrc:∀ j v,cs[j]?=some v→w.cell? (ad.add j)=some v) (hfit:sLen*k+cs.length≤cur.length) (hroom:sLen+xLen≤sCap) (h1:∀ v∈cs,v.oneCell'=true)
  (h:∀ w',Hid (w'.heap[g]?=some (.cells (splice cur (sLen*k) cs).toArray T (0,0)))→w.grownBy w' (some g)→K (a.put o.dst (.slice (some ⟨g,0,none⟩) (sLen+xLen) sCap)) w'):o.wp P a w K Q:=by
 have hrun:=run_append_rowK (P:=P) w t o.type elem k g sLen sCap ad xLen xCap cur T cs hu hsz hg hn hsrc hfit hroom h1
 unfold Oper.wp
 simp [execOp,ho,resolve,invoke,builtin,hd,hs,hrun,Result.andThen]
 exact h _ (show _=_ by simpa [splice] using setRow_heap w g _ _ T _ hg) (grown_setRow _)
theorem step_appendK {ops:Array Oper} {o:Oper} {a:Act} {w:World} {K:Act→World→Prop} {Q:Exit→Act→World→Prop} {E:Prop} (hgd:o.guard=none) (d s:Operand) (t:TypeId)
  (ho:o.op=.call { callee:=.builtin .append,args:=#[d,s],argTypes:=#[t,t] }) (elem:TypeId) (k:Nat) (hu:P.underlying t=some (.slice elem)) (hsz:(P.info? elem).map (·.size)=some k)
  (g sLen sCap:Nat) (ad:Addr) (xLen xCap:Nat) (hd:a.eval d=.slice (some ⟨g,0,none⟩) sLen sCap) (hs:a.eval s=.slice (some ad) xLen xCap)
  (cur:List Value) (T:TypeId) (hg:w.heap[g]?=some (.cells cur.toArray T (0,0))) (cs:List Value) (hn:cs.length=xLen*k)
  (hsrc:∀ j v,cs[j]?=some v→w.cell? (ad.add j)=some v) (hfit:sLen*k+cs.length≤cur.length) (hroom:sLen+xLen≤sCap) (h1:∀ v∈cs,v.oneCell'=true)
  (h:∀ w',Hid (w'.heap[g]?=some (.cells (splice cur (sLen*k) cs).toArray T (0,0)))→w.grownBy w' (some g)→K (a.put o.dst (.slice (some ⟨g,0,none⟩) (sLen+xLen) sCap)) w') :
  if Region.wanted o (yielded ops a.tmps)=true then Oper.wp P o a w K Q else E:=by
 have hw:Region.wanted o (yielded ops a.tmps)=true:=by simp [Region.wanted,hgd]
 rw [if_pos hw]
 exact wp_appendK d s t ho elem k hu hsz g sLen sCap ad xLen xCap hd hs cur T hg cs hn hsrc hfit hroom h1 h
end
end Go.Proofs.YtcgclpcocdappaaGreatDoor
namespace Go.Proofs.YtcgclpcocdappaaGreatDoor
open Go.RowKit
section
variable {P:Program} {ops:Array Oper}
def depsOf (ops:Array Oper) (i:Nat):List Nat:=match ops[i]? with
 | some o=>(o.after.toList.filter fun e=>Region.binds .any e).map (·.on)
 | none=>[]
def reachL (ops:Array Oper):Nat→List Nat→List Nat
 | 0,l=>l
 | f+1,l=>reachL ops f (l++(l.flatMap (depsOf ops)).filter fun i=>!l.contains i).eraseDups
theorem reach_some {m:Nat→Option Value} (hcl:∀ j o',ops[j]?=some o'→(m j).isSome=true→∀ e∈o'.after,Region.binds .any e=true→(m e.on).isSome=true) (f:Nat):∀ l:List Nat,(∀ i∈l,(m i).isSome=true)→∀ i∈reachL ops f l,(m i).isSome=true:=by
 induction f with
 | zero=>intro l h;exact h
 | succ f ih =>
  intro l h
  refine ih _ (fun i hi=>?_)
  rw [List.mem_eraseDups,List.mem_append] at hi
  rcases hi with hi | hi
  ·exact h i hi
  ·obtain ⟨hi,_⟩:=List.mem_filter.1 hi
   obtain ⟨j,hj,hij⟩:=List.mem_flatMap.1 hi
   unfold depsOf at hij
   cases ho:ops[j]? with
   | none=>rw [ho] at hij;cases hij
   | some o =>
    rw [ho] at hij
    obtain ⟨e,he,rfl⟩:=List.mem_map.1 hij
    obtain ⟨he,hb⟩:=List.mem_filter.1 he
    exact hcl j o ho (h j hj) e (Array.mem_toList_iff.1 he) hb
end
end Go.Proofs.YtcgclpcocdappaaGreatDoor
namespace Go.Proofs.YtcgclpcocdappaaGreatDoor
open Go.RowKit
abbrev GT:=BS×BS×Int
abbrev GL:=List GT
def cmpG (a b c d:BS):Int:=if cmpS a c=0 then cmpS b d else cmpS a c
theorem cmpG_neg (a b c d:BS):cmpG a b c d<0↔Op.bytesLess a c=true∨a=c∧Op.bytesLess b d=true:=by
 unfold cmpG
 by_cases h:cmpS a c=0
 ·rw [if_pos h,cmpS_neg]
  rw [cmpS_zero] at h
  subst h
  rw [bl_irrefl]
  simp
 ·rw [if_neg h,cmpS_neg]
  rw [cmpS_zero] at h
  simp [h]
def grantB (g:GT):Bool:=nameB g.1 && pathB g.2.1 && decide (1≤g.2.2) && decide (g.2.2≤255)
def grantsFrom:Option GT→GL→Bool
 | _,[]=>true
 | p,x :: l=>grantB x && (match p with | none=>true | some q=>decide (cmpG q.1 q.2.1 x.1 x.2.1<0)) && grantsFrom (some x) l
def grantsB (l:GL):Bool:=decide (l.length≤16) && grantsFrom none l
def grantsE (l:GL):Int:=if grantsB l=true then 0 else 9
theorem grantsFrom_cons (p:Option GT) (x:GT) (l:GL):grantsFrom p (x :: l)=(grantB x && (match p with | none=>true | some q=>decide (cmpG q.1 q.2.1 x.1 x.2.1<0)) && grantsFrom (some x) l):=by
 cases p <;> rfl
end Go.Proofs.YtcgclpcocdappaaGreatDoor
namespace Go.Proofs.YtcgclpcocdappaaGreatDoor
open Go.RowKit
set_option maxRecDepth 100000 in
set_option maxHeartbeats 2000000 in
theorem rcheck_any (l:BL) (n:Nat) (hnl:n=l.length) (A:Option Addr) (c:Nat) (w:World) (B:Nat) (hr:Reads w B 2 A n (bcells l)) (hB:B≤w.heap.size) (hn:n≤140737488351232) :
  Calls Tryz.prog 117 #[.slice A n c] w (CheckBk w (okE l)):=by
 have HN:=Lib.hid hnl
 clear hnl
 go_enter Tryz.func117,Tryz.ntmps117
 go_wp2_with fail
 go_loopw [3] (fun j wr=>∃ k:Nat,k≤n∧j=.int .i64 (k:Int)∧Hid (okL l=okFrom (prevAt l k) (l.drop k))∧Below w.heap.size w wr) (fun j _=>n-(intOf j).toNat)
 case atStart=>exact ⟨0,Nat.zero_le _,rfl,rfl,Below.refl _ _⟩
 case round =>
  obtain ⟨k,hk,rfl,hok,hbw⟩:=hrel
  by_cases hlt:k<n
  ·have hrw:=hr.below (hbw.mono hB)
   obtain ⟨ad,rfl,hadB,c0,c1⟩:=hrw.blk2 HN.out hlt
   have hki:(k:Int)<(n:Int):=tZ1
   have hkl:k<l.length:=tZ7
   obtain ⟨x,hx⟩:∃ x,x=l[k]'hkl:=⟨_,rfl⟩
   rw [← hx] at c0 c1
   have hdr:=List.drop_eq_getElem_cons hkl
   rw [← hx] at hdr
   have HX:=Lib.hid hx
   have HDR:=Lib.hid hdr
   obtain ⟨xi,xs⟩:=x
   simp only at c0 c1
   have hbad:Hid ((xi<0∨1024≤xi∨xs.length≠16∨(∃ y,prevAt l k=some y∧xi≤y))→okE l=9):=by
    exact mZ11
   have hgood:Hid ((0≤xi∧xi<1024∧xs.length=16∧(∀ y,prevAt l k=some y→y<xi))→okL l=okFrom (prevAt l (k+1)) (l.drop (k+1))):=by
    exact mZ10
   clear hx hdr hok
   by_cases g1:xi<0
   ·have HB:=Lib.hid (hbad.out (.inl g1))
    clear hr hrw hbad hgood
    exact mZ62
   by_cases g2:1024≤xi
   ·have HB:=Lib.hid (hbad.out (.inr (.inl g2)))
    have d1:decide (xi<0)=false:=tZ6
    have d2:decide (1024≤xi)=true:=tZ6
    clear hr hrw hbad hgood g1 g2
    exact mZ62
   by_cases g3:xs.length=16
   ·have g1':0≤xi:=tZ1
    have g2':xi<1024:=tZ1
    have g3a:((xs.length:Int) == 16)=true:=by simp [g3]
    have g3b:((xs.length:Int) != 16)=false:=by simp [g3]
    have d1:decide (xi<0)=false:=tZ6
    have d2:decide (1024≤xi)=false:=tZ6
    rcases Nat.eq_zero_or_pos k with h0 | h0
    ·have HG:=Lib.hid (hgood.out ⟨g1',g2',g3,fun y hy=>by subst h0;cases hy⟩)
     have d4:decide ((0:Int)<(k:Int))=false:=tZ6
     have d4':decide (0<k)=false:=tZ6
     have H0:=Lib.hid h0
     clear hr hrw hbad hgood g1 g2 g3 h0
     go_wp2_with fail
     go_big_quiet (fail)
     exact mZ63
    ·have d4:decide ((0:Int)<(k:Int))=true:=tZ6
     have d4':decide (0<k)=true:=tZ6
     have hk1l:k-1<l.length:=tZ1
     obtain ⟨y,hy⟩:∃ y,y=(l[k-1]'hk1l).1:=⟨_,rfl⟩
     have hpv:prevAt l k=some y:=by
      exact mZ9
     have hcp:=(hrw.blk2 HN.out (k:=k-1) tZ1)
     obtain ⟨ad2,e2,-,c2,-⟩:=hcp
     injection e2 with e2
     subst e2
     rw [← hy] at c2
     have i1:(0:Int)≤(k:Int)-1:=tZ1
     have i2:(k:Int)-1<(n:Int):=tZ1
     have i3:IntKind.i64.wrap ((k:Int)-1)=(k:Int)-1:=IntWalk.i64_in _ tZ1
     have i4:((k:Int)-1).toNat=k-1:=tZ1
     by_cases g5:y<xi
     ·have HG:=Lib.hid (hgood.out ⟨g1',g2',g3,fun y' hy'=>by rw [hpv] at hy';cases hy';exact g5⟩)
      have d5:decide (xi≤y)=false:=tZ6
      clear hr hrw hbad hgood g1 g2 g3 h0 hpv hy g5
      go_wp2_with fail
      go_big_quiet (fail)
      clear i3 i4
      exact mZ63
     ·have HB:=Lib.hid (hbad.out (.inr (.inr (.inr ⟨y,hpv,by omega⟩))))
      have d5:decide (xi≤y)=true:=tZ6
      clear hr hrw hbad hgood g1 g2 g3 h0 hpv hy g5
      go_wp2_with fail
      go_big_quiet (fail)
      clear i3 i4
      go_wp2_with fail
      go_ret
      exact ⟨by rw [HB.out];rfl,below_drewN hbw nq⟩
   ·have g3a:((xs.length:Int) == 16)=false:=tZ6
    have g3b:((xs.length:Int) != 16)=true:=tZ6
    have g1':0≤xi:=tZ1
    have g2':xi<1024:=tZ1
    have HB:=Lib.hid (hbad.out (.inr (.inr (.inl g3))))
    have d1:decide (xi<0)=false:=tZ6
    have d2:decide (1024≤xi)=false:=tZ6
    clear hr hrw hbad hgood g1 g2 g3
    exact mZ62
  ·obtain rfl:k=n:=tZ1
   have HF:Hid (okE l=0):=by
    exact mZ5
   clear hok hr
   exact mZ4
theorem posF_at (l:BL) (t:Int) (k:Nat) (hk:k≤l.length) (h1:∀ x∈l.take k,x.1<t) (h2:∀ x,l[k]?=some x→t≤x.1):posF (cfB t) l=k:=by
 refine posF_eq (cfB t) l k hk (fun j x hj hx=>?_) (fun x hx=>?_)
 ·unfold cfB
  rw [cmpI_neg]
  exact h1 x (List.mem_of_getElem? (by rw [List.getElem?_take,if_pos hj];exact hx))
 ·have:=h2 x hx
  have h3:=cmpI_neg x.1 t
  unfold cfB
  rcases Int.lt_or_le (cmpI x.1 t) 0 with h | h
  ·have:=h3.1 h;omega
  ·exact h
theorem atF_at (l:BL) (t:Int) (k:Nat) (hp:posF (cfB t) l=k) (x:Int×List UInt8) (hx:l[k]?=some x):atF (cfB t) l=(x.1 == t):=by
 unfold atF
 rw [hp,hx]
 show (cmpI x.1 t == 0)=_
 rw [Bool.eq_iff_iff]
 simp [cmpI_zero]
theorem atF_end (l:BL) (t:Int) (k:Nat) (hp:posF (cfB t) l=k) (hx:l.length≤k):atF (cfB t) l=false:=by
 unfold atF
 rw [hp,List.getElem?_eq_none hx]
 rfl
set_option maxRecDepth 100000 in
set_option maxHeartbeats 2000000 in
theorem rput2_any (l:BL) (n:Nat) (hnl:n=l.length) (A:Option Addr) (c:Nat) (hnc:n≤c) (i:Int) (d:List UInt8) (w:World) (B:Nat) (hr:Reads w B 2 A n (bcells l)) (hB:B≤w.heap.size) (hn:n≤5000000000000) :
  Calls Tryz.prog 50 #[.slice A n c,.int .i64 i,.string ⟨d.toArray⟩] w (PutPost w l i d):=by
 have hck:=rcheck_any l n hnl A c w B hr hB tZ1
 by_cases hok:okL l=true
 ·have h1:okE l=0:=tZ104
  rw [h1] at hck
  by_cases hi:0≤i∧i<1024
  ·obtain ⟨hi1,hi2⟩:=hi
   by_cases hdl:d.length=16
   ·have hpe:putE l i d=0:=tZ94
    have hs:=okL_small l hok
    obtain ⟨i0,hi0,hz0,hz1,hz2⟩:=info_parts Tryz.infoB
    have HPE:=Lib.hid hpe
    have HASC:=Lib.hid (okL_asc l hok)
    have HN:=Lib.hid hnl
    have g3a:((d.length:Int) == 16)=true:=by simp [hdl]
    have g3b:((d.length:Int) != 16)=false:=by simp [hdl]
    have hn1:n≤1024:=tZ1
    clear hnl hdl hpe h1 hok hs
    go_enter Tryz.func50,Tryz.ntmps50
    go_wp2_with fail
    refine hck.mono ?_
    clear hck
    rintro e w1 ⟨rfl,hb1⟩
    go_wp2_with fail
    clear g3a g3b
    go_loopw [8,9] (fun v j wr=>∃ k:Nat,k≤n∧j=.int .i64 (k:Int)∧Hid (∀ x∈l.take k,x.1<i)∧wr.ownsRow w1.heap.size 75 2 v k (bcells (l.take k))∧Below w.heap.size w wr∧Below w1.heap.size w1 wr) (fun _ j _=>n-(intOf j).toNat)
    case atStart=>exact ⟨0,Nat.zero_le _,rfl,(show ∀ x∈_,_ by simp),World.ownsRow_nil _ _ _ _,hb1,Below.refl _ _⟩
    case round =>
     obtain ⟨k,hk,rfl,hlt,hown,hbw,hbw1⟩:=hrel
     have hsz:=hbw.size
     have hsz1:=hbw1.size
     obtain ⟨A1,c1,rfl,_,_,_⟩:=own_form hown
     by_cases hkn:k<n
     ·have hrw:=hr.below (hbw.mono hB)
      obtain ⟨ad,rfl,hadB,e0,e1⟩:=hrw.blk2 HN.out hkn
      have hkl:k<l.length:=tZ7
      obtain ⟨x,hx⟩:∃ x,x=l[k]'hkl:=⟨_,rfl⟩
      rw [← hx] at e0 e1
      have htk:=List.take_succ_eq_append_getElem hkl
      rw [← hx] at htk
      have HX:=Lib.hid (show l[k]?=some x by rw [hx];exact List.getElem?_eq_getElem _)
      have HTK:=Lib.hid htk
      obtain ⟨xi,xs⟩:=x
      simp only at e0 e1
      have hki:(k:Int)<(n:Int):=tZ1
      clear hx htk
      by_cases hxi:xi<i
      ·have HLT:Hid (∀ x∈l.take (k+1),x.1<i):=by
        intro x hx
        rw [HTK.out,List.mem_append] at hx
        rcases hx with hx | hx
        ·exact hlt.out x hx
        ·simp at hx;subst hx;exact hxi
       have hpush:=hown
       clear hlt hrw hr
       go_wp2_with (at_builtin;(refine wpList_push _ rfl (.tmp 35) (.tmp 40) 38 rfl w1.heap.size 75 i0 (.agg #[.int .i64 0,.string ByteArray.empty]) 2 24 Tryz.underlying38 hi0 hz0 hz1 hz2 rfl tZ4 (.slice A1 k c1) k (bcells (l.take k)) rfl hpush 1 #[.int .i64 xi,.string ⟨xs.toArray⟩] 75 rfl rfl tZ5 tZ9 tZ1 hsz1 ?_);intro v2 w2 hown2 hb2 hg2)
       go_roundw
       case rel =>
        refine ⟨k+1,by omega,by go_num,HLT,?_,hbw.trans (hb2.mono hb1.size),hbw1.trans hb2⟩
        rw [HTK.out,bcells_append]
        exact hown2
       case measure=>simp [intOf];omega
      ·have hle:i≤xi:=tZ1
       have hadw:(ad.add (k*2)).block<w1.heap.size:=by rw [block_of_add];have:=hb1.size;omega
       have hbE:=Lib.hid (fun w2 (hb2:Below w1.heap.size wr w2)=>hb2.cell (p:=ad.add (k*2)) hadw)
       have hpos:=posF_at l i k tZ1 hlt.out (fun x hx=>by have:=HX.out;rw [hx] at this;cases this;exact hle)
       have hatk:=atF_at l i k hpos (xi,xs) HX.out
       by_cases hxe:xi=i
       ·have HFIN:Hid (putL11 l i d=l.take k++[(i,d)]++l.drop (k+1)):=by
         show _=_
         unfold putL11
         rw [hpos,hatk,if_pos (by simp [hxe])]
        obtain rfl:i=xi:=hxe.symm
        clear hlt hrw hpos hatk hle hxi hxe
        by_cases hcj:c=k+1
        ·have hrest:=fun w2 (hb2:Below w1.heap.size w1 w2)=>(hr.below ((hb1.trans (hb2.mono hb1.size)).mono hB)).cut (k:=k+1) tZ1 hnc
         simp only [if_pos hcj] at hrest
         exact mZ66
        ·have hrest:=fun w2 (hb2:Below w1.heap.size w1 w2)=>(hr.below ((hb1.trans (hb2.mono hb1.size)).mono hB)).cut (k:=k+1) tZ1 hnc
         simp only [if_neg hcj] at hrest
         exact mZ66
       ·have HFIN:Hid (putL11 l i d=l.take k++[(i,d)]++l.drop k):=by
         show _=_
         unfold putL11
         rw [hpos,hatk,if_neg (by simp [hxe])]
         rfl
        have hxb:(xi == i)=false:=by simp [hxe]
        clear hlt hrw hpos hatk hxe
        by_cases hcj:c=k
        ·omega
        ·have hrest:=fun w2 (hb2:Below w1.heap.size w1 w2)=>(hr.below ((hb1.trans (hb2.mono hb1.size)).mono hB)).cut (k:=k) tZ1 hnc
         simp only [if_neg hcj] at hrest
         clear hr
         go_wp2_with (first
          | (at_builtin;(refine wpList_push _ rfl (.tmp 44) (.tmp 48) 38 rfl w1.heap.size 75 i0 (.agg #[.int .i64 0,.string ByteArray.empty]) 2 24 Tryz.underlying38 hi0 hz0 hz1 hz2 rfl tZ4 (.slice A1 k c1) k (bcells (l.take k)) rfl hown 1 #[.int .i64 i,.string ⟨d.toArray⟩] 75 rfl rfl tZ5 tZ9 tZ1 hsz1 ?_);intro v2 w2 hown2 hb2 hg2;have hbw2:=hbw1.trans hb2;have hrest2:=hrest w2 hbw2;  have e0b:=(hbE.out w2 hb2).trans e0;clear e0;clear hrest;obtain ⟨A2,c2,rfl,_,_,_⟩:=own_form hown2)
          | (at_builtin;(refine wpList_append_any _ rfl (.tmp 65) (.tmp 68) _ rfl w1.heap.size 75 i0 _ 2 24 Tryz.underlying38 hi0 hz0 hz1 hz2 rfl tZ1 (.slice A2 (k+1) c2) (k+1) _ rfl hown2 B _ _ _ _ rfl hrest2 (fun u hu=>bcells_one l u (List.mem_of_mem_drop hu)) tZ9 tZ1 hbw2.size ?_);intro v3 w3 hown3 hg3 _))
         go_ret2
         refine ⟨v3,by rw [HPE.out];rfl,?_,hb1.trans (hbw2.mono hb1.size) |>.grown hg3 tZ103 (fun r hr=>by have:=(hown2.lt r hr).1;have:=hb1.size;omega)⟩
         rw [if_pos HPE.out,HFIN.out]
         have e:(l.take k++[(i,d)]++l.drop (k)).length=k+1+(n-(k)):=tZ23
         rw [e,bcells_append,bcells_append,bcells_drop]
         exact own_mono hown3 hb1.size
     ·have hnk:n≤k:=tZ1
      have hpos:=posF_at l i k tZ7 hlt.out (fun x hx=>by rw [List.getElem?_eq_none tZ7] at hx;cases hx)
      have hatk:=atF_end l i k hpos tZ7
      have HFIN:Hid (putL11 l i d=l.take k++[(i,d)]++l.drop k):=by
       show _=_
       unfold putL11
       rw [hpos,hatk,if_neg tZ3]
       rfl
      clear hlt hpos hatk
      by_cases hcj:c=k
      ·exact mZ65
      ·exact mZ65
   ·have hpe:putE l i d=5:=tZ95
    have g3a:((d.length:Int) == 16)=false:=tZ6
    have g3b:((d.length:Int) != 16)=true:=tZ6
    have HPE:=Lib.hid hpe
    clear hpe hok h1 hdl hnl hr
    exact mZ64
  ·have hpe:putE l i d=4:=tZ153
   have HPE:=Lib.hid hpe
   clear hpe hok h1 hnl hr
   by_cases hi0:i<0
   ·clear hi
    exact mZ64
   ·have hi1:0≤i:=tZ1
    have hi2:1024≤i:=tZ1
    clear hi hi0
    exact mZ64
 ·have h1:okE l=9:=tZ105
  rw [h1] at hck
  have hpe:putE l i d=9:=by unfold putE;rw [if_neg hok]
  have HPE:=Lib.hid hpe
  clear hpe hok h1 hnl hr
  exact mZ64
end Go.Proofs.YtcgclpcocdappaaGreatDoor
