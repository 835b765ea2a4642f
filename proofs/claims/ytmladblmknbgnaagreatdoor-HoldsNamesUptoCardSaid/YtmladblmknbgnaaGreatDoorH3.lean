/-
  'copy' at elements of several cells into a row that is known whole; the plain facts of what slices.Insert and slices.Delete make of a row. names.odd, slices.IndexFunc and ContainsFunc (octets), names.Name. The page's Check of contents, as a callee that only draws. A region that draws its order and only reads and makes memory: what is said of each operation's value holds whatever comes behind it. A predicate that is a function value; elements of four and of five cells. Properties, one list over the other: the plain law. A slice literal of one wide struct: all its cells at once. A slice: as it lies in memory, and as it reads. A region's class walk, with the slots as a list: lighter steps. A wide store into a block that has been made before. A wide struct's load in a region that is walked by a class of worlds. A world for the witness: the settled one, utf8's two tables holding what their initialisers lay. slices.Insert of one element into a row of the call's own, by its contract.
-/
import Derived.Test.YtmladblmknbgnaaGreatDoorH0
import Derived.Test.YtmladblmknbgnaaGreatDoorH2
import Derived.Lib.Overlaps
import Derived.Lib.AppendZerosOnto
import Derived.Deep.RegionLaw
import Derived.Test.YtmladblmknbgnaaGreatDoorH1
import Derived.Test.YtmladblmknbgnaaGreatDoorRows
import Derived.Handy
import Derived.Sort.Walk0
import Derived.Sort.KeysCollected
import Derived.Great.BuildSlice
import Derived.Test.YtmladblmknbgnaaGreatDoorCards
import Derived.Test.YtmladblmknbgnaaGreatDoorTie
import Derived.Deep.DeepHandedRow
import Derived.Lib.LaidTab
import Derived.Lib.AppendZeros
namespace Go.Proofs.YtmladblmknbgnaaGreatDoor
open Go.RowKit
section
variable {P:Program}
theorem run_copy_rowK (w:World) (dT sT ty elem:TypeId) (k:Nat) (g o dLen dCap:Nat) (a:Addr) (sLen sCap m:Nat) (cur:Array Value) (t:TypeId) (cs:List Value)
  (hu:P.underlying dT=some (.slice elem)) (hs:(P.info? elem).map (·.size)=some k)
  (hg:w.heap[g]?=some (.cells cur t (0,0))) (hm:m=Nat.min sLen dLen) (hn:cs.length=m*k)
  (hsrc:∀ j v,cs[j]?=some v→w.cell? (a.add j)=some v) (hfit:o+cs.length≤cur.size) (h1:∀ v∈cs,v.oneCell'=true) :
  (Builtin.copy_ #[dT,sT] ty #[.slice (some ⟨g,o,none⟩) dLen dCap,.slice (some a) sLen sCap]).run P w =
   .ok (goInt m) (w.setRow g (cur.toList.take o++cs++cur.toList.drop (o+cs.length)).toArray):=by
 have hl:=run_loadCells_list (P:=P) w a cs hsrc
 have hst:=run_storeCells_at P g o t cs 0 cur w hg (by simpa using hfit) h1
 cases hq:P.info? elem with
 | none=>simp [hq] at hs
 | some i =>
  have hi:i.size=k:=by simpa [hq] using hs
  simp [Builtin.copy_,run_underlying hu,Builtin.lenOf,Builtin.firstCells,sizeOf,typeInfo,hq,hi,← hm,← hn,hl,hst]
theorem grown_setRow {w:World} {g:Nat} (cs:Array Value):w.grownBy (w.setRow g cs) (some g) :=
 ⟨rfl,rfl,rfl,by simp [World.setRow],fun k hk hne=>setRow_other w g k cs (by intro e;exact hne (by rw [e]))⟩
theorem grown_drew {w w':World} {r:Option Nat} (h:w.drew.grownBy w' r):w.grownBy w' r:=⟨h.os,h.tape,h.output,h.size,h.block⟩
theorem wp_copyK {o:Oper} {a:Act} {w:World} {K:Act→World→Prop} {Q:Exit→Act→World→Prop} (d s:Operand) (dT sT:TypeId)
  (ho:o.op=.call { callee:=.builtin .copy,args:=#[d,s],argTypes:=#[dT,sT] }) (elem:TypeId) (k:Nat) (hu:P.underlying dT=some (.slice elem)) (hsz:(P.info? elem).map (·.size)=some k)
  (g off dLen dCap:Nat) (ad:Addr) (sLen sCap m:Nat) (hd:a.eval d=.slice (some ⟨g,off,none⟩) dLen dCap) (hs:a.eval s=.slice (some ad) sLen sCap)
  (cur:List Value) (t:TypeId) (hg:w.heap[g]?=some (.cells cur.toArray t (0,0))) (cs:List Value) (hm:m=Nat.min sLen dLen) (hn:cs.length=m*k)
  (hsrc:∀ j v,cs[j]?=some v→w.cell? (ad.add j)=some v) (hfit:off+cs.length≤cur.length) (h1:∀ v∈cs,v.oneCell'=true)
  (h:∀ w',Hid (w'.heap[g]?=some (.cells (splice cur off cs).toArray t (0,0)))→w.grownBy w' (some g)→K (a.put o.dst (goInt m)) w'):o.wp P a w K Q:=by
 have hrun:=run_copy_rowK (P:=P) w dT sT o.type elem k g off dLen dCap ad sLen sCap m cur.toArray t cs hu hsz hg hm hn hsrc (by simpa using hfit) h1
 unfold Oper.wp
 simp [execOp,ho,resolve,invoke,builtin,hd,hs,hrun,Result.andThen]
 exact h _ (show _=_ by simpa [splice] using setRow_heap w g _ _ t _ hg) (grown_setRow _)
theorem wpList_copyK {w:World} {ops:Array Oper} {rest:List Oper} {o:Oper} {a:Act} {Q:Exit→Act→World→Prop} (hgd:o.guard=none) (d s:Operand) (dT sT:TypeId)
  (ho:o.op=.call { callee:=.builtin .copy,args:=#[d,s],argTypes:=#[dT,sT] }) (elem:TypeId) (k:Nat) (hu:P.underlying dT=some (.slice elem)) (hsz:(P.info? elem).map (·.size)=some k)
  (g off dLen dCap:Nat) (ad:Addr) (sLen sCap m:Nat) (hd:a.eval d=.slice (some ⟨g,off,none⟩) dLen dCap) (hs:a.eval s=.slice (some ad) sLen sCap)
  (cur:List Value) (t:TypeId) (hg:w.heap[g]?=some (.cells cur.toArray t (0,0))) (cs:List Value) (hm:m=Nat.min sLen dLen) (hn:cs.length=m*k)
  (hsrc:∀ j v,cs[j]?=some v→w.cell? (ad.add j)=some v) (hfit:off+cs.length≤cur.length) (h1:∀ v∈cs,v.oneCell'=true)
  (h:∀ w',Hid (w'.heap[g]?=some (.cells (splice cur off cs).toArray t (0,0)))→w.grownBy w' (some g)→wpList P ops Q rest (a.put o.dst (goInt m)) w'):wpList P ops Q (o :: rest) a w :=
 wpList_plain hgd fun _ hK=>wp_copyK d s dT sT ho elem k hu hsz g off dLen dCap ad sLen sCap m hd hs cur t hg cs hm hn hsrc hfit h1 (fun w' h1 h2=>hK _ _ (h w' h1 h2))
theorem step_copyK {ops:Array Oper} {o:Oper} {a:Act} {w:World} {K:Act→World→Prop} {Q:Exit→Act→World→Prop} {E:Prop} (hgd:o.guard=none) (d s:Operand) (dT sT:TypeId)
  (ho:o.op=.call { callee:=.builtin .copy,args:=#[d,s],argTypes:=#[dT,sT] }) (elem:TypeId) (k:Nat) (hu:P.underlying dT=some (.slice elem)) (hsz:(P.info? elem).map (·.size)=some k)
  (g off dLen dCap:Nat) (ad:Addr) (sLen sCap m:Nat) (hd:a.eval d=.slice (some ⟨g,off,none⟩) dLen dCap) (hs:a.eval s=.slice (some ad) sLen sCap)
  (cur:List Value) (t:TypeId) (hg:w.heap[g]?=some (.cells cur.toArray t (0,0))) (cs:List Value) (hm:m=Nat.min sLen dLen) (hn:cs.length=m*k)
  (hsrc:∀ j v,cs[j]?=some v→w.cell? (ad.add j)=some v) (hfit:off+cs.length≤cur.length) (h1:∀ v∈cs,v.oneCell'=true)
  (h:∀ w',Hid (w'.heap[g]?=some (.cells (splice cur off cs).toArray t (0,0)))→w.grownBy w' (some g)→K (a.put o.dst (goInt m)) w') :
  if Region.wanted o (yielded ops a.tmps)=true then Oper.wp P o a w K Q else E:=by
 have hw:Region.wanted o (yielded ops a.tmps)=true:=by simp [Region.wanted,hgd]
 rw [if_pos hw]
 exact wp_copyK d s dT sT ho elem k hu hsz g off dLen dCap ad sLen sCap m hd hs cur t hg cs hm hn hsrc hfit h1 h
end
/-! ### what becomes of a row -/
theorem take_shift {cur xs N:List Value} {a b c:Nat} (hx:cur.take c=xs) (ha:a≤c) (hN:N.length=b) (hl:c+b≤cur.length) :
  (splice (splice cur (a+b) (xs.drop a)) a N).take (c+b)=xs.take a++N++xs.drop a:=by
 have hxl:xs.length=c:=by rw [← hx,List.length_take];omega
 have e1:splice cur (a+b) (xs.drop a)=cur.take (a+b)++(xs.drop a++cur.drop (c+b)):=by
  unfold splice
  rw [List.length_drop,hxl,show a+b+(c-a)=c+b by omega]
 have e2:(splice cur (a+b) (xs.drop a)).take a=xs.take a:=by
  rw [e1,List.take_append_of_le_length (by rw [List.length_take];omega),List.take_take,Nat.min_eq_left (by omega),← hx,List.take_take,Nat.min_eq_left ha]
 have e3:(splice cur (a+b) (xs.drop a)).drop (a+N.length)=xs.drop a++cur.drop (c+b):=by
  rw [e1,hN,List.drop_append_of_le_length (by rw [List.length_take];omega),List.drop_eq_nil_of_le (by rw [List.length_take];omega),List.nil_append]
 have e4:splice (splice cur (a+b) (xs.drop a)) a N=(xs.take a++N++xs.drop a)++cur.drop (c+b):=by
  show _++(N++_)=_
  rw [e2,e3]
  simp
 rw [e4,List.take_append_of_le_length (by simp;omega),List.take_of_length_le (by simp;omega)]
theorem take_grow {ROW X1 N X2:List Value} {a b c:Nat} (h1:ROW.take a=X1) (ha:X1.length=a) (hN:N.length=b) (h2:X2.length=c) :
  (splice (splice ROW a N) (a+b) X2).take (a+b+c)=X1++N++X2:=by
 have e1:splice ROW a N=(X1++N)++ROW.drop (a+b):=by
  show _++(N++_)=_
  rw [h1,hN];simp
 have e2:splice (splice ROW a N) (a+b) X2=(X1++N++X2)++(ROW.drop (a+b)).drop c:=by
  show _++(X2++_)=_
  rw [e1,h2,List.take_append_of_le_length (by simp;omega),List.take_of_length_le (by simp;omega),List.drop_append,List.drop_eq_nil_of_le (by simp;omega),List.nil_append]
  simp only [List.length_append,ha,hN]
  rw [show a+b+c-(a+b)=c by omega]
  simp
 rw [e2,List.take_append_of_le_length (by simp;omega),List.take_of_length_le (by simp;omega)]
theorem own_of_row {w:World} {base g n cap sz:Nat} {E:TypeId} {cur:List Value} {xs:List Value} (hg:w.heap[g]?=some (.cells cur.toArray E (0,0))) (hb:base≤g) (hn:n≤cap) (hm:cap≤maxLen) (hl:cur.length=cap*sz) (hx:cur.take (n*sz)=xs) :
  w.ownsRow base E sz (.slice (some ⟨g,0,none⟩) n cap) n xs:=by
 refine ⟨?_,.inr ⟨g,cap,cur.toArray,rfl,hb,hg,hn,hm,by simpa using hl,by simpa using hx⟩⟩
 rw [← hx,List.length_take,hl]
 exact Nat.min_eq_left (Nat.mul_le_mul_right _ hn)
theorem grown_fresh {w W w':World} {k:Nat} {r:Option Nat} (h:w.grownBy W r) (h2:W.grownBy w' (some k)) (hk:w.heap.size≤k):w.grownBy w' r :=
 ⟨h2.os.trans h.os,h2.tape.trans h.tape,h2.output.trans h.output,Nat.le_trans h.size h2.size,fun j hj hne=>(h2.block j (Nat.lt_of_lt_of_le hj h.size) (by intro e;injection e with e;omega)).trans (h.block j hj hne)⟩
theorem heap_lt {w:World} {g:Nat} {o:Obj} (h:w.heap[g]?=some o):g<w.heap.size:=(Array.getElem?_eq_some_iff.1 h).1
theorem shape_of {w:World} {g:Nat} {cs:Array Value} {t:TypeId} (h:w.heap[g]?=some (.cells cs t (0,0))):w.shape? g=some (t,cs.size):=by simp [World.shape?,h]
end Go.Proofs.YtmladblmknbgnaaGreatDoor
namespace Go.Proofs.YtmladblmknbgnaaGreatDoor
open Go.RowKit
theorem okB_iff (c:UInt8):okB c=true↔((97≤(c.toNat:Int)∧(c.toNat:Int)≤122)∨(48≤(c.toNat:Int)∧(c.toNat:Int)≤57))∨(c.toNat:Int)=45∨(c.toNat:Int)=95:=by
 unfold okB
 simp only [Bool.or_eq_true,Bool.and_eq_true,decide_eq_true_eq,beq_iff_eq,UInt8.le_iff_toNat_le,← UInt8.toNat_inj]
 have e1:(97:UInt8).toNat=97:=rfl
 have e2:(122:UInt8).toNat=122:=rfl
 have e3:(48:UInt8).toNat=48:=rfl
 have e4:(57:UInt8).toNat=57:=rfl
 have e5:(45:UInt8).toNat=45:=rfl
 have e6:(95:UInt8).toNat=95:=rfl
 omega
theorem odd_any (c:UInt8) (w:World):Calls Tryz.prog 176 #[.int .u8 (c.toNat:Int)] w fun e w'=>e=.returned (.bool (!okB c))∧w'=w:=by
 have hc:c.toNat<256:=c.toNat_lt
 have hk:=Lib.hid (okB_iff c)
 go_enter Tryz.func176,Tryz.ntmps176
 go_wp2
 all_goals go_ret
 all_goals refine ⟨congrArg Ending.returned (congrArg Value.bool ?_),rfl⟩
 all_goals rw [Bool.eq_iff_iff,Bool.not_eq_true',← Bool.not_eq_true,hk.out]
 all_goals simp
 all_goals omega
/-! ### IndexFunc, ContainsFunc: a function value that captures nothing -/
set_option maxRecDepth 100000 in
set_option maxHeartbeats 1000000 in
theorem fiB_index {α:Type} (f:α→Value) (p:α→Bool) (l:List α) (n:Nat) (hnl:n=l.length) (A:Option Addr) (c:Nat) (w:World) (B:Nat)
  (hr:Reads w B 1 A n (l.map f)) (hB:B≤w.heap.size) (hn:n≤5000000000000)
  (hp:∀ x∈l,∀ W,Calls Tryz.prog 176 #[f x] W fun e W'=>e=.returned (.bool (p x))∧Below W.heap.size W W') :
  Calls Tryz.prog 212 #[.slice A n c,.func (.func 176) #[] #[]] w fun e w'=>e=.returned (.int .i64 (firstI p l))∧Below w.heap.size w w':=by
 have HN:=Lib.hid hnl
 have HP:=Lib.hid hp
 clear hnl hp
 go_enter Tryz.func212,Tryz.ntmps212
 go_wp2_with fail
 go_loopw [8] (fun j wr=>∃ k:Nat,k≤n∧j=.int .i64 (k:Int)∧Hid (∀ y∈l.take k,p y=false)∧Below w.heap.size w wr) (fun j _=>n-(intOf j).toNat)
 case atStart=>exact ⟨0,Nat.zero_le _,rfl,(show ∀ y∈_,_ by simp),Below.refl _ _⟩
 case round =>
  obtain ⟨k,hk,rfl,hno,hbw⟩:=hrel
  by_cases hlt:k<n
  ·have hki:(k:Int)<(n:Int):=by omega
   have hkl:k<l.length:=by have:=HN.out;omega
   obtain ⟨ad,u,rfl,_,hxu,hcell⟩:=(hr.below (hbw.mono hB)).at_ hlt
   obtain ⟨x,hx⟩:∃ x,x=l[k]'hkl:=⟨_,rfl⟩
   have hux:u=f x:=by
    rw [List.getElem?_map,List.getElem?_eq_getElem hkl] at hxu
    rw [hx]
    exact (Option.some.inj hxu).symm
   subst hux
   clear hxu
   have htk:=List.take_succ_eq_append_getElem hkl
   rw [← hx] at htk
   have HTK:=Lib.hid htk
   have HX:=Lib.hid (show l[k]?=some x by rw [hx];exact List.getElem?_eq_getElem _)
   have hc:=HP.out x (List.mem_of_getElem? HX.out) wr
   obtain ⟨b,hb⟩:∃ b,b=p x:=⟨_,rfl⟩
   rw [← hb] at hc
   have HBX:=Lib.hid hb
   clear hx htk hr hb
   obtain ⟨fx,hfx⟩:∃ v,v=f x:=⟨_,rfl⟩
   rw [← hfx] at hc hcell
   clear hfx
   go_wp2_with fail
   refine hc.mono ?_
   clear hc
   rintro e w1 ⟨rfl,hb1⟩
   have hbw1:=hbw.trans (hb1.mono hbw.size)
   cases b with
   | true =>
    go_wp2_with fail
    go_ret
    have hf:=firstP_eq p l k x hno.out HX.out HBX.out.symm
    exact ⟨by unfold firstI;rw [hf,if_pos hkl];rfl,hbw1⟩
   | false =>
    go_wp2_with fail
    go_roundw
    case rel =>
     refine ⟨k+1,by omega,by go_num,?_,hbw1⟩
     show ∀ y∈l.take (k+1),p y=false
     intro y hy
     rw [HTK.out] at hy
     rcases List.mem_append.1 hy with hy | hy
     ·exact hno.out y hy
     ·simp at hy;subst hy;exact HBX.out.symm
    case measure=>simp [intOf];omega
  ·have hkn:k=n:=by omega
   have HF:Hid (firstI p l=-1):=by
    show _=_
    unfold firstI
    rw [firstP_none p l (fun y hy=>hno.out y (by rw [List.take_of_length_le (by rw [hkn,HN.out];exact Nat.le_refl _)];exact hy)),if_neg (Nat.lt_irrefl _)]
   clear hr hkn
   go_wp2_with fail
   go_ret
   exact ⟨by rw [HF.out];rfl,hbw⟩
theorem fiB_contains {α:Type} (f:α→Value) (p:α→Bool) (l:List α) (n:Nat) (hnl:n=l.length) (A:Option Addr) (c:Nat) (w:World) (B:Nat)
  (hr:Reads w B 1 A n (l.map f)) (hB:B≤w.heap.size) (hn:n≤5000000000000)
  (hp:∀ x∈l,∀ W,Calls Tryz.prog 176 #[f x] W fun e W'=>e=.returned (.bool (p x))∧Below W.heap.size W W') :
  Calls Tryz.prog 175 #[.slice A n c,.func (.func 176) #[] #[]] w fun e w'=>e=.returned (.bool (l.any p))∧Below w.heap.size w w':=by
 have hcall:=Lib.hid (fiB_index f p l n hnl A c w B hr hB hn hp)
 have HA:=Lib.hid (firstI_any p l)
 clear hnl hr hp
 go_enter Tryz.func175,Tryz.ntmps175
 go_wp2_with fail
 refine hcall.out.mono ?_
 rintro e w1 ⟨rfl,hb⟩
 go_wp2_with fail
 go_ret
 exact ⟨by rw [← HA.out];rfl,hb⟩
set_option maxRecDepth 100000 in
set_option maxHeartbeats 1000000 in
theorem name_any (s:ByteArray) (w:World):Calls Tryz.prog 115 #[.string s] w fun e w'=>e=.returned (.bool (nameB s.data.toList))∧Below w.heap.size w w':=by
 have hcv:=Lib.hid (Lib.run_convert_string_bytes (P:=Tryz.prog) w 9 193 5 s Tryz.underlying9 Tryz.underlying193 Tryz.underlying5)
 have hb:=Lib.hid (bytesWorld_below w 5 s)
 have hr:=Lib.hid (bytesWorld_reads w 5 s)
 have hsz:=Lib.hid (Lib.size_eq s)
 have htl:=Lib.hid (toList_data s)
 go_enter Tryz.func115,Tryz.ntmps115
 go_wp2_with fail
 ·have h0:s.toList=[]:=by assumption
  rw [htl.out] at h0
  go_ret
  exact ⟨by rw [h0];rfl,Below.refl _ _⟩
 ·have h0:¬ s.toList=[]:=by assumption
  have h16:(s.size:Int)≤16:=by assumption
  rw [htl.out] at h0
  rw [hcv.out]
  have hB:=hb.out.size
  have hc:=Lib.hid (fiB_contains (fun c:UInt8=>Value.int .u8 (c.toNat:Int)) (fun c=>!okB c) s.data.toList s.size hsz.out (some ⟨w.heap.size,0,none⟩) (grownCap w s.size 0 5) (Lib.bytesWorld w 5 s) (w.heap.size+1) hr.out
   (by rw [Lib.bytesWorld_size];omega) (by omega) (fun x _ W=>(odd_any x W).mono fun _ _ ⟨h1,h2⟩=>⟨h1,by rw [h2];exact Below.refl _ _⟩))
  have hne:=Lib.hid h0
  clear h0
  obtain ⟨b,hbe0⟩:∃ b,b=s.data.toList.any fun c=>!okB c:=⟨_,rfl⟩
  rw [← hbe0] at hc
  have hbe:=Lib.hid hbe0
  clear hbe0
  go_wp2_with fail
  refine hc.out.mono ?_
  rintro e w1 ⟨rfl,hb1⟩
  go_wp2_with fail
  go_ret
  refine ⟨congrArg Ending.returned (congrArg Value.bool ?_),hb.out.trans (hb1.mono hB)⟩
  have e1:s.data.toList.isEmpty=false:=by
   cases he:s.data.toList with
   | nil=>exact absurd he hne.out
   | cons a r=>rfl
  have e2:decide (s.data.toList.length≤16)=true:=by
   rw [← hsz.out]
   exact decide_eq_true (by omega)
  unfold nameB
  rw [e1,e2,List.all_eq_not_any_not,← hbe.out,htl.out,e1]
  rfl
 ·have h16:16<(s.size:Int):=by assumption
  go_ret
  refine ⟨congrArg Ending.returned (congrArg Value.bool ?_),Below.refl _ _⟩
  have e2:decide (s.data.toList.length≤16)=false:=by
   rw [← hsz.out]
   exact decide_eq_false (by omega)
  unfold nameB
  rw [e2]
  simp
end Go.Proofs.YtmladblmknbgnaaGreatDoor
namespace Go.Proofs.YtmladblmknbgnaaGreatDoor
open Go.RowKit
set_option maxRecDepth 100000 in
set_option maxHeartbeats 2000000 in
theorem rcheckq_any (l:BL) (n:Nat) (hnl:n=l.length) (A:Option Addr) (c:Nat) (w:World) (B:Nat) (hr:Reads w B 2 A n (bcells l)) (hn:n≤140737488351232) :
  Calls Tryz.prog 138 #[.slice A n c] w fun e w'=>e=.returned (.int .i64 (okE l))∧∃ q,w'=w.drewN q:=by
 have HN:=Lib.hid hnl
 clear hnl
 go_enter Tryz.func138,Tryz.ntmps138
 go_wp2_with fail
 go_loopw [3] (fun j wr=>∃ k q0:Nat,k≤n∧j=.int .i64 (k:Int)∧Hid (okL l=okFrom (prevAt l k) (l.drop k))∧wr=w.drewN q0) (fun j _=>n-(intOf j).toNat)
 case atStart=>exact ⟨0,0,Nat.zero_le _,rfl,rfl,rfl⟩
 case round =>
  obtain ⟨k,q0,hk,rfl,hok,rfl⟩:=hrel
  by_cases hlt:k<n
  ·have hrw:=hr
   obtain ⟨ad,rfl,hadB,c0,c1⟩:=hrw.blk2 HN.out hlt
   have hki:(k:Int)<(n:Int):=by omega
   have hkl:k<l.length:=by have:=HN.out;omega
   obtain ⟨x,hx⟩:∃ x,x=l[k]'hkl:=⟨_,rfl⟩
   rw [← hx] at c0 c1
   have hdr:=List.drop_eq_getElem_cons hkl
   rw [← hx] at hdr
   have HX:=Lib.hid hx
   have HDR:=Lib.hid hdr
   obtain ⟨xi,xs⟩:=x
   simp only at c0 c1
   have hbad:Hid ((xi<0∨1024≤xi∨xs.length≠16∨(∃ y,prevAt l k=some y∧xi≤y))→okE l=9):=by
    intro h
    have hf:okL l=false:=by
     rw [hok.out,HDR.out]
     cases hfv:okFrom (prevAt l k) ((xi,xs) :: l.drop (k+1)) with
     | false=>rfl
     | true =>
      exfalso
      simp only [okFrom,Bool.and_eq_true,decide_eq_true_eq] at hfv
      obtain ⟨⟨⟨⟨h1,h2⟩,h3⟩,h4⟩,_⟩:=hfv
      rcases h with h | h | h | ⟨y,hy,h⟩
      ·omega
      ·omega
      ·exact h h3
      ·rw [hy] at h4;simp at h4;omega
    unfold okE
    rw [hf]
    rfl
   have hgood:Hid ((0≤xi∧xi<1024∧xs.length=16∧(∀ y,prevAt l k=some y→y<xi))→okL l=okFrom (prevAt l (k+1)) (l.drop (k+1))):=by
    rintro ⟨h1,h2,h3,h4⟩
    rw [hok.out,HDR.out]
    have hp:prevAt l (k+1)=some xi:=by
     show (l[k]?).map (·.1)=_
     rw [List.getElem?_eq_getElem hkl,← HX.out]
     rfl
    rw [hp]
    simp only [okFrom,h1,h2,h3,decide_true,Bool.true_and]
    cases hq:prevAt l k with
    | none=>rfl
    | some y=>simp [h4 y hq]
   clear hx hdr hok
   by_cases g1:xi<0
   ·have HB:=Lib.hid (hbad.out (.inl g1))
    clear hr hrw hbad hgood
    go_wp2_with fail
    go_big_quiet (fail)
    go_wp2_with fail
    go_ret
    exact ⟨by rw [HB.out];rfl,q0+nq,World.drewN_drewN _ _ _⟩
   by_cases g2:1024≤xi
   ·have HB:=Lib.hid (hbad.out (.inr (.inl g2)))
    have d1:decide (xi<0)=false:=by simp;omega
    have d2:decide (1024≤xi)=true:=by simp;omega
    clear hr hrw hbad hgood g1 g2
    go_wp2_with fail
    go_big_quiet (fail)
    go_wp2_with fail
    go_ret
    exact ⟨by rw [HB.out];rfl,q0+nq,World.drewN_drewN _ _ _⟩
   by_cases g3:xs.length=16
   ·have g1':0≤xi:=by omega
    have g2':xi<1024:=by omega
    have g3a:((xs.length:Int) == 16)=true:=by simp [g3]
    have g3b:((xs.length:Int) != 16)=false:=by simp [g3]
    have d1:decide (xi<0)=false:=by simp;omega
    have d2:decide (1024≤xi)=false:=by simp;omega
    rcases Nat.eq_zero_or_pos k with h0 | h0
    ·have HG:=Lib.hid (hgood.out ⟨g1',g2',g3,fun y hy=>by subst h0;cases hy⟩)
     have d4:decide ((0:Int)<(k:Int))=false:=by simp;omega
     have d4':decide (0<k)=false:=by simp;omega
     have H0:=Lib.hid h0
     clear hr hrw hbad hgood g1 g2 g3 h0
     go_wp2_with fail
     go_big_quiet (fail)
     go_wp2_with fail
     go_roundw
     case rel=>exact ⟨k+1,q0+nq,by omega,by go_num,HG,rfl⟩
     case measure=>simp [intOf];omega
    ·have d4:decide ((0:Int)<(k:Int))=true:=by simp;omega
     have d4':decide (0<k)=true:=by simp;omega
     have hk1l:k-1<l.length:=by omega
     obtain ⟨y,hy⟩:∃ y,y=(l[k-1]'hk1l).1:=⟨_,rfl⟩
     have hpv:prevAt l k=some y:=by
      obtain ⟨j,rfl⟩:∃ j,k=j+1:=⟨k-1,by omega⟩
      show (l[j]?).map (·.1)=_
      have hj:j<l.length:=by simpa using hk1l
      rw [List.getElem?_eq_getElem hj,hy]
      rfl
     have hcp:=(hrw.blk2 HN.out (k:=k-1) (by omega))
     obtain ⟨ad2,e2,-,c2,-⟩:=hcp
     injection e2 with e2
     subst e2
     rw [← hy] at c2
     have i1:(0:Int)≤(k:Int)-1:=by omega
     have i2:(k:Int)-1<(n:Int):=by omega
     have i3:IntKind.i64.wrap ((k:Int)-1)=(k:Int)-1:=IntWalk.i64_in _ (by omega)
     have i4:((k:Int)-1).toNat=k-1:=by omega
     by_cases g5:y<xi
     ·have HG:=Lib.hid (hgood.out ⟨g1',g2',g3,fun y' hy'=>by rw [hpv] at hy';cases hy';exact g5⟩)
      have d5:decide (xi≤y)=false:=by simp;omega
      clear hr hrw hbad hgood g1 g2 g3 h0 hpv hy g5
      go_wp2_with fail
      go_big_quiet (fail)
      clear i3 i4
      go_wp2_with fail
      go_roundw
      case rel=>exact ⟨k+1,q0+nq,by omega,by go_num,HG,rfl⟩
      case measure=>simp [intOf];omega
     ·have HB:=Lib.hid (hbad.out (.inr (.inr (.inr ⟨y,hpv,by omega⟩))))
      have d5:decide (xi≤y)=true:=by simp;omega
      clear hr hrw hbad hgood g1 g2 g3 h0 hpv hy g5
      go_wp2_with fail
      go_big_quiet (fail)
      clear i3 i4
      go_wp2_with fail
      go_ret
      exact ⟨by rw [HB.out];rfl,q0+nq,World.drewN_drewN _ _ _⟩
   ·have g3a:((xs.length:Int) == 16)=false:=by simp;omega
    have g3b:((xs.length:Int) != 16)=true:=by simp;omega
    have g1':0≤xi:=by omega
    have g2':xi<1024:=by omega
    have HB:=Lib.hid (hbad.out (.inr (.inr (.inl g3))))
    have d1:decide (xi<0)=false:=by simp;omega
    have d2:decide (1024≤xi)=false:=by simp;omega
    clear hr hrw hbad hgood g1 g2 g3
    go_wp2_with fail
    go_big_quiet (fail)
    go_wp2_with fail
    go_ret
    exact ⟨by rw [HB.out];rfl,q0+nq,World.drewN_drewN _ _ _⟩
  ·obtain rfl:k=n:=by omega
   have HF:Hid (okE l=0):=by
    show _=_
    unfold okE
    rw [hok.out,List.drop_of_length_le (by rw [HN.out];exact Nat.le_refl _)]
    rfl
   clear hok hr
   go_wp2_with fail
   go_ret
   exact ⟨by rw [HF.out];rfl,q0,rfl⟩
end Go.Proofs.YtmladblmknbgnaaGreatDoor
namespace Go.Proofs.YtmladblmknbgnaaGreatDoor
open Go.RowKit
section
variable {P:Program} {ops:Array Oper}
/-- what is said of each operation's value, by a list -/
def Says (Gs:List (Value→World→Prop)) (i:Nat) (v:Value) (W:World):Prop:=match Gs[i]? with
 | some p=>p v W
 | none=>True
def Stays (p:Value→World→Prop):Prop:=∀ v W W',p v W→Below W.heap.size W W'→p v W'
theorem Stays.pure {q:Value→Prop}:Stays (fun v _=>q v):=fun _ _ _ h _=>h
theorem Stays.own (base:Nat) (e:TypeId) (size n:Nat) (xs:List Value):Stays (fun v W=>W.ownsRow base e size v n xs):=fun _ _ _ h hb=>own_below h hb
/-- the same; each step is told besides that it has not come up, and that whatever has come up had all that it waits for -/
theorem wp_region_good2 {id:Nat} {a0:Act} {w:World} {Q:Exit→Act→World→Prop} (hm:P.follows .mixedOrders=true) (hok:regionOk ops a0.tmps.size=true) (Gs:List (Value→World→Prop)) (hst:∀ p∈Gs,Stays p)
  (hstep:∀ i o,ops[i]?=some o→∀ (m:Nat→Option Value) (W:World),Below w.heap.size w W→m i=none→(∀ j o',ops[j]?=some o'→(m j).isSome=true→∀ e∈o'.after,Region.binds .any e=true→(m e.on).isSome=true)→(∀ e∈o.after,Region.binds .any e=true→∃ v,m e.on=some v∧Says Gs e.on v W) →
   ∀ (A:Act) (K:Act→World→Prop),A=frameM a0 ops m→(∀ v W',Below W.heap.size W W'→Says Gs i v W'→K (A.put o.dst v) W')→if Region.wanted o (yielded ops A.tmps)=true then o.wp P A W K Q else K (A.put o.dst undef) W)
  (hend:∀ (m:Nat→Option Value) (W:World),Below w.heap.size w W→(∀ i,i<ops.size→∃ v,m i=some v∧Says Gs i v W)→Q .normal (frameM a0 ops m) W) :
  (Code.region id ops true).wp P Q a0 w:=by
 have hsay:∀ i v W W',Says Gs i v W→Below W.heap.size W W'→Says Gs i v W':=by
  intro i v W W' h hb
  unfold Says at h ⊢
  cases hG:Gs[i]? with
  | none=>trivial
  | some p=>rw [hG] at h;exact hst p (List.mem_of_getElem? hG) v W W' h hb
 refine wp_region_inv hm hok (fun m W=>Below w.heap.size w W∧(∀ i v,m i=some v→Says Gs i v W)∧(∀ j o',ops[j]?=some o'→(m j).isSome=true→∀ e∈o'.after,Region.binds .any e=true→(m e.on).isSome=true)) ⟨(Below.refl _ _).drew,fun _ _ h=>(by cases h),fun _ _ _ h=>(by cases h)⟩ ?_ ?_
 ·intro i o ho m W hJ hmi hdeps A K hA hK
  refine hstep i o ho m W hJ.1 hmi hJ.2.2 (fun e he hb=>?_) A K hA (fun v W' hb hS=>hK v W' ⟨below_step hJ.1 hb,fun j u hu=>?_,fun j o' ho' hj e he hbi=>?_⟩)
  ·have:=hdeps e he hb
   cases hme:m e.on with
   | none=>rw [hme] at this;cases this
   | some v=>exact ⟨v,rfl,hJ.2.1 _ _ hme⟩
  ·by_cases hj:j=i
   ·subst hj
    rw [upd_self] at hu
    cases hu
    exact hS
   ·rw [upd_ne m v hj] at hu
    exact hsay j u W W' (hJ.2.1 j u hu) hb
  ·by_cases hei:e.on=i
   ·rw [hei,upd_self];rfl
   ·rw [upd_ne m v hei]
    by_cases hji:j=i
    ·subst hji
     rw [ho] at ho'
     cases ho'
     exact hdeps e he hbi
    ·rw [upd_ne m v hji] at hj
     exact hJ.2.2 j o' ho' hj e he hbi
 ·intro m W hJ hall
  refine hend m W hJ.1 fun i hi=>?_
  have:=hall i hi
  cases hmi:m i with
  | none=>rw [hmi] at this;cases this
  | some v=>exact ⟨v,rfl,hJ.2.1 _ _ hmi⟩
end
theorem none_up {ops:Array Oper} {m:Nat→Option Value} (hcl:∀ j o',ops[j]?=some o'→(m j).isSome=true→∀ e∈o'.after,Region.binds .any e=true→(m e.on).isSome=true) {j:Nat} {o:Oper} (ho:ops[j]?=some o) {e:Edge} (he:e∈o.after) (hb:Region.binds .any e=true) (hi:m e.on=none):m j=none:=by
 cases hj:m j with
 | none=>rfl
 | some v =>
  have:=hcl j o ho (by rw [hj];rfl) e he hb
  rw [hi] at this
  cases this
theorem stays_nil:∀ p∈([]:List (Value→World→Prop)),Stays p:=fun _ h=>by cases h
theorem stays_cons {p:Value→World→Prop} {l:List (Value→World→Prop)} (hp:Stays p) (hl:∀ q∈l,Stays q):∀ q∈p :: l,Stays q:=by
 intro q hq
 rcases List.mem_cons.1 hq with rfl | h
 ·exact hp
 ·exact hl q h
theorem own_lit (W:World) (cs:Array Value) (T:TypeId) (n:Nat) (h:cs.size=n) (hm:n≤maxLen):(W.alloc (.cells cs T)).ownsRow W.heap.size T 1 (.slice (some ⟨W.heap.size,0,none⟩) n n) n cs.toList:=by
 subst h
 refine ⟨by simp,.inr ⟨W.heap.size,cs.size,cs,rfl,Nat.le_refl _,heap_alloc_new W _,Nat.le_refl _,hm,by simp,?_⟩⟩
 rw [Nat.mul_one,List.take_of_length_le (by simp)]
end Go.Proofs.YtmladblmknbgnaaGreatDoor
namespace Go.Proofs.YtmladblmknbgnaaGreatDoor
open Go.RowKit
/-- a predicate that is a function value: called at a list's elements, in a world that keeps what it captured -/
structure PredK (P:Program) (g:Nat) (caps:Array Value) {α:Type} (enc:α→Array Value) (M:α→Prop) (p:α→Bool) (Keep:World→Prop):Prop where
 call:∀ x W,M x→Keep W→Calls P g (#[.agg (enc x)]++caps) W fun e W'=>e=.returned (.bool (p x))∧Below W.heap.size W W'
 below:∀ W W',Keep W→Below W.heap.size W W'→Keep W'
theorem Reads.el4 {α:Type} {f0 f1 f2 f3:α→Value} {w:World} {B n:Nat} {A:Option Addr} {l:List α} (h:Reads w B 4 A n (cellsK (fun x=>[f0 x,f1 x,f2 x,f3 x]) l)) (hn:n=l.length) {i:Nat} (hi:i<n) :
  ∃ ad,A=some ad∧ad.block<B∧w.cell? (ad.add (i*4))=some (f0 (l[i]'(by omega)))∧w.cell? ⟨(ad.add (i*4)).block,(ad.add (i*4)).off+1,none⟩=some (f1 (l[i]'(by omega)))∧w.cell? ⟨(ad.add (i*4)).block,(ad.add (i*4)).off+2,none⟩=some (f2 (l[i]'(by omega)))∧w.cell? ⟨(ad.add (i*4)).block,(ad.add (i*4)).off+3,none⟩=some (f3 (l[i]'(by omega))):=by
 obtain ⟨ad,e,hb,hc⟩:=Reads.elK (k:=4) (fun _=>rfl) h hn hi
 refine ⟨ad,e,hb,?_,?_,?_,?_⟩
 ·have:=hc 0 (by omega);rwa [add_zero] at this
 ·have:=hc 1 (by omega);rwa [addr_add_succ] at this
 ·have:=hc 2 (by omega);rwa [addr_add_succ] at this
 ·have:=hc 3 (by omega);rwa [addr_add_succ] at this
theorem Reads.el5 {α:Type} {f0 f1 f2 f3 f4:α→Value} {w:World} {B n:Nat} {A:Option Addr} {l:List α} (h:Reads w B 5 A n (cellsK (fun x=>[f0 x,f1 x,f2 x,f3 x,f4 x]) l)) (hn:n=l.length) {i:Nat} (hi:i<n) :
  ∃ ad,A=some ad∧ad.block<B∧w.cell? (ad.add (i*5))=some (f0 (l[i]'(by omega)))∧w.cell? ⟨(ad.add (i*5)).block,(ad.add (i*5)).off+1,none⟩=some (f1 (l[i]'(by omega)))∧w.cell? ⟨(ad.add (i*5)).block,(ad.add (i*5)).off+2,none⟩=some (f2 (l[i]'(by omega)))∧w.cell? ⟨(ad.add (i*5)).block,(ad.add (i*5)).off+3,none⟩=some (f3 (l[i]'(by omega)))∧w.cell? ⟨(ad.add (i*5)).block,(ad.add (i*5)).off+4,none⟩=some (f4 (l[i]'(by omega))):=by
 obtain ⟨ad,e,hb,hc⟩:=Reads.elK (k:=5) (fun _=>rfl) h hn hi
 refine ⟨ad,e,hb,?_,?_,?_,?_,?_⟩
 ·have:=hc 0 (by omega);rwa [add_zero] at this
 ·have:=hc 1 (by omega);rwa [addr_add_succ] at this
 ·have:=hc 2 (by omega);rwa [addr_add_succ] at this
 ·have:=hc 3 (by omega);rwa [addr_add_succ] at this
 ·have:=hc 4 (by omega);rwa [addr_add_succ] at this
end Go.Proofs.YtmladblmknbgnaaGreatDoor
namespace Go.Proofs.YtmladblmknbgnaaGreatDoor
open Go.RowKit
theorem bl_irrefl (x:BS):Op.bytesLess x x=false:=by rw [bytesLess_eq];exact decide_eq_false (List.lt_irrefl x)
theorem bl_trans {x y z:BS} (h1:Op.bytesLess x y=true) (h2:Op.bytesLess y z=true):Op.bytesLess x z=true:=by
 rw [bytesLess_eq,decide_eq_true_eq] at *
 exact List.lt_trans h1 h2
theorem bl_tri:∀ (x y:BS),Op.bytesLess x y=false→x≠y→Op.bytesLess y x=true
 | [],[],_,h2=>absurd rfl h2
 | [],_ :: _,h1,_=>by cases h1
 | _ :: _,[],_,_=>rfl
 | a :: x,b :: y,h1,h2=>by
  simp only [Op.bytesLess,Bool.or_eq_false_iff,Bool.and_eq_false_iff,decide_eq_false_iff_not] at h1
  simp only [Op.bytesLess,Bool.or_eq_true,Bool.and_eq_true,decide_eq_true_eq]
  obtain ⟨h3,h4⟩:=h1
  rw [UInt8.lt_iff_toNat_lt] at h3 ⊢
  by_cases hab:a=b
  ·subst hab
   right
   refine ⟨by simp,bl_tri x y ?_ (fun e=>h2 (by rw [e]))⟩
   rcases h4 with h4 | h4
   ·simp at h4
   ·exact h4
  ·left
   have:a.toNat≠b.toNat:=fun e=>hab (UInt8.toNat_inj.1 e)
   omega
theorem bl_ne {x y:BS} (h:Op.bytesLess x y=true):x≠y:=by
 intro e
 subst e
 rw [bl_irrefl] at h
 cases h
def SortP (l:PL):Prop:=l.Pairwise fun x y=>Op.bytesLess x.1 y.1=true
def putP (p:BS×BS):PL→PL
 | []=>[p]
 | x :: l=>if Op.bytesLess p.1 x.1=true then p :: x :: l else if p.1=x.1 then p :: l else x :: putP p l
def getP (l:PL) (n:BS):Option BS:=(l.find? fun x=>x.1 == n).map (·.2)
theorem getP_cons (x:BS×BS) (l:PL) (n:BS):getP (x :: l) n=if x.1=n then some x.2 else getP l n:=by
 unfold getP
 rw [List.find?_cons]
 by_cases h:x.1=n
 ·rw [if_pos h,show (x.1 == n)=true by simp [h]];rfl
 ·rw [if_neg h,show (x.1 == n)=false by simp [h]]
theorem getP_putP (p:BS×BS) (l:PL) (h:SortP l) (n:BS):getP (putP p l) n=if p.1=n then some p.2 else getP l n:=by
 induction l with
 | nil=>unfold putP;rw [getP_cons]
 | cons y l ih =>
  obtain ⟨h1,h2⟩:=List.pairwise_cons.1 h
  unfold putP
  split
  ·rw [getP_cons]
  split
  ·rename_i hp
   rw [getP_cons,getP_cons]
   by_cases hn:p.1=n
   ·rw [if_pos hn,if_pos hn]
   ·rw [if_neg hn,if_neg hn,if_neg (by rw [← hp];exact hn)]
  ·rename_i hp hq
   rw [getP_cons,ih h2,getP_cons]
   by_cases hn:y.1=n
   ·rw [if_pos hn,if_pos hn,if_neg (fun e=>hq (e.trans hn.symm))]
   ·rw [if_neg hn,if_neg hn]
end Go.Proofs.YtmladblmknbgnaaGreatDoor
namespace Go.Proofs.YtmladblmknbgnaaGreatDoor
open Go.RowKit
theorem fill_one (zs:Array Value) (cs:List Value) (hz:zs.size=cs.length) (hp:0<cs.length):Instr.fill (fun i=>some (i*cs.length,cs.length)) zs [(0,.agg cs.toArray)]=some cs.toArray:=by
 have:=Great.fill_whole (s:=cs.length) hp [.agg cs.toArray] zs (fun v hv=>by rw [List.mem_singleton.1 hv];simp [Value.cells]) (by simp [hz])
 simpa [Value.cells] using this
theorem wpList_build_one {P:Program} {ops:Array Oper} {rest:List Oper} {op:Oper} {a:Act} {w:World} {Q:Exit→Act→World→Prop} (hgd:op.guard=none) (t e:TypeId) (x:Operand) (ho:op.op=.buildSlice t 1 #[(0,x)])
  (cs:List Value) (hx:a.eval x=.agg cs.toArray) (ie:TypeInfo) (z:Value) (hu:P.underlying t=some (.slice e)) (hie:P.info? e=some ie) (hz:ie.zero=some z) (hs:ie.size=cs.length) (hp:0<cs.length) (hl:cs.length≤16777216)
  (h:wpList P ops Q rest (a.put op.dst (.slice (some ⟨w.heap.size,0,none⟩) 1 1)) (w.alloc (.cells cs.toArray e))):wpList P ops Q (op :: rest) a w:=by
 refine wpList_buildSlice hgd t e 1 #[(0,x)] ho cs.toArray ie z hu hie hz (by rw [hs];omega) (by rw [hs];omega) ?_ h
 rw [hs]
 have:((#[(0,x)]:Array (Nat×Operand)).map fun (i,x)=>(i,a.eval x)).toList=[(0,.agg cs.toArray)]:=by simp [hx]
 rw [this]
 exact fill_one _ cs (by simp) hp
/-- an element's cells, all at once -/
theorem Reads.elAll {α:Type} {enc:α→List Value} {k:Nat} (hk:∀ x,(enc x).length=k) {w:World} {B n:Nat} {A:Option Addr} {l:List α} (h:Reads w B k A n (cellsK enc l)) (hn:n=l.length) {i:Nat} (hi:i<n) :
  ∃ ad,A=some ad∧ad.block<B∧∀ j v,(enc (l[i]'(by omega)))[j]?=some v→w.cell? ((ad.add (i*k)).add j)=some v:=by
 obtain ⟨ad,e,hb,hc⟩:=h.elK hk hn hi
 refine ⟨ad,e,hb,fun j v hv=>?_⟩
 have hj:j<k:=by
  rcases Nat.lt_or_ge j k with h | h
  ·exact h
  ·rw [List.getElem?_eq_none (by rw [hk];exact h)] at hv;cases hv
 rw [hc j hj,hv]
end Go.Proofs.YtmladblmknbgnaaGreatDoor
namespace Go.Proofs.YtmladblmknbgnaaGreatDoor
open Go.RowKit
/-- a slice: as it lies, and as it reads -/
structure FS (α:Type) where
 A:Option Addr
 n:Nat
 c:Nat
 l:List α
def FS.val {α:Type} (s:FS α):Value:=.slice s.A s.n s.c
def FS.rd {α:Type} (w:World) (B k:Nat) (enc:α→List Value) (s:FS α):Prop:=s.n=s.l.length∧s.n≤s.c∧Reads w B k s.A s.n (cellsK enc s.l)
def FS.own {α:Type} (w:World) (base:Nat) (t:TypeId) (k:Nat) (enc:α→List Value) (s:FS α):Prop:=s.n=s.l.length∧w.ownsRow base t k s.val s.n (cellsK enc s.l)
section
variable {α:Type} {w w':World} {B k:Nat} {enc:α→List Value} {s:FS α}
theorem FS.rd.below (h:s.rd w B k enc) (hb:Below B w w'):s.rd w' B k enc:=⟨h.1,h.2.1,h.2.2.below hb⟩
theorem FS.rd.more {B':Nat} (h:s.rd w B k enc) (hb:B≤B'):s.rd w B' k enc:=⟨h.1,h.2.1,h.2.2.more hb⟩
theorem FS.own.below {base:Nat} {t:TypeId} (h:s.own w base t k enc) (hb:Below w.heap.size w w'):s.own w' base t k enc:=⟨h.1,own_below h.2 hb⟩
theorem FS.own.mono {base base':Nat} {t:TypeId} (h:s.own w base t k enc) (hb:base'≤base):s.own w base' t k enc:=⟨h.1,own_mono h.2 hb⟩
theorem FS.own.rd {base:Nat} {t:TypeId} (h:s.own w base t k enc):s.rd w w.heap.size k enc:=by
 obtain ⟨A1,c1,e,h2,_,_⟩:=own_form h.2
 unfold FS.val at e
 injection e with _ _ e3
 exact ⟨h.1,by rw [e3];exact h2,Reads.of_own h.2⟩
end
theorem FS.own.kept {α:Type} {w w':World} {base k g:Nat} {t:TypeId} {enc:α→List Value} {s:FS α} (h:s.own w base t k enc) (hg:w.grownBy w' (some g)) (hb:g<base):s.own w' base t k enc:=by
 refine ⟨h.1,h.2.kept hg (.inr fun e=>?_)⟩
 have:=(h.2.lt _ e).1
 omega
theorem FS.len_eq {α:Type} {s s':FS α} (h:s.n=s.l.length) (h':s'.n=s'.l.length) (he:s.l=s'.l):s'.n=s.n:=by rw [h,h',he]
end Go.Proofs.YtmladblmknbgnaaGreatDoor
namespace Go.Proofs.YtmladblmknbgnaaGreatDoor
open Go.RowKit
section
variable {P:Program} {ops:Array Oper} {C:World→Prop} {Q:Act→Prop}
theorem put_toArray (l:List Value) (d:List Deferred) (k:Nat) (v:Value):(Act.put ⟨l.toArray,d⟩ (some k) v)=⟨(l.set k v).toArray,d⟩:=by
 simp [Act.put]
theorem wpC_readS {o:Oper} {rest:List Oper} {l:List Value} {d:List Deferred} {v:Value} {k:Nat} (hg:o.guard=none) (hd:o.dst=some k) (h:∀ w,C w→o.quietAt P ⟨l.toArray,d⟩ C w v) (hn:wpQuiet P ops C Q rest ⟨(l.set k v).toArray,d⟩):wpQuiet P ops C Q (o :: rest) ⟨l.toArray,d⟩ :=
 wpC_read hg h (by rw [hd,put_toArray];exact hn)
theorem wpC_greadS {o:Oper} {rest:List Oper} {l:List Value} {d:List Deferred} {v:Value} {j g k:Nat} {b:Bool} (hg:o.guard=some (g,b)) (hj:o.dst=some j) (hd:(ops[g]?).bind (·.dst)=some k) (ht:l[k]?.getD undef=.bool b)
  (h:∀ w,C w→o.quietAt P ⟨l.toArray,d⟩ C w v) (hn:wpQuiet P ops C Q rest ⟨(l.set j v).toArray,d⟩):wpQuiet P ops C Q (o :: rest) ⟨l.toArray,d⟩ :=
 wpC_gread hg hd (by simpa using ht) h (by rw [hj,put_toArray];exact hn)
theorem wpC_skipS {o:Oper} {rest:List Oper} {l:List Value} {d:List Deferred} {j g k:Nat} {b:Bool} (hg:o.guard=some (g,b)) (hj:o.dst=some j) (hd:(ops[g]?).bind (·.dst)=some k) (ht:l[k]?.getD undef=.bool (!b)∨l[k]?.getD undef=undef)
  (hn:wpQuiet P ops C Q rest ⟨(l.set j undef).toArray,d⟩):wpQuiet P ops C Q (o :: rest) ⟨l.toArray,d⟩ :=
 wpC_skip hg hd (by simpa using ht) (by rw [hj,put_toArray];exact hn)
end
end Go.Proofs.YtmladblmknbgnaaGreatDoor
namespace Go.Proofs.YtmladblmknbgnaaGreatDoor
open Go.RowKit
theorem Blk.setCells {g:Nat} {t:TypeId} (cs:List Value):∀ (w:World) (pre post:List Value),post.length=cs.length→Blk w g t (pre++post).toArray→Blk (w.setCells g pre.length cs) g t (pre++cs).toArray:=by
 induction cs with
 | nil =>
  intro w pre post h hb
  rw [List.eq_nil_of_length_eq_zero h] at hb
  exact hb
 | cons v cs ih =>
  intro w pre post h hb
  cases post with
  | nil=>simp at h
  | cons p post =>
   have h1:=hb.set_ pre.length v
   rw [show (pre++p :: post).toArray.setIfInBounds pre.length v=((pre++[v])++post).toArray by simp [List.set_append_right]] at h1
   have:=ih (w.setCell ⟨g,pre.length,none⟩ v) (pre++[v]) post (by simpa using h) h1
   rw [List.length_append] at this
   rw [show pre++v :: cs=pre++[v]++cs by simp]
   exact this
theorem below_setCells {B g:Nat} {a:World} (hg:B≤g) (cs:List Value):∀ (w:World) (o:Nat),Below B a w→Below B a (w.setCells g o cs):=by
 induction cs with
 | nil=>intro w o h;exact h
 | cons v cs ih=>intro w o h;exact ih _ _ (h.setCell (p:=⟨g,o,none⟩) hg v)
theorem Blk.there {w:World} {g:Nat} {t:TypeId} {cs:Array Value} (h:Blk w g t cs) (n:Nat) (hn:n≤cs.size):w.there g 0 n:=by
 intro j hj
 rw [Nat.zero_add]
 exact ⟨by rw [h.cell j];simp;omega,h.frozen j⟩
end Go.Proofs.YtmladblmknbgnaaGreatDoor
namespace Go.Proofs.YtmladblmknbgnaaGreatDoor
open Go.RowKit
theorem quiet_load_at {P:Program} {o:Oper} {a:Act} {C:World→Prop} {w:World} (ty:TypeId) (x:Operand) (ho:o.op=.load ty x) (ad:Addr) (hx:a.eval x=.pointer (some ad)) (cs:List Value) (d:TypeDesc)
  (hc:∀ (j:Nat) (v:Value),cs[j]?=some v→w.cell? (ad.add j)=some v) (hu:P.underlying ty=some d) (hd:d.isRow=true) (hi:(P.info? ty).map (·.size)=some cs.length):o.quietAt P a C w (.agg cs.toArray):=by
 unfold Oper.quietAt execOp
 simp only [ho,hx,Instr.loadAt,Instr.sureAddr,Sem.run_bind,Sem.run_pure,Result.andThen_ok,run_loadVar_at w ad ty cs d hc hu hd hi]
 exact ⟨rfl,rfl⟩
end Go.Proofs.YtmladblmknbgnaaGreatDoor
namespace Go.Proofs.YtmladblmknbgnaaGreatDoor
def u8s (l:List Nat):Array Value:=(l.map fun (n:Nat)=>Value.int .u8 (Int.ofNat n)).toArray
def layCells (c:Array Value):Obj→Obj
 | .cells _ t frozen=>.cells c t frozen
 | o=>o
noncomputable def laidWorld (os:Os):World :=
 { World.holding Tryz.prog os ⟨#[],#[],[]⟩ with heap:=((World.holding Tryz.prog os ⟨#[],#[],[]⟩).heap.modify 2 (layCells (u8s ([128,191,160,191,128,159,144,191,128,143]++List.replicate 22 0)))).modify 1 (layCells (u8s Go.Pinned.utf8FirstZ)) }
end Go.Proofs.YtmladblmknbgnaaGreatDoor
namespace Go.Proofs.YtmladblmknbgnaaGreatDoor
open Go.RowKit
theorem Tryz.insTx_info:(Tryz.prog.info? 9).map (fun i=>(i.zero,i.size,i.bytes))=some (some (.string ByteArray.empty),1,16):=by kernel_rfl
theorem Tryz.insTx_size:(Tryz.prog.info? 9).map (·.size)=some 1:=by kernel_rfl
theorem Tryz.insTx_ov:Tryz.prog.funcs[180]?=some Tryz.f180:=by kernel_rfl
section
variable (news:Array Value) (hnl:news.size=1) (h1n:∀ u∈news.toList,u.oneCell'=true) (xs:List Value) (h1x:∀ u∈xs,u.oneCell'=true) (vb:Nat) (T:TypeId) (base n i:Nat)
set_option maxRecDepth 100000 in
include hnl h1n h1x in
theorem insTx_shift (g c0:Nat) (w:World) (cur:List Value) (hlt:i<n) (hroom:n+1≤c0) (hcm:c0≤maxLen) (hg:w.heap[g]?=some (.cells cur.toArray 9 (0,0))) (hcl:cur.length=c0) (hxs:cur.take (n)=xs) (hbg:base≤g) (hv:Blk w vb T news) (hne:g≠vb) :
  Calls Tryz.prog 119 #[.slice (some ⟨g,0,none⟩) n c0,.int .i64 i,.slice (some ⟨vb,0,none⟩) 1 1] w fun e w' =>
   ∃ v,e=.returned v∧w'.ownsRow base 9 1 v (n+1) (xs.take (i)++news.toList++xs.drop (i))∧w.grownBy w' (some g):=by
 have hxl:xs.length=n:=by rw [← hxs,List.length_take,hcl];omega
 have hsb:=shape_of hg
 have hsa:=shape_of hv
 have HX2:=Lib.hid (show ∀ (j:Nat) (u:Value),(xs.drop (i))[j]?=some u→w.cell? ((⟨g,i,none⟩:Addr).add j)=some u from fun j u hj=>by
  rw [List.getElem?_drop] at hj
  have e:(⟨g,i,none⟩:Addr).add j=⟨g,i+j,none⟩:=by unfold Addr.add;split <;> simp_all
  rw [e,Blk.cell (t:=9) hg,← hj,← hxs,List.getElem?_take,if_pos (by have:=(List.getElem?_eq_some_iff.1 hj).1;omega)]
  simp)
 have HV:=Lib.hid (show ∀ (w':World),w.grownBy w' (some g)→∀ (j:Nat) (u:Value),news.toList[j]?=some u→w'.cell? ((⟨vb,0,none⟩:Addr).add j)=some u from fun w' hg' j u hj=>by
  rw [addr_add0,(hv.grown hg' (by intro e;injection e with e;exact hne e.symm)).cell j]
  simpa using hj)
 have hov:∀ lb cb,(callFunc 180 #[.slice (some ⟨vb,0,none⟩) 1 1,.slice (some ⟨g,(i+1),none⟩) lb cb]).run Tryz.prog w=.ok (.value (.bool false)) w:=fun lb cb=>by
  rw [run_callFunc_extern Tryz.insTx_ov (by kernel_rfl) (by kernel_rfl) (by kernel_rfl) (e:=Extern.SlicesOverlaps.overlaps #[48,48] #[4]) (by kernel_rfl),
   Lib.run_overlaps_apart w 48 4 9 Tryz.underlying48 1 (by intro w;exact Tryz.sizeOf9 w) ⟨vb,0,none⟩ ⟨g,(i+1),none⟩ 1 1 lb cb (fun e=>hne e.symm) T 9 news.size cur.toArray.size hsa hsb (by rw [List.size_toArray,hcl];omega) (hv.frozen 0) (by rw [hnl];exact hv.frozen 1)]
  rfl
 have HG:=Lib.hid hg
 have HXS:=Lib.hid hxs
 have HCL:=Lib.hid hcl
 have HXL:=Lib.hid hxl
 have HN:=Lib.hid hnl
 unfold maxLen at hcm
 have hw1:IntKind.i64.wrap ((i:Int)+1)=(i:Int)+1:=by rw [IntKind.wrap_i64];omega
 have hb1:(0:Int)≤(i:Int)+1:=by omega
 have hin:i≤n:=by omega
 have htn:((i:Int)+1).toNat=i+1:=by omega
 have hb2:¬ (c0=i+1):=by omega
 have hb3:(i:Int)≤(n:Int)+1:=by omega
 have hb4:¬ (c0=i):=by omega
 clear hg hxs hcl hxl hsa hsb hnl hv
 go_enter Tryz.func119,Tryz.ntmps119
 go_wp2_with (simp only [hov])
 go_region_law (refine step_copyK rfl _ _ 48 48 rfl 9 1 Tryz.underlying48 Tryz.insTx_size g (i+1) (n-i) (c0-(i+1)) ⟨g,i,none⟩ (n+1-i) (c0-i) (n-i) (by simp [Act.eval,Act.put]) (by simp [Act.eval,Act.put]) cur 9 HG.out (xs.drop (i)) (by simp only [Nat.min_def];split <;> omega) (by rw [List.length_drop,HXL.out];omega) HX2.out (by rw [List.length_drop,HXL.out,HCL.out];omega) (fun u hu=>h1x u (List.mem_of_mem_drop hu)) ?_;intro w1 hg1 hgr1)
 have hgr1':=grown_drew hgr1
 obtain ⟨cur1,hc1⟩:∃ cur1,cur1=splice cur (i+1) (xs.drop (i)):=⟨_,rfl⟩
 rw [← hc1] at hg1
 have hl1:cur1.length=c0:=by rw [hc1,length_splice _ _ _ (by rw [List.length_drop,HXL.out,HCL.out];omega)];exact HCL.out
 have HL1:=Lib.hid hl1
 have HC1:=Lib.hid hc1
 have HGR:=Lib.hid hgr1'
 clear hl1 hc1 hgr1 hgr1' hov hw1 htn
 go_wp2_with (with_reducible refine wpList_copyK rfl (.tmp 80) (.tmp 81) 48 48 rfl 9 1 Tryz.underlying48 Tryz.insTx_size g (i) (n+1-i) (c0-i) ⟨vb,0,none⟩ 1 1 1 rfl rfl cur1 9 hg1.out news.toList (by simp only [Nat.min_def];split <;> omega) (by rw [Array.length_toList,HN.out]) (HV.out w1 HGR.out) (by rw [Array.length_toList,HN.out,HL1.out];omega) h1n ?_;intro w2 hg2 hgr2)
 go_ret
 refine ⟨_,rfl,?_,HGR.out.trans hgr2⟩
 refine own_of_row hg2.out hbg hroom (by unfold maxLen;exact hcm) ?_ ?_
 ·rw [length_splice _ _ _ (by rw [Array.length_toList,HN.out,HL1.out];omega),Nat.mul_one];exact HL1.out
 ·rw [HC1.out,Nat.mul_one]
  exact take_shift HXS.out (by omega) (by rw [Array.length_toList,HN.out]) (by rw [HCL.out];omega)
set_option maxRecDepth 100000 in
include hnl h1n h1x in
theorem insTx_grow (g:Nat) (w:World) (cur:List Value) (hlt:i<n) (hn:n≤5000000000000) (hg:w.heap[g]?=some (.cells cur.toArray 9 (0,0))) (hcl:cur.length=n) (hxs:cur.take (n)=xs) (hb:base≤w.heap.size) (hv:Blk w vb T news) :
  Calls Tryz.prog 119 #[.slice (some ⟨g,0,none⟩) n n,.int .i64 i,.slice (some ⟨vb,0,none⟩) 1 1] w fun e w' =>
   ∃ v,e=.returned v∧w'.ownsRow base 9 1 v (n+1) (xs.take (i)++news.toList++xs.drop (i))∧w.grownBy w' none:=by
 obtain ⟨i0,hi0,hz0,hzs,hzb⟩:=info_parts Tryz.insTx_info
 have hxl:xs.length=n:=by rw [← hxs,List.length_take,hcl];omega
 have hgl:=heap_lt hg
 have hvl:=hv.lt
 have hold:(Builtin.firstCells i0.size i (.slice (some ⟨g,0,none⟩) i n)).run Tryz.prog w.drew=.ok (xs.take (i)).toArray w.drew:=by
  rw [hzs]
  exact run_firstCells_some w.drew 1 i ⟨g,0,none⟩ i n (xs.take (i)) (by rw [List.length_take,hxl];omega) (fun j v hj=>by
   rw [addr_add0]
   rw [List.getElem?_take] at hj
   split at hj
   ·have:(w.drew).cell? ⟨g,j,none⟩=cur.toArray[j]?:=Blk.cell (t:=9) hg j
    rw [this,← hj,← hxs,List.getElem?_take,if_pos (by omega)]
    simp
   ·cases hj)
 have hkk:(n:Int)+1-(i:Int)=((n+1-i:Nat):Int):=by omega
 have hik:i+(n+1-i)=n+1:=by omega
 have hrz:∀ ty,(Builtin.append_ #[48,3] ty #[.slice (some ⟨g,0,none⟩) i n,.int .i64 ((n:Int)+1-(i:Int))]).run Tryz.prog w =
   .ok (.slice (some ⟨w.heap.size,0,none⟩) (n+1) (grownCap w (n+1) n 9)) (w.drew.alloc (.cells ((xs.take (i)).toArray++Builtin.zeroCells (Value.cells (.string ByteArray.empty)) (n+1-i)++Builtin.zeroCells (Value.cells (.string ByteArray.empty)) (grownCap w (n+1) n 9-(n+1))) 9)):=fun ty=>by
  have h:=Lib.run_append_grow_zeros w 48 3 ty 9 i0 _ .i64 .i64 Tryz.underlying48 Tryz.underlying3 hi0 hz0 (some ⟨g,0,none⟩) i n (xs.take (i)) hold (n+1-i) (by omega) (by rw [hzs];omega) (by omega) (by omega) (by rw [hzb];omega) (by rw [hzb,hik];exact growslice_fits (by omega) (by omega))
  rw [hik] at h
  rw [hkk]
  exact h
 obtain ⟨G,hG⟩:∃ G,G=grownCap w (n+1) n 9:=⟨_,rfl⟩
 have hGn:n+1≤G:=by rw [hG];exact grownCap_ge w _ _ _
 have hGm:G≤maxLen:=by rw [hG];exact grownCap_le_maxLen w (n+1) n 9 (by unfold maxLen;omega)
 obtain ⟨ROW,hROW⟩:∃ ROW:List Value,ROW=xs.take (i)++((Builtin.zeroCells (Value.cells (.string ByteArray.empty)) (n+1-i)).toList++(Builtin.zeroCells (Value.cells (.string ByteArray.empty)) (G-(n+1))).toList):=⟨_,rfl⟩
 have hRA:(xs.take (i)).toArray++Builtin.zeroCells (Value.cells (.string ByteArray.empty)) (n+1-i)++Builtin.zeroCells (Value.cells (.string ByteArray.empty)) (G-(n+1))=ROW.toArray:=by
  rw [hROW]
  apply Array.toList_inj.1
  simp
 rw [← hG,hRA] at hrz
 have hRl:ROW.length=G:=by
  rw [hROW]
  simp [Builtin.zeroCells,Value.cells,hxl]
  omega
 have hRt:ROW.take (i)=xs.take (i):=by
  rw [hROW,List.take_append_of_le_length (by rw [List.length_take,hxl];omega),List.take_take,Nat.min_self]
 obtain ⟨W1,hW1⟩:∃ W1,W1=w.drew.alloc (.cells ROW.toArray 9):=⟨_,rfl⟩
 rw [← hW1] at hrz
 have hrow:W1.heap[w.heap.size]?=some (.cells ROW.toArray 9 (0,0)):=by rw [hW1];exact heap_alloc_new w.drew _
 have hgr0:w.grownBy W1 none:=by
  rw [hW1]
  exact ⟨rfl,rfl,rfl,by simp,fun k hk _=>Below.heap_alloc w.drew _ k hk⟩
 have HX2:=Lib.hid (show ∀ (W:World),W.heap[g]?=w.heap[g]?→∀ (j:Nat) (u:Value),(xs.drop (i))[j]?=some u→W.cell? ((⟨g,i,none⟩:Addr).add j)=some u from fun W hW j u hj=>by
  rw [List.getElem?_drop] at hj
  have e:(⟨g,i,none⟩:Addr).add j=⟨g,i+j,none⟩:=by unfold Addr.add;split <;> simp_all
  rw [e,Blk.cell (w:=W) (t:=9) (hW.trans hg),← hj,← hxs,List.getElem?_take,if_pos (by have:=(List.getElem?_eq_some_iff.1 hj).1;omega)]
  simp)
 have HV:=Lib.hid (show ∀ (w':World),w.grownBy w' none→∀ (j:Nat) (u:Value),news.toList[j]?=some u→w'.cell? ((⟨vb,0,none⟩:Addr).add j)=some u from fun w' hg' j u hj=>by
  rw [addr_add0,(hv.grown hg' (by simp)).cell j]
  simpa using hj)
 have HXS:=Lib.hid hxs
 have HCL:=Lib.hid hcl
 have HXL:=Lib.hid hxl
 have HN:=Lib.hid hnl
 have HROW:=Lib.hid hrow
 have HRL:=Lib.hid hRl
 have HRT:=Lib.hid hRt
 have HGR0:=Lib.hid hgr0
 unfold maxLen at hGm
 have hw1:IntKind.i64.wrap ((i:Int)+1)=(i:Int)+1:=by rw [IntKind.wrap_i64];omega
 have hb1:(0:Int)≤(i:Int)+1:=by omega
 have hin:i≤n:=by omega
 have htn:((i:Int)+1).toNat=i+1:=by omega
 have hb3:(i:Int)≤(n:Int):=by omega
 have hGi:¬ (G=i):=by omega
 have hGim:¬ (G=i+1):=by omega
 have hci:¬ (n=i):=by omega
 clear hg hxs hcl hxl hnl hv hold hkk hik hG hRA hROW hRl hRt hrow hgr0 hW1 hi0 hz0 hzs hzb
 go_enter Tryz.func119,Tryz.ntmps119
 go_wp2_with (first
  | (at_builtin;refine Lib.wpList_append_run _ rfl _ _ _ _ rfl _ _ rfl rfl _ _ (hrz _) ?_)
  | (with_reducible refine wpList_copyK rfl (.tmp 43) (.tmp 44) 48 48 rfl 9 1 Tryz.underlying48 Tryz.insTx_size w.heap.size (i) (n+1-i) (G-i) ⟨vb,0,none⟩ 1 1 1 rfl rfl ROW 9 HROW.out news.toList (by simp only [Nat.min_def];split <;> omega) (by rw [Array.length_toList,HN.out]) (HV.out W1 HGR0.out) (by rw [Array.length_toList,HN.out,HRL.out];omega) h1n ?_;intro w1 hg1 hgr1))
 clear hrz
 have hgr1':=grown_fresh HGR0.out hgr1 (Nat.le_refl _)
 obtain ⟨row1,hr1⟩:∃ row1,row1=splice ROW (i) news.toList:=⟨_,rfl⟩
 rw [← hr1] at hg1
 have hl1:row1.length=G:=by rw [hr1,length_splice _ _ _ (by rw [Array.length_toList,HN.out,HRL.out];omega)];exact HRL.out
 have HL1:=Lib.hid hl1
 have HR1:=Lib.hid hr1
 have HGR:=Lib.hid hgr1'
 clear hl1 hr1 hgr1 hgr1'
 go_region_law (refine step_copyK rfl _ _ 48 48 rfl 9 1 Tryz.underlying48 Tryz.insTx_size w.heap.size (i+1) (n-i) (G-(i+1)) ⟨g,i,none⟩ (n-i) (n-i) (n-i) (by simp [Act.eval,Act.put]) (by simp [Act.eval,Act.put]) row1 9 hg1.out (xs.drop (i)) (by simp only [Nat.min_def];split <;> omega) (by rw [List.length_drop,HXL.out];omega) (HX2.out w1.drew (HGR.out.block g hgl (by simp))) (by rw [List.length_drop,HXL.out,HL1.out];omega) (fun u hu=>h1x u (List.mem_of_mem_drop hu)) ?_;intro w2 hg2 hgr2)
 go_wp2_with fail
 go_ret
 refine ⟨_,rfl,?_,grown_fresh HGR.out (grown_drew hgr2) (Nat.le_refl _)⟩
 refine own_of_row hg2.out hb hGn (by unfold maxLen;exact hGm) ?_ ?_
 ·rw [length_splice _ _ _ (by rw [List.length_drop,HXL.out,HL1.out];omega),Nat.mul_one];exact HL1.out
 ·rw [HR1.out,Nat.mul_one,show (n+1)=i+1+(n-i) by omega]
  exact take_grow HRT.out (by rw [List.length_take,HXL.out];omega) (by rw [Array.length_toList,HN.out]) (by rw [List.length_drop,HXL.out])
set_option maxRecDepth 100000 in
include hnl h1n in
theorem insTx_end (A0:Option Addr) (c0:Nat) (w:World) (hown:w.ownsRow base 9 1 (.slice A0 n c0) n xs) (hb:base≤w.heap.size) (hn:n≤5000000000000) (hv:Blk w vb T news) :
  Calls Tryz.prog 119 #[.slice A0 n c0,.int .i64 n,.slice (some ⟨vb,0,none⟩) 1 1] w fun e w' =>
   ∃ v,e=.returned v∧w'.ownsRow base 9 1 v (n+1) (xs++news.toList)∧w.grownBy w' (Value.slice A0 n c0).ownBlock:=by
 obtain ⟨i0,hi0,hz0,hz1,hz2⟩:=info_parts Tryz.insTx_info
 obtain ⟨hc,hm,_⟩:=own_reads hown
 unfold maxLen at hm
 have HN:=Lib.hid hnl
 have HNEW:=Lib.hid (show ∀ (j:Nat) (u:Value),news.toList[j]?=some u→w.cell? ((⟨vb,0,none⟩:Addr).add j)=some u from fun j u hj=>by rw [addr_add0,hv.cell j];simpa using hj)
 clear hnl hv
 by_cases hcn:c0=n
 ·subst hcn
  go_enter Tryz.func119,Tryz.ntmps119
  go_wp2_with (at_builtin;refine wpList_append_own _ rfl _ _ 48 rfl base 9 i0 (.string ByteArray.empty) 1 16 Tryz.underlying48 hi0 hz0 hz1 hz2 rfl (by decide) (.slice A0 c0 c0) c0 xs rfl hown ⟨vb,0,none⟩ 1 1 news.toList rfl (by rw [Array.length_toList,HN.out]) HNEW.out h1n (by unfold maxLen;omega) (by omega) hb ?_)
  intro v1 w1 hown1 hg1 _
  go_wp2_with fail
  go_ret
  exact ⟨v1,rfl,hown1,hg1⟩
 ·go_enter Tryz.func119,Tryz.ntmps119
  go_wp2_with (at_builtin;refine wpList_append_own _ rfl _ _ 48 rfl base 9 i0 (.string ByteArray.empty) 1 16 Tryz.underlying48 hi0 hz0 hz1 hz2 rfl (by decide) (.slice A0 n c0) n xs rfl hown ⟨vb,0,none⟩ 1 1 news.toList rfl (by rw [Array.length_toList,HN.out]) HNEW.out h1n (by unfold maxLen;omega) (by omega) hb ?_)
  intro v1 w1 hown1 hg1 _
  go_wp2_with fail
  go_ret
  exact ⟨v1,rfl,hown1,hg1⟩
include hnl h1n h1x in
/-- one element put in at a place -/
theorem insTx_any (A0:Option Addr) (c0:Nat) (w:World) (hi:i≤n) (hown:w.ownsRow base 9 1 (.slice A0 n c0) n xs) (hb:base≤w.heap.size) (hn:n≤5000000000000) (hv:Blk w vb T news) (hne:(Value.slice A0 n c0).ownBlock≠some vb) :
  Calls Tryz.prog 119 #[.slice A0 n c0,.int .i64 i,.slice (some ⟨vb,0,none⟩) 1 1] w fun e w' =>
   ∃ v,e=.returned v∧w'.ownsRow base 9 1 v (n+1) (xs.take (i)++news.toList++xs.drop (i))∧w.grownBy w' (Value.slice A0 n c0).ownBlock:=by
 by_cases hin:i=n
 ·subst hin
  rw [List.take_of_length_le (by rw [hown.1];omega),List.drop_eq_nil_of_le (by rw [hown.1];omega),List.append_nil]
  exact insTx_end news hnl h1n xs vb T base i A0 c0 w hown hb hn hv
 ·rcases hown.2 with ⟨_,h0⟩ | ⟨g,cap,cur,hs,hbg,hh,hnc,hcm,hsz,hx⟩
  ·omega
  ·injection hs with e1 _ e2
   subst e1 e2
   by_cases hroom:n+1≤c0
   ·exact (insTx_shift news hnl h1n xs h1x vb T base n i g c0 w cur.toList (by omega) hroom hcm (by simpa using hh) (by simpa using hsz) (by simpa using hx) hbg hv (fun e=>hne (by rw [e];rfl))).mono (fun e w' h=>h)
   ·obtain rfl:c0=n:=by omega
    refine (insTx_grow news hnl h1n xs h1x vb T base c0 i g w cur.toList (by omega) hn (by simpa using hh) (by simpa using hsz) (by simpa using hx) hb hv).mono ?_
    rintro e w' ⟨v,h1,h2,h3⟩
    exact ⟨v,h1,h2,⟨h3.os,h3.tape,h3.output,h3.size,fun k hk _=>h3.block k hk (by simp)⟩⟩
end
end Go.Proofs.YtmladblmknbgnaaGreatDoor
