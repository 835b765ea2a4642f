/-
  Arguments opened field by field, to any depth: what a row of cells reads as. 'copy' at elements of several cells into a row that is known whole; the plain facts of what slices.Insert and slices.Delete make of a row. names.odd, slices.IndexFunc and ContainsFunc (octets), names.Name. The page's Check of contents, as a callee that only draws. slices.BinarySearchFunc at elements of 2 cells, by its contract. slices.BinarySearchFunc at elements of 2 cells, by its contract. A region that draws its order and only reads and makes memory: what is said of each operation's value holds whatever comes behind it. Properties, one list over the other: the plain law. A predicate that is a function value; elements of four and of five cells. A slice literal of one wide struct: all its cells at once. A slice: as it lies in memory, and as it reads.
-/
import Derived.Test.YtcgclpcocdappaaGreatDoorXM1
import Derived.Test.YtcgclpcocdappaaGreatDoorX0
import Derived.Test.YtcgclpcocdappaaGreatDoorX2
import Derived.Deep.Slices
import Derived.Deep.Fields
import Derived.ChangeSame
import Derived.Lib.Overlaps
import Derived.Lib.AppendZerosOnto
import Derived.Deep.RegionLaw
import Derived.Test.YtcgclpcocdappaaGreatDoorX1
import Derived.Test.YtcgclpcocdappaaGreatDoorRows
import Derived.Handy
import Derived.Sort.Walk0
import Derived.Sort.KeysCollected
import Derived.Great.BuildSlice
namespace Go.Proofs.YtcgclpcocdappaaGreatDoor
open Go.RowKit Go.ChangeShapes Go.WideShapes Go.Deep Go.ChangeAt
structure CellsIn {H:Type} (enc:TypeId×Value→H) (P:Program) (W:World) (K:Nat) (t:TypeId) (cs:List Value) (d:DataW H):Prop where
 rd:∃ fuel p,DataW.trod enc P W 0 (fun _=>true) true fuel t cs=some (d,p)
 wt:∀ n∈d.weights P t,n≤reachBytes
 bk:Rows.uptoBulk d≤K
section
variable {H:Type} {enc:TypeId×Value→H} {P:Program} {W:World} {K:Nat} {t:TypeId} {cs:List Value} {d:DataW H}
theorem ArgIn.cellsIn {v:Value} (h:ArgIn enc P W t v d):CellsIn enc P W (Rows.uptoBulk d) t v.cells.toList d:=by
 obtain ⟨_,⟨p,m,hr⟩,hw⟩:=h
 exact ⟨⟨m,p,hr⟩,hw,Nat.le_refl _⟩
theorem ArgIn.agg {v:Value} {fs:Array Field} (h:ArgIn enc P W t v d) (ht:P.underlying t=some (.struct fs)):∃ cs,v=.agg cs∧CellsIn enc P W (Rows.uptoBulk d) t cs.toList d:=by
 have hc:=h.cellsIn
 obtain ⟨⟨base,ho⟩,_,_⟩:=h
 obtain ⟨cs,rfl,_⟩:=okWide_struct ht ho
 exact ⟨cs,rfl,hc⟩
theorem CellsIn.str (h:CellsIn enc P W K t cs d) (ht:P.underlying t=some .string):∃ s:List UInt8,cs=[.string ⟨s.toArray⟩]∧s.length≤140737488351232∧s.length+1≤K:=by
 obtain ⟨⟨m,p,hr⟩,hw,hb⟩:=h
 obtain ⟨s,rfl,hx,_⟩:=DataW.trod_string ht hr
 simp only [Prod.mk.injEq] at hx
 rw [hx.1] at hw hb
 refine ⟨s.data.toList,by simp,?_,?_⟩
 ·have:=hw s.data.toList.length (by simp [DataW.weights])
  simpa [reachBytes] using this
 ·simpa [Rows.uptoBulk] using hb
theorem CellsIn.int {k:IntKind} (h:CellsIn enc P W K t cs d) (ht:P.underlying t=some (.int k)):∃ n,cs=[.int k n]∧(Lit.int k n).wf=true:=by
 obtain ⟨⟨m,p,hr⟩,hw,hb⟩:=h
 obtain ⟨n,hcs,_,hn⟩:=DataW.trod_int ht hr
 exact ⟨n,hcs,hn⟩
theorem CellsIn.i64 (h:CellsIn enc P W K t cs d) (ht:P.underlying t=some (.int .i64)):∃ n:Int,cs=[.int .i64 n]∧-9223372036854775808≤n∧n≤9223372036854775807:=by
 exact mZ22
theorem CellsIn.u64 (h:CellsIn enc P W K t cs d) (ht:P.underlying t=some (.int .u64)):∃ n:Int,cs=[.int .u64 n]∧0≤n∧n<18446744073709551616:=by
 exact mZ22
theorem CellsIn.u8 (h:CellsIn enc P W K t cs d) (ht:P.underlying t=some (.int .u8)):∃ b:UInt8,cs=[.int .u8 (b.toNat:Int)]:=by
 obtain ⟨n,hcs,hn⟩:=h.int ht
 simp [Lit.wf,IntKind.min,IntKind.max,IntKind.signed,IntKind.bits] at hn
 refine ⟨UInt8.ofNat n.toNat,?_⟩
 rw [hcs]
 have:(UInt8.ofNat n.toNat).toNat=n.toNat:=by rw [UInt8.toNat_ofNat'];omega
 rw [this,Int.toNat_of_nonneg tZ1]
theorem CellsIn.bool (h:CellsIn enc P W K t cs d) (ht:P.underlying t=some .bool):∃ b,cs=[.bool b]:=by
 obtain ⟨⟨m,p,hr⟩,hw,hb⟩:=h
 obtain ⟨b,hcs,_⟩:=DataW.trod_bool ht hr
 exact ⟨b,hcs⟩
theorem weightsEach_get:∀ (ts:List TypeId) (ds:List (DataW H)) (j:Nat) (u:TypeId) (y:DataW H) (n:Nat),ts[j]?=some u→ds[j]?=some y→n∈y.weights P u→n∈DataW.weightsEach P ts ds
 | [],_,j,_,_,_,h,_,_=>by simp at h
 | _ :: _,[],j,_,_,_,_,h,_=>by simp at h
 | a :: ts,b :: ds,0,u,y,n,h,h',hn=>by
  simp only [zE,Option.some.injEq] at h h'
  subst h h'
  simp only [DataW.weightsEach,List.mem_append]
  exact .inl hn
 | a :: ts,b :: ds,j+1,u,y,n,h,h',hn=>by
  simp only [zD] at h h'
  simp only [DataW.weightsEach,List.mem_append]
  exact .inr (weightsEach_get ts ds j u y n h h' hn)
theorem weightsAll_get {L:List (DataW H)} {e:TypeId} {x:DataW H} {n:Nat} (hx:x∈L) (hn:n∈x.weights P e):n∈DataW.weightsAll P e L:=by
 induction L with
 | nil=>cases hx
 | cons y L ih =>
  simp only [DataW.weightsAll,List.mem_append]
  rcases List.mem_cons.1 hx with rfl | hx
  ·exact .inl hn
  ·exact .inr (ih hx)
theorem bulk_pos (d:DataW H):1≤Rows.uptoBulk d:=by
 cases d with
 | lit l=>cases l <;> simp [Rows.uptoBulk]
 | _=>simp [Rows.uptoBulk]
theorem bulkAll_get {L:List (DataW H)} {x:DataW H} (hx:x∈L):Rows.uptoBulk x≤Rows.uptoBulkAll L:=by
 induction L with
 | nil=>cases hx
 | cons y L ih =>
  simp only [Rows.uptoBulkAll]
  rcases List.mem_cons.1 hx with rfl | hx
  ·omega
  ·have:=ih hx
   omega
theorem bulkAll_len (L:List (DataW H)):L.length≤Rows.uptoBulkAll L:=by
 induction L with
 | nil=>exact Nat.zero_le _
 | cons x r ih =>
  have:=bulk_pos x
  simp only [List.length_cons,Rows.uptoBulkAll]
  omega
theorem CellsIn.fields {fs:Array Field} (h:CellsIn enc P W K t cs d) (ht:P.underlying t=some (.struct fs)) :
  cs.length=P.cellsOf t∧∀ (j:Nat) (f:Field),fs[j]?=some f→∃ y,CellsIn enc P W K f.type ((cs.drop f.offset).take (P.cellsOf f.type)) y:=by
 obtain ⟨⟨m,p,hr⟩,hw,hb⟩:=h
 obtain ⟨xs,n,_,hx,hl,hxl,hj⟩:=DataW.trod_struct ht hr
 simp only [Prod.mk.injEq] at hx
 rw [hx.1] at hw hb
 refine ⟨hl,fun j f hf=>?_⟩
 have hlt:j<fs.size:=(Array.getElem?_eq_some_iff.1 hf).1
 have hg:xs[j]?=some (xs[j]'tZ1):=List.getElem?_eq_getElem tZ1
 refine ⟨(xs[j]'tZ1).1,⟨n,_,(hj j f hf).trans hg⟩,?_,?_⟩
 ·intro q hq
  refine hw q ?_
  simp only [DataW.weights,ht]
  refine weightsEach_get _ _ j f.type (xs[j]'tZ1).1 q ?_ (by rw [List.getElem?_map,hg];rfl) hq
  rw [List.getElem?_map,Array.getElem?_toList,hf]
  rfl
 ·have:=bulkAll_get (x:=(xs[j]'tZ1).1) (L:=xs.map (·.1)) (List.mem_map.2 ⟨xs[j]'tZ1,List.getElem_mem _,rfl⟩)
  simp only [Rows.uptoBulk] at hb
  omega
theorem CellsIn.slice {e:TypeId} (h:CellsIn enc P W K t cs d) (ht:P.underlying t=some (.slice e)) :
  cs=[.slice none 0 0]∨∃ (a:Addr) (n c:Nat) (D:Nat→DataW H),cs=[.slice (some a) n c]∧n≤c∧c≤maxLen∧c*P.bytesOf e≤140737488351232∧n≤K ∧
   ∀ i,i<n→∃ cs',W.cells? 0 (a.add (i*P.cellsOf e)) (P.cellsOf e)=some cs'∧CellsIn enc P W K e cs' (D i):=by
 obtain ⟨⟨m,p,hr⟩,hw,hb⟩:=h
 rcases Go.Deep.open_slice ht hr with ⟨hcs,hx⟩ | ⟨a,l,cc,mm,nn,D,Pl,hcs,_,hl,hm,hmm,hx,hi⟩
 ·exact .inl hcs
 ·right
  simp only [Prod.mk.injEq] at hx
  rw [hx.1] at hw hb
  have hmc:mm=cc:=by rw [hmm];rfl
  have hw1:=hw ((((List.range l).map D).length+((List.range (mm-l)).map fun j=>D (l+j)).length)*P.bytesOf e) (by simp only [DataW.weights,ht];exact List.mem_cons_self ..)
  have hl2:l+(mm-l)=cc:=tZ1
  simp only [List.length_map,List.length_range,hl2,reachBytes] at hw1
  have hbl:=bulkAll_len ((List.range l).map D)
  simp only [Rows.uptoBulk,List.length_map,List.length_range] at hb hbl
  refine ⟨a,l,cc,D,hcs,hl,hm,hw1,by omega,fun i hil=>?_⟩
  obtain ⟨cs',hc,ht'⟩:=hi i tZ1
  have hmem:D i∈(List.range l).map D:=List.mem_map.2 ⟨i,List.mem_range.2 hil,rfl⟩
  refine ⟨cs',hc,⟨_,_,ht'⟩,?_,?_⟩
  ·intro q hq
   refine hw q ?_
   simp only [DataW.weights,ht,List.mem_cons,List.mem_append]
   exact .inr (.inl (weightsAll_get hmem hq))
  ·have:=bulkAll_get hmem
   omega
theorem flatMap_len {α:Type} {Enc:α→List Value} {k:Nat} (hE:∀ x,(Enc x).length=k) (l:List α):(l.flatMap Enc).length=l.length*k:=by
 induction l with
 | nil=>simp
 | cons x l ih=>rw [List.flatMap_cons,List.length_append,hE,ih,List.length_cons,Nat.add_mul];omega
theorem flatMap_get {α:Type} {Enc:α→List Value} {k:Nat} (hE:∀ x,(Enc x).length=k) (l:List α) (i j:Nat) (hi:i<l.length) (hj:j<k):(l.flatMap Enc)[i*k+j]?=(Enc l[i])[j]?:=by
 induction l generalizing i with
 | nil=>cases hi
 | cons x l ih =>
  rw [List.flatMap_cons]
  cases i with
  | zero=>rw [Nat.zero_mul,Nat.zero_add,List.getElem?_append_left (by rw [hE];exact hj)];rfl
  | succ i =>
   rw [List.getElem?_append_right (by rw [hE,Nat.add_mul];omega),hE,show (i+1)*k+j-k=i*k+j by rw [Nat.add_mul];omega,ih i tZ138]
   rfl
/-- A LIST: each element by its own law -/
theorem CellsIn.list {α:Type} {e:TypeId} {k:Nat} (Enc:α→List Value) (G:α→Prop) (hE:∀ x,(Enc x).length=k) (hk:0<k) (hC:P.cellsOf e=k) (ht:P.underlying t=some (.slice e))
  (hel:∀ cs d,CellsIn enc P W K e cs d→∃ x:α,cs=Enc x∧G x) (h:CellsIn enc P W K t cs d) :
  ∃ (A:Option Addr) (l:List α) (n c:Nat),cs=[.slice A n c]∧n=l.length∧n≤c∧c≤maxLen∧c*P.bytesOf e≤140737488351232∧n≤K∧Reads W W.heap.size k A n (l.flatMap Enc)∧∀ x∈l,G x:=by
 rcases h.slice ht with rfl | ⟨a,n,c,D,rfl,hn,hm,hb,hK,hi⟩
 ·exact ⟨none,[],0,0,rfl,rfl,Nat.le_refl _,by unfold maxLen;omega,by omega,Nat.zero_le _,⟨by simp,fun h=>absurd h tZ1⟩,by simp⟩
 ·rw [hC] at hi
  have hq:∀ i,i<n→∃ x:α,(∀ j,j<k→W.cell? (a.add (i*k+j))=(Enc x)[j]?)∧G x:=by
   intro i hin
   obtain ⟨cs',hc,hcell⟩:=hi i hin
   obtain ⟨x,rfl,hg⟩:=hel _ _ hcell
   obtain ⟨_,hcl,hat⟩:=World.cells?_some hc
   refine ⟨x,fun j hj=>?_,hg⟩
   have:=hat j hj
   rwa [add_of_add] at this
  obtain ⟨l,hl,hlx⟩:∃ l:List α,l.length=n∧∀ i (h:i<l.length),(∀ j,j<k→W.cell? (a.add (i*k+j))=(Enc l[i])[j]?)∧G l[i]:=by
   clear hi hK hb hm hn h
   induction n with
   | zero=>exact ⟨[],rfl,fun i h=>by simp at h⟩
   | succ n ih =>
    obtain ⟨l,hl,hlx⟩:=ih (fun i hin=>hq i tZ1)
    obtain ⟨x,hx,hg⟩:=hq n tZ1
    refine ⟨l++[x],by simp [hl],fun i hin=>?_⟩
    rcases Nat.lt_or_ge i l.length with hlt | hge
    ·rw [List.getElem_append_left hlt]
     exact hlx i hlt
    ·have:i=l.length:=by simp at hin;omega
     subst this
     rw [List.getElem_append_right (Nat.le_refl _)]
     simp only [Nat.sub_self,List.getElem_cons_zero]
     rw [hl]
     exact ⟨hx,hg⟩
  refine ⟨some a,l,n,c,rfl,hl.symm,hn,hm,hb,hK,⟨by rw [flatMap_len hE,hl],fun h0=>⟨a,rfl,?_,fun j u hu=>?_⟩⟩,fun x hx=>?_⟩
  ·obtain ⟨h1,_⟩:=hlx 0 tZ1
   have h2:=h1 0 hk
   rw [List.getElem?_eq_getElem (by rw [hE];exact hk)] at h2
   have:=World.block_lt_of_cell? W _ h2
   rwa [block_of_add] at this
  ·have hj:j<n*k:=by
    have h3:=(List.getElem?_eq_some_iff.1 hu).1
    rwa [flatMap_len hE,hl] at h3
   have hdm:=Nat.div_add_mod j k
   have hmod:=Nat.mod_lt j hk
   have hdv:j / k<n:=Nat.div_lt_of_lt_mul (by rw [Nat.mul_comm];exact hj)
   have e1:j=j / k*k+j % k:=by rw [Nat.mul_comm];exact hdm.symm
   rw [e1,flatMap_get hE l _ _ tZ1 hmod] at hu
   rw [e1,(hlx (j / k) tZ1).1 (j % k) hmod]
   exact hu
  ·obtain ⟨i,hil,rfl⟩:=List.getElem_of_mem hx
   exact (hlx i hil).2
end
end Go.Proofs.YtcgclpcocdappaaGreatDoor
namespace Go.Proofs.YtcgclpcocdappaaGreatDoor
open Go.RowKit
section
variable {P:Program}
theorem run_copy_rowK (w:World) (dT sT ty elem:TypeId) (k:Nat) (g o dLen dCap:Nat) (a:Addr) (sLen sCap m:Nat) (cur:Array Value) (t:TypeId) (cs:List Value)
  (hu:P.underlying dT=some (.slice elem)) (hs:(P.info? elem).map (·.size)=some k)
  (hg:w.heap[g]?=some (.cells cur t (0,0))) (hm:m=Nat.min sLen dLen) (hn:cs.length=m*k)
  (hsrc:∀ j v,cs[j]?=some v→w.cell? (a.add j)=some v) (hfit:o+cs.length≤cur.size) (h1:∀ v∈cs,v.oneCell'=true) :
  (Builtin.copy_ #[dT,sT] ty #[.slice (some ⟨g,o,none⟩) dLen dCap,.slice (some a) sLen sCap]).run P w =
   .ok (goInt m) (w.setRow g (cur.toList.take o++cs++cur.toList.drop (o+cs.length)).toArray):=by
 have hl:=run_loadCells_list (P:=P) w a cs hsrc
 have hst:=run_storeCells_at P g o t cs 0 cur w hg (by simpa using hfit) h1
 cases hq:P.info? elem with
 | none=>simp [hq] at hs
 | some i =>
  have hi:i.size=k:=by simpa [hq] using hs
  simp [Builtin.copy_,run_underlying hu,Builtin.lenOf,Builtin.firstCells,sizeOf,typeInfo,hq,hi,← hm,← hn,hl,hst]
theorem grown_setRow {w:World} {g:Nat} (cs:Array Value):w.grownBy (w.setRow g cs) (some g) :=
 ⟨rfl,rfl,rfl,by simp [World.setRow],fun k hk hne=>setRow_other w g k cs (by intro e;exact hne (by rw [e]))⟩
theorem grown_drew {w w':World} {r:Option Nat} (h:w.drew.grownBy w' r):w.grownBy w' r:=⟨h.os,h.tape,h.output,h.size,h.block⟩
theorem wp_copyK {o:Oper} {a:Act} {w:World} {K:Act→World→Prop} {Q:Exit→Act→World→Prop} (d s:Operand) (dT sT:TypeId)
  (ho:o.op=.call { callee:=.builtin .copy,args:=#[d,s],argTypes:=#[dT,sT] }) (elem:TypeId) (k:Nat) (hu:P.underlying dT=some (.slice elem)) (hsz:(P.info? elem).map (·.size)=some k)
  (g off dLen dCap:Nat) (ad:Addr) (sLen sCap m:Nat) (hd:a.eval d=.slice (some ⟨g,off,none⟩) dLen dCap) (hs:a.eval s=.slice (some ad) sLen sCap)
  (cur:List Value) (t:TypeId) (hg:w.heap[g]?=some (.cells cur.toArray t (0,0))) (cs:List Value) (hm:m=Nat.min sLen dLen) (hn:cs.length=m*k)
  (hsrc:∀ j v,cs[j]?=some v→w.cell? (ad.add j)=some v) (hfit:off+cs.length≤cur.length) (h1:∀ v∈cs,v.oneCell'=true)
  (h:∀ w',Hid (w'.heap[g]?=some (.cells (splice cur off cs).toArray t (0,0)))→w.grownBy w' (some g)→K (a.put o.dst (goInt m)) w'):o.wp P a w K Q:=by
 have hrun:=run_copy_rowK (P:=P) w dT sT o.type elem k g off dLen dCap ad sLen sCap m cur.toArray t cs hu hsz hg hm hn hsrc (by simpa using hfit) h1
 unfold Oper.wp
 simp [execOp,ho,resolve,invoke,builtin,hd,hs,hrun,Result.andThen]
 exact h _ (show _=_ by simpa [splice] using setRow_heap w g _ _ t _ hg) (grown_setRow _)
theorem wpList_copyK {w:World} {ops:Array Oper} {rest:List Oper} {o:Oper} {a:Act} {Q:Exit→Act→World→Prop} (hgd:o.guard=none) (d s:Operand) (dT sT:TypeId)
  (ho:o.op=.call { callee:=.builtin .copy,args:=#[d,s],argTypes:=#[dT,sT] }) (elem:TypeId) (k:Nat) (hu:P.underlying dT=some (.slice elem)) (hsz:(P.info? elem).map (·.size)=some k)
  (g off dLen dCap:Nat) (ad:Addr) (sLen sCap m:Nat) (hd:a.eval d=.slice (some ⟨g,off,none⟩) dLen dCap) (hs:a.eval s=.slice (some ad) sLen sCap)
  (cur:List Value) (t:TypeId) (hg:w.heap[g]?=some (.cells cur.toArray t (0,0))) (cs:List Value) (hm:m=Nat.min sLen dLen) (hn:cs.length=m*k)
  (hsrc:∀ j v,cs[j]?=some v→w.cell? (ad.add j)=some v) (hfit:off+cs.length≤cur.length) (h1:∀ v∈cs,v.oneCell'=true)
  (h:∀ w',Hid (w'.heap[g]?=some (.cells (splice cur off cs).toArray t (0,0)))→w.grownBy w' (some g)→wpList P ops Q rest (a.put o.dst (goInt m)) w'):wpList P ops Q (o :: rest) a w :=
 wpList_plain hgd fun _ hK=>wp_copyK d s dT sT ho elem k hu hsz g off dLen dCap ad sLen sCap m hd hs cur t hg cs hm hn hsrc hfit h1 (fun w' h1 h2=>hK _ _ (h w' h1 h2))
theorem step_copyK {ops:Array Oper} {o:Oper} {a:Act} {w:World} {K:Act→World→Prop} {Q:Exit→Act→World→Prop} {E:Prop} (hgd:o.guard=none) (d s:Operand) (dT sT:TypeId)
  (ho:o.op=.call { callee:=.builtin .copy,args:=#[d,s],argTypes:=#[dT,sT] }) (elem:TypeId) (k:Nat) (hu:P.underlying dT=some (.slice elem)) (hsz:(P.info? elem).map (·.size)=some k)
  (g off dLen dCap:Nat) (ad:Addr) (sLen sCap m:Nat) (hd:a.eval d=.slice (some ⟨g,off,none⟩) dLen dCap) (hs:a.eval s=.slice (some ad) sLen sCap)
  (cur:List Value) (t:TypeId) (hg:w.heap[g]?=some (.cells cur.toArray t (0,0))) (cs:List Value) (hm:m=Nat.min sLen dLen) (hn:cs.length=m*k)
  (hsrc:∀ j v,cs[j]?=some v→w.cell? (ad.add j)=some v) (hfit:off+cs.length≤cur.length) (h1:∀ v∈cs,v.oneCell'=true)
  (h:∀ w',Hid (w'.heap[g]?=some (.cells (splice cur off cs).toArray t (0,0)))→w.grownBy w' (some g)→K (a.put o.dst (goInt m)) w') :
  if Region.wanted o (yielded ops a.tmps)=true then Oper.wp P o a w K Q else E:=by
 have hw:Region.wanted o (yielded ops a.tmps)=true:=by simp [Region.wanted,hgd]
 rw [if_pos hw]
 exact wp_copyK d s dT sT ho elem k hu hsz g off dLen dCap ad sLen sCap m hd hs cur t hg cs hm hn hsrc hfit h1 h
end
/-! ### what becomes of a row -/
theorem take_shift {cur xs N:List Value} {a b c:Nat} (hx:cur.take c=xs) (ha:a≤c) (hN:N.length=b) (hl:c+b≤cur.length) :
  (splice (splice cur (a+b) (xs.drop a)) a N).take (c+b)=xs.take a++N++xs.drop a:=by
 have hxl:xs.length=c:=tZ157
 have e1:splice cur (a+b) (xs.drop a)=cur.take (a+b)++(xs.drop a++cur.drop (c+b)):=by
  unfold splice
  rw [List.length_drop,hxl,show a+b+(c-a)=c+b by omega]
 have e2:(splice cur (a+b) (xs.drop a)).take a=xs.take a:=by
  rw [e1,List.take_append_of_le_length tZ79,List.take_take,Nat.min_eq_left tZ1,← hx,List.take_take,Nat.min_eq_left ha]
 have e3:(splice cur (a+b) (xs.drop a)).drop (a+N.length)=xs.drop a++cur.drop (c+b):=by
  rw [e1,hN,List.drop_append_of_le_length tZ79,List.drop_eq_nil_of_le tZ79,List.nil_append]
 have e4:splice (splice cur (a+b) (xs.drop a)) a N=(xs.take a++N++xs.drop a)++cur.drop (c+b):=by
  show _++(N++_)=_
  rw [e2,e3]
  simp
 rw [e4,List.take_append_of_le_length tZ6,List.take_of_length_le tZ6]
theorem take_grow {ROW X1 N X2:List Value} {a b c:Nat} (h1:ROW.take a=X1) (ha:X1.length=a) (hN:N.length=b) (h2:X2.length=c) :
  (splice (splice ROW a N) (a+b) X2).take (a+b+c)=X1++N++X2:=by
 have e1:splice ROW a N=(X1++N)++ROW.drop (a+b):=by
  show _++(N++_)=_
  rw [h1,hN];simp
 have e2:splice (splice ROW a N) (a+b) X2=(X1++N++X2)++(ROW.drop (a+b)).drop c:=by
  show _++(X2++_)=_
  rw [e1,h2,List.take_append_of_le_length tZ6,List.take_of_length_le tZ6,List.drop_append,List.drop_eq_nil_of_le tZ6,List.nil_append]
  simp only [List.length_append,ha,hN]
  rw [show a+b+c-(a+b)=c by omega]
  simp
 rw [e2,List.take_append_of_le_length tZ6,List.take_of_length_le tZ6]
theorem own_of_row {w:World} {base g n cap sz:Nat} {E:TypeId} {cur:List Value} {xs:List Value} (hg:w.heap[g]?=some (.cells cur.toArray E (0,0))) (hb:base≤g) (hn:n≤cap) (hm:cap≤maxLen) (hl:cur.length=cap*sz) (hx:cur.take (n*sz)=xs) :
  w.ownsRow base E sz (.slice (some ⟨g,0,none⟩) n cap) n xs:=by
 refine ⟨?_,.inr ⟨g,cap,cur.toArray,rfl,hb,hg,hn,hm,by simpa using hl,by simpa using hx⟩⟩
 rw [← hx,List.length_take,hl]
 exact Nat.min_eq_left (Nat.mul_le_mul_right _ hn)
theorem grown_fresh {w W w':World} {k:Nat} {r:Option Nat} (h:w.grownBy W r) (h2:W.grownBy w' (some k)) (hk:w.heap.size≤k):w.grownBy w' r :=
 ⟨h2.os.trans h.os,h2.tape.trans h.tape,h2.output.trans h.output,Nat.le_trans h.size h2.size,fun j hj hne=>(h2.block j (Nat.lt_of_lt_of_le hj h.size) (by intro e;injection e with e;omega)).trans (h.block j hj hne)⟩
theorem heap_lt {w:World} {g:Nat} {o:Obj} (h:w.heap[g]?=some o):g<w.heap.size:=(Array.getElem?_eq_some_iff.1 h).1
theorem shape_of {w:World} {g:Nat} {cs:Array Value} {t:TypeId} (h:w.heap[g]?=some (.cells cs t (0,0))):w.shape? g=some (t,cs.size):=by simp [World.shape?,h]
end Go.Proofs.YtcgclpcocdappaaGreatDoor
namespace Go.Proofs.YtcgclpcocdappaaGreatDoor
open Go.RowKit
theorem okB_iff (c:UInt8):okB c=true↔((97≤(c.toNat:Int)∧(c.toNat:Int)≤122)∨(48≤(c.toNat:Int)∧(c.toNat:Int)≤57))∨(c.toNat:Int)=45∨(c.toNat:Int)=95:=by
 unfold okB
 simp only [Bool.or_eq_true,Bool.and_eq_true,decide_eq_true_eq,beq_iff_eq,UInt8.le_iff_toNat_le,← UInt8.toNat_inj]
 have e1:(97:UInt8).toNat=97:=rfl
 have e2:(122:UInt8).toNat=122:=rfl
 have e3:(48:UInt8).toNat=48:=rfl
 have e4:(57:UInt8).toNat=57:=rfl
 have e5:(45:UInt8).toNat=45:=rfl
 have e6:(95:UInt8).toNat=95:=rfl
 omega
theorem odd_any (c:UInt8) (w:World):Calls Tryz.prog 150 #[.int .u8 (c.toNat:Int)] w fun e w'=>e=.returned (.bool (!okB c))∧w'=w:=by
 have hc:c.toNat<256:=c.toNat_lt
 have hk:=Lib.hid (okB_iff c)
 go_enter Tryz.func150,Tryz.ntmps150
 exact mZ23
/-! ### IndexFunc, ContainsFunc: a function value that captures nothing -/
set_option maxRecDepth 100000 in
set_option maxHeartbeats 1000000 in
theorem fiB_index {α:Type} (f:α→Value) (p:α→Bool) (l:List α) (n:Nat) (hnl:n=l.length) (A:Option Addr) (c:Nat) (w:World) (B:Nat)
  (hr:Reads w B 1 A n (l.map f)) (hB:B≤w.heap.size) (hn:n≤5000000000000)
  (hp:∀ x∈l,∀ W,Calls Tryz.prog 150 #[f x] W fun e W'=>e=.returned (.bool (p x))∧Below W.heap.size W W') :
  Calls Tryz.prog 191 #[.slice A n c,.func (.func 150) #[] #[]] w fun e w'=>e=.returned (.int .i64 (firstI p l))∧Below w.heap.size w w':=by
 exact mZ28
theorem fiB_contains {α:Type} (f:α→Value) (p:α→Bool) (l:List α) (n:Nat) (hnl:n=l.length) (A:Option Addr) (c:Nat) (w:World) (B:Nat)
  (hr:Reads w B 1 A n (l.map f)) (hB:B≤w.heap.size) (hn:n≤5000000000000)
  (hp:∀ x∈l,∀ W,Calls Tryz.prog 150 #[f x] W fun e W'=>e=.returned (.bool (p x))∧Below W.heap.size W W') :
  Calls Tryz.prog 149 #[.slice A n c,.func (.func 150) #[] #[]] w fun e w'=>e=.returned (.bool (l.any p))∧Below w.heap.size w w':=by
 have hcall:=Lib.hid (fiB_index f p l n hnl A c w B hr hB hn hp)
 exact mZ30
set_option maxRecDepth 100000 in
set_option maxHeartbeats 1000000 in
theorem name_any (s:ByteArray) (w:World):Calls Tryz.prog 83 #[.string s] w fun e w'=>e=.returned (.bool (nameB s.data.toList))∧Below w.heap.size w w':=by
 have hcv:=Lib.hid (Lib.run_convert_string_bytes (P:=Tryz.prog) w 9 177 5 s Tryz.underlying9 Tryz.underlying177 Tryz.underlying5)
 have hb:=Lib.hid (bytesWorld_below w 5 s)
 have hr:=Lib.hid (bytesWorld_reads w 5 s)
 have hsz:=Lib.hid (Lib.size_eq s)
 have htl:=Lib.hid (toList_data s)
 go_enter Tryz.func83,Tryz.ntmps83
 go_wp2_with fail
 ·have h0:s.toList=[]:=by assumption
  rw [htl.out] at h0
  go_ret
  exact ⟨by rw [h0];rfl,Below.refl _ _⟩
 ·have h0:¬ s.toList=[]:=by assumption
  have h16:(s.size:Int)≤16:=by assumption
  rw [htl.out] at h0
  rw [hcv.out]
  have hB:=hb.out.size
  have hc:=Lib.hid (fiB_contains (fun c:UInt8=>Value.int .u8 (c.toNat:Int)) (fun c=>!okB c) s.data.toList s.size hsz.out (some ⟨w.heap.size,0,none⟩) (grownCap w s.size 0 5) (Lib.bytesWorld w 5 s) (w.heap.size+1) hr.out
   tZ164 tZ1 (fun x _ W=>(odd_any x W).mono fun _ _ ⟨h1,h2⟩=>⟨h1,by rw [h2];exact Below.refl _ _⟩))
  have hne:=Lib.hid h0
  clear h0
  obtain ⟨b,hbe0⟩:∃ b,b=s.data.toList.any fun c=>!okB c:=⟨_,rfl⟩
  rw [← hbe0] at hc
  have hbe:=Lib.hid hbe0
  clear hbe0
  go_wp2_with fail
  refine hc.out.mono ?_
  rintro e w1 ⟨rfl,hb1⟩
  go_wp2_with fail
  go_ret
  refine ⟨congrArg Ending.returned (congrArg Value.bool ?_),hb.out.trans (hb1.mono hB)⟩
  have e1:s.data.toList.isEmpty=false:=by
   cases he:s.data.toList with
   | nil=>exact absurd he hne.out
   | cons a r=>rfl
  have e2:decide (s.data.toList.length≤16)=true:=by
   rw [← hsz.out]
   exact decide_eq_true tZ1
  unfold nameB
  rw [e1,e2,List.all_eq_not_any_not,← hbe.out,htl.out,e1]
  rfl
 ·have h16:16<(s.size:Int):=by assumption
  go_ret
  refine ⟨congrArg Ending.returned (congrArg Value.bool ?_),Below.refl _ _⟩
  have e2:decide (s.data.toList.length≤16)=false:=by
   rw [← hsz.out]
   exact decide_eq_false tZ1
  unfold nameB
  rw [e2]
  simp
end Go.Proofs.YtcgclpcocdappaaGreatDoor
namespace Go.Proofs.YtcgclpcocdappaaGreatDoor
open Go.RowKit
set_option maxRecDepth 100000 in
set_option maxHeartbeats 2000000 in
theorem rcheckq_any (l:BL) (n:Nat) (hnl:n=l.length) (A:Option Addr) (c:Nat) (w:World) (B:Nat) (hr:Reads w B 2 A n (bcells l)) (hn:n≤140737488351232) :
  Calls Tryz.prog 117 #[.slice A n c] w fun e w'=>e=.returned (.int .i64 (okE l))∧∃ q,w'=w.drewN q:=by
 have HN:=Lib.hid hnl
 clear hnl
 go_enter Tryz.func117,Tryz.ntmps117
 go_wp2_with fail
 go_loopw [3] (fun j wr=>∃ k q0:Nat,k≤n∧j=.int .i64 (k:Int)∧Hid (okL l=okFrom (prevAt l k) (l.drop k))∧wr=w.drewN q0) (fun j _=>n-(intOf j).toNat)
 case atStart=>exact ⟨0,0,Nat.zero_le _,rfl,rfl,rfl⟩
 case round =>
  obtain ⟨k,q0,hk,rfl,hok,rfl⟩:=hrel
  by_cases hlt:k<n
  ·have hrw:=hr
   obtain ⟨ad,rfl,hadB,c0,c1⟩:=hrw.blk2 HN.out hlt
   have hki:(k:Int)<(n:Int):=tZ1
   have hkl:k<l.length:=tZ7
   obtain ⟨x,hx⟩:∃ x,x=l[k]'hkl:=⟨_,rfl⟩
   rw [← hx] at c0 c1
   have hdr:=List.drop_eq_getElem_cons hkl
   rw [← hx] at hdr
   have HX:=Lib.hid hx
   have HDR:=Lib.hid hdr
   obtain ⟨xi,xs⟩:=x
   simp only at c0 c1
   have hbad:Hid ((xi<0∨1024≤xi∨xs.length≠16∨(∃ y,prevAt l k=some y∧xi≤y))→okE l=9):=by
    exact mZ11
   have hgood:Hid ((0≤xi∧xi<1024∧xs.length=16∧(∀ y,prevAt l k=some y→y<xi))→okL l=okFrom (prevAt l (k+1)) (l.drop (k+1))):=by
    exact mZ10
   clear hx hdr hok
   by_cases g1:xi<0
   ·have HB:=Lib.hid (hbad.out (.inl g1))
    clear hr hrw hbad hgood
    exact mZ32
   by_cases g2:1024≤xi
   ·have HB:=Lib.hid (hbad.out (.inr (.inl g2)))
    have d1:decide (xi<0)=false:=tZ6
    have d2:decide (1024≤xi)=true:=tZ6
    clear hr hrw hbad hgood g1 g2
    exact mZ32
   by_cases g3:xs.length=16
   ·have g1':0≤xi:=tZ1
    have g2':xi<1024:=tZ1
    have g3a:((xs.length:Int) == 16)=true:=by simp [g3]
    have g3b:((xs.length:Int) != 16)=false:=by simp [g3]
    have d1:decide (xi<0)=false:=tZ6
    have d2:decide (1024≤xi)=false:=tZ6
    rcases Nat.eq_zero_or_pos k with h0 | h0
    ·have HG:=Lib.hid (hgood.out ⟨g1',g2',g3,fun y hy=>by subst h0;cases hy⟩)
     have d4:decide ((0:Int)<(k:Int))=false:=tZ6
     have d4':decide (0<k)=false:=tZ6
     have H0:=Lib.hid h0
     clear hr hrw hbad hgood g1 g2 g3 h0
     go_wp2_with fail
     go_big_quiet (fail)
     exact mZ33
    ·have d4:decide ((0:Int)<(k:Int))=true:=tZ6
     have d4':decide (0<k)=true:=tZ6
     have hk1l:k-1<l.length:=tZ1
     obtain ⟨y,hy⟩:∃ y,y=(l[k-1]'hk1l).1:=⟨_,rfl⟩
     have hpv:prevAt l k=some y:=by
      exact mZ9
     have hcp:=(hrw.blk2 HN.out (k:=k-1) tZ1)
     obtain ⟨ad2,e2,-,c2,-⟩:=hcp
     injection e2 with e2
     subst e2
     rw [← hy] at c2
     have i1:(0:Int)≤(k:Int)-1:=tZ1
     have i2:(k:Int)-1<(n:Int):=tZ1
     have i3:IntKind.i64.wrap ((k:Int)-1)=(k:Int)-1:=IntWalk.i64_in _ tZ1
     have i4:((k:Int)-1).toNat=k-1:=tZ1
     by_cases g5:y<xi
     ·have HG:=Lib.hid (hgood.out ⟨g1',g2',g3,fun y' hy'=>by rw [hpv] at hy';cases hy';exact g5⟩)
      have d5:decide (xi≤y)=false:=tZ6
      clear hr hrw hbad hgood g1 g2 g3 h0 hpv hy g5
      go_wp2_with fail
      go_big_quiet (fail)
      clear i3 i4
      exact mZ33
     ·have HB:=Lib.hid (hbad.out (.inr (.inr (.inr ⟨y,hpv,by omega⟩))))
      have d5:decide (xi≤y)=true:=tZ6
      clear hr hrw hbad hgood g1 g2 g3 h0 hpv hy g5
      go_wp2_with fail
      go_big_quiet (fail)
      clear i3 i4
      exact mZ31
   ·have g3a:((xs.length:Int) == 16)=false:=tZ6
    have g3b:((xs.length:Int) != 16)=true:=tZ6
    have g1':0≤xi:=tZ1
    have g2':xi<1024:=tZ1
    have HB:=Lib.hid (hbad.out (.inr (.inr (.inl g3))))
    have d1:decide (xi<0)=false:=tZ6
    have d2:decide (1024≤xi)=false:=tZ6
    clear hr hrw hbad hgood g1 g2 g3
    exact mZ32
  ·obtain rfl:k=n:=tZ1
   have HF:Hid (okE l=0):=by
    exact mZ5
   clear hok hr
   go_wp2_with fail
   go_ret
   exact ⟨by rw [HF.out];rfl,q0,rfl⟩
end Go.Proofs.YtcgclpcocdappaaGreatDoor
namespace Go.Proofs.YtcgclpcocdappaaGreatDoor
open Go.RowKit
set_option maxRecDepth 100000 in
set_option maxHeartbeats 1000000 in
theorem searchB_any {α:Type} (f0 f1:α→Value) (cf:α→Int) (l:List α) (hl:SignAsc cf l) (n:Nat) (hnl:n=l.length) (A:Option Addr) (c:Nat) (tgt:Value) (w:World) (B:Nat)
  (hr:Reads w B 2 A n (cellsK (fun x=>[f0 x,f1 x]) l)) (hB:B≤w.heap.size) (hn:n≤5000000000000)
  (hcmp:∀ x W,Below w.heap.size w W→Calls Tryz.prog 154 #[.agg #[f0 x,f1 x],tgt] W fun e W'=>e=.returned (.int .i64 (cf x))∧Below W.heap.size W W') :
  Calls Tryz.prog 153 #[.slice A n c,tgt,.func (.func 154) #[] #[]] w fun e w'=>e=.returned (.tuple #[.int .i64 (posF cf l),.bool (atF cf l)])∧Below w.heap.size w w':=by
 have HN:=Lib.hid hnl
 have HL:=Lib.hid hl
 have HC:=Lib.hid hcmp
 clear hnl hl hcmp
 go_enter Tryz.func153,Tryz.ntmps153
 exact mZ36
end Go.Proofs.YtcgclpcocdappaaGreatDoor
namespace Go.Proofs.YtcgclpcocdappaaGreatDoor
open Go.RowKit
set_option maxRecDepth 100000 in
set_option maxHeartbeats 1000000 in
theorem searchP_any {α:Type} (f0 f1:α→Value) (cf:α→Int) (l:List α) (hl:SignAsc cf l) (n:Nat) (hnl:n=l.length) (A:Option Addr) (c:Nat) (tgt:Value) (w:World) (B:Nat)
  (hr:Reads w B 2 A n (cellsK (fun x=>[f0 x,f1 x]) l)) (hB:B≤w.heap.size) (hn:n≤5000000000000)
  (hcmp:∀ x W,Below w.heap.size w W→Calls Tryz.prog 160 #[.agg #[f0 x,f1 x],tgt] W fun e W'=>e=.returned (.int .i64 (cf x))∧Below W.heap.size W W') :
  Calls Tryz.prog 159 #[.slice A n c,tgt,.func (.func 160) #[] #[]] w fun e w'=>e=.returned (.tuple #[.int .i64 (posF cf l),.bool (atF cf l)])∧Below w.heap.size w w':=by
 have HN:=Lib.hid hnl
 have HL:=Lib.hid hl
 have HC:=Lib.hid hcmp
 clear hnl hl hcmp
 go_enter Tryz.func159,Tryz.ntmps159
 exact mZ36
end Go.Proofs.YtcgclpcocdappaaGreatDoor
namespace Go.Proofs.YtcgclpcocdappaaGreatDoor
open Go.RowKit
section
variable {P:Program} {ops:Array Oper}
/-- what is said of each operation's value, by a list -/
def Says (Gs:List (Value→World→Prop)) (i:Nat) (v:Value) (W:World):Prop:=match Gs[i]? with
 | some p=>p v W
 | none=>True
def Stays (p:Value→World→Prop):Prop:=∀ v W W',p v W→Below W.heap.size W W'→p v W'
theorem Stays.pure {q:Value→Prop}:Stays (fun v _=>q v):=fun _ _ _ h _=>h
theorem Stays.own (base:Nat) (e:TypeId) (size n:Nat) (xs:List Value):Stays (fun v W=>W.ownsRow base e size v n xs):=fun _ _ _ h hb=>own_below h hb
/-- the same; each step is told besides that it has not come up, and that whatever has come up had all that it waits for -/
theorem wp_region_good2 {id:Nat} {a0:Act} {w:World} {Q:Exit→Act→World→Prop} (hm:P.follows .mixedOrders=true) (hok:regionOk ops a0.tmps.size=true) (Gs:List (Value→World→Prop)) (hst:∀ p∈Gs,Stays p)
  (hstep:∀ i o,ops[i]?=some o→∀ (m:Nat→Option Value) (W:World),Below w.heap.size w W→m i=none→(∀ j o',ops[j]?=some o'→(m j).isSome=true→∀ e∈o'.after,Region.binds .any e=true→(m e.on).isSome=true)→(∀ e∈o.after,Region.binds .any e=true→∃ v,m e.on=some v∧Says Gs e.on v W) →
   ∀ (A:Act) (K:Act→World→Prop),A=frameM a0 ops m→(∀ v W',Below W.heap.size W W'→Says Gs i v W'→K (A.put o.dst v) W')→if Region.wanted o (yielded ops A.tmps)=true then o.wp P A W K Q else K (A.put o.dst undef) W)
  (hend:∀ (m:Nat→Option Value) (W:World),Below w.heap.size w W→(∀ i,i<ops.size→∃ v,m i=some v∧Says Gs i v W)→Q .normal (frameM a0 ops m) W) :
  (Code.region id ops true).wp P Q a0 w:=by
 have hsay:∀ i v W W',Says Gs i v W→Below W.heap.size W W'→Says Gs i v W':=by
  exact mZ38
 refine wp_region_inv hm hok (fun m W=>Below w.heap.size w W∧(∀ i v,m i=some v→Says Gs i v W)∧(∀ j o',ops[j]?=some o'→(m j).isSome=true→∀ e∈o'.after,Region.binds .any e=true→(m e.on).isSome=true)) ⟨(Below.refl _ _).drew,fun _ _ h=>(by cases h),fun _ _ _ h=>(by cases h)⟩ ?_ ?_
 ·intro i o ho m W hJ hmi hdeps A K hA hK
  refine hstep i o ho m W hJ.1 hmi hJ.2.2 (fun e he hb=>?_) A K hA (fun v W' hb hS=>hK v W' ⟨below_step hJ.1 hb,fun j u hu=>?_,fun j o' ho' hj e he hbi=>?_⟩)
  ·have:=hdeps e he hb
   cases hme:m e.on with
   | none=>rw [hme] at this;cases this
   | some v=>exact ⟨v,rfl,hJ.2.1 _ _ hme⟩
  ·by_cases hj:j=i
   ·subst hj
    rw [upd_self] at hu
    cases hu
    exact hS
   ·rw [upd_ne m v hj] at hu
    exact hsay j u W W' (hJ.2.1 j u hu) hb
  ·by_cases hei:e.on=i
   ·rw [hei,upd_self];rfl
   ·rw [upd_ne m v hei]
    by_cases hji:j=i
    ·subst hji
     rw [ho] at ho'
     cases ho'
     exact hdeps e he hbi
    ·rw [upd_ne m v hji] at hj
     exact hJ.2.2 j o' ho' hj e he hbi
 ·intro m W hJ hall
  refine hend m W hJ.1 fun i hi=>?_
  exact mZ37
end
theorem none_up {ops:Array Oper} {m:Nat→Option Value} (hcl:∀ j o',ops[j]?=some o'→(m j).isSome=true→∀ e∈o'.after,Region.binds .any e=true→(m e.on).isSome=true) {j:Nat} {o:Oper} (ho:ops[j]?=some o) {e:Edge} (he:e∈o.after) (hb:Region.binds .any e=true) (hi:m e.on=none):m j=none:=by
 cases hj:m j with
 | none=>rfl
 | some v =>
  have:=hcl j o ho (by rw [hj];rfl) e he hb
  rw [hi] at this
  cases this
theorem stays_nil:∀ p∈([]:List (Value→World→Prop)),Stays p:=fun _ h=>by cases h
theorem stays_cons {p:Value→World→Prop} {l:List (Value→World→Prop)} (hp:Stays p) (hl:∀ q∈l,Stays q):∀ q∈p :: l,Stays q:=by
 intro q hq
 rcases List.mem_cons.1 hq with rfl | h
 ·exact hp
 ·exact hl q h
theorem own_lit (W:World) (cs:Array Value) (T:TypeId) (n:Nat) (h:cs.size=n) (hm:n≤maxLen):(W.alloc (.cells cs T)).ownsRow W.heap.size T 1 (.slice (some ⟨W.heap.size,0,none⟩) n n) n cs.toList:=by
 subst h
 refine ⟨by simp,.inr ⟨W.heap.size,cs.size,cs,rfl,Nat.le_refl _,heap_alloc_new W _,Nat.le_refl _,hm,by simp,?_⟩⟩
 rw [Nat.mul_one,List.take_of_length_le tZ3]
end Go.Proofs.YtcgclpcocdappaaGreatDoor
namespace Go.Proofs.YtcgclpcocdappaaGreatDoor
open Go.RowKit
theorem bl_irrefl (x:BS):Op.bytesLess x x=false:=by rw [bytesLess_eq];exact decide_eq_false (List.lt_irrefl x)
theorem bl_trans {x y z:BS} (h1:Op.bytesLess x y=true) (h2:Op.bytesLess y z=true):Op.bytesLess x z=true:=by
 rw [bytesLess_eq,decide_eq_true_eq] at *
 exact List.lt_trans h1 h2
theorem bl_tri:∀ (x y:BS),Op.bytesLess x y=false→x≠y→Op.bytesLess y x=true
 | [],[],_,h2=>absurd rfl h2
 | [],_ :: _,h1,_=>by cases h1
 | _ :: _,[],_,_=>rfl
 | a :: x,b :: y,h1,h2=>by
  simp only [Op.bytesLess,Bool.or_eq_false_iff,Bool.and_eq_false_iff,decide_eq_false_iff_not] at h1
  simp only [Op.bytesLess,Bool.or_eq_true,Bool.and_eq_true,decide_eq_true_eq]
  obtain ⟨h3,h4⟩:=h1
  rw [UInt8.lt_iff_toNat_lt] at h3 ⊢
  by_cases hab:a=b
  ·subst hab
   right
   refine ⟨by simp,bl_tri x y ?_ (fun e=>h2 (by rw [e]))⟩
   rcases h4 with h4 | h4
   ·simp at h4
   ·exact h4
  ·left
   have:a.toNat≠b.toNat:=fun e=>hab (UInt8.toNat_inj.1 e)
   omega
theorem bl_ne {x y:BS} (h:Op.bytesLess x y=true):x≠y:=by
 intro e
 subst e
 rw [bl_irrefl] at h
 cases h
def SortP (l:PL):Prop:=l.Pairwise fun x y=>Op.bytesLess x.1 y.1=true
def putP (p:BS×BS):PL→PL
 | []=>[p]
 | x :: l=>if Op.bytesLess p.1 x.1=true then p :: x :: l else if p.1=x.1 then p :: l else x :: putP p l
def getP (l:PL) (n:BS):Option BS:=(l.find? fun x=>x.1 == n).map (·.2)
theorem getP_cons (x:BS×BS) (l:PL) (n:BS):getP (x :: l) n=if x.1=n then some x.2 else getP l n:=by
 unfold getP
 rw [List.find?_cons]
 by_cases h:x.1=n
 ·rw [if_pos h,show (x.1 == n)=true by simp [h]];rfl
 ·rw [if_neg h,show (x.1 == n)=false by simp [h]]
theorem getP_small {l:PL} {n:BS} (h:∀ x∈l,Op.bytesLess n x.1=true):getP l n=none:=by
 unfold getP
 rw [List.find?_eq_none.2]
 ·rfl
 ·intro x hx e
  have:=bl_ne (h x hx)
  exact this (by simpa using (beq_iff_eq.1 e).symm)
theorem getP_putP (p:BS×BS) (l:PL) (h:SortP l) (n:BS):getP (putP p l) n=if p.1=n then some p.2 else getP l n:=by
 induction l with
 | nil=>unfold putP;rw [getP_cons]
 | cons y l ih =>
  obtain ⟨h1,h2⟩:=List.pairwise_cons.1 h
  unfold putP
  split
  ·rw [getP_cons]
  split
  ·rename_i hp
   rw [getP_cons,getP_cons]
   by_cases hn:p.1=n
   ·rw [if_pos hn,if_pos hn]
   ·rw [if_neg hn,if_neg hn,if_neg (by rw [← hp];exact hn)]
  ·rename_i hp hq
   rw [getP_cons,ih h2,getP_cons]
   by_cases hn:y.1=n
   ·rw [if_pos hn,if_pos hn,if_neg (fun e=>hq (e.trans hn.symm))]
   ·rw [if_neg hn,if_neg hn]
theorem propsFrom_sort (o:Option BS) (l:PL) (h:propsFrom o l=true):SortP l∧∀ q,o=some q→∀ x∈l,Op.bytesLess q x.1=true:=by
 induction l generalizing o with
 | nil=>exact ⟨List.Pairwise.nil,fun _ _ x hx=>by cases hx⟩
 | cons y l ih =>
  unfold propsFrom at h
  simp only [Bool.and_eq_true] at h
  obtain ⟨h1,h2⟩:=ih _ h.2
  have h3:=h2 y.1 rfl
  refine ⟨List.pairwise_cons.2 ⟨h3,h1⟩,fun q hq x hx=>?_⟩
  subst hq
  have h4:Op.bytesLess q y.1=true:=h.1.2
  rcases List.mem_cons.1 hx with rfl | hx
  ·exact h4
  ·exact bl_trans h4 (h3 x hx)
theorem propsB_sort (l:PL) (h:propsB l=true):SortP l:=by
 unfold propsB at h
 rw [Bool.and_eq_true] at h
 exact (propsFrom_sort none l h.2).1
end Go.Proofs.YtcgclpcocdappaaGreatDoor
namespace Go.Proofs.YtcgclpcocdappaaGreatDoor
open Go.RowKit
/-- a predicate that is a function value: called at a list's elements, in a world that keeps what it captured -/
structure PredK (P:Program) (g:Nat) (caps:Array Value) {α:Type} (enc:α→Array Value) (M:α→Prop) (p:α→Bool) (Keep:World→Prop):Prop where
 call:∀ x W,M x→Keep W→Calls P g (#[.agg (enc x)]++caps) W fun e W'=>e=.returned (.bool (p x))∧Below W.heap.size W W'
 below:∀ W W',Keep W→Below W.heap.size W W'→Keep W'
theorem Reads.el4 {α:Type} {f0 f1 f2 f3:α→Value} {w:World} {B n:Nat} {A:Option Addr} {l:List α} (h:Reads w B 4 A n (cellsK (fun x=>[f0 x,f1 x,f2 x,f3 x]) l)) (hn:n=l.length) {i:Nat} (hi:i<n) :
  ∃ ad,A=some ad∧ad.block<B∧w.cell? (ad.add (i*4))=some (f0 (l[i]'tZ1))∧w.cell? ⟨(ad.add (i*4)).block,(ad.add (i*4)).off+1,none⟩=some (f1 (l[i]'tZ1))∧w.cell? ⟨(ad.add (i*4)).block,(ad.add (i*4)).off+2,none⟩=some (f2 (l[i]'tZ1))∧w.cell? ⟨(ad.add (i*4)).block,(ad.add (i*4)).off+3,none⟩=some (f3 (l[i]'tZ1)):=by
 obtain ⟨ad,e,hb,hc⟩:=Reads.elK (k:=4) (fun _=>rfl) h hn hi
 refine ⟨ad,e,hb,?_,?_,?_,?_⟩
 ·exact mZ20
 ·exact mZ19
 ·exact mZ21
 ·exact mZ39
theorem Reads.el5 {α:Type} {f0 f1 f2 f3 f4:α→Value} {w:World} {B n:Nat} {A:Option Addr} {l:List α} (h:Reads w B 5 A n (cellsK (fun x=>[f0 x,f1 x,f2 x,f3 x,f4 x]) l)) (hn:n=l.length) {i:Nat} (hi:i<n) :
  ∃ ad,A=some ad∧ad.block<B∧w.cell? (ad.add (i*5))=some (f0 (l[i]'tZ1))∧w.cell? ⟨(ad.add (i*5)).block,(ad.add (i*5)).off+1,none⟩=some (f1 (l[i]'tZ1))∧w.cell? ⟨(ad.add (i*5)).block,(ad.add (i*5)).off+2,none⟩=some (f2 (l[i]'tZ1))∧w.cell? ⟨(ad.add (i*5)).block,(ad.add (i*5)).off+3,none⟩=some (f3 (l[i]'tZ1))∧w.cell? ⟨(ad.add (i*5)).block,(ad.add (i*5)).off+4,none⟩=some (f4 (l[i]'tZ1)):=by
 obtain ⟨ad,e,hb,hc⟩:=Reads.elK (k:=5) (fun _=>rfl) h hn hi
 refine ⟨ad,e,hb,?_,?_,?_,?_,?_⟩
 ·exact mZ20
 ·exact mZ19
 ·exact mZ21
 ·exact mZ39
 ·have:=hc 4 tZ1;rwa [addr_add_succ] at this
end Go.Proofs.YtcgclpcocdappaaGreatDoor
namespace Go.Proofs.YtcgclpcocdappaaGreatDoor
open Go.RowKit
theorem fill_one (zs:Array Value) (cs:List Value) (hz:zs.size=cs.length) (hp:0<cs.length):Instr.fill (fun i=>some (i*cs.length,cs.length)) zs [(0,.agg cs.toArray)]=some cs.toArray:=by
 have:=Great.fill_whole (s:=cs.length) hp [.agg cs.toArray] zs (fun v hv=>by rw [List.mem_singleton.1 hv];simp [Value.cells]) (by simp [hz])
 simpa [Value.cells] using this
theorem wpList_build_one {P:Program} {ops:Array Oper} {rest:List Oper} {op:Oper} {a:Act} {w:World} {Q:Exit→Act→World→Prop} (hgd:op.guard=none) (t e:TypeId) (x:Operand) (ho:op.op=.buildSlice t 1 #[(0,x)])
  (cs:List Value) (hx:a.eval x=.agg cs.toArray) (ie:TypeInfo) (z:Value) (hu:P.underlying t=some (.slice e)) (hie:P.info? e=some ie) (hz:ie.zero=some z) (hs:ie.size=cs.length) (hp:0<cs.length) (hl:cs.length≤16777216)
  (h:wpList P ops Q rest (a.put op.dst (.slice (some ⟨w.heap.size,0,none⟩) 1 1)) (w.alloc (.cells cs.toArray e))):wpList P ops Q (op :: rest) a w:=by
 refine wpList_buildSlice hgd t e 1 #[(0,x)] ho cs.toArray ie z hu hie hz (by rw [hs];omega) (by rw [hs];omega) ?_ h
 rw [hs]
 have:((#[(0,x)]:Array (Nat×Operand)).map fun (i,x)=>(i,a.eval x)).toList=[(0,.agg cs.toArray)]:=tZ129
 rw [this]
 exact fill_one _ cs tZ3 hp
/-- an element's cells, all at once -/
theorem Reads.elAll {α:Type} {enc:α→List Value} {k:Nat} (hk:∀ x,(enc x).length=k) {w:World} {B n:Nat} {A:Option Addr} {l:List α} (h:Reads w B k A n (cellsK enc l)) (hn:n=l.length) {i:Nat} (hi:i<n) :
  ∃ ad,A=some ad∧ad.block<B∧∀ j v,(enc (l[i]'tZ1))[j]?=some v→w.cell? ((ad.add (i*k)).add j)=some v:=by
 obtain ⟨ad,e,hb,hc⟩:=h.elK hk hn hi
 refine ⟨ad,e,hb,fun j v hv=>?_⟩
 have hj:j<k:=by
  rcases Nat.lt_or_ge j k with h | h
  ·exact h
  ·rw [List.getElem?_eq_none (by rw [hk];exact h)] at hv;cases hv
 rw [hc j hj,hv]
end Go.Proofs.YtcgclpcocdappaaGreatDoor
namespace Go.Proofs.YtcgclpcocdappaaGreatDoor
open Go.RowKit
/-- a slice: as it lies, and as it reads -/
structure FS (α:Type) where
 A:Option Addr
 n:Nat
 c:Nat
 l:List α
def FS.val {α:Type} (s:FS α):Value:=.slice s.A s.n s.c
def FS.rd {α:Type} (w:World) (B k:Nat) (enc:α→List Value) (s:FS α):Prop:=s.n=s.l.length∧s.n≤s.c∧Reads w B k s.A s.n (cellsK enc s.l)
def FS.own {α:Type} (w:World) (base:Nat) (t:TypeId) (k:Nat) (enc:α→List Value) (s:FS α):Prop:=s.n=s.l.length∧w.ownsRow base t k s.val s.n (cellsK enc s.l)
section
variable {α:Type} {w w':World} {B k:Nat} {enc:α→List Value} {s:FS α}
theorem FS.rd.below (h:s.rd w B k enc) (hb:Below B w w'):s.rd w' B k enc:=⟨h.1,h.2.1,h.2.2.below hb⟩
theorem FS.rd.more {B':Nat} (h:s.rd w B k enc) (hb:B≤B'):s.rd w B' k enc:=⟨h.1,h.2.1,h.2.2.more hb⟩
theorem FS.own.below {base:Nat} {t:TypeId} (h:s.own w base t k enc) (hb:Below w.heap.size w w'):s.own w' base t k enc:=⟨h.1,own_below h.2 hb⟩
theorem FS.own.mono {base base':Nat} {t:TypeId} (h:s.own w base t k enc) (hb:base'≤base):s.own w base' t k enc:=⟨h.1,own_mono h.2 hb⟩
theorem FS.own.rd {base:Nat} {t:TypeId} (h:s.own w base t k enc):s.rd w w.heap.size k enc:=by
 obtain ⟨A1,c1,e,h2,_,_⟩:=own_form h.2
 unfold FS.val at e
 injection e with _ _ e3
 exact ⟨h.1,by rw [e3];exact h2,Reads.of_own h.2⟩
end
theorem FS.own.kept {α:Type} {w w':World} {base k g:Nat} {t:TypeId} {enc:α→List Value} {s:FS α} (h:s.own w base t k enc) (hg:w.grownBy w' (some g)) (hb:g<base):s.own w' base t k enc:=by
 refine ⟨h.1,h.2.kept hg (.inr fun e=>?_)⟩
 have:=(h.2.lt _ e).1
 omega
theorem FS.len_eq {α:Type} {s s':FS α} (h:s.n=s.l.length) (h':s'.n=s'.l.length) (he:s.l=s'.l):s'.n=s.n:=by rw [h,h',he]
end Go.Proofs.YtcgclpcocdappaaGreatDoor
