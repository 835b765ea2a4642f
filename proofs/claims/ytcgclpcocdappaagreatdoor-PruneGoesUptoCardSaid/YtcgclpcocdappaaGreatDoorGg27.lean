/-
  Arguments opened field by field, to any depth: what a row of cells reads as. A slice literal of one wide struct: all its cells at once. slices.Clone at blocks, texts, properties and entries; the page's Own of contents: by their contracts.
-/
import Derived.Deep.Slices
import Derived.Deep.Fields
import Derived.ChangeSame
import Derived.WalkKit
import Derived.WalkSpells
import Derived.Below
import Derived.Laws.OwnMore
import Derived.Deep.AppendLies
import Derived.Deep.Draws
import Derived.Laws.Rows
import Derived.Maps.AppendAt
import Derived.RegionTactic
import Derived.OwnWalk
import Derived.Deep.QuietTactic
import Derived.BigQuiet
import Derived.Lib.Hide
import Derived.Laws.CopyOwn
import Derived.IntWalk
import Derived.Test.YtcgclpcocdappaaGreatDoorRows
import Derived.ProofKit
import Derived.OpenShut
import Derived.ShutString
import Derived.ChangeOld
import Derived.Carry
import Derived.SizedLaws
import Derived.JoinedCond
import Derived.Deep.CondSized
import Derived.Lib.SmallJoins
import Derived.Great.BuildSlice
import Derived.Deep.MidRow
import Derived.Handy
import Derived.Test.YtcgclpcocdappaaGreatDoorG0
import Derived.Test.YtcgclpcocdappaaGreatDoorGg1
import Derived.Test.YtcgclpcocdappaaGreatDoorGg7
import Derived.Test.YtcgclpcocdappaaGreatDoorGg22
namespace Go.Proofs.YtcgclpcocdappaaGreatDoor
open Go.RowKit Go.ChangeShapes Go.WideShapes Go.Deep Go.ChangeAt
structure CellsIn {H:Type} (enc:TypeId×Value→H) (P:Program) (W:World) (K:Nat) (t:TypeId) (cs:List Value) (d:DataW H):Prop where
 rd:∃ fuel p,DataW.trod enc P W 0 (fun _=>true) true fuel t cs=some (d,p)
 wt:∀ n∈d.weights P t,n≤reachBytes
 bk:Rows.uptoBulk d≤K
section
variable {H:Type} {enc:TypeId×Value→H} {P:Program} {W:World} {K:Nat} {t:TypeId} {cs:List Value} {d:DataW H}
theorem ArgIn.cellsIn {v:Value} (h:ArgIn enc P W t v d):CellsIn enc P W (Rows.uptoBulk d) t v.cells.toList d:=by
 obtain ⟨_,⟨p,m,hr⟩,hw⟩:=h
 exact ⟨⟨m,p,hr⟩,hw,Nat.le_refl _⟩
theorem ArgIn.agg {v:Value} {fs:Array Field} (h:ArgIn enc P W t v d) (ht:P.underlying t=some (.struct fs)):∃ cs,v=.agg cs∧CellsIn enc P W (Rows.uptoBulk d) t cs.toList d:=by
 have hc:=h.cellsIn
 obtain ⟨⟨base,ho⟩,_,_⟩:=h
 obtain ⟨cs,rfl,_⟩:=okWide_struct ht ho
 exact ⟨cs,rfl,hc⟩
theorem CellsIn.str (h:CellsIn enc P W K t cs d) (ht:P.underlying t=some .string):∃ s:List UInt8,cs=[.string ⟨s.toArray⟩]∧s.length≤140737488351232∧s.length+1≤K:=by
 obtain ⟨⟨m,p,hr⟩,hw,hb⟩:=h
 obtain ⟨s,rfl,hx,_⟩:=DataW.trod_string ht hr
 simp only [Prod.mk.injEq] at hx
 rw [hx.1] at hw hb
 refine ⟨s.data.toList,by simp,?_,?_⟩
 ·have:=hw s.data.toList.length (by simp [DataW.weights])
  simpa [reachBytes] using this
 ·simpa [Rows.uptoBulk] using hb
theorem CellsIn.int {k:IntKind} (h:CellsIn enc P W K t cs d) (ht:P.underlying t=some (.int k)):∃ n,cs=[.int k n]∧(Lit.int k n).wf=true:=by
 obtain ⟨⟨m,p,hr⟩,hw,hb⟩:=h
 obtain ⟨n,hcs,_,hn⟩:=DataW.trod_int ht hr
 exact ⟨n,hcs,hn⟩
theorem CellsIn.i64 (h:CellsIn enc P W K t cs d) (ht:P.underlying t=some (.int .i64)):∃ n:Int,cs=[.int .i64 n]∧-9223372036854775808≤n∧n≤9223372036854775807:=by
 obtain ⟨n,hcs,hn⟩:=h.int ht
 simp [Lit.wf,IntKind.min,IntKind.max,IntKind.signed,IntKind.bits] at hn
 exact ⟨n,hcs,by omega,by omega⟩
theorem CellsIn.u64 (h:CellsIn enc P W K t cs d) (ht:P.underlying t=some (.int .u64)):∃ n:Int,cs=[.int .u64 n]∧0≤n∧n<18446744073709551616:=by
 obtain ⟨n,hcs,hn⟩:=h.int ht
 simp [Lit.wf,IntKind.min,IntKind.max,IntKind.signed,IntKind.bits] at hn
 exact ⟨n,hcs,by omega,by omega⟩
theorem CellsIn.u8 (h:CellsIn enc P W K t cs d) (ht:P.underlying t=some (.int .u8)):∃ b:UInt8,cs=[.int .u8 (b.toNat:Int)]:=by
 obtain ⟨n,hcs,hn⟩:=h.int ht
 simp [Lit.wf,IntKind.min,IntKind.max,IntKind.signed,IntKind.bits] at hn
 refine ⟨UInt8.ofNat n.toNat,?_⟩
 rw [hcs]
 have:(UInt8.ofNat n.toNat).toNat=n.toNat:=by rw [UInt8.toNat_ofNat'];omega
 rw [this,Int.toNat_of_nonneg (by omega)]
theorem CellsIn.bool (h:CellsIn enc P W K t cs d) (ht:P.underlying t=some .bool):∃ b,cs=[.bool b]:=by
 obtain ⟨⟨m,p,hr⟩,hw,hb⟩:=h
 obtain ⟨b,hcs,_⟩:=DataW.trod_bool ht hr
 exact ⟨b,hcs⟩
theorem weightsEach_get:∀ (ts:List TypeId) (ds:List (DataW H)) (j:Nat) (u:TypeId) (y:DataW H) (n:Nat),ts[j]?=some u→ds[j]?=some y→n∈y.weights P u→n∈DataW.weightsEach P ts ds
 | [],_,j,_,_,_,h,_,_=>by simp at h
 | _ :: _,[],j,_,_,_,_,h,_=>by simp at h
 | a :: ts,b :: ds,0,u,y,n,h,h',hn=>by
  simp only [zE,Option.some.injEq] at h h'
  subst h h'
  simp only [DataW.weightsEach,List.mem_append]
  exact .inl hn
 | a :: ts,b :: ds,j+1,u,y,n,h,h',hn=>by
  simp only [zD] at h h'
  simp only [DataW.weightsEach,List.mem_append]
  exact .inr (weightsEach_get ts ds j u y n h h' hn)
theorem weightsAll_get {L:List (DataW H)} {e:TypeId} {x:DataW H} {n:Nat} (hx:x∈L) (hn:n∈x.weights P e):n∈DataW.weightsAll P e L:=by
 induction L with
 | nil=>cases hx
 | cons y L ih =>
  simp only [DataW.weightsAll,List.mem_append]
  rcases List.mem_cons.1 hx with rfl | hx
  ·exact .inl hn
  ·exact .inr (ih hx)
theorem bulk_pos (d:DataW H):1≤Rows.uptoBulk d:=by
 cases d with
 | lit l=>cases l <;> simp [Rows.uptoBulk]
 | _=>simp [Rows.uptoBulk]
theorem bulkAll_get {L:List (DataW H)} {x:DataW H} (hx:x∈L):Rows.uptoBulk x≤Rows.uptoBulkAll L:=by
 induction L with
 | nil=>cases hx
 | cons y L ih =>
  simp only [Rows.uptoBulkAll]
  rcases List.mem_cons.1 hx with rfl | hx
  ·omega
  ·have:=ih hx
   omega
theorem bulkAll_len (L:List (DataW H)):L.length≤Rows.uptoBulkAll L:=by
 induction L with
 | nil=>exact Nat.zero_le _
 | cons x r ih =>
  have:=bulk_pos x
  simp only [List.length_cons,Rows.uptoBulkAll]
  omega
theorem CellsIn.fields {fs:Array Field} (h:CellsIn enc P W K t cs d) (ht:P.underlying t=some (.struct fs)) :
  cs.length=P.cellsOf t∧∀ (j:Nat) (f:Field),fs[j]?=some f→∃ y,CellsIn enc P W K f.type ((cs.drop f.offset).take (P.cellsOf f.type)) y:=by
 obtain ⟨⟨m,p,hr⟩,hw,hb⟩:=h
 obtain ⟨xs,n,_,hx,hl,hxl,hj⟩:=DataW.trod_struct ht hr
 simp only [Prod.mk.injEq] at hx
 rw [hx.1] at hw hb
 refine ⟨hl,fun j f hf=>?_⟩
 have hlt:j<fs.size:=(Array.getElem?_eq_some_iff.1 hf).1
 have hg:xs[j]?=some (xs[j]'(by omega)):=List.getElem?_eq_getElem (by omega)
 refine ⟨(xs[j]'(by omega)).1,⟨n,_,(hj j f hf).trans hg⟩,?_,?_⟩
 ·intro q hq
  refine hw q ?_
  simp only [DataW.weights,ht]
  refine weightsEach_get _ _ j f.type (xs[j]'(by omega)).1 q ?_ (by rw [List.getElem?_map,hg];rfl) hq
  rw [List.getElem?_map,Array.getElem?_toList,hf]
  rfl
 ·have:=bulkAll_get (x:=(xs[j]'(by omega)).1) (L:=xs.map (·.1)) (List.mem_map.2 ⟨xs[j]'(by omega),List.getElem_mem _,rfl⟩)
  simp only [Rows.uptoBulk] at hb
  omega
theorem CellsIn.slice {e:TypeId} (h:CellsIn enc P W K t cs d) (ht:P.underlying t=some (.slice e)) :
  cs=[.slice none 0 0]∨∃ (a:Addr) (n c:Nat) (D:Nat→DataW H),cs=[.slice (some a) n c]∧n≤c∧c≤maxLen∧c*P.bytesOf e≤140737488351232∧n≤K ∧
   ∀ i,i<n→∃ cs',W.cells? 0 (a.add (i*P.cellsOf e)) (P.cellsOf e)=some cs'∧CellsIn enc P W K e cs' (D i):=by
 obtain ⟨⟨m,p,hr⟩,hw,hb⟩:=h
 rcases Go.Deep.open_slice ht hr with ⟨hcs,hx⟩ | ⟨a,l,cc,mm,nn,D,Pl,hcs,_,hl,hm,hmm,hx,hi⟩
 ·exact .inl hcs
 ·right
  simp only [Prod.mk.injEq] at hx
  rw [hx.1] at hw hb
  have hmc:mm=cc:=by rw [hmm];rfl
  have hw1:=hw ((((List.range l).map D).length+((List.range (mm-l)).map fun j=>D (l+j)).length)*P.bytesOf e) (by simp only [DataW.weights,ht];exact List.mem_cons_self ..)
  have hl2:l+(mm-l)=cc:=by omega
  simp only [List.length_map,List.length_range,hl2,reachBytes] at hw1
  have hbl:=bulkAll_len ((List.range l).map D)
  simp only [Rows.uptoBulk,List.length_map,List.length_range] at hb hbl
  refine ⟨a,l,cc,D,hcs,hl,hm,hw1,by omega,fun i hil=>?_⟩
  obtain ⟨cs',hc,ht'⟩:=hi i (by omega)
  have hmem:D i∈(List.range l).map D:=List.mem_map.2 ⟨i,List.mem_range.2 hil,rfl⟩
  refine ⟨cs',hc,⟨_,_,ht'⟩,?_,?_⟩
  ·intro q hq
   refine hw q ?_
   simp only [DataW.weights,ht,List.mem_cons,List.mem_append]
   exact .inr (.inl (weightsAll_get hmem hq))
  ·have:=bulkAll_get hmem
   omega
theorem flatMap_len {α:Type} {Enc:α→List Value} {k:Nat} (hE:∀ x,(Enc x).length=k) (l:List α):(l.flatMap Enc).length=l.length*k:=by
 induction l with
 | nil=>simp
 | cons x l ih=>rw [List.flatMap_cons,List.length_append,hE,ih,List.length_cons,Nat.add_mul];omega
theorem flatMap_get {α:Type} {Enc:α→List Value} {k:Nat} (hE:∀ x,(Enc x).length=k) (l:List α) (i j:Nat) (hi:i<l.length) (hj:j<k):(l.flatMap Enc)[i*k+j]?=(Enc l[i])[j]?:=by
 induction l generalizing i with
 | nil=>cases hi
 | cons x l ih =>
  rw [List.flatMap_cons]
  cases i with
  | zero=>rw [Nat.zero_mul,Nat.zero_add,List.getElem?_append_left (by rw [hE];exact hj)];rfl
  | succ i =>
   rw [List.getElem?_append_right (by rw [hE,Nat.add_mul];omega),hE,show (i+1)*k+j-k=i*k+j by rw [Nat.add_mul];omega,ih i (by simpa using hi)]
   rfl
/-- A LIST: each element by its own law -/
theorem CellsIn.list {α:Type} {e:TypeId} {k:Nat} (Enc:α→List Value) (G:α→Prop) (hE:∀ x,(Enc x).length=k) (hk:0<k) (hC:P.cellsOf e=k) (ht:P.underlying t=some (.slice e))
  (hel:∀ cs d,CellsIn enc P W K e cs d→∃ x:α,cs=Enc x∧G x) (h:CellsIn enc P W K t cs d) :
  ∃ (A:Option Addr) (l:List α) (n c:Nat),cs=[.slice A n c]∧n=l.length∧n≤c∧c≤maxLen∧c*P.bytesOf e≤140737488351232∧n≤K∧Reads W W.heap.size k A n (l.flatMap Enc)∧∀ x∈l,G x:=by
 rcases h.slice ht with rfl | ⟨a,n,c,D,rfl,hn,hm,hb,hK,hi⟩
 ·exact ⟨none,[],0,0,rfl,rfl,Nat.le_refl _,by unfold maxLen;omega,by omega,Nat.zero_le _,⟨by simp,fun h=>absurd h (by omega)⟩,by simp⟩
 ·rw [hC] at hi
  have hq:∀ i,i<n→∃ x:α,(∀ j,j<k→W.cell? (a.add (i*k+j))=(Enc x)[j]?)∧G x:=by
   intro i hin
   obtain ⟨cs',hc,hcell⟩:=hi i hin
   obtain ⟨x,rfl,hg⟩:=hel _ _ hcell
   obtain ⟨_,hcl,hat⟩:=World.cells?_some hc
   refine ⟨x,fun j hj=>?_,hg⟩
   have:=hat j hj
   rwa [add_of_add] at this
  obtain ⟨l,hl,hlx⟩:∃ l:List α,l.length=n∧∀ i (h:i<l.length),(∀ j,j<k→W.cell? (a.add (i*k+j))=(Enc l[i])[j]?)∧G l[i]:=by
   clear hi hK hb hm hn h
   induction n with
   | zero=>exact ⟨[],rfl,fun i h=>by simp at h⟩
   | succ n ih =>
    obtain ⟨l,hl,hlx⟩:=ih (fun i hin=>hq i (by omega))
    obtain ⟨x,hx,hg⟩:=hq n (by omega)
    refine ⟨l++[x],by simp [hl],fun i hin=>?_⟩
    rcases Nat.lt_or_ge i l.length with hlt | hge
    ·rw [List.getElem_append_left hlt]
     exact hlx i hlt
    ·have:i=l.length:=by simp at hin;omega
     subst this
     rw [List.getElem_append_right (Nat.le_refl _)]
     simp only [Nat.sub_self,List.getElem_cons_zero]
     rw [hl]
     exact ⟨hx,hg⟩
  refine ⟨some a,l,n,c,rfl,hl.symm,hn,hm,hb,hK,⟨by rw [flatMap_len hE,hl],fun h0=>⟨a,rfl,?_,fun j u hu=>?_⟩⟩,fun x hx=>?_⟩
  ·obtain ⟨h1,_⟩:=hlx 0 (by omega)
   have h2:=h1 0 hk
   rw [List.getElem?_eq_getElem (by rw [hE];exact hk)] at h2
   have:=World.block_lt_of_cell? W _ h2
   rwa [block_of_add] at this
  ·have hj:j<n*k:=by
    have h3:=(List.getElem?_eq_some_iff.1 hu).1
    rwa [flatMap_len hE,hl] at h3
   have hdm:=Nat.div_add_mod j k
   have hmod:=Nat.mod_lt j hk
   have hdv:j / k<n:=Nat.div_lt_of_lt_mul (by rw [Nat.mul_comm];exact hj)
   have e1:j=j / k*k+j % k:=by rw [Nat.mul_comm];exact hdm.symm
   rw [e1,flatMap_get hE l _ _ (by omega) hmod] at hu
   rw [e1,(hlx (j / k) (by omega)).1 (j % k) hmod]
   exact hu
  ·obtain ⟨i,hil,rfl⟩:=List.getElem_of_mem hx
   exact (hlx i hil).2
end
end Go.Proofs.YtcgclpcocdappaaGreatDoor
namespace Go.Proofs.YtcgclpcocdappaaGreatDoor
open Go.RowKit
theorem fill_one (zs:Array Value) (cs:List Value) (hz:zs.size=cs.length) (hp:0<cs.length):Instr.fill (fun i=>some (i*cs.length,cs.length)) zs [(0,.agg cs.toArray)]=some cs.toArray:=by
 have:=Great.fill_whole (s:=cs.length) hp [.agg cs.toArray] zs (fun v hv=>by rw [List.mem_singleton.1 hv];simp [Value.cells]) (by simp [hz])
 simpa [Value.cells] using this
theorem wpList_build_one {P:Program} {ops:Array Oper} {rest:List Oper} {op:Oper} {a:Act} {w:World} {Q:Exit→Act→World→Prop} (hgd:op.guard=none) (t e:TypeId) (x:Operand) (ho:op.op=.buildSlice t 1 #[(0,x)])
  (cs:List Value) (hx:a.eval x=.agg cs.toArray) (ie:TypeInfo) (z:Value) (hu:P.underlying t=some (.slice e)) (hie:P.info? e=some ie) (hz:ie.zero=some z) (hs:ie.size=cs.length) (hp:0<cs.length) (hl:cs.length≤16777216)
  (h:wpList P ops Q rest (a.put op.dst (.slice (some ⟨w.heap.size,0,none⟩) 1 1)) (w.alloc (.cells cs.toArray e))):wpList P ops Q (op :: rest) a w:=by
 refine wpList_buildSlice hgd t e 1 #[(0,x)] ho cs.toArray ie z hu hie hz (by rw [hs];omega) (by rw [hs];omega) ?_ h
 rw [hs]
 have:((#[(0,x)]:Array (Nat×Operand)).map fun (i,x)=>(i,a.eval x)).toList=[(0,.agg cs.toArray)]:=by simp [hx]
 rw [this]
 exact fill_one _ cs (by simp) hp
/-- an element's cells, all at once -/
theorem Reads.elAll {α:Type} {enc:α→List Value} {k:Nat} (hk:∀ x,(enc x).length=k) {w:World} {B n:Nat} {A:Option Addr} {l:List α} (h:Reads w B k A n (cellsK enc l)) (hn:n=l.length) {i:Nat} (hi:i<n) :
  ∃ ad,A=some ad∧ad.block<B∧∀ j v,(enc (l[i]'(by omega)))[j]?=some v→w.cell? ((ad.add (i*k)).add j)=some v:=by
 obtain ⟨ad,e,hb,hc⟩:=h.elK hk hn hi
 refine ⟨ad,e,hb,fun j v hv=>?_⟩
 have hj:j<k:=by
  rcases Nat.lt_or_ge j k with h | h
  ·exact h
  ·rw [List.getElem?_eq_none (by rw [hk];exact h)] at hv;cases hv
 rw [hc j hj,hv]
end Go.Proofs.YtcgclpcocdappaaGreatDoor
namespace Go.Proofs.YtcgclpcocdappaaGreatDoor
open Go.RowKit
theorem Tryz.cloneBl_info:(Tryz.prog.info? 75).map (fun i=>(i.zero,i.size,i.bytes))=some (some (.agg #[.int .i64 0,.string ByteArray.empty]),2,24):=by kernel_rfl
set_option maxRecDepth 100000 in
theorem cloneBl_any (xs:List Value) (n:Nat) (A:Option Addr) (c:Nat) (w:World) (B:Nat) (hr:Reads w B 2 A n xs) (hB:B≤w.heap.size) (h1:∀ u∈xs,u.oneCell'=true) (hn:n*24≤140737488355328) :
  Calls Tryz.prog 45 #[.slice A n c] w fun e w'=>∃ v,e=.returned v∧w'.ownsRow w.heap.size 75 2 v n xs∧Below w.heap.size w w':=by
 obtain ⟨i0,hi0,hz0,hz1,hz2⟩:=info_parts Tryz.cloneBl_info
 rcases A with _ | ad
 ·obtain rfl:n=0:=by
   rcases Nat.eq_zero_or_pos n with h | h
   ·exact h
   ·obtain ⟨_,h,_⟩:=hr.2 h;cases h
  obtain rfl:xs=[]:=List.eq_nil_of_length_eq_zero (by simpa using hr.1)
  have heq:=fun W=>Lib.run_eql_slice_nil (P:=Tryz.prog) W 38 75 none 0 c 0 0 Tryz.underlying38
  go_enter Tryz.func45,Tryz.ntmps45
  go_wp2_with fail
  go_ret
  exact ⟨_,rfl,World.ownsRow_nil _ _ _ _,Below.refl _ _⟩
 ·have heq:=fun W=>Lib.run_eql_slice_nil (P:=Tryz.prog) W 38 75 (some ad) n c 0 0 Tryz.underlying38
  have hown:(w.alloc (.cells #[] 75)).ownsRow w.heap.size 75 2 (.slice (some ⟨w.heap.size,0,none⟩) 0 0) 0 []:=World.ownsRow_made w #[] 0 (Nat.le_refl _) (by simp [maxLen]) rfl
  have hra:=hr.alloc hB (.cells #[] 75)
  go_enter Tryz.func45,Tryz.ntmps45
  go_wp2_with (at_builtin;(refine wpList_append_any _ rfl (.tmp 5) (.tmp 6) _ rfl w.heap.size 75 i0 _ 2 24 Tryz.underlying38 hi0 hz0 hz1 hz2 rfl (by omega) (.slice (some ⟨w.heap.size,0,none⟩) 0 0) 0 [] rfl hown B (some ad) n c xs rfl hra h1 (by unfold maxLen;omega) (by omega) (by simp) ?_);intro v1 w2 hown1 hg1 hat1)
  go_ret
  refine ⟨v1,rfl,by simpa using hown1,((Below.refl _ _).alloc (Nat.le_refl _) _).grown hg1 (by simp) (fun k hk=>?_)⟩
  simp [Value.ownBlock] at hk
  omega
theorem Tryz.cloneSt_info:(Tryz.prog.info? 9).map (fun i=>(i.zero,i.size,i.bytes))=some (some (.string ByteArray.empty),1,16):=by kernel_rfl
set_option maxRecDepth 100000 in
theorem cloneSt_any (xs:List Value) (n:Nat) (A:Option Addr) (c:Nat) (w:World) (B:Nat) (hr:Reads w B 1 A n xs) (hB:B≤w.heap.size) (h1:∀ u∈xs,u.oneCell'=true) (hn:n*16≤140737488355328) :
  Calls Tryz.prog 99 #[.slice A n c] w fun e w'=>∃ v,e=.returned v∧w'.ownsRow w.heap.size 9 1 v n xs∧Below w.heap.size w w':=by
 obtain ⟨i0,hi0,hz0,hz1,hz2⟩:=info_parts Tryz.cloneSt_info
 rcases A with _ | ad
 ·obtain rfl:n=0:=by
   rcases Nat.eq_zero_or_pos n with h | h
   ·exact h
   ·obtain ⟨_,h,_⟩:=hr.2 h;cases h
  obtain rfl:xs=[]:=List.eq_nil_of_length_eq_zero (by simpa using hr.1)
  have heq:=fun W=>Lib.run_eql_slice_nil (P:=Tryz.prog) W 48 9 none 0 c 0 0 Tryz.underlying48
  go_enter Tryz.func99,Tryz.ntmps99
  go_wp2_with fail
  go_ret
  exact ⟨_,rfl,World.ownsRow_nil _ _ _ _,Below.refl _ _⟩
 ·have heq:=fun W=>Lib.run_eql_slice_nil (P:=Tryz.prog) W 48 9 (some ad) n c 0 0 Tryz.underlying48
  have hown:(w.alloc (.cells #[] 9)).ownsRow w.heap.size 9 1 (.slice (some ⟨w.heap.size,0,none⟩) 0 0) 0 []:=World.ownsRow_made w #[] 0 (Nat.le_refl _) (by simp [maxLen]) rfl
  have hra:=hr.alloc hB (.cells #[] 9)
  go_enter Tryz.func99,Tryz.ntmps99
  go_wp2_with (at_builtin;(refine wpList_append_any _ rfl (.tmp 5) (.tmp 6) _ rfl w.heap.size 9 i0 _ 1 16 Tryz.underlying48 hi0 hz0 hz1 hz2 rfl (by omega) (.slice (some ⟨w.heap.size,0,none⟩) 0 0) 0 [] rfl hown B (some ad) n c xs rfl hra h1 (by unfold maxLen;omega) (by omega) (by simp) ?_);intro v1 w2 hown1 hg1 hat1)
  go_ret
  refine ⟨v1,rfl,by simpa using hown1,((Below.refl _ _).alloc (Nat.le_refl _) _).grown hg1 (by simp) (fun k hk=>?_)⟩
  simp [Value.ownBlock] at hk
  omega
theorem Tryz.clonePr_info:(Tryz.prog.info? 78).map (fun i=>(i.zero,i.size,i.bytes))=some (some (.agg #[.string ByteArray.empty,.string ByteArray.empty]),2,32):=by kernel_rfl
set_option maxRecDepth 100000 in
theorem clonePr_any (xs:List Value) (n:Nat) (A:Option Addr) (c:Nat) (w:World) (B:Nat) (hr:Reads w B 2 A n xs) (hB:B≤w.heap.size) (h1:∀ u∈xs,u.oneCell'=true) (hn:n*32≤140737488355328) :
  Calls Tryz.prog 46 #[.slice A n c] w fun e w'=>∃ v,e=.returned v∧w'.ownsRow w.heap.size 78 2 v n xs∧Below w.heap.size w w':=by
 obtain ⟨i0,hi0,hz0,hz1,hz2⟩:=info_parts Tryz.clonePr_info
 rcases A with _ | ad
 ·obtain rfl:n=0:=by
   rcases Nat.eq_zero_or_pos n with h | h
   ·exact h
   ·obtain ⟨_,h,_⟩:=hr.2 h;cases h
  obtain rfl:xs=[]:=List.eq_nil_of_length_eq_zero (by simpa using hr.1)
  have heq:=fun W=>Lib.run_eql_slice_nil (P:=Tryz.prog) W 40 78 none 0 c 0 0 Tryz.underlying40
  go_enter Tryz.func46,Tryz.ntmps46
  go_wp2_with fail
  go_ret
  exact ⟨_,rfl,World.ownsRow_nil _ _ _ _,Below.refl _ _⟩
 ·have heq:=fun W=>Lib.run_eql_slice_nil (P:=Tryz.prog) W 40 78 (some ad) n c 0 0 Tryz.underlying40
  have hown:(w.alloc (.cells #[] 78)).ownsRow w.heap.size 78 2 (.slice (some ⟨w.heap.size,0,none⟩) 0 0) 0 []:=World.ownsRow_made w #[] 0 (Nat.le_refl _) (by simp [maxLen]) rfl
  have hra:=hr.alloc hB (.cells #[] 78)
  go_enter Tryz.func46,Tryz.ntmps46
  go_wp2_with (at_builtin;(refine wpList_append_any _ rfl (.tmp 5) (.tmp 6) _ rfl w.heap.size 78 i0 _ 2 32 Tryz.underlying40 hi0 hz0 hz1 hz2 rfl (by omega) (.slice (some ⟨w.heap.size,0,none⟩) 0 0) 0 [] rfl hown B (some ad) n c xs rfl hra h1 (by unfold maxLen;omega) (by omega) (by simp) ?_);intro v1 w2 hown1 hg1 hat1)
  go_ret
  refine ⟨v1,rfl,by simpa using hown1,((Below.refl _ _).alloc (Nat.le_refl _) _).grown hg1 (by simp) (fun k hk=>?_)⟩
  simp [Value.ownBlock] at hk
  omega
theorem Tryz.cloneEn_info:(Tryz.prog.info? 106).map (fun i=>(i.zero,i.size,i.bytes))=some (some (.agg #[.string ByteArray.empty,.int .i64 0,.string ByteArray.empty,.int .i64 0]),4,48):=by kernel_rfl
set_option maxRecDepth 100000 in
theorem cloneEn_any (xs:List Value) (n:Nat) (A:Option Addr) (c:Nat) (w:World) (B:Nat) (hr:Reads w B 4 A n xs) (hB:B≤w.heap.size) (h1:∀ u∈xs,u.oneCell'=true) (hn:n*48≤140737488355328) :
  Calls Tryz.prog 113 #[.slice A n c] w fun e w'=>∃ v,e=.returned v∧w'.ownsRow w.heap.size 106 4 v n xs∧Below w.heap.size w w':=by
 obtain ⟨i0,hi0,hz0,hz1,hz2⟩:=info_parts Tryz.cloneEn_info
 rcases A with _ | ad
 ·obtain rfl:n=0:=by
   rcases Nat.eq_zero_or_pos n with h | h
   ·exact h
   ·obtain ⟨_,h,_⟩:=hr.2 h;cases h
  obtain rfl:xs=[]:=List.eq_nil_of_length_eq_zero (by simpa using hr.1)
  have heq:=fun W=>Lib.run_eql_slice_nil (P:=Tryz.prog) W 25 106 none 0 c 0 0 Tryz.underlying25
  go_enter Tryz.func113,Tryz.ntmps113
  go_wp2_with fail
  go_ret
  exact ⟨_,rfl,World.ownsRow_nil _ _ _ _,Below.refl _ _⟩
 ·have heq:=fun W=>Lib.run_eql_slice_nil (P:=Tryz.prog) W 25 106 (some ad) n c 0 0 Tryz.underlying25
  have hown:(w.alloc (.cells #[] 106)).ownsRow w.heap.size 106 4 (.slice (some ⟨w.heap.size,0,none⟩) 0 0) 0 []:=World.ownsRow_made w #[] 0 (Nat.le_refl _) (by simp [maxLen]) rfl
  have hra:=hr.alloc hB (.cells #[] 106)
  go_enter Tryz.func113,Tryz.ntmps113
  go_wp2_with (at_builtin;(refine wpList_append_any _ rfl (.tmp 5) (.tmp 6) _ rfl w.heap.size 106 i0 _ 4 48 Tryz.underlying25 hi0 hz0 hz1 hz2 rfl (by omega) (.slice (some ⟨w.heap.size,0,none⟩) 0 0) 0 [] rfl hown B (some ad) n c xs rfl hra h1 (by unfold maxLen;omega) (by omega) (by simp) ?_);intro v1 w2 hown1 hg1 hat1)
  go_ret
  refine ⟨v1,rfl,by simpa using hown1,((Below.refl _ _).alloc (Nat.le_refl _) _).grown hg1 (by simp) (fun k hk=>?_)⟩
  simp [Value.ownBlock] at hk
  omega
end Go.Proofs.YtcgclpcocdappaaGreatDoor
