/-
  Arguments opened field by field, to any depth: what a row of cells reads as. An argument that is a tenant.
-/
import Derived.Test.YtiojfffgiejibaaGreatDoorQsM1
import Derived.Deep.Slices
import Derived.Deep.Fields
import Derived.ChangeSame
import Derived.WalkKit
import Derived.WalkSpells
import Derived.Below
import Derived.Laws.OwnMore
import Derived.Deep.AppendLies
import Derived.Deep.Draws
import Derived.Laws.Rows
import Derived.Maps.AppendAt
import Derived.RegionTactic
import Derived.OwnWalk
import Derived.Deep.QuietTactic
import Derived.BigQuiet
import Derived.Lib.Hide
import Derived.Laws.CopyOwn
import Derived.IntWalk
import Derived.Test.YtiojfffgiejibaaGreatDoorRows
import Derived.ProofKit
import Derived.OpenShut
import Derived.ShutString
import Derived.ChangeOld
import Derived.Carry
import Derived.SizedLaws
import Derived.JoinedCond
import Derived.Deep.CondSized
import Derived.Lib.SmallJoins
import Derived.Handy
import Derived.Deep.Quiet
import Derived.Orders
import Derived.Lib.SplitLaws
import Derived.Lib.LastIndexByte
import Derived.Lib.Strings
import Derived.Sort.Walk0
import Derived.Sort.KeysCollected
import Derived.Shelf.Strings.Search1
import Derived.Shelf.Strings.Search2
import Derived.Shelf.Strings.Search3
import Derived.Shelf.Strings.Cut
import Derived.Shelf.Strings.Count
import Derived.Shelf.LaysM
import Derived.Shelf.Strings.Shaped
import Derived.Shelf.Strings.LastIndex
import Derived.Shelf.Strings.Split
import Derived.Shelf.Strings.SplitShaped
import Derived.Shelf.Unicode.Decode
import Derived.Shelf.Strings.RuneCount
import Derived.Shelf.Strings.Explode
import Derived.Shelf.Unicode.DecodeSlow
import Derived.Shelf.Slices.Turned
import Derived.Test.YtiojfffgiejibaaGreatDoorProg
import Derived.Laws.BytesString
import Derived.Laws.IdiomStrings
import Derived.Lib.ConvBytes
import Derived.Deep.MidRow
import Derived.Test.YtiojfffgiejibaaGreatDoorQ0
import Derived.Test.YtiojfffgiejibaaGreatDoorQs1
import Derived.Test.YtiojfffgiejibaaGreatDoorQs5
import Derived.Test.YtiojfffgiejibaaGreatDoorQs7
import Derived.Test.YtiojfffgiejibaaGreatDoorQs10
import Derived.Test.YtiojfffgiejibaaGreatDoorQs16
namespace Go.Proofs.YtiojfffgiejibaaGreatDoor
open Go.RowKit Go.ChangeShapes Go.WideShapes Go.Deep Go.ChangeAt
structure CellsIn {H:Type} (enc:TypeId×Value→H) (P:Program) (W:World) (K:Nat) (t:TypeId) (cs:List Value) (d:DataW H):Prop where
 rd:∃ fuel p,DataW.trod enc P W 0 (fun _=>true) true fuel t cs=some (d,p)
 wt:∀ n∈d.weights P t,n≤reachBytes
 bk:Rows.uptoBulk d≤K
section
variable {H:Type} {enc:TypeId×Value→H} {P:Program} {W:World} {K:Nat} {t:TypeId} {cs:List Value} {d:DataW H}
theorem ArgIn.cellsIn {v:Value} (h:ArgIn enc P W t v d):CellsIn enc P W (Rows.uptoBulk d) t v.cells.toList d:=by
 obtain ⟨_,⟨p,m,hr⟩,hw⟩:=h
 exact ⟨⟨m,p,hr⟩,hw,Nat.le_refl _⟩
theorem ArgIn.agg {v:Value} {fs:Array Field} (h:ArgIn enc P W t v d) (ht:P.underlying t=some (.struct fs)):∃ cs,v=.agg cs∧CellsIn enc P W (Rows.uptoBulk d) t cs.toList d:=by
 have hc:=h.cellsIn
 obtain ⟨⟨base,ho⟩,_,_⟩:=h
 obtain ⟨cs,rfl,_⟩:=okWide_struct ht ho
 exact ⟨cs,rfl,hc⟩
theorem CellsIn.str (h:CellsIn enc P W K t cs d) (ht:P.underlying t=some .string):∃ s:List UInt8,cs=[.string ⟨s.toArray⟩]∧s.length≤140737488351232∧s.length+1≤K:=by
 obtain ⟨⟨m,p,hr⟩,hw,hb⟩:=h
 obtain ⟨s,rfl,hx,_⟩:=DataW.trod_string ht hr
 simp only [Prod.mk.injEq] at hx
 rw [hx.1] at hw hb
 refine ⟨s.data.toList,by simp,?_,?_⟩
 ·have:=hw s.data.toList.length (by simp [DataW.weights])
  simpa [reachBytes] using this
 ·simpa [Rows.uptoBulk] using hb
theorem CellsIn.int {k:IntKind} (h:CellsIn enc P W K t cs d) (ht:P.underlying t=some (.int k)):∃ n,cs=[.int k n]∧(Lit.int k n).wf=true:=by
 obtain ⟨⟨m,p,hr⟩,hw,hb⟩:=h
 obtain ⟨n,hcs,_,hn⟩:=DataW.trod_int ht hr
 exact ⟨n,hcs,hn⟩
theorem CellsIn.i64 (h:CellsIn enc P W K t cs d) (ht:P.underlying t=some (.int .i64)):∃ n:Int,cs=[.int .i64 n]∧-9223372036854775808≤n∧n≤9223372036854775807:=by
 exact mZ224
theorem CellsIn.u64 (h:CellsIn enc P W K t cs d) (ht:P.underlying t=some (.int .u64)):∃ n:Int,cs=[.int .u64 n]∧0≤n∧n<18446744073709551616:=by
 exact mZ224
theorem CellsIn.u8 (h:CellsIn enc P W K t cs d) (ht:P.underlying t=some (.int .u8)):∃ b:UInt8,cs=[.int .u8 (b.toNat:Int)]:=by
 obtain ⟨n,hcs,hn⟩:=h.int ht
 simp [Lit.wf,IntKind.min,IntKind.max,IntKind.signed,IntKind.bits] at hn
 refine ⟨UInt8.ofNat n.toNat,?_⟩
 rw [hcs]
 have:(UInt8.ofNat n.toNat).toNat=n.toNat:=by rw [UInt8.toNat_ofNat'];omega
 rw [this,Int.toNat_of_nonneg tZ1]
theorem CellsIn.bool (h:CellsIn enc P W K t cs d) (ht:P.underlying t=some .bool):∃ b,cs=[.bool b]:=by
 obtain ⟨⟨m,p,hr⟩,hw,hb⟩:=h
 obtain ⟨b,hcs,_⟩:=DataW.trod_bool ht hr
 exact ⟨b,hcs⟩
theorem weightsEach_get:∀ (ts:List TypeId) (ds:List (DataW H)) (j:Nat) (u:TypeId) (y:DataW H) (n:Nat),ts[j]?=some u→ds[j]?=some y→n∈y.weights P u→n∈DataW.weightsEach P ts ds
 | [],_,j,_,_,_,h,_,_=>by simp at h
 | _ :: _,[],j,_,_,_,_,h,_=>by simp at h
 | a :: ts,b :: ds,0,u,y,n,h,h',hn=>by
  simp only [zE,Option.some.injEq] at h h'
  subst h h'
  simp only [DataW.weightsEach,List.mem_append]
  exact .inl hn
 | a :: ts,b :: ds,j+1,u,y,n,h,h',hn=>by
  simp only [zD] at h h'
  simp only [DataW.weightsEach,List.mem_append]
  exact .inr (weightsEach_get ts ds j u y n h h' hn)
theorem weightsAll_get {L:List (DataW H)} {e:TypeId} {x:DataW H} {n:Nat} (hx:x∈L) (hn:n∈x.weights P e):n∈DataW.weightsAll P e L:=by
 induction L with
 | nil=>cases hx
 | cons y L ih =>
  simp only [DataW.weightsAll,List.mem_append]
  rcases List.mem_cons.1 hx with rfl | hx
  ·exact .inl hn
  ·exact .inr (ih hx)
theorem bulk_pos (d:DataW H):1≤Rows.uptoBulk d:=by
 cases d with
 | lit l=>cases l <;> simp [Rows.uptoBulk]
 | _=>simp [Rows.uptoBulk]
theorem bulkAll_get {L:List (DataW H)} {x:DataW H} (hx:x∈L):Rows.uptoBulk x≤Rows.uptoBulkAll L:=by
 induction L with
 | nil=>cases hx
 | cons y L ih =>
  simp only [Rows.uptoBulkAll]
  rcases List.mem_cons.1 hx with rfl | hx
  ·omega
  ·have:=ih hx
   omega
theorem bulkAll_len (L:List (DataW H)):L.length≤Rows.uptoBulkAll L:=by
 induction L with
 | nil=>exact Nat.zero_le _
 | cons x r ih =>
  have:=bulk_pos x
  simp only [List.length_cons,Rows.uptoBulkAll]
  omega
theorem CellsIn.fields {fs:Array Field} (h:CellsIn enc P W K t cs d) (ht:P.underlying t=some (.struct fs)) :
  cs.length=P.cellsOf t∧∀ (j:Nat) (f:Field),fs[j]?=some f→∃ y,CellsIn enc P W K f.type ((cs.drop f.offset).take (P.cellsOf f.type)) y:=by
 obtain ⟨⟨m,p,hr⟩,hw,hb⟩:=h
 obtain ⟨xs,n,_,hx,hl,hxl,hj⟩:=DataW.trod_struct ht hr
 simp only [Prod.mk.injEq] at hx
 rw [hx.1] at hw hb
 refine ⟨hl,fun j f hf=>?_⟩
 have hlt:j<fs.size:=(Array.getElem?_eq_some_iff.1 hf).1
 have hg:xs[j]?=some (xs[j]'tZ1):=List.getElem?_eq_getElem tZ1
 refine ⟨(xs[j]'tZ1).1,⟨n,_,(hj j f hf).trans hg⟩,?_,?_⟩
 ·intro q hq
  refine hw q ?_
  simp only [DataW.weights,ht]
  refine weightsEach_get _ _ j f.type (xs[j]'tZ1).1 q ?_ (by rw [List.getElem?_map,hg];rfl) hq
  rw [List.getElem?_map,Array.getElem?_toList,hf]
  rfl
 ·have:=bulkAll_get (x:=(xs[j]'tZ1).1) (L:=xs.map (·.1)) (List.mem_map.2 ⟨xs[j]'tZ1,List.getElem_mem _,rfl⟩)
  simp only [Rows.uptoBulk] at hb
  omega
theorem CellsIn.slice {e:TypeId} (h:CellsIn enc P W K t cs d) (ht:P.underlying t=some (.slice e)) :
  cs=[.slice none 0 0]∨∃ (a:Addr) (n c:Nat) (D:Nat→DataW H),cs=[.slice (some a) n c]∧n≤c∧c≤maxLen∧c*P.bytesOf e≤140737488351232∧n≤K ∧
   ∀ i,i<n→∃ cs',W.cells? 0 (a.add (i*P.cellsOf e)) (P.cellsOf e)=some cs'∧CellsIn enc P W K e cs' (D i):=by
 obtain ⟨⟨m,p,hr⟩,hw,hb⟩:=h
 rcases Go.Deep.open_slice ht hr with ⟨hcs,hx⟩ | ⟨a,l,cc,mm,nn,D,Pl,hcs,_,hl,hm,hmm,hx,hi⟩
 ·exact .inl hcs
 ·right
  simp only [Prod.mk.injEq] at hx
  rw [hx.1] at hw hb
  have hmc:mm=cc:=by rw [hmm];rfl
  have hw1:=hw ((((List.range l).map D).length+((List.range (mm-l)).map fun j=>D (l+j)).length)*P.bytesOf e) (by simp only [DataW.weights,ht];exact List.mem_cons_self ..)
  have hl2:l+(mm-l)=cc:=tZ1
  simp only [List.length_map,List.length_range,hl2,reachBytes] at hw1
  have hbl:=bulkAll_len ((List.range l).map D)
  simp only [Rows.uptoBulk,List.length_map,List.length_range] at hb hbl
  refine ⟨a,l,cc,D,hcs,hl,hm,hw1,by omega,fun i hil=>?_⟩
  obtain ⟨cs',hc,ht'⟩:=hi i tZ1
  have hmem:D i∈(List.range l).map D:=List.mem_map.2 ⟨i,List.mem_range.2 hil,rfl⟩
  refine ⟨cs',hc,⟨_,_,ht'⟩,?_,?_⟩
  ·intro q hq
   refine hw q ?_
   simp only [DataW.weights,ht,List.mem_cons,List.mem_append]
   exact .inr (.inl (weightsAll_get hmem hq))
  ·have:=bulkAll_get hmem
   omega
theorem flatMap_len {α:Type} {Enc:α→List Value} {k:Nat} (hE:∀ x,(Enc x).length=k) (l:List α):(l.flatMap Enc).length=l.length*k:=by
 induction l with
 | nil=>simp
 | cons x l ih=>rw [List.flatMap_cons,List.length_append,hE,ih,List.length_cons,Nat.add_mul];omega
theorem flatMap_get {α:Type} {Enc:α→List Value} {k:Nat} (hE:∀ x,(Enc x).length=k) (l:List α) (i j:Nat) (hi:i<l.length) (hj:j<k):(l.flatMap Enc)[i*k+j]?=(Enc l[i])[j]?:=by
 induction l generalizing i with
 | nil=>cases hi
 | cons x l ih =>
  rw [List.flatMap_cons]
  cases i with
  | zero=>rw [Nat.zero_mul,Nat.zero_add,List.getElem?_append_left (by rw [hE];exact hj)];rfl
  | succ i =>
   rw [List.getElem?_append_right (by rw [hE,Nat.add_mul];omega),hE,show (i+1)*k+j-k=i*k+j by rw [Nat.add_mul];omega,ih i (by simpa using hi)]
   rfl
/-- A LIST: each element by its own law -/
theorem CellsIn.list {α:Type} {e:TypeId} {k:Nat} (Enc:α→List Value) (G:α→Prop) (hE:∀ x,(Enc x).length=k) (hk:0<k) (hC:P.cellsOf e=k) (ht:P.underlying t=some (.slice e))
  (hel:∀ cs d,CellsIn enc P W K e cs d→∃ x:α,cs=Enc x∧G x) (h:CellsIn enc P W K t cs d) :
  ∃ (A:Option Addr) (l:List α) (n c:Nat),cs=[.slice A n c]∧n=l.length∧n≤c∧c≤maxLen∧c*P.bytesOf e≤140737488351232∧n≤K∧Reads W W.heap.size k A n (l.flatMap Enc)∧∀ x∈l,G x:=by
 rcases h.slice ht with rfl | ⟨a,n,c,D,rfl,hn,hm,hb,hK,hi⟩
 ·exact ⟨none,[],0,0,rfl,rfl,Nat.le_refl _,by unfold maxLen;omega,by omega,Nat.zero_le _,⟨by simp,fun h=>absurd h tZ1⟩,by simp⟩
 ·rw [hC] at hi
  have hq:∀ i,i<n→∃ x:α,(∀ j,j<k→W.cell? (a.add (i*k+j))=(Enc x)[j]?)∧G x:=by
   intro i hin
   obtain ⟨cs',hc,hcell⟩:=hi i hin
   obtain ⟨x,rfl,hg⟩:=hel _ _ hcell
   obtain ⟨_,hcl,hat⟩:=World.cells?_some hc
   refine ⟨x,fun j hj=>?_,hg⟩
   have:=hat j hj
   rwa [add_of_add] at this
  obtain ⟨l,hl,hlx⟩:∃ l:List α,l.length=n∧∀ i (h:i<l.length),(∀ j,j<k→W.cell? (a.add (i*k+j))=(Enc l[i])[j]?)∧G l[i]:=by
   clear hi hK hb hm hn h
   induction n with
   | zero=>exact ⟨[],rfl,fun i h=>by simp at h⟩
   | succ n ih =>
    obtain ⟨l,hl,hlx⟩:=ih (fun i hin=>hq i tZ1)
    obtain ⟨x,hx,hg⟩:=hq n tZ1
    refine ⟨l++[x],by simp [hl],fun i hin=>?_⟩
    rcases Nat.lt_or_ge i l.length with hlt | hge
    ·rw [List.getElem_append_left hlt]
     exact hlx i hlt
    ·have:i=l.length:=by simp at hin;omega
     subst this
     rw [List.getElem_append_right (Nat.le_refl _)]
     simp only [Nat.sub_self,List.getElem_cons_zero]
     rw [hl]
     exact ⟨hx,hg⟩
  refine ⟨some a,l,n,c,rfl,hl.symm,hn,hm,hb,hK,⟨by rw [flatMap_len hE,hl],fun h0=>⟨a,rfl,?_,fun j u hu=>?_⟩⟩,fun x hx=>?_⟩
  ·obtain ⟨h1,_⟩:=hlx 0 tZ1
   have h2:=h1 0 hk
   rw [List.getElem?_eq_getElem (by rw [hE];exact hk)] at h2
   have:=World.block_lt_of_cell? W _ h2
   rwa [block_of_add] at this
  ·have hj:j<n*k:=by
    have h3:=(List.getElem?_eq_some_iff.1 hu).1
    rwa [flatMap_len hE,hl] at h3
   have hdm:=Nat.div_add_mod j k
   have hmod:=Nat.mod_lt j hk
   have hdv:j / k<n:=Nat.div_lt_of_lt_mul (by rw [Nat.mul_comm];exact hj)
   have e1:j=j / k*k+j % k:=by rw [Nat.mul_comm];exact hdm.symm
   rw [e1,flatMap_get hE l _ _ tZ1 hmod] at hu
   rw [e1,(hlx (j / k) tZ1).1 (j % k) hmod]
   exact hu
  ·obtain ⟨i,hil,rfl⟩:=List.getElem_of_mem hx
   exact (hlx i hil).2
end
end Go.Proofs.YtiojfffgiejibaaGreatDoor
namespace Go.Proofs.YtiojfffgiejibaaGreatDoor
open Go.RowKit Go.ChangeShapes Go.WideShapes Go.ChangeAt
theorem len2 {α:Type} {l:List α} (h:l.length=2):∃ a0 a1,l=[a0,a1]:=by
 match l,h with
 | [a0,a1],_=>exact ⟨a0,a1,rfl⟩
theorem len4 {α:Type} {l:List α} (h:l.length=4):∃ a0 a1 a2 a3,l=[a0,a1,a2,a3]:=by
 match l,h with
 | [a0,a1,a2,a3],_=>exact ⟨a0,a1,a2,a3,rfl⟩
theorem len5 {α:Type} {l:List α} (h:l.length=5):∃ a0 a1 a2 a3 a4,l=[a0,a1,a2,a3,a4]:=by
 match l,h with
 | [a0,a1,a2,a3,a4],_=>exact ⟨a0,a1,a2,a3,a4,rfl⟩
theorem len7 {α:Type} {l:List α} (h:l.length=7):∃ a0 a1 a2 a3 a4 a5 a6,l=[a0,a1,a2,a3,a4,a5,a6]:=by
 match l,h with
 | [a0,a1,a2,a3,a4,a5,a6],_=>exact ⟨a0,a1,a2,a3,a4,a5,a6,rfl⟩
theorem len12 {α:Type} {l:List α} (h:l.length=12):∃ a0 a1 a2 a3 a4 a5 a6 a7 a8 a9 a10 a11,l=[a0,a1,a2,a3,a4,a5,a6,a7,a8,a9,a10,a11]:=by
 match l,h with
 | [a0,a1,a2,a3,a4,a5,a6,a7,a8,a9,a10,a11],_=>exact ⟨a0,a1,a2,a3,a4,a5,a6,a7,a8,a9,a10,a11,rfl⟩
theorem len21 {α:Type} {l:List α} (h:l.length=21):∃ a0 a1 a2 a3 a4 a5 a6 a7 a8 a9 a10 a11 a12 a13 a14 a15 a16 a17 a18 a19 a20,l=[a0,a1,a2,a3,a4,a5,a6,a7,a8,a9,a10,a11,a12,a13,a14,a15,a16,a17,a18,a19,a20]:=by
 match l,h with
 | [a0,a1,a2,a3,a4,a5,a6,a7,a8,a9,a10,a11,a12,a13,a14,a15,a16,a17,a18,a19,a20],_=>exact ⟨a0,a1,a2,a3,a4,a5,a6,a7,a8,a9,a10,a11,a12,a13,a14,a15,a16,a17,a18,a19,a20,rfl⟩
theorem cofT_str:Tryz.prog.cellsOf 9=1:=tZ2
theorem cofT_int:Tryz.prog.cellsOf 3=1:=tZ2
theorem cofT_errno:Tryz.prog.cellsOf 28=1:=tZ2
theorem cofT_bool:Tryz.prog.cellsOf 4=1:=tZ2
theorem cofT_u64:Tryz.prog.cellsOf 71=1:=tZ2
theorem cofT_strs:Tryz.prog.cellsOf 51=1:=tZ2
theorem cofT_blks:Tryz.prog.cellsOf 52=1:=tZ2
theorem cofT_prps:Tryz.prog.cellsOf 54=1:=tZ2
theorem cofT_snaps:Tryz.prog.cellsOf 53=1:=tZ2
theorem cofT_sets:Tryz.prog.cellsOf 22=1:=tZ2
theorem cofT_grants:Tryz.prog.cellsOf 23=1:=tZ2
theorem cofT_stages:Tryz.prog.cellsOf 24=1:=tZ2
theorem cofT_log:Tryz.prog.cellsOf 25=1:=tZ2
theorem cofT_sum:Tryz.prog.cellsOf 73=4:=tZ2
theorem cofT_rec:Tryz.prog.cellsOf 75=12:=tZ2
section
variable {H:Type} {enc:TypeId×Value→H} {W:World} {K:Nat} {cs:List Value} {d:DataW H}
theorem CellsIn.sumT (h:CellsIn enc Tryz.prog W K 73 cs d):∃ s:Sm,cs=smV s:=by
 obtain ⟨hl,hf⟩:=h.fields Tryz.underlying73
 obtain ⟨c0,c1,c2,c3,rfl⟩:=len4 (hl.trans cofT_sum)
 obtain ⟨y0,q0⟩:=hf 0 _ rfl
 obtain ⟨y1,q1⟩:=hf 1 _ rfl
 obtain ⟨y2,q2⟩:=hf 2 _ rfl
 obtain ⟨y3,q3⟩:=hf 3 _ rfl
 obtain ⟨n0,e0,_⟩:=q0.u64 Tryz.underlying71
 obtain ⟨n1,e1,_⟩:=q1.u64 Tryz.underlying71
 obtain ⟨n2,e2,_⟩:=q2.u64 Tryz.underlying71
 obtain ⟨n3,e3,_⟩:=q3.u64 Tryz.underlying71
 simp [cofT_u64] at e0 e1 e2 e3
 exact ⟨⟨n0,n1,n2,n3⟩,by rw [e0,e1,e2,e3];rfl⟩
theorem CellsIn.strT (hK:K≤1048576) (h:CellsIn enc Tryz.prog W K 9 cs d):∃ x:BS,cs=encS x∧x.length≤4000000000:=by
 obtain ⟨s,e,_,b⟩:=h.str Tryz.underlying9
 exact ⟨s,e,by omega⟩
theorem cofT_blk:Tryz.prog.cellsOf 97=2:=tZ2
theorem CellsIn.blkT (_hK:K≤1048576) (h:CellsIn enc Tryz.prog W K 97 cs d):∃ x:BlkT,cs=encB x∧(True):=by
 obtain ⟨hl,hf⟩:=h.fields Tryz.underlying97
 obtain ⟨a0,a1,rfl⟩:=len2 (hl.trans cofT_blk)
 obtain ⟨y0,q0⟩:=hf 0 _ rfl
 obtain ⟨y1,q1⟩:=hf 1 _ rfl
 obtain ⟨s0,e0,_⟩:=q0.i64 Tryz.underlying3
 obtain ⟨s1,e1,_,b1⟩:=q1.str Tryz.underlying9
 simp [cofT_int,cofT_str] at e0 e1
 exact ⟨(s0,s1),by rw [e0,e1];rfl,trivial⟩
theorem cofT_prp:Tryz.prog.cellsOf 100=2:=tZ2
theorem CellsIn.prpT (hK:K≤1048576) (h:CellsIn enc Tryz.prog W K 100 cs d):∃ x:(BS×BS),cs=encP x∧((x.1.length≤4000000000∧x.2.length≤4000000000)):=by
 obtain ⟨hl,hf⟩:=h.fields Tryz.underlying100
 obtain ⟨a0,a1,rfl⟩:=len2 (hl.trans cofT_prp)
 obtain ⟨y0,q0⟩:=hf 0 _ rfl
 obtain ⟨y1,q1⟩:=hf 1 _ rfl
 obtain ⟨s0,e0,_,b0⟩:=q0.str Tryz.underlying9
 obtain ⟨s1,e1,_,b1⟩:=q1.str Tryz.underlying9
 simp [cofT_str] at e0 e1
 exact ⟨(s0,s1),by rw [e0,e1];rfl,by simp only;omega,by simp only;omega⟩
theorem CellsIn.strs (hK:K≤1048576) (h:CellsIn enc Tryz.prog W K 51 cs d):∃ s:FS BS,cs=[s.val]∧s.rd W W.heap.size 1 encS∧s.n≤1048576∧∀ x∈s.l,x.length≤4000000000:=by
 obtain ⟨A,l,n,c,hcs,hn,hc,_,_,hK2,hr,hg⟩:=h.list (fun x:BS=>encS x) (fun x=>x.length≤4000000000) (fun _=>rfl) tZ4 cofT_str Tryz.underlying51 (fun _ _ h=>h.strT hK)
 exact mZ225
theorem CellsIn.blks (hK:K≤1048576) (h:CellsIn enc Tryz.prog W K 52 cs d):∃ s:FS BlkT,cs=[s.val]∧s.rd W W.heap.size 2 encB∧s.n≤1000000000000∧∀ x∈s.l,True:=by
 obtain ⟨A,l,n,c,hcs,hn,hc,_,_,hK2,hr,hg⟩:=h.list (fun x:BlkT=>encB x) (fun x=>True) (fun _=>rfl) tZ4 cofT_blk Tryz.underlying52 (fun _ _ h=>h.blkT hK)
 exact mZ225
theorem CellsIn.prps (hK:K≤1048576) (h:CellsIn enc Tryz.prog W K 54 cs d):∃ s:FS (BS×BS),cs=[s.val]∧s.rd W W.heap.size 2 encP∧s.n≤1000000000000∧∀ x∈s.l,(x.1.length≤4000000000∧x.2.length≤4000000000):=by
 obtain ⟨A,l,n,c,hcs,hn,hc,_,_,hK2,hr,hg⟩:=h.list (fun x:(BS×BS)=>encP x) (fun x=>(x.1.length≤4000000000∧x.2.length≤4000000000)) (fun _=>rfl) tZ4 cofT_prp Tryz.underlying54 (fun _ _ h=>h.prpT hK)
 exact mZ225
theorem cofT_snap:Tryz.prog.cellsOf 58=5:=tZ2
theorem CellsIn.snapT (hK:K≤1048576) (h:CellsIn enc Tryz.prog W K 58 cs d):∃ x:SnapR,cs=encSnap x∧(x.rd W W.heap.size∧x.sz∧x.tags.n≤1048576):=by
 obtain ⟨hl,hf⟩:=h.fields Tryz.underlying58
 obtain ⟨a0,a1,a2,a3,a4,rfl⟩:=len5 (hl.trans cofT_snap)
 obtain ⟨y0,q0⟩:=hf 0 _ rfl
 obtain ⟨y1,q1⟩:=hf 1 _ rfl
 obtain ⟨y2,q2⟩:=hf 2 _ rfl
 obtain ⟨y3,q3⟩:=hf 3 _ rfl
 obtain ⟨y4,q4⟩:=hf 4 _ rfl
 obtain ⟨s0,e0,_,b0⟩:=q0.str Tryz.underlying9
 obtain ⟨s1,e1,_⟩:=q1.i64 Tryz.underlying3
 obtain ⟨s2,e2,g2⟩:=q2.blks hK
 obtain ⟨s3,e3,g3⟩:=q3.strs hK
 obtain ⟨s4,e4,g4⟩:=q4.prps hK
 simp [cofT_str,cofT_int,cofT_blks,cofT_strs,cofT_prps] at e0 e1 e2 e3 e4
 obtain ⟨r2,n2,_⟩:=g2
 obtain ⟨r3,n3,k3⟩:=g3
 obtain ⟨r4,n4,k4⟩:=g4
 exact ⟨⟨s0,s1,s2,s3,s4⟩,by rw [e0,e1,e2,e3,e4];rfl,⟨r2,r3,r4⟩,⟨by show s0.length≤_;omega,n2,Nat.le_trans n3 tZ4,k3,n4,k4⟩,n3⟩
theorem CellsIn.snaps (hK:K≤1048576) (h:CellsIn enc Tryz.prog W K 53 cs d):∃ s:FS SnapR,cs=[s.val]∧s.rd W W.heap.size 5 encSnap∧s.n≤1048576∧∀ x∈s.l,(x.rd W W.heap.size∧x.sz∧x.tags.n≤1048576):=by
 obtain ⟨A,l,n,c,hcs,hn,hc,_,_,hK2,hr,hg⟩:=h.list (fun x:SnapR=>encSnap x) (fun x=>(x.rd W W.heap.size∧x.sz∧x.tags.n≤1048576)) (fun _=>rfl) tZ4 cofT_snap Tryz.underlying53 (fun _ _ h=>h.snapT hK)
 exact mZ225
theorem cofT_set:Tryz.prog.cellsOf 56=5:=tZ2
theorem CellsIn.setT (hK:K≤1048576) (h:CellsIn enc Tryz.prog W K 56 cs d):∃ x:SetR,cs=encSet x∧(x.rd W W.heap.size∧x.sz∧(x.snaps.n≤1048576∧∀ y∈x.snaps.l,y.tags.n≤1048576)):=by
 obtain ⟨hl,hf⟩:=h.fields Tryz.underlying56
 obtain ⟨a0,a1,a2,a3,a4,rfl⟩:=len5 (hl.trans cofT_set)
 obtain ⟨y0,q0⟩:=hf 0 _ rfl
 obtain ⟨y1,q1⟩:=hf 1 _ rfl
 obtain ⟨y2,q2⟩:=hf 2 _ rfl
 obtain ⟨y3,q3⟩:=hf 3 _ rfl
 obtain ⟨y4,q4⟩:=hf 4 _ rfl
 obtain ⟨s0,e0,_,b0⟩:=q0.str Tryz.underlying9
 obtain ⟨s1,e1,_,b1⟩:=q1.str Tryz.underlying9
 obtain ⟨s2,e2,g2⟩:=q2.blks hK
 obtain ⟨s3,e3,g3⟩:=q3.snaps hK
 obtain ⟨s4,e4,g4⟩:=q4.prps hK
 simp [cofT_str,cofT_blks,cofT_snaps,cofT_prps] at e0 e1 e2 e3 e4
 obtain ⟨r2,n2,_⟩:=g2
 obtain ⟨r3,n3,k3⟩:=g3
 obtain ⟨r4,n4,k4⟩:=g4
 exact ⟨⟨s0,s1,s2,s3,s4⟩,by rw [e0,e1,e2,e3,e4];rfl,⟨r2,r3,fun y hy=>(k3 y hy).1,r4⟩,⟨by show s0.length≤_;omega,by show s1.length≤_;omega,n2,Nat.le_trans n3 tZ4,fun y hy=>(k3 y hy).2.1,n4,k4⟩,n3,fun y hy=>(k3 y hy).2.2⟩
theorem CellsIn.sets (hK:K≤1048576) (h:CellsIn enc Tryz.prog W K 22 cs d):∃ s:FS SetR,cs=[s.val]∧s.rd W W.heap.size 5 encSet∧s.n≤1048576∧∀ x∈s.l,(x.rd W W.heap.size∧x.sz∧(x.snaps.n≤1048576∧∀ y∈x.snaps.l,y.tags.n≤1048576)):=by
 obtain ⟨A,l,n,c,hcs,hn,hc,_,_,hK2,hr,hg⟩:=h.list (fun x:SetR=>encSet x) (fun x=>(x.rd W W.heap.size∧x.sz∧(x.snaps.n≤1048576∧∀ y∈x.snaps.l,y.tags.n≤1048576))) (fun _=>rfl) tZ4 cofT_set Tryz.underlying22 (fun _ _ h=>h.setT hK)
 exact mZ225
structure RecR where
 kind:Int
 nm:BS
 frm:Int
 gd:Int
 own:FS (BS×BS)
 ix:Int
 ct:Int
 dt:BS
 sm:Sm
def encRec (x:RecR):List Value:=[.int .i64 x.kind,strV x.nm,.int .i64 x.frm,.int .i64 x.gd,x.own.val,.int .i64 x.ix,.int .i64 x.ct,strV x.dt]++smV x.sm
theorem cofT_rec2:Tryz.prog.cellsOf 75=12:=tZ2
theorem CellsIn.recT (hK:K≤1048576) (h:CellsIn enc Tryz.prog W K 75 cs d):∃ x:RecR,cs=encRec x∧(x.own.rd W W.heap.size 2 encP∧x.own.n≤1000000000000∧(∀ p∈x.own.l,p.1.length≤4000000000∧p.2.length≤4000000000)∧x.nm.length≤4000000000∧x.dt.length≤4000000000):=by
 obtain ⟨hl,hf⟩:=h.fields Tryz.underlying75
 obtain ⟨a0,a1,a2,a3,a4,a5,a6,a7,a8,a9,a10,a11,rfl⟩:=len12 (hl.trans cofT_rec2)
 obtain ⟨y0,q0⟩:=hf 0 _ rfl
 obtain ⟨y1,q1⟩:=hf 1 _ rfl
 obtain ⟨y2,q2⟩:=hf 2 _ rfl
 obtain ⟨y3,q3⟩:=hf 3 _ rfl
 obtain ⟨y4,q4⟩:=hf 4 _ rfl
 obtain ⟨y5,q5⟩:=hf 5 _ rfl
 obtain ⟨y6,q6⟩:=hf 6 _ rfl
 obtain ⟨y7,q7⟩:=hf 7 _ rfl
 obtain ⟨y8,q8⟩:=hf 8 _ rfl
 obtain ⟨s0,e0,_⟩:=q0.i64 Tryz.underlying3
 obtain ⟨s1,e1,_,b1⟩:=q1.str Tryz.underlying9
 obtain ⟨s2,e2,_⟩:=q2.i64 Tryz.underlying3
 obtain ⟨s3,e3,_⟩:=q3.i64 Tryz.underlying3
 obtain ⟨s4,e4,g4⟩:=q4.prps hK
 obtain ⟨s5,e5,_⟩:=q5.i64 Tryz.underlying3
 obtain ⟨s6,e6,_⟩:=q6.i64 Tryz.underlying3
 obtain ⟨s7,e7,_,b7⟩:=q7.str Tryz.underlying9
 obtain ⟨s8,e8⟩:=q8.sumT
 simp [cofT_int,cofT_str,cofT_prps,cofT_sum] at e0 e1 e2 e3 e4 e5 e6 e7 e8
 obtain ⟨r4,n4,k4⟩:=g4
 simp [smV] at e8
 obtain ⟨e8,e9,e10,e11⟩:=e8
 exact ⟨⟨s0,s1,s2,s3,s4,s5,s6,s7,s8⟩,by rw [e0,e1,e2,e3,e4,e5,e6,e7,e8,e9,e10,e11];rfl,r4,n4,k4,by show s1.length≤_;omega,by show s7.length≤_;omega⟩
theorem cofT_stage:Tryz.prog.cellsOf 77=21:=tZ2
theorem CellsIn.stageT (hK:K≤1048576) (h:CellsIn enc Tryz.prog W K 77 cs d):∃ x:StageR,cs=encStage x∧(x.rd W W.heap.size∧x.sz):=by
 obtain ⟨hl,hf⟩:=h.fields Tryz.underlying77
 obtain ⟨a0,a1,a2,a3,a4,a5,a6,a7,a8,a9,a10,a11,a12,a13,a14,a15,a16,a17,a18,a19,a20,rfl⟩:=len21 (hl.trans cofT_stage)
 obtain ⟨y0,q0⟩:=hf 0 _ rfl
 obtain ⟨y1,q1⟩:=hf 1 _ rfl
 obtain ⟨y2,q2⟩:=hf 2 _ rfl
 obtain ⟨y3,q3⟩:=hf 3 _ rfl
 obtain ⟨y4,q4⟩:=hf 4 _ rfl
 obtain ⟨y5,q5⟩:=hf 5 _ rfl
 obtain ⟨y6,q6⟩:=hf 6 _ rfl
 obtain ⟨s0,e0,_,b0⟩:=q0.str Tryz.underlying9
 obtain ⟨s1,e1,g1⟩:=q1.recT hK
 obtain ⟨s2,e2,g2⟩:=q2.blks hK
 obtain ⟨s3,e3,_⟩:=q3.i64 Tryz.underlying3
 obtain ⟨s4,e4,_⟩:=q4.i64 Tryz.underlying3
 obtain ⟨s5,e5⟩:=q5.sumT
 obtain ⟨s6,e6⟩:=q6.bool Tryz.underlying4
 simp [cofT_str,cofT_rec,cofT_blks,cofT_int,cofT_sum,cofT_bool] at e0 e1 e2 e3 e4 e5 e6
 obtain ⟨r1,n1,k1,m1,m2⟩:=g1
 obtain ⟨r2,n2,_⟩:=g2
 simp [smV,encRec] at e1 e5
 obtain ⟨f0,f1,f2,f3,f4,f5,f6,f7,f8,f9,f10,f11⟩:=e1
 obtain ⟨h0,h1,h2,h3⟩:=e5
 exact ⟨⟨s0,s1.kind,s1.nm,s1.frm,s1.gd,s1.own,s1.ix,s1.ct,s1.dt,s1.sm,s2,s3,s4,s5,s6⟩,by rw [e0,f0,f1,f2,f3,f4,f5,f6,f7,f8,f9,f10,f11,e2,e3,e4,h0,h1,h2,h3,e6];rfl,⟨r1,r2⟩,⟨by show s0.length≤_;omega,m1,m2,n1,k1,n2⟩⟩
theorem CellsIn.stages (hK:K≤1048576) (h:CellsIn enc Tryz.prog W K 24 cs d):∃ s:FS StageR,cs=[s.val]∧s.rd W W.heap.size 21 encStage∧s.n≤500000000000∧∀ x∈s.l,(x.rd W W.heap.size∧x.sz):=by
 obtain ⟨A,l,n,c,hcs,hn,hc,_,_,hK2,hr,hg⟩:=h.list (fun x:StageR=>encStage x) (fun x=>(x.rd W W.heap.size∧x.sz)) (fun _=>rfl) tZ4 cofT_stage Tryz.underlying24 (fun _ _ h=>h.stageT hK)
 exact mZ225
theorem cofT_entry:Tryz.prog.cellsOf 106=4:=tZ2
theorem CellsIn.entryT (hK:K≤1048576) (h:CellsIn enc Tryz.prog W K 106 cs d):∃ x:EntryR,cs=encEntry x∧(x.sz):=by
 obtain ⟨hl,hf⟩:=h.fields Tryz.underlying106
 obtain ⟨a0,a1,a2,a3,rfl⟩:=len4 (hl.trans cofT_entry)
 obtain ⟨y0,q0⟩:=hf 0 _ rfl
 obtain ⟨y1,q1⟩:=hf 1 _ rfl
 obtain ⟨y2,q2⟩:=hf 2 _ rfl
 obtain ⟨y3,q3⟩:=hf 3 _ rfl
 obtain ⟨s0,e0,_,b0⟩:=q0.str Tryz.underlying9
 obtain ⟨s1,e1,_⟩:=q1.i64 Tryz.underlying3
 obtain ⟨s2,e2,_,b2⟩:=q2.str Tryz.underlying9
 obtain ⟨s3,e3,_⟩:=q3.i64 Tryz.underlying28
 simp [cofT_str,cofT_int,cofT_errno] at e0 e1 e2 e3
 exact ⟨⟨s0,s1,s2,s3⟩,by rw [e0,e1,e2,e3];rfl,⟨by show s0.length≤_;omega,by show s2.length≤_;omega⟩⟩
theorem CellsIn.log (hK:K≤1048576) (h:CellsIn enc Tryz.prog W K 25 cs d):∃ s:FS EntryR,cs=[s.val]∧s.rd W W.heap.size 4 encEntry∧s.n≤1000000000000∧∀ x∈s.l,x.sz:=by
 obtain ⟨A,l,n,c,hcs,hn,hc,_,_,hK2,hr,hg⟩:=h.list (fun x:EntryR=>encEntry x) (fun x=>x.sz) (fun _=>rfl) tZ4 cofT_entry Tryz.underlying25 (fun _ _ h=>h.entryT hK)
 exact mZ225
theorem cofT_grant:Tryz.prog.cellsOf 104=3:=tZ2
theorem len3 {α:Type} {l:List α} (h:l.length=3):∃ a b c,l=[a,b,c]:=by
 match l,h with
 | [a,b,c],_=>exact ⟨a,b,c,rfl⟩
theorem CellsIn.grantT (hK:K≤1048576) (h:CellsIn enc Tryz.prog W K 104 cs d):∃ x:GT,cs=encG x∧(x.1.length≤4000000000∧x.2.1.length≤4000000000):=by
 obtain ⟨hl,hf⟩:=h.fields Tryz.underlying104
 obtain ⟨c0,c1,c2,rfl⟩:=len3 (hl.trans cofT_grant)
 obtain ⟨y0,q0⟩:=hf 0 _ rfl
 obtain ⟨y1,q1⟩:=hf 1 _ rfl
 obtain ⟨y2,q2⟩:=hf 2 _ rfl
 obtain ⟨s0,e0,_,b0⟩:=q0.str Tryz.underlying9
 obtain ⟨s1,e1,_,b1⟩:=q1.str Tryz.underlying9
 obtain ⟨n2,e2,_,_⟩:=q2.i64 Tryz.underlying3
 simp [cofT_str,cofT_int] at e0 e1 e2
 exact ⟨(s0,s1,n2),by rw [e0,e1,e2];rfl,by simp only;omega,by simp only;omega⟩
theorem CellsIn.grantsT (hK:K≤1048576) (h:CellsIn enc Tryz.prog W K 23 cs d):∃ s:FS GT,cs=[s.val]∧s.rd W W.heap.size 3 encG∧s.n≤1000000000000∧∀ x∈s.l,(x.1.length≤4000000000∧x.2.1.length≤4000000000):=by
 obtain ⟨A,l,n,c,hcs,hn,hc,_,_,hK2,hr,hg⟩:=h.list (fun x:GT=>encG x) (fun x=>(x.1.length≤4000000000∧x.2.1.length≤4000000000)) (fun _=>rfl) tZ4 cofT_grant Tryz.underlying23 (fun _ _ h=>h.grantT hK)
 exact mZ225
theorem cofT_ten:Tryz.prog.cellsOf 27=7:=tZ2
theorem CellsIn.tenT (hK:K≤1048576) (h:CellsIn enc Tryz.prog W K 27 cs d):∃ x:TenR,cs=TenR.cells x∧(x.rd W W.heap.size∧x.sz∧x.stages.n≤500000000000∧x.sets.n≤1048576∧∀ y∈x.sets.l,y.snaps.n≤1048576∧∀ z∈y.snaps.l,z.tags.n≤1048576):=by
 obtain ⟨hl,hf⟩:=h.fields Tryz.underlying27
 obtain ⟨a0,a1,a2,a3,a4,a5,a6,rfl⟩:=len7 (hl.trans cofT_ten)
 obtain ⟨y0,q0⟩:=hf 0 _ rfl
 obtain ⟨y1,q1⟩:=hf 1 _ rfl
 obtain ⟨y2,q2⟩:=hf 2 _ rfl
 obtain ⟨y3,q3⟩:=hf 3 _ rfl
 obtain ⟨y4,q4⟩:=hf 4 _ rfl
 obtain ⟨y5,q5⟩:=hf 5 _ rfl
 obtain ⟨y6,q6⟩:=hf 6 _ rfl
 obtain ⟨s0,e0,_,b0⟩:=q0.str Tryz.underlying9
 obtain ⟨s1,e1,_⟩:=q1.i64 Tryz.underlying3
 obtain ⟨s2,e2,_⟩:=q2.i64 Tryz.underlying3
 obtain ⟨s3,e3,g3⟩:=q3.sets hK
 obtain ⟨s4,e4,g4⟩:=q4.grantsT hK
 obtain ⟨s5,e5,g5⟩:=q5.stages hK
 obtain ⟨s6,e6,g6⟩:=q6.log hK
 simp [cofT_str,cofT_int,cofT_sets,cofT_grants,cofT_stages,cofT_log] at e0 e1 e2 e3 e4 e5 e6
 obtain ⟨r3,n3,k3⟩:=g3
 obtain ⟨r4,n4,k4⟩:=g4
 obtain ⟨r5,n5,k5⟩:=g5
 obtain ⟨r6,n6,k6⟩:=g6
 exact ⟨⟨s0,s1,s2,s3,s4,s5,s6⟩,by rw [e0,e1,e2,e3,e4,e5,e6];rfl,⟨r3,fun y hy=>(k3 y hy).1,r4,r5,fun y hy=>(k5 y hy).1,r6⟩,⟨by show s0.length≤_;omega,Nat.le_trans n3 tZ4,fun y hy=>(k3 y hy).2.1,n4,k4,Nat.le_trans n5 tZ4,fun y hy=>(k5 y hy).2,n6,k6⟩,n5,n3,fun y hy=>(k3 y hy).2.2⟩
/-- the same, the number of stages smaller (a row of them can be made anew) -/
theorem ArgIn.ten2 {v:Value} (hK:Rows.uptoBulk d≤1048576) (h:ArgIn enc Tryz.prog W 27 v d):∃ t:TenR,v=t.val∧t.rd W W.heap.size∧t.sz∧t.stages.n≤500000000000:=by
 obtain ⟨cs,rfl,hc⟩:=h.agg Tryz.underlying27
 obtain ⟨t,hcs,h1,h2,h3,_⟩:=hc.tenT hK
 refine ⟨t,?_,h1,h2,h3⟩
 show Value.agg _=Value.agg _
 congr 1
 exact Array.toList_inj.1 hcs
end
end Go.Proofs.YtiojfffgiejibaaGreatDoor
