/-
  'append' into a row that is known whole and has room. Drawn regions with guards: when an operation is wanted. A region's class walk in one line a step: the value and the slots are found by the step itself. The sets of a tenant that may be lie in order: where a path's place is. slices.Insert of one element into a row of the call's own, by its contract. shape.Create: an empty set more.
-/
import Derived.WalkKit
import Derived.WalkSpells
import Derived.Below
import Derived.Laws.OwnMore
import Derived.Deep.AppendLies
import Derived.Deep.Draws
import Derived.Laws.Rows
import Derived.Maps.AppendAt
import Derived.RegionTactic
import Derived.OwnWalk
import Derived.Deep.QuietTactic
import Derived.BigQuiet
import Derived.Lib.Hide
import Derived.Laws.CopyOwn
import Derived.IntWalk
import Derived.Lib.Overlaps
import Derived.Lib.AppendZerosOnto
import Derived.Deep.RegionLaw
import Derived.Orders
import Derived.Deep.Quiet
import Derived.Test.YtcgclpcocdappaaDoorRows
import Derived.Handy
import Derived.Sort.Walk0
import Derived.Sort.KeysCollected
import Derived.Laws.BytesString
import Derived.Laws.IdiomStrings
import Derived.Lib.ConvBytes
import Derived.Lib.Strings
import Derived.Lib.AppendZeros
import Derived.ProofKit
import Derived.OpenShut
import Derived.ShutString
import Derived.ChangeOld
import Derived.Carry
import Derived.SizedLaws
import Derived.JoinedCond
import Derived.Deep.CondSized
import Derived.Deep.Slices
import Derived.Deep.Fields
import Derived.Lib.SmallJoins
import Derived.Lib.SplitLaws
import Derived.Lib.LastIndexByte
import Derived.Deep.MidRow
import Derived.Shelf.Strings.Search1
import Derived.Shelf.Strings.Search2
import Derived.Shelf.Strings.Search3
import Derived.Shelf.Strings.Cut
import Derived.Shelf.Strings.Count
import Derived.Shelf.LaysM
import Derived.Shelf.Strings.Shaped
import Derived.Shelf.Strings.LastIndex
import Derived.Shelf.Strings.Split
import Derived.Shelf.Strings.SplitShaped
import Derived.Shelf.Unicode.Decode
import Derived.Shelf.Strings.RuneCount
import Derived.Shelf.Strings.Explode
import Derived.Shelf.Unicode.DecodeSlow
import Derived.Shelf.Slices.Turned
import Derived.Test.YtcgclpcocdappaaDoorProg
import Derived.Deep.DeepCutAuto
import Derived.Great.BuildSlice
import Derived.Test.YtcgclpcocdappaaDoorP0
import Derived.Test.YtcgclpcocdappaaDoorPa1
import Derived.Test.YtcgclpcocdappaaDoorPa5
import Derived.Test.YtcgclpcocdappaaDoorPa7
import Derived.Test.YtcgclpcocdappaaDoorPa8
import Derived.Test.YtcgclpcocdappaaDoorPa11
import Derived.Test.YtcgclpcocdappaaDoorPa13
import Derived.Test.YtcgclpcocdappaaDoorPa24
import Derived.Test.YtcgclpcocdappaaDoorPa36
namespace Go.Proofs.YtcgclpcocdappaaDoor
open Go.RowKit
section
variable {P:Program}
theorem run_append_rowK (w:World) (t ty elem:TypeId) (k:Nat) (g sLen sCap:Nat) (a:Addr) (xLen xCap:Nat) (cur:List Value) (T:TypeId) (cs:List Value)
  (hu:P.underlying t=some (.slice elem)) (hs:(P.info? elem).map (·.size)=some k)
  (hg:w.heap[g]?=some (.cells cur.toArray T (0,0))) (hn:cs.length=xLen*k)
  (hsrc:∀ j v,cs[j]?=some v→w.cell? (a.add j)=some v) (hfit:sLen*k+cs.length≤cur.length) (hroom:sLen+xLen≤sCap) (h1:∀ v∈cs,v.oneCell'=true) :
  (Builtin.append_ #[t,t] ty #[.slice (some ⟨g,0,none⟩) sLen sCap,.slice (some a) xLen xCap]).run P w =
   .ok (.slice (some ⟨g,0,none⟩) (sLen+xLen) sCap) (w.setRow g (splice cur (sLen*k) cs).toArray):=by
 have hl:=run_loadCells_list (P:=P) w a cs hsrc
 have hst:=run_storeCells_at P g (sLen*k) T cs 0 cur.toArray w hg (by simpa using hfit) h1
 cases hq:P.info? elem with
 | none=>simp [hq] at hs
 | some i =>
  have hi:i.size=k:=by simpa [hq] using hs
  simp [Builtin.append_,run_underlying hu,Builtin.lenOf,Builtin.firstCells,sizeOf,typeInfo,hq,hi,← hn,hl,hroom,addr_add0,hst,splice]
theorem wp_appendK {o:Oper} {a:Act} {w:World} {K:Act→World→Prop} {Q:Exit→Act→World→Prop} (d s:Operand) (t:TypeId)
  (ho:o.op=.call { callee:=.builtin .append,args:=#[d,s],argTypes:=#[t,t] }) (elem:TypeId) (k:Nat) (hu:P.underlying t=some (.slice elem)) (hsz:(P.info? elem).map (·.size)=some k)
  (g sLen sCap:Nat) (ad:Addr) (xLen xCap:Nat) (hd:a.eval d=.slice (some ⟨g,0,none⟩) sLen sCap) (hs:a.eval s=.slice (some ad) xLen xCap)
  (cur:List Value) (T:TypeId) (hg:w.heap[g]?=some (.cells cur.toArray T (0,0))) (cs:List Value) (hn:cs.length=xLen*k)
  (hsrc:∀ j v,cs[j]?=some v→w.cell? (ad.add j)=some v) (hfit:sLen*k+cs.length≤cur.length) (hroom:sLen+xLen≤sCap) (h1:∀ v∈cs,v.oneCell'=true)
  (h:∀ w',Hid (w'.heap[g]?=some (.cells (splice cur (sLen*k) cs).toArray T (0,0)))→w.grownBy w' (some g)→K (a.put o.dst (.slice (some ⟨g,0,none⟩) (sLen+xLen) sCap)) w'):o.wp P a w K Q:=by
 have hrun:=run_append_rowK (P:=P) w t o.type elem k g sLen sCap ad xLen xCap cur T cs hu hsz hg hn hsrc hfit hroom h1
 unfold Oper.wp
 simp [execOp,ho,resolve,invoke,builtin,hd,hs,hrun,Result.andThen]
 exact h _ (show _=_ by simpa [splice] using setRow_heap w g _ _ T _ hg) (grown_setRow _)
theorem step_appendK {ops:Array Oper} {o:Oper} {a:Act} {w:World} {K:Act→World→Prop} {Q:Exit→Act→World→Prop} {E:Prop} (hgd:o.guard=none) (d s:Operand) (t:TypeId)
  (ho:o.op=.call { callee:=.builtin .append,args:=#[d,s],argTypes:=#[t,t] }) (elem:TypeId) (k:Nat) (hu:P.underlying t=some (.slice elem)) (hsz:(P.info? elem).map (·.size)=some k)
  (g sLen sCap:Nat) (ad:Addr) (xLen xCap:Nat) (hd:a.eval d=.slice (some ⟨g,0,none⟩) sLen sCap) (hs:a.eval s=.slice (some ad) xLen xCap)
  (cur:List Value) (T:TypeId) (hg:w.heap[g]?=some (.cells cur.toArray T (0,0))) (cs:List Value) (hn:cs.length=xLen*k)
  (hsrc:∀ j v,cs[j]?=some v→w.cell? (ad.add j)=some v) (hfit:sLen*k+cs.length≤cur.length) (hroom:sLen+xLen≤sCap) (h1:∀ v∈cs,v.oneCell'=true)
  (h:∀ w',Hid (w'.heap[g]?=some (.cells (splice cur (sLen*k) cs).toArray T (0,0)))→w.grownBy w' (some g)→K (a.put o.dst (.slice (some ⟨g,0,none⟩) (sLen+xLen) sCap)) w') :
  if Region.wanted o (yielded ops a.tmps)=true then Oper.wp P o a w K Q else E:=by
 have hw:Region.wanted o (yielded ops a.tmps)=true:=by simp [Region.wanted,hgd]
 rw [if_pos hw]
 exact wp_appendK d s t ho elem k hu hsz g sLen sCap ad xLen xCap hd hs cur T hg cs hn hsrc hfit hroom h1 h
end
end Go.Proofs.YtcgclpcocdappaaDoor
namespace Go.Proofs.YtcgclpcocdappaaDoor
open Go.RowKit
theorem wanted_of {ops:Array Oper} {o:Oper} {A:Act} {g k:Nat} {b:Bool} (hg:o.guard=some (g,b)) (hd:(ops[g]?).bind (·.dst)=some k) (h:A.tmps[k]?.getD undef=.bool b):Region.wanted o (yielded ops A.tmps)=true:=by
 have h1:A.tmps[k]?=some (.bool b):=by
  cases hk:A.tmps[k]? with
  | none=>rw [hk] at h;cases h
  | some x=>rw [hk] at h;exact congrArg some h
 simp [Region.wanted,hg,yielded,hd,h1]
theorem unwanted_of {ops:Array Oper} {o:Oper} {A:Act} {g k:Nat} {b:Bool} (hg:o.guard=some (g,b)) (hd:(ops[g]?).bind (·.dst)=some k) (h:A.tmps[k]?.getD undef=.bool (!b)∨A.tmps[k]?.getD undef=undef):¬ Region.wanted o (yielded ops A.tmps)=true:=by
 have hy:∀ v,A.tmps[k]?.getD undef=v→yielded ops A.tmps g=match v with | .bool b=>some b | _=>none:=by
  rintro v rfl
  unfold yielded
  rw [hd]
  simp only [Option.bind_some]
  cases A.tmps[k]? with
  | none=>rfl
  | some v=>cases v <;> rfl
 rcases h with h | h
 ·simp [Region.wanted,hg,hy _ h]
 ·have:=hy _ h
  simp [Region.wanted,hg,this,undef]
/-- what lies in the slot of an operation that has come up -/
theorem tO {ops:Array Oper} {a0 A:Act} {m:Nat→Option Value} {k i:Nat} {v:Value} (hA:A=frameM a0 ops m) (hv:m i=some v) (hw:ownerOf ops k=some i:=by kernel_rfl) (hk:k<a0.tmps.size:=by exact of_decide_eq_true (by kernel_rfl)):A.tmps[k]?.getD undef=v:=by
 rw [hA]
 exact tmps_own hw hv hk
/-- what lies in a slot of no operation's -/
theorem tF {ops:Array Oper} {a0 A:Act} {m:Nat→Option Value} {k:Nat} {v:Value} (hA:A=frameM a0 ops m) (hw:ownerOf ops k=none:=by kernel_rfl) (hv:a0.tmps[k]?.getD undef=v:=by rfl):A.tmps[k]?.getD undef=v:=by
 rw [hA,← hv]
 exact tmps_free hw
/-- an operation whose value is said -/
theorem dV {m:Nat→Option Value} {j:Nat} {p:Value→Prop} {val:Value} (h:∃ v,m j=some v∧p v) (hp:∀ v,p v→v=val:=by exact fun _ h=>h):m j=some val:=by
 obtain ⟨v,h1,h2⟩:=h
 rw [h1,hp v h2]
/-- what lies in the slot of an operation that this one waits for -/
theorem eD {o:Oper} {Gs:List (Value→World→Prop)} {W:World} {ops:Array Oper} {a0 A:Act} {m:Nat→Option Value} {val:Value}
  (hd:∀ e∈o.after,Region.binds .any e=true→∃ v,m e.on=some v∧Says Gs e.on v W) (hA:A=frameM a0 ops m) (j k:Nat)
  (hm:(o.after.any fun e=>Region.binds .any e && e.on == j)=true:=by kernel_rfl)
  (hp:∀ v,Says Gs j v W→v=val:=by exact fun _ h=>h) (hw:ownerOf ops k=some j:=by kernel_rfl) (hk:k<a0.tmps.size:=by exact of_decide_eq_true (by kernel_rfl)):A.tmps[k]?.getD undef=val:=by
 obtain ⟨i,hi,hm⟩:=Array.any_eq_true.1 hm
 obtain ⟨e,he⟩:∃ e,e=o.after[i]:=⟨_,rfl⟩
 rw [← he] at hm
 have he:e∈o.after:=by rw [he];exact Array.getElem_mem hi
 have hb:Region.binds .any e=true:=by cases h:Region.binds .any e <;> simp [h] at hm ⊢
 obtain rfl:e.on=j:=by simpa [hb] using hm
 obtain ⟨v,h1,h2⟩:=hd e he hb
 rw [hA]
 exact tmps_own hw (h1.trans (congrArg some (hp v h2))) hk
/-- the end of a step of one value -/
theorem zP {p:Prop} (h:p:=by
  try clear hdeps
  try clear hcl
  try clear hmi
  have hK0:=hK _ _ (Below.refl _ _) (Eq.refl _)
  clear hA hK
  go_simp
  exact hK0):p:=h
end Go.Proofs.YtcgclpcocdappaaDoor
namespace Go.Proofs.YtcgclpcocdappaaDoor
open Go.RowKit
section
variable {P:Program} {ops:Array Oper} {C:World→Prop} {Q:Act→Prop}
theorem zR {o:Oper} {rest:List Oper} {l l':List Value} {d:List Deferred} {v:Value} {k:Nat} (hg:o.guard=none) (hd:o.dst=some k) (hn:wpQuiet P ops C Q rest ⟨l'.toArray,d⟩) (h:∀ w,C w→o.quietAt P ⟨l.toArray,d⟩ C w v:=by (intro W hW;clear hW;go_simp;try (with_reducible rfl)))
  (hl:l.set k v=l':=by (dsimp only [zB,zC];try (with_reducible rfl))):wpQuiet P ops C Q (o :: rest) ⟨l.toArray,d⟩:=wpC_readS hg hd h (hl ▸ hn)
theorem zG {o:Oper} {rest:List Oper} {l l':List Value} {d:List Deferred} {v:Value} {j g k:Nat} {b:Bool} (hg:o.guard=some (g,b)) (hj:o.dst=some j) (hd:(ops[g]?).bind (·.dst)=some k) (ht:l[k]?.getD undef=.bool b) (hn:wpQuiet P ops C Q rest ⟨l'.toArray,d⟩)
  (h:∀ w,C w→o.quietAt P ⟨l.toArray,d⟩ C w v:=by (intro W hW;clear hW;go_simp;try (with_reducible rfl)))
  (hl:l.set j v=l':=by (dsimp only [zB,zC];try (with_reducible rfl))):wpQuiet P ops C Q (o :: rest) ⟨l.toArray,d⟩:=wpC_greadS hg hj hd ht h (hl ▸ hn)
theorem zK {o:Oper} {rest:List Oper} {l l':List Value} {d:List Deferred} {j g k:Nat} {b:Bool} (hg:o.guard=some (g,b)) (hj:o.dst=some j) (hd:(ops[g]?).bind (·.dst)=some k) (ht:l[k]?.getD undef=.bool (!b)∨l[k]?.getD undef=undef) (hn:wpQuiet P ops C Q rest ⟨l'.toArray,d⟩)
  (hl:l.set j undef=l':=by (dsimp only [zB,zC];try (with_reducible rfl))):wpQuiet P ops C Q (o :: rest) ⟨l.toArray,d⟩:=wpC_skipS hg hj hd ht (hl ▸ hn)
end
end Go.Proofs.YtcgclpcocdappaaDoor
namespace Go.Proofs.YtcgclpcocdappaaDoor
open Go.RowKit
theorem setsB_pairs (l:List SetR) (h:setsB l=true):l.length≤32∧l.Pairwise fun a b=>Op.bytesLess a.path b.path=true:=by
 unfold setsB at h
 simp only [Bool.and_eq_true,decide_eq_true_eq] at h
 exact ⟨h.1.1,((setsFrom_iff l none l).1 h.2).2.1⟩
theorem pairs_asc (l:List SetR) (h:l.Pairwise fun a b=>Op.bytesLess a.path b.path=true) (p:BS):SignAsc (fun s:SetR=>cmpS s.path p) l:=by
 intro i j a b hij ha hb hlt
 obtain ⟨hi,hai⟩:=List.getElem?_eq_some_iff.1 ha
 obtain ⟨hj,hbj⟩:=List.getElem?_eq_some_iff.1 hb
 have h1:=List.pairwise_iff_getElem.1 h i j hi hj hij
 rw [hai,hbj] at h1
 have hlt:cmpS b.path p<0:=hlt
 show cmpS a.path p<0
 rw [cmpS_neg] at hlt ⊢
 exact bl_trans h1 hlt
theorem tenE_ord (t:TenR) (h:tenE t=0):t.sets.l.length≤32∧t.sets.l.Pairwise fun a b=>Op.bytesLess a.path b.path=true:=by
 unfold tenE at h
 have hb:tenB t=true:=by
  by_cases hb:tenB t=true
  ·exact hb
  ·rw [if_neg hb] at h;exact absurd h (by decide)
 unfold tenB at hb
 simp only [Bool.and_eq_true] at hb
 exact setsB_pairs _ hb.1.1.1.2
end Go.Proofs.YtcgclpcocdappaaDoor
namespace Go.Proofs.YtcgclpcocdappaaDoor
open Go.RowKit
theorem Tryd.insSet_info:(Tryd.prog.info? 45).map (fun i=>(i.zero,i.size,i.bytes))=some (some (.agg #[.string ByteArray.empty,.string ByteArray.empty,.slice none 0 0,.slice none 0 0,.slice none 0 0]),5,104):=by kernel_rfl
theorem Tryd.insSet_size:(Tryd.prog.info? 45).map (·.size)=some 5:=by kernel_rfl
section
variable (news:Array Value) (hnl:news.size=5) (h1n:∀ u∈news.toList,u.oneCell'=true) (xs:List Value) (h1x:∀ u∈xs,u.oneCell'=true) (vb:Nat) (T:TypeId) (base n i:Nat)
end
end Go.Proofs.YtcgclpcocdappaaDoor
namespace Go.Proofs.YtcgclpcocdappaaDoor
open Go.RowKit
theorem set0R_o (w:World) (base:Nat) (p:BS):SetO w base ⟨p,[],⟨none,0,0,[]⟩,⟨none,0,0,[]⟩,⟨none,0,0,[]⟩⟩ :=
 ⟨⟨rfl,rfl,.inl ⟨rfl,rfl⟩⟩,⟨rfl,rfl,.inl ⟨rfl,rfl⟩⟩,fun y hy=>absurd hy (by simp),⟨rfl,rfl,.inl ⟨rfl,rfl⟩⟩⟩
end Go.Proofs.YtcgclpcocdappaaDoor
