/-
  A region's class walk by steps that find their own kind: zX (arithmetic, or an operation that is not wanted), zY (a load), zN (a call by its contract).
-/
import Derived.Test.YtiojfffgiejibaaGreatDoorQsM1
import Derived.WalkKit
import Derived.WalkSpells
import Derived.Below
import Derived.Laws.OwnMore
import Derived.Deep.AppendLies
import Derived.Deep.Draws
import Derived.Laws.Rows
import Derived.Maps.AppendAt
import Derived.RegionTactic
import Derived.OwnWalk
import Derived.Deep.QuietTactic
import Derived.BigQuiet
import Derived.Lib.Hide
import Derived.Laws.CopyOwn
import Derived.IntWalk
import Derived.Deep.Quiet
import Derived.Test.YtiojfffgiejibaaGreatDoorQ0
import Derived.Test.YtiojfffgiejibaaGreatDoorQs1
namespace Go.Proofs.YtiojfffgiejibaaGreatDoor
open Go.RowKit
/-- one follows from the other -/
structure Imp (β α:Prop):Prop where
 go:β→α
section
variable {P:Program} {ops:Array Oper} {C:World→Prop} {Q:Act→Prop}
theorem yK {o:Oper} {rest:List Oper} {l l':List Value} {d:List Deferred} {j g k:Nat} {b:Bool} (hg:o.guard=some (g,b)) (hj:o.dst=some j) (hd:Hid ((ops[g]?).bind (·.dst)=some k)) (ht:l[k]?.getD undef=.bool (!b)∨l[k]?.getD undef=undef)
  (hl:l.set j undef=l':=by (dsimp only [zB,zC];try (with_reducible rfl))):Imp (wpQuiet P ops C Q rest ⟨l'.toArray,d⟩) (wpQuiet P ops C Q (o :: rest) ⟨l.toArray,d⟩):=.mk fun x=>wpC_skipS hg hj hd.out ht (hl ▸ x)
theorem yR {o:Oper} {rest:List Oper} {l l':List Value} {d:List Deferred} {v:Value} {k:Nat} (hg:o.guard=none) (hd:o.dst=some k)
  (h:∀ w,C w→o.quietAt P ⟨l.toArray,d⟩ C w v:=by
   intro W hW
   clear hW
   go_simp
   try (with_reducible rfl))
  (hl:l.set k v=l':=by (dsimp only [zB,zC];try (with_reducible rfl))):Imp (wpQuiet P ops C Q rest ⟨l'.toArray,d⟩) (wpQuiet P ops C Q (o :: rest) ⟨l.toArray,d⟩):=.mk fun x=>wpC_readS hg hd h (hl ▸ x)
theorem yG {o:Oper} {rest:List Oper} {l l':List Value} {d:List Deferred} {v:Value} {j g k:Nat} {b:Bool} (hg:o.guard=some (g,b)) (hj:o.dst=some j) (hd:Hid ((ops[g]?).bind (·.dst)=some k)) (ht:l[k]?.getD undef=.bool b)
  (h:∀ w,C w→o.quietAt P ⟨l.toArray,d⟩ C w v:=by
   intro W hW
   clear hW
   go_simp
   try (with_reducible rfl))
  (hl:l.set j v=l':=by (dsimp only [zB,zC];try (with_reducible rfl))):Imp (wpQuiet P ops C Q rest ⟨l'.toArray,d⟩) (wpQuiet P ops C Q (o :: rest) ⟨l.toArray,d⟩):=.mk fun x=>wpC_greadS hg hj hd.out ht h (hl ▸ x)
theorem yRm {o:Oper} {rest:List Oper} {l l':List Value} {d:List Deferred} {v:Value} {k:Nat} (hg:o.guard=none) (hd:o.dst=some k)
  (h:∀ w,C w→o.quietAt P ⟨l.toArray,d⟩ C w v:=by
   intro W hW
   replace hW:=HD.out W hW
   try have zf:=hS.out W hW
   try have zg:=zc W hW
   go_simp
   try (with_reducible rfl))
  (hl:l.set k v=l':=by (dsimp only [zB,zC];try (with_reducible rfl))):Imp (wpQuiet P ops C Q rest ⟨l'.toArray,d⟩) (wpQuiet P ops C Q (o :: rest) ⟨l.toArray,d⟩):=.mk fun x=>wpC_readS hg hd h (hl ▸ x)
theorem yGm {o:Oper} {rest:List Oper} {l l':List Value} {d:List Deferred} {v:Value} {j g k:Nat} {b:Bool} (hg:o.guard=some (g,b)) (hj:o.dst=some j) (hd:Hid ((ops[g]?).bind (·.dst)=some k)) (ht:l[k]?.getD undef=.bool b)
  (h:∀ w,C w→o.quietAt P ⟨l.toArray,d⟩ C w v:=by
   intro W hW
   replace hW:=HD.out W hW
   try have zf:=hS.out W hW
   try have zg:=zc W hW
   go_simp
   try (with_reducible rfl))
  (hl:l.set j v=l':=by (dsimp only [zB,zC];try (with_reducible rfl))):Imp (wpQuiet P ops C Q rest ⟨l'.toArray,d⟩) (wpQuiet P ops C Q (o :: rest) ⟨l.toArray,d⟩):=.mk fun x=>wpC_greadS hg hj hd.out ht h (hl ▸ x)
theorem yRc {o:Oper} {rest:List Oper} {l l':List Value} {d:List Deferred} {v:Value} {k:Nat} (hg:o.guard=none) (hd:o.dst=some k)
  (h:∀ w,C w→o.quietAt P ⟨l.toArray,d⟩ C w v:=by
   intro W hW
   replace hW:=HD.out W hW
   try have zf:=hS.out W hW
   go_simp
   first | have zd:=zc W hW | have zd:=zc W
   try simp only [Bool.false_eq_true,if_true,if_false] at zd
   first
   | exact callD zd (fun _ hb=>HD2.out _ (below_step hW hb))
   | exact callD zd (fun _ hb=>HD2.out _ (hS.out _ (below_step (by first | exact hW.2.2 | exact hW.2.2.2 | exact hW.2.2.2.2 | exact hW.2.2.2.2.2.2.2) hb))))
  (hl:l.set k v=l':=by (dsimp only [zB,zC];try (with_reducible rfl))):Imp (wpQuiet P ops C Q rest ⟨l'.toArray,d⟩) (wpQuiet P ops C Q (o :: rest) ⟨l.toArray,d⟩):=.mk fun x=>wpC_readS hg hd h (hl ▸ x)
theorem yGc {o:Oper} {rest:List Oper} {l l':List Value} {d:List Deferred} {v:Value} {j g k:Nat} {b:Bool} (hg:o.guard=some (g,b)) (hj:o.dst=some j) (hd:Hid ((ops[g]?).bind (·.dst)=some k)) (ht:l[k]?.getD undef=.bool b)
  (h:∀ w,C w→o.quietAt P ⟨l.toArray,d⟩ C w v:=by
   intro W hW
   replace hW:=HD.out W hW
   try have zf:=hS.out W hW
   go_simp
   first | have zd:=zc W hW | have zd:=zc W
   try simp only [Bool.false_eq_true,if_true,if_false] at zd
   first
   | exact callD zd (fun _ hb=>HD2.out _ (below_step hW hb))
   | exact callD zd (fun _ hb=>HD2.out _ (hS.out _ (below_step (by first | exact hW.2.2 | exact hW.2.2.2 | exact hW.2.2.2.2 | exact hW.2.2.2.2.2.2.2) hb))))
  (hl:l.set j v=l':=by (dsimp only [zB,zC];try (with_reducible rfl))):Imp (wpQuiet P ops C Q rest ⟨l'.toArray,d⟩) (wpQuiet P ops C Q (o :: rest) ⟨l.toArray,d⟩):=.mk fun x=>wpC_greadS hg hj hd.out ht h (hl ▸ x)
theorem wpC_regionH {id:Nat} {R:Exit→Act→World→Prop} {a:Act} {w:World} {l:List Oper} (C:World→Prop) (hC:C w.drew)
  (h:∀ (OPS:Array Oper) (D:World→Prop) (QQ:Act→Prop),Hid (OPS=l.toArray)→Hid (∀ W,D W→C W)→Hid (∀ W,C W→D W)→Hid (∀ a',(∀ w',C w'→R .normal a' w')→QQ a')→wpQuiet P OPS D QQ l a)
  (hm:P.follows .mixedOrders=true:=by kernel_rfl) (hB:Region.lexB .any l.toArray=true:=by kernel_rfl):(Code.region id l.toArray true).wp P R a w :=
 wpC_region C hm hB hC h
theorem hgoL {OPS:Array Oper} {l:List Oper} (h:Hid (OPS=l.toArray)) (g k:Nat) (hk:(l[g]?).bind (·.dst)=some k):Hid ((OPS[g]?).bind (·.dst)=some k):=by
 show _=_
 rw [h.out,zF]
 exact hk
theorem callD {f:FuncId} {args:Array Value} {W:World} {v:Value} {D:World→Prop} (h:Calls P f args W fun e w'=>e=.returned v∧Below W.heap.size W w') (hD:∀ W',Below W.heap.size W W'→D W'):Calls P f args W fun e w'=>e=.returned v∧D w' :=
 h.mono fun _ _ hh=>⟨hh.1,hD _ hh.2⟩
end
theorem zX {α β:Prop} (k:β) (h:Imp β α:=by
 first
 | exact yK rfl rfl (by with_reducible assumption) (by first | exact .inl rfl | exact .inr rfl)
 | exact yR rfl rfl
 | exact yG rfl rfl (by with_reducible assumption) rfl):α:=h.go k
theorem zY {α β:Prop} (k:β) (h:Imp β α:=by
 first
 | exact yRm rfl rfl
 | exact yGm rfl rfl (by with_reducible assumption) rfl):α:=h.go k
theorem zM {p α β:Prop} (c:p) (k:β) (h:p→Imp β α:=by
 intro zc
 first
 | exact yRm rfl rfl
 | exact yGm rfl rfl (by with_reducible assumption) rfl):α:=(h c).go k
theorem zN {p α β:Prop} (c:p) (k:β) (h:p→Imp β α:=by
 intro zc
 first
 | exact yRc rfl rfl
 | exact yGc rfl rfl (by with_reducible assumption) rfl):α:=(h c).go k
end Go.Proofs.YtiojfffgiejibaaGreatDoor
