/-
  A region that draws its order, whose operations each have one value in every world of a class: one walk in the order of the text.
-/
import Derived.Test.YteafdncnnamakaaGreatDoorBase
import Derived.Deep.Quiet
import Derived.Deep.QuietTactic
namespace Go.Proofs.YteafdncnnamakaaGreatDoor
open Go.RowKit

section
variable {P : Program} {ops : Array Oper} {C : World → Prop} {Q : Act → Prop}
theorem wpC_read {o : Oper} {rest : List Oper} {a : Act} {v : Value} (hg : o.guard = none) (h : ∀ w, C w → o.quietAt P a C w v) (hn : wpQuiet P ops C Q rest (a.put o.dst v)) : wpQuiet P ops C Q (o :: rest) a := by
  have hw : Region.wanted o (yielded ops a.tmps) = true := by simp [Region.wanted, hg]
  unfold wpQuiet
  rw [if_pos hw]
  exact ⟨v, h, hn⟩
theorem yielded_tmps {tmps : Array Value} {g k : Nat} (hd : (ops[g]?).bind (·.dst) = some k) : yielded ops tmps g = match tmps[k]?.getD undef with | .bool b => some b | _ => none := by
  unfold yielded
  rw [hd]
  simp only [Option.bind_some]
  cases tmps[k]? with
  | none => rfl
  | some v => cases v <;> rfl
theorem wpC_gread {o : Oper} {rest : List Oper} {a : Act} {v : Value} {g k : Nat} {b : Bool} (hg : o.guard = some (g, b)) (hd : (ops[g]?).bind (·.dst) = some k) (ht : a.tmps[k]?.getD undef = .bool b)
    (h : ∀ w, C w → o.quietAt P a C w v) (hn : wpQuiet P ops C Q rest (a.put o.dst v)) : wpQuiet P ops C Q (o :: rest) a := by
  have hw : Region.wanted o (yielded ops a.tmps) = true := by simp [Region.wanted, hg, yielded_tmps hd, ht]
  unfold wpQuiet
  rw [if_pos hw]
  exact ⟨v, h, hn⟩
theorem wpC_skip {o : Oper} {rest : List Oper} {a : Act} {g k : Nat} {b : Bool} (hg : o.guard = some (g, b)) (hd : (ops[g]?).bind (·.dst) = some k) (ht : a.tmps[k]?.getD undef = .bool (!b) ∨ a.tmps[k]?.getD undef = undef)
    (hn : wpQuiet P ops C Q rest (a.put o.dst undef)) : wpQuiet P ops C Q (o :: rest) a := by
  have hw : ¬ Region.wanted o (yielded ops a.tmps) = true := by
    rcases ht with ht | ht
    · simp [Region.wanted, hg, yielded_tmps hd, ht]
    · have hu : yielded ops a.tmps g = none := by rw [yielded_tmps hd, ht]; rfl
      simp [Region.wanted, hg, hu]
  unfold wpQuiet
  rw [if_neg hw]
  exact hn
theorem wpC_region {id : Nat} {R : Exit → Act → World → Prop} {a : Act} {w : World} {l : List Oper} (C : World → Prop) (hm : P.follows .mixedOrders = true) (hB : Region.lexB .any l.toArray = true) (hC : C w.drew)
    (h : ∀ (OPS : Array Oper) (D : World → Prop) (QQ : Act → Prop), Hid (OPS = l.toArray) → (∀ W, D W → C W) → (∀ W, C W → D W) → (∀ a', (∀ w', C w' → R .normal a' w') → QQ a') → wpQuiet P OPS D QQ l a) : (Code.region id l.toArray true).wp P R a w :=
  wp_region_quiet (C := C) hm hB hC (by simpa using h l.toArray C (fun a' => ∀ w', C w' → R .normal a' w') rfl (fun _ h => h) (fun _ h => h) (fun _ h => h))
end
theorem geqS (t : TypeId) (a b : List UInt8) : binOp .geq t (.string ⟨a.toArray⟩) (.string ⟨b.toArray⟩) = pure (.bool !(Op.bytesLess a b)) := by simp [binOp, Op.stringOp, ByteArray.toList_eq]
theorem lssS (t : TypeId) (a b : List UInt8) : binOp .lss t (.string ⟨a.toArray⟩) (.string ⟨b.toArray⟩) = pure (.bool (Op.bytesLess a b)) := by simp [binOp, Op.stringOp, ByteArray.toList_eq]
theorem leqS (t : TypeId) (a b : List UInt8) : binOp .leq t (.string ⟨a.toArray⟩) (.string ⟨b.toArray⟩) = pure (.bool (Op.bytesLess a b || a == b)) := by simp [binOp, Op.stringOp, ByteArray.toList_eq]
theorem gtrS (t : TypeId) (a b : List UInt8) : binOp .gtr t (.string ⟨a.toArray⟩) (.string ⟨b.toArray⟩) = pure (.bool !(Op.bytesLess a b || a == b)) := by simp [binOp, Op.stringOp, ByteArray.toList_eq]
end Go.Proofs.YteafdncnnamakaaGreatDoor
