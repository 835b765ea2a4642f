/-
  Pieces that are joined: what holds of a slice of bytes as long as nobody writes it; a literal list of them; Join of such.
-/
import Derived.Test.YthfjfkjlgdnohaaPut
import Derived.Test.YthfjfkjlgdnohaaConcat
import Derived.Test.YthfjfkjlgdnohaaGood
namespace Go.Proofs.Ythfjfkjlgdnohaa
open Go.RowKit

theorem stays_nil : ∀ p ∈ ([] : List (Value → World → Prop)), Stays p := fun _ h => by cases h
theorem stays_cons {p : Value → World → Prop} {l : List (Value → World → Prop)} (hp : Stays p) (hl : ∀ q ∈ l, Stays q) : ∀ q ∈ p :: l, Stays q := by
  intro q hq
  rcases List.mem_cons.1 hq with rfl | h
  · exact hp
  · exact hl q h

def PieceIn (n : Nat) (l : List UInt8) (v : Value) (W : World) : Prop := n = l.length ∧ ∃ A c, v = .slice A n c ∧ n ≤ c ∧ c ≤ maxLen ∧ Reads W W.heap.size 1 A n (bts l)
theorem PieceIn.stays (n : Nat) (l : List UInt8) : Stays (PieceIn n l) := by
  rintro v W W' ⟨h1, A, c, h2, h3, h4, h5⟩ hb
  exact ⟨h1, A, c, h2, h3, h4, (h5.below hb).more hb.size⟩
theorem PieceIn.below {n : Nat} {l : List UInt8} {v : Value} {W W' : World} (h : PieceIn n l v W) (hb : Below W.heap.size W W') : PieceIn n l v W' := PieceIn.stays n l v W W' h hb
theorem PieceIn.own {n base : Nat} {l : List UInt8} {v : Value} {W : World} (h : W.ownsRow base 5 1 v n (bts l)) (hl : n = l.length) : PieceIn n l v W := by
  obtain ⟨A, c, rfl, h1, h2, h3⟩ := own_form h
  exact ⟨hl, A, c, rfl, h1, h2, h3⟩
theorem PieceIn.reads {n B c : Nat} {A : Option Addr} {l : List UInt8} {W : World} (h : Reads W B 1 A n (bts l)) (hB : B ≤ W.heap.size) (hc : n ≤ c) (hm : c ≤ maxLen) (hl : n = l.length) : PieceIn n l (.slice A n c) W :=
  ⟨hl, A, c, rfl, hc, hm, h.more hB⟩
theorem PieceIn.lit (W : World) (l : List UInt8) (n : Nat) (hl : n = l.length) (hm : n ≤ maxLen) (cs : Array Value) (T : TypeId) (hcs : cs.toList = bts l) : PieceIn n l (.slice (some ⟨W.heap.size, 0, none⟩) n n) (W.alloc (.cells cs T)) := by
  refine ⟨hl, _, _, rfl, Nat.le_refl _, hm, ?_⟩
  have hs : cs.size = n * 1 := by rw [← Array.length_toList, hcs, bts_length, hl, Nat.mul_one]
  have := Reads.lit W cs T (n := n) (size := 1) hs
  rw [hcs] at this
  exact this.more (by simp)
def AllIn (W : World) : List Value → List (List UInt8) → Prop
  | [], [] => True
  | y :: ys, l :: ls => PieceIn l.length l y W ∧ AllIn W ys ls
  | _, _ => False
theorem AllIn.below {W W' : World} (hb : Below W.heap.size W W') : ∀ (ys : List Value) (ls : List (List UInt8)), AllIn W ys ls → AllIn W' ys ls
  | [], [], _ => trivial
  | _ :: ys, _ :: ls, h => ⟨h.1.below hb, AllIn.below hb ys ls h.2⟩
  | [], _ :: _, h => h.elim
  | _ :: _, [], h => h.elim
def Pcs (ls : List (List UInt8)) (n : Nat) (v : Value) (W : World) : Prop := ∃ g ys, v = .slice (some ⟨g, 0, none⟩) n n ∧ Blk W g 28 (List.toArray ys) ∧ ys.length = n ∧ AllIn W ys ls
theorem Pcs.stays (ls : List (List UInt8)) (n : Nat) : Stays (Pcs ls n) := by
  rintro v W W' ⟨g, ys, h1, h2, h3, h4⟩ hb
  exact ⟨g, ys, h1, h2.below hb h2.lt, h3, AllIn.below hb _ _ h4⟩
theorem Pcs.new {W : World} {ys : List Value} {ls : List (List UInt8)} {n : Nat} (hn : ys.length = n) (h : AllIn W ys ls) :
    Pcs ls n (.slice (some ⟨W.heap.size, 0, none⟩) n n) (W.alloc (.cells (List.toArray ys) 28)) := by
  have hb : Below W.heap.size W (W.alloc (.cells (List.toArray ys) 28)) := (Below.refl _ _).alloc (Nat.le_refl _) _
  exact ⟨_, ys, rfl, Blk.new _ _ _, hn, AllIn.below hb _ _ h⟩
theorem pieces_of {W : World} : ∀ (ys : List Value) (ls : List (List UInt8)), AllIn W ys ls → ∃ ps : List Piece, ys = ps.map Piece.val ∧ (∀ p ∈ ps, p.ok W W.heap.size) ∧ ps.map Piece.b = ls
  | [], [], _ => ⟨[], rfl, fun _ h => (by cases h), rfl⟩
  | [], _ :: _, h => h.elim
  | _ :: _, [], h => h.elim
  | y :: ys, l :: ls, h => by
    obtain ⟨ps, e1, e2, e3⟩ := pieces_of ys ls h.2
    obtain ⟨⟨_, A, c, rfl, _, _, hr⟩, _⟩ := h
    refine ⟨⟨A, c, l⟩ :: ps, by rw [e1]; rfl, ?_, by rw [List.map_cons, e3]⟩
    intro p hp
    rcases List.mem_cons.1 hp with rfl | hp
    · exact hr
    · exact e2 p hp
theorem join_pcs {W : World} {ls : List (List UInt8)} {n T g : Nat} {ys : List Value} (hb : Blk W g 28 (List.toArray ys)) (hn : ys.length = n) (hf : AllIn W ys ls) (hT : T = ls.flatten.length) (hn2 : n ≤ 1048576) (hT2 : T ≤ 140737488351232) :
    Calls Try.prog 53 #[.slice (some ⟨g, 0, none⟩) n n] W fun e w' => ∃ v, e = .returned v ∧ w'.ownsRow W.heap.size 5 1 v T (bts ls.flatten) ∧ Below W.heap.size W w' := by
  obtain ⟨ps, rfl, h1, h2⟩ := pieces_of ys ls hf
  have hc : catL ps = ls.flatten := by rw [← h2]; rfl
  have hs : T = sumL ps := by rw [hT, ← hc, catL_length]
  rw [← hc]
  have hl : ps.length = n := by simpa using hn
  have hr : Reads W W.heap.size 1 (some ⟨g, 0, none⟩) n (ps.map Piece.val) := (Reads.of_blk hb _ (by simp [hl]) (fun j u hu => by simpa using hu)).more (by have := hb.lt; omega)
  exact join_any ps n hl.symm _ _ W W.heap.size hr h1 (Nat.le_refl _) T hs hn2 hT2
end Go.Proofs.Ythfjfkjlgdnohaa
