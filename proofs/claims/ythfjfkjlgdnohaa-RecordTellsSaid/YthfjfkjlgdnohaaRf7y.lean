/-
  The page's made, by its contract. (mkrf7.py)
-/
import Derived.Test.YthfjfkjlgdnohaaRf1y
import Derived.Test.YthfjfkjlgdnohaaRSumy
import Derived.Test.YthfjfkjlgdnohaaZ11
import Derived.Test.YthfjfkjlgdnohaaZ12
namespace Go.Proofs.Ythfjfkjlgdnohaa
open Go.RowKit

def RdPost2 (w : World) (m : Option Rc) (e : Ending) (w' : World) : Prop :=
  ∃ (v : Value) (r : Rc) (R : Bool), e = .returned (.tuple #[rcV r v, .bool R]) ∧ m = (if R = true then some r else none) ∧ w'.ownsRow w.heap.size 99 2 v r.own.length (pcells r.own) ∧ r.own.length ≤ 100000 ∧ (strOk r.own ∧ r.nm.length ≤ 140737488351232) ∧ Below w.heap.size w w'
theorem pairs_odd (l : List BS) (h : l.length % 2 = 1) : pairsL l = none := by
  induction l using pairsL.induct with
  | case1 => simp at h
  | case2 => rfl
  | case3 a b l ih => unfold pairsL; rw [ih (by simp at h; omega)]; rfl
theorem pairs_even (l : List BS) (h : l.length % 2 = 0) : ∃ P, pairsL l = some P := by
  induction l using pairsL.induct with
  | case1 => exact ⟨[], rfl⟩
  | case2 => simp at h
  | case3 a b l ih =>
    obtain ⟨P, hP⟩ := ih (by simp at h; omega)
    exact ⟨(a, b) :: P, by unfold pairsL; rw [hP]; rfl⟩
theorem ptexts_at (P : PL) (k : Nat) (h : k < P.length) : (ptexts P)[2 * k]? = some (P[k]).1 ∧ (ptexts P)[2 * k + 1]? = some (P[k]).2 := by
  induction P generalizing k with
  | nil => cases h
  | cons x P ih =>
    have e : ptexts (x :: P) = x.1 :: x.2 :: ptexts P := rfl
    rw [e]
    cases k with
    | zero => exact ⟨rfl, rfl⟩
    | succ k =>
      obtain ⟨h1, h2⟩ := ih k (by simpa using h)
      refine ⟨?_, ?_⟩
      · rw [show 2 * (k + 1) = 2 * k + 1 + 1 by omega]; simpa using h1
      · rw [show 2 * (k + 1) + 1 = 2 * k + 1 + 1 + 1 by omega]; simpa using h2
theorem made_bad1 (l : List BS) (h : l.length < 3 ∨ l.length % 2 = 0) : madeL 1 l = none := by
  unfold madeL
  rw [if_pos rfl]
  match l with
  | [] => rfl
  | [_] => rfl
  | [_, _] => rfl
  | nm :: a :: b :: rest =>
    have : pairsL rest = none := pairs_odd _ (by simp at h; omega)
    simp only [this]
    cases num8 a <;> cases num8 b <;> rfl
theorem made_ok1 (nm a b : BS) (rest : List BS) (P : PL) (hP : pairsL rest = some P) : madeL 1 (nm :: a :: b :: rest) = if (fnE a == 0 && fnE b == 0) = true then some { Rc0 with kind := 1, nm := nm, frm := fnV a, gd := fnV b, own := P } else none := by
  unfold madeL
  rw [if_pos rfl]
  simp only [hP, fnE_num8]
  by_cases h : fnE a = 0 <;> by_cases h2 : fnE b = 0 <;> simp [h, h2]
theorem made_bad23 (k : Int) (hk : k = 2 ∨ k = 3) (l : List BS) (h : l.length ≠ 2) : madeL k l = none := by
  unfold madeL
  match l with
  | [] => rcases hk with rfl | rfl <;> rfl
  | [_] => rcases hk with rfl | rfl <;> rfl
  | [_, _] => exact absurd rfl h
  | _ :: _ :: _ :: _ => rcases hk with rfl | rfl <;> rfl
theorem made_ok2 (a d : BS) : madeL 2 [a, d] = if (fnE a == 0) = true then some { Rc0 with kind := 2, ix := fnV a, dt := d } else none := by
  unfold madeL
  rw [if_neg (by decide), if_pos rfl]
  simp only [fnE_num8]
  by_cases h : fnE a = 0 <;> simp [h]
theorem made_ok3 (a d : BS) : madeL 3 [a, d] = if (fnE a == 0 && fnE d == 0) = true then some { Rc0 with kind := 3, ix := fnV a, ct := fnV d } else none := by
  unfold madeL
  rw [if_neg (by decide), if_neg (by decide), if_pos rfl]
  simp only [fnE_num8]
  by_cases h : fnE a = 0 <;> by_cases h2 : fnE d = 0 <;> simp [h, h2]
theorem made_bad4 (l : List BS) (h : l.length ≠ 1) : madeL 4 l = none := by
  unfold madeL
  match l with
  | [] => rfl
  | [_] => exact absurd rfl h
  | _ :: _ :: _ => rfl
theorem made_ok4 (s : BS) : madeL 4 [s] = if (readE s == 0) = true then some { Rc0 with kind := 4, sm := readS s } else none := by
  unfold madeL
  rw [if_neg (by decide), if_neg (by decide), if_neg (by decide)]
  unfold readE
  by_cases h : s.length = 32
  · simp [h]
  · by_cases h2 : s.length < 32
    · simp [h, h2]
    · have h3 : 32 < s.length := by omega
      simp [h, h2, h3]
theorem list2' {α : Type} {l : List α} (h : l.length = 2) : ∃ a b, l = [a, b] := by
  match l, h with
  | [a, b], _ => exact ⟨a, b, rfl⟩
theorem frozen12' {w : World} {g : Nat} {t : TypeId} {cs : Array Value} (h : Blk w g t cs) : w.frozen? ⟨g, 0, none⟩ = false := h.frozen 0

set_option maxRecDepth 100000 in
set_option maxHeartbeats 4000000 in
theorem pmade2_any (l : List BS) (n : Nat) (hnl : n = l.length) (A : Option Addr) (c : Nat) (w : World) (B : Nat) (hr : Reads w B 1 A n (scells l)) (hB : B ≤ w.heap.size) (hn : n ≤ 100000) :
    Calls Try.prog 63 #[.int .i64 2, .slice A n c] w (RdPost2 w (madeL 2 l)) := by
  have h2 := two_boxes w #[.int .i64 0, .string ⟨#[]⟩, .int .i64 0, .int .i64 0, .slice none 0 0, .int .i64 0, .int .i64 0, .string ⟨#[]⟩, .int .u64 0, .int .u64 0, .int .u64 0, .int .u64 0] #[.int .i64 2, .string ⟨#[]⟩, .int .i64 0, .int .i64 0, .slice none 0 0, .int .i64 0, .int .i64 0, .string ⟨#[]⟩, .int .u64 0, .int .u64 0, .int .u64 0, .int .u64 0] 27
  obtain ⟨W2, hW2⟩ : ∃ W2, W2 = (w.alloc (.cells #[.int .i64 0, .string ⟨#[]⟩, .int .i64 0, .int .i64 0, .slice none 0 0, .int .i64 0, .int .i64 0, .string ⟨#[]⟩, .int .u64 0, .int .u64 0, .int .u64 0, .int .u64 0] 27)).alloc (.cells #[.int .i64 2, .string ⟨#[]⟩, .int .i64 0, .int .i64 0, .slice none 0 0, .int .i64 0, .int .i64 0, .string ⟨#[]⟩, .int .u64 0, .int .u64 0, .int .u64 0, .int .u64 0] 27) := ⟨_, rfl⟩
  rw [← hW2] at h2
  obtain ⟨k1, k2, hb2⟩ := h2
  have HW2 := Lib.hid hW2
  have HB2 := Lib.hid hb2
  have K1 := Lib.hid k1
  have K2 := Lib.hid k2
  obtain ⟨a0, a1, a2, a3, a4, a5, a6, a7, a8, a9, a10, a11⟩ := blk12 k1
  obtain ⟨g0, g1, g2, g3, g4, g5, g6, g7, g8, g9, g10, g11⟩ := frozen12 k1
  obtain ⟨b0, b1, b2, b3, b4, b5, b6, b7, b8, b9, b10, b11⟩ := blk12 k2
  obtain ⟨f0, f1, f2, f3, f4, f5, f6, f7, f8, f9, f10, f11⟩ := frozen12 k2
  by_cases h2n : n = 2
  · obtain ⟨a, d, rfl⟩ := list2' (hnl.symm.trans h2n)
    obtain ⟨ad, rfl, hadB, e0⟩ := strs_at hr hnl (k := 0) (by omega)
    obtain ⟨_, he, _, e1⟩ := strs_at hr hnl (k := 1) (by omega)
    injection he with he
    subst he
    have hadw : ad.block < w.heap.size := by omega
    have e0 : w.cell? ad = some (.string ⟨a.toArray⟩) := by rw [add_zero] at e0; exact e0
    have e1 : w.cell? ⟨ad.block, ad.off + 1, none⟩ = some (.string ⟨d.toArray⟩) := e1
    have HE0 := Lib.hid e0
    have HE1 := Lib.hid e1
    have c0 := (hb2.cell hadw).trans e0
    obtain ⟨E, hE⟩ : ∃ E, E = fnE a := ⟨_, rfl⟩
    obtain ⟨V, hV⟩ : ∃ V, V = fnV a := ⟨_, rfl⟩
    have hof := fun W => pof_any a W
    rw [← hE, ← hV] at hof
    have HMD : Hid (madeL 2 [a, d] = if (E == 0) = true then some { Rc0 with kind := 2, ix := V, dt := d } else none) := by show _ = _; rw [hE, hV]; exact made_ok2 a d
    have HOF := Lib.hid hof
    subst h2n
    clear hW2 k1 k2 hb2 hr hnl e0 e1 hE hV hof
    go_enter Try.func63, Try.ntmps63
    go_upto_region 2 with (fail)
    rw [← HW2.out]
    go_wp2_with fail
    refine (HOF.out _).mono ?_
    clear HOF
    rintro e w3 ⟨rfl, hb3⟩
    have hz2 : w.heap.size + 1 < W2.heap.size := K2.out.lt
    have k1 := K1.out.below hb3 K1.out.lt
    have k2 := K2.out.below hb3 hz2
    have HB := Lib.hid (HB2.out.trans (hb3.mono HB2.out.size))
    have c0 := (HB.out.cell (p := ad) hadw).trans HE0.out
    have c1' := (HB.out.cell (p := ⟨ad.block, ad.off + 1, none⟩) hadw).trans HE1.out
    clear a0 a1 a2 a3 a4 a5 a6 a7 a8 a9 a10 a11 g0 g1 g2 g3 g4 g5 g6 g7 g8 g9 g10 g11 b0 b1 b2 b3 b4 b5 b6 b7 b8 b9 b10 b11 f0 f1 f2 f3 f4 f5 f6 f7 f8 f9 f10 f11 hb3 HB2 K1 K2 HW2
    obtain ⟨a0, a1, a2, a3, a4, a5, a6, a7, a8, a9, a10, a11⟩ := blk12 k1
    obtain ⟨g0, g1, g2, g3, g4, g5, g6, g7, g8, g9, g10, g11⟩ := frozen12 k1
    obtain ⟨b0, b1, b2, b3, b4, b5, b6, b7, b8, b9, b10, b11⟩ := blk12 k2
    obtain ⟨f0, f1, f2, f3, f4, f5, f6, f7, f8, f9, f10, f11⟩ := frozen12 k2
    have HK1 := Lib.hid k1
    have HK2 := Lib.hid k2
    clear k1 k2
    have hne : ad.block ≠ w.heap.size + 1 := by omega
    go_wp2_with fail
    go_region
    generalize hX : World.drew _ = X
    have k1X : Blk X w.heap.size 27 #[.int .i64 0, .string ⟨#[]⟩, .int .i64 0, .int .i64 0, .slice none 0 0, .int .i64 0, .int .i64 0, .string ⟨#[]⟩, .int .u64 0, .int .u64 0, .int .u64 0, .int .u64 0] := by
      rw [← hX]
      exact ((HK1.out.far (p := ⟨w.heap.size + 1, 5, none⟩) (by dsimp only; omega) _).far (p := ⟨w.heap.size + 1, 7, none⟩) (by dsimp only; omega) _).drew
    have k2X : Blk X (w.heap.size + 1) 27 #[.int .i64 2, .string ⟨#[]⟩, .int .i64 0, .int .i64 0, .slice none 0 0, .int .i64 V, .int .i64 0, .string ⟨d.toArray⟩, .int .u64 0, .int .u64 0, .int .u64 0, .int .u64 0] := by
      rw [← hX]
      have := ((HK2.out.set_ 5 (.int .i64 V)).set_ 7 (.string ⟨d.toArray⟩)).drew
      simpa using this
    have HBX : Hid (Below w.heap.size w X) := by
      show Below _ _ _
      rw [← hX]
      exact ((HB.out.setCell (by dsimp only; omega) _).setCell (by dsimp only; omega) _).drew
    have c1X : X.cell? ⟨ad.block, ad.off + 1, none⟩ = some (.string ⟨d.toArray⟩) := (HBX.out.cell (p := ⟨ad.block, ad.off + 1, none⟩) hadw).trans HE1.out
    clear hX c0 c1' a0 a1 a2 a3 a4 a5 a6 a7 a8 a9 a10 a11 g0 g1 g2 g3 g4 g5 g6 g7 g8 g9 g10 g11 b0 b1 b2 b3 b4 b5 b6 b7 b8 b9 b10 b11 f0 f1 f2 f3 f4 f5 f6 f7 f8 f9 f10 f11 HK1 HK2
    obtain ⟨a0, a1, a2, a3, a4, a5, a6, a7, a8, a9, a10, a11⟩ := blk12 k1X
    obtain ⟨g0, g1, g2, g3, g4, g5, g6, g7, g8, g9, g10, g11⟩ := frozen12 k1X
    obtain ⟨b0, b1, b2, b3, b4, b5, b6, b7, b8, b9, b10, b11⟩ := blk12 k2X
    obtain ⟨f0, f1, f2, f3, f4, f5, f6, f7, f8, f9, f10, f11⟩ := frozen12 k2X
    clear k1X k2X
    by_cases h0 : E = 0
    · subst h0
      go_wp2_with fail
      refine bodyPost_ret (v := .tuple #[.agg #[.int .i64 2, .string ⟨#[]⟩, .int .i64 0, .int .i64 0, .slice none 0 0, .int .i64 V, .int .i64 0, .string ⟨d.toArray⟩, .int .u64 0, .int .u64 0, .int .u64 0, .int .u64 0], .bool true]) (by simp [results, Try.results63, go_sem, a0, a1, a2, a3, a4, a5, a6, a7, a8, a9, a10, a11]) rfl ?_
      refine ⟨.slice none 0 0, { Rc0 with kind := 2, ix := V, dt := d }, true, rfl, HMD.out, World.ownsRow_nil _ _ _ _, Nat.zero_le _, ⟨(fun x hx => by cases hx), Nat.zero_le _⟩, ?_⟩
      repeat (with_reducible refine Below.setCell ?_ (by dsimp only; omega) _)
      with_reducible exact HBX.out
    · have hd : (E == 0) = false := by simp [h0]
      have HMD : Hid (madeL 2 [a, d] = none) := by show _ = _; rw [HMD.out, hd]; rfl
      go_wp2_with fail
      refine bodyPost_ret (v := .tuple #[.agg #[.int .i64 2, .string ⟨#[]⟩, .int .i64 0, .int .i64 0, .slice none 0 0, .int .i64 V, .int .i64 0, .string ⟨d.toArray⟩, .int .u64 0, .int .u64 0, .int .u64 0, .int .u64 0], .bool false]) (by simp [results, Try.results63, go_sem, a0, a1, a2, a3, a4, a5, a6, a7, a8, a9, a10, a11]) rfl ?_
      refine ⟨.slice none 0 0, { Rc0 with kind := 2, ix := V, dt := d }, false, rfl, HMD.out, World.ownsRow_nil _ _ _ _, Nat.zero_le _, ⟨(fun x hx => by cases hx), Nat.zero_le _⟩, ?_⟩
      repeat (with_reducible refine Below.setCell ?_ (by dsimp only; omega) _)
      with_reducible exact HBX.out
  · have HMD : Hid (madeL 2 l = none) := made_bad23 2 (by decide) l (by rw [← hnl]; exact h2n)
    have hd : ((n : Int) != 2) = true := by simp; omega
    clear hW2 k1 k2 hb2 hr hnl
    go_enter Try.func63, Try.ntmps63
    go_upto_region 2 with (fail)
    rw [← HW2.out]
    go_wp2_with fail
    refine bodyPost_ret (v := .tuple #[.agg #[.int .i64 2, .string ⟨#[]⟩, .int .i64 0, .int .i64 0, .slice none 0 0, .int .i64 0, .int .i64 0, .string ⟨#[]⟩, .int .u64 0, .int .u64 0, .int .u64 0, .int .u64 0], .bool false]) (by simp [results, Try.results63, go_sem, a0, a1, a2, a3, a4, a5, a6, a7, a8, a9, a10, a11]) rfl ?_
    refine ⟨.slice none 0 0, { Rc0 with kind := 2 }, false, rfl, HMD.out, World.ownsRow_nil _ _ _ _, Nat.zero_le _, ⟨(fun x hx => by cases hx), Nat.zero_le _⟩, ?_⟩
    repeat (with_reducible refine Below.setCell ?_ (by dsimp only; omega) _)
    with_reducible exact HB2.out

set_option maxRecDepth 100000 in
set_option maxHeartbeats 4000000 in
theorem pmade3_any (l : List BS) (n : Nat) (hnl : n = l.length) (A : Option Addr) (c : Nat) (w : World) (B : Nat) (hr : Reads w B 1 A n (scells l)) (hB : B ≤ w.heap.size) (hn : n ≤ 100000) :
    Calls Try.prog 63 #[.int .i64 3, .slice A n c] w (RdPost2 w (madeL 3 l)) := by
  have h2 := two_boxes w #[.int .i64 0, .string ⟨#[]⟩, .int .i64 0, .int .i64 0, .slice none 0 0, .int .i64 0, .int .i64 0, .string ⟨#[]⟩, .int .u64 0, .int .u64 0, .int .u64 0, .int .u64 0] #[.int .i64 3, .string ⟨#[]⟩, .int .i64 0, .int .i64 0, .slice none 0 0, .int .i64 0, .int .i64 0, .string ⟨#[]⟩, .int .u64 0, .int .u64 0, .int .u64 0, .int .u64 0] 27
  obtain ⟨W2, hW2⟩ : ∃ W2, W2 = (w.alloc (.cells #[.int .i64 0, .string ⟨#[]⟩, .int .i64 0, .int .i64 0, .slice none 0 0, .int .i64 0, .int .i64 0, .string ⟨#[]⟩, .int .u64 0, .int .u64 0, .int .u64 0, .int .u64 0] 27)).alloc (.cells #[.int .i64 3, .string ⟨#[]⟩, .int .i64 0, .int .i64 0, .slice none 0 0, .int .i64 0, .int .i64 0, .string ⟨#[]⟩, .int .u64 0, .int .u64 0, .int .u64 0, .int .u64 0] 27) := ⟨_, rfl⟩
  rw [← hW2] at h2
  obtain ⟨k1, k2, hb2⟩ := h2
  have HW2 := Lib.hid hW2
  have HB2 := Lib.hid hb2
  have K1 := Lib.hid k1
  have K2 := Lib.hid k2
  obtain ⟨a0, a1, a2, a3, a4, a5, a6, a7, a8, a9, a10, a11⟩ := blk12 k1
  obtain ⟨g0, g1, g2, g3, g4, g5, g6, g7, g8, g9, g10, g11⟩ := frozen12 k1
  obtain ⟨b0, b1, b2, b3, b4, b5, b6, b7, b8, b9, b10, b11⟩ := blk12 k2
  obtain ⟨f0, f1, f2, f3, f4, f5, f6, f7, f8, f9, f10, f11⟩ := frozen12 k2
  by_cases h2n : n = 2
  · obtain ⟨a, d, rfl⟩ := list2' (hnl.symm.trans h2n)
    obtain ⟨ad, rfl, hadB, e0⟩ := strs_at hr hnl (k := 0) (by omega)
    obtain ⟨_, he, _, e1⟩ := strs_at hr hnl (k := 1) (by omega)
    injection he with he
    subst he
    have hadw : ad.block < w.heap.size := by omega
    have e0 : w.cell? ad = some (.string ⟨a.toArray⟩) := by rw [add_zero] at e0; exact e0
    have e1 : w.cell? ⟨ad.block, ad.off + 1, none⟩ = some (.string ⟨d.toArray⟩) := e1
    have HE0 := Lib.hid e0
    have HE1 := Lib.hid e1
    have c0 := (hb2.cell hadw).trans e0
    obtain ⟨E, hE⟩ : ∃ E, E = fnE a := ⟨_, rfl⟩
    obtain ⟨V, hV⟩ : ∃ V, V = fnV a := ⟨_, rfl⟩
    obtain ⟨E2, hE2⟩ : ∃ E, E = fnE d := ⟨_, rfl⟩
    obtain ⟨V2, hV2⟩ : ∃ V, V = fnV d := ⟨_, rfl⟩
    have hof := fun W => pof_any a W
    rw [← hE, ← hV] at hof
    have hof2 := fun W => pof_any d W
    rw [← hE2, ← hV2] at hof2
    have HMD0 : Hid (madeL 3 [a, d] = if (E == 0 && E2 == 0) = true then some { Rc0 with kind := 3, ix := V, ct := V2 } else none) := by show _ = _; rw [hE, hV, hE2, hV2]; exact made_ok3 a d
    have HOF := Lib.hid hof
    have HOF2 := Lib.hid hof2
    subst h2n
    clear hW2 k1 k2 hb2 hr hnl e0 e1 hE hV hof hE2 hV2 hof2
    go_enter Try.func63, Try.ntmps63
    go_upto_region 2 with (fail)
    rw [← HW2.out]
    go_wp2_with fail
    refine (HOF.out _).mono ?_
    clear HOF
    rintro e w3 ⟨rfl, hb3⟩
    have hz2 : w.heap.size + 1 < W2.heap.size := K2.out.lt
    have k1 := K1.out.below hb3 K1.out.lt
    have k2 := K2.out.below hb3 hz2
    have HB := Lib.hid (HB2.out.trans (hb3.mono HB2.out.size))
    have c0 := (HB.out.cell (p := ad) hadw).trans HE0.out
    have c1' := (HB.out.cell (p := ⟨ad.block, ad.off + 1, none⟩) hadw).trans HE1.out
    clear a0 a1 a2 a3 a4 a5 a6 a7 a8 a9 a10 a11 g0 g1 g2 g3 g4 g5 g6 g7 g8 g9 g10 g11 b0 b1 b2 b3 b4 b5 b6 b7 b8 b9 b10 b11 f0 f1 f2 f3 f4 f5 f6 f7 f8 f9 f10 f11 hb3 HB2 K1 K2 HW2
    obtain ⟨a0, a1, a2, a3, a4, a5, a6, a7, a8, a9, a10, a11⟩ := blk12 k1
    obtain ⟨g0, g1, g2, g3, g4, g5, g6, g7, g8, g9, g10, g11⟩ := frozen12 k1
    obtain ⟨b0, b1, b2, b3, b4, b5, b6, b7, b8, b9, b10, b11⟩ := blk12 k2
    obtain ⟨f0, f1, f2, f3, f4, f5, f6, f7, f8, f9, f10, f11⟩ := frozen12 k2
    have HK1 := Lib.hid k1
    have HK2 := Lib.hid k2
    clear k1 k2
    go_wp2_with fail
    go_region
    generalize hX : World.drew _ = X
    have k1X : Blk X w.heap.size 27 #[.int .i64 0, .string ⟨#[]⟩, .int .i64 0, .int .i64 0, .slice none 0 0, .int .i64 0, .int .i64 0, .string ⟨#[]⟩, .int .u64 0, .int .u64 0, .int .u64 0, .int .u64 0] := by
      rw [← hX]
      exact ((HK1.out.far (p := ⟨w.heap.size + 1, 5, none⟩) (by dsimp only; omega) _).far (p := ⟨w.heap.size + 1, 7, none⟩) (by dsimp only; omega) _).drew
    have k2X : Blk X (w.heap.size + 1) 27 #[.int .i64 3, .string ⟨#[]⟩, .int .i64 0, .int .i64 0, .slice none 0 0, .int .i64 V, .int .i64 0, .string ⟨d.toArray⟩, .int .u64 0, .int .u64 0, .int .u64 0, .int .u64 0] := by
      rw [← hX]
      have := ((HK2.out.set_ 5 (.int .i64 V)).set_ 7 (.string ⟨d.toArray⟩)).drew
      simpa using this
    have HBX : Hid (Below w.heap.size w X) := by
      show Below _ _ _
      rw [← hX]
      exact ((HB.out.setCell (by dsimp only; omega) _).setCell (by dsimp only; omega) _).drew
    have c1X : X.cell? ⟨ad.block, ad.off + 1, none⟩ = some (.string ⟨d.toArray⟩) := (HBX.out.cell (p := ⟨ad.block, ad.off + 1, none⟩) hadw).trans HE1.out
    clear hX c0 c1' a0 a1 a2 a3 a4 a5 a6 a7 a8 a9 a10 a11 g0 g1 g2 g3 g4 g5 g6 g7 g8 g9 g10 g11 b0 b1 b2 b3 b4 b5 b6 b7 b8 b9 b10 b11 f0 f1 f2 f3 f4 f5 f6 f7 f8 f9 f10 f11 HK1 HK2
    go_wp2_with fail
    refine (HOF2.out _).mono ?_
    clear HOF2
    rintro e w5 ⟨rfl, hb5⟩
    have hzx : w.heap.size + 1 < X.heap.size := k2X.lt
    have k1 := k1X.below hb5 k1X.lt
    have k2 := k2X.below hb5 hzx
    have HB5 := Lib.hid (HBX.out.trans (hb5.mono HBX.out.size))
    clear hb5 k1X k2X HBX c1X
    obtain ⟨a0, a1, a2, a3, a4, a5, a6, a7, a8, a9, a10, a11⟩ := blk12 k1
    obtain ⟨g0, g1, g2, g3, g4, g5, g6, g7, g8, g9, g10, g11⟩ := frozen12 k1
    obtain ⟨b0, b1, b2, b3, b4, b5, b6, b7, b8, b9, b10, b11⟩ := blk12 k2
    obtain ⟨f0, f1, f2, f3, f4, f5, f6, f7, f8, f9, f10, f11⟩ := frozen12 k2
    clear k1 k2
    by_cases h0 : E = 0
    · by_cases h1 : E2 = 0
      · have HMD : Hid (madeL 3 [a, d] = some { Rc0 with kind := 3, ix := V, ct := V2 }) := by show _ = _; rw [HMD0.out, h0, h1]; rfl
        clear HMD0
        subst h0 h1
        go_wp2_with fail
        refine bodyPost_ret (v := .tuple #[.agg #[.int .i64 3, .string ⟨#[]⟩, .int .i64 0, .int .i64 0, .slice none 0 0, .int .i64 V, .int .i64 V2, .string ⟨#[]⟩, .int .u64 0, .int .u64 0, .int .u64 0, .int .u64 0], .bool true]) (by simp [results, Try.results63, go_sem, a0, a1, a2, a3, a4, a5, a6, a7, a8, a9, a10, a11]) rfl ?_
        refine ⟨.slice none 0 0, { Rc0 with kind := 3, ix := V, ct := V2 }, true, rfl, HMD.out, World.ownsRow_nil _ _ _ _, Nat.zero_le _, ⟨(fun x hx => by cases hx), Nat.zero_le _⟩, ?_⟩
        repeat (with_reducible refine Below.setCell ?_ (by dsimp only; omega) _)
        with_reducible exact HB5.out
      · have hd1 : (E2 == 0) = false := by simp [h1]
        have HMD : Hid (madeL 3 [a, d] = none) := by show _ = _; rw [HMD0.out, hd1, Bool.and_false]; rfl
        clear HMD0
        subst h0
        go_wp2_with fail
        refine bodyPost_ret (v := .tuple #[.agg #[.int .i64 3, .string ⟨#[]⟩, .int .i64 0, .int .i64 0, .slice none 0 0, .int .i64 V, .int .i64 V2, .string ⟨#[]⟩, .int .u64 0, .int .u64 0, .int .u64 0, .int .u64 0], .bool false]) (by simp [results, Try.results63, go_sem, a0, a1, a2, a3, a4, a5, a6, a7, a8, a9, a10, a11]) rfl ?_
        refine ⟨.slice none 0 0, { Rc0 with kind := 3, ix := V, ct := V2 }, false, rfl, HMD.out, World.ownsRow_nil _ _ _ _, Nat.zero_le _, ⟨(fun x hx => by cases hx), Nat.zero_le _⟩, ?_⟩
        repeat (with_reducible refine Below.setCell ?_ (by dsimp only; omega) _)
        with_reducible exact HB5.out
    · have hd0 : (E == 0) = false := by simp [h0]
      have HMD : Hid (madeL 3 [a, d] = none) := by show _ = _; rw [HMD0.out, hd0, Bool.false_and]; rfl
      clear HMD0
      go_wp2_with fail
      refine bodyPost_ret (v := .tuple #[.agg #[.int .i64 3, .string ⟨#[]⟩, .int .i64 0, .int .i64 0, .slice none 0 0, .int .i64 V, .int .i64 V2, .string ⟨#[]⟩, .int .u64 0, .int .u64 0, .int .u64 0, .int .u64 0], .bool false]) (by simp [results, Try.results63, go_sem, a0, a1, a2, a3, a4, a5, a6, a7, a8, a9, a10, a11]) rfl ?_
      refine ⟨.slice none 0 0, { Rc0 with kind := 3, ix := V, ct := V2 }, false, rfl, HMD.out, World.ownsRow_nil _ _ _ _, Nat.zero_le _, ⟨(fun x hx => by cases hx), Nat.zero_le _⟩, ?_⟩
      repeat (with_reducible refine Below.setCell ?_ (by dsimp only; omega) _)
      with_reducible exact HB5.out
  · have HMD : Hid (madeL 3 l = none) := made_bad23 3 (by decide) l (by rw [← hnl]; exact h2n)
    have hd : ((n : Int) != 2) = true := by simp; omega
    clear hW2 k1 k2 hb2 hr hnl
    go_enter Try.func63, Try.ntmps63
    go_upto_region 2 with (fail)
    rw [← HW2.out]
    go_wp2_with fail
    refine bodyPost_ret (v := .tuple #[.agg #[.int .i64 3, .string ⟨#[]⟩, .int .i64 0, .int .i64 0, .slice none 0 0, .int .i64 0, .int .i64 0, .string ⟨#[]⟩, .int .u64 0, .int .u64 0, .int .u64 0, .int .u64 0], .bool false]) (by simp [results, Try.results63, go_sem, a0, a1, a2, a3, a4, a5, a6, a7, a8, a9, a10, a11]) rfl ?_
    refine ⟨.slice none 0 0, { Rc0 with kind := 3 }, false, rfl, HMD.out, World.ownsRow_nil _ _ _ _, Nat.zero_le _, ⟨(fun x hx => by cases hx), Nat.zero_le _⟩, ?_⟩
    repeat (with_reducible refine Below.setCell ?_ (by dsimp only; omega) _)
    with_reducible exact HB2.out
end Go.Proofs.Ythfjfkjlgdnohaa
