/-
  pages.Cut, by its contract: the pages of any octets.
-/
import Derived.Test.YtcchnoadclidcaaChunk
import Derived.Test.YtcchnoadclidcaaPgDec
import Derived.RangeFuncNested
import Derived.RangeFuncFrom
import Derived.RangeFuncWrites
import Derived.Maps.AppendAt
namespace Go.Proofs.Ytcchnoadclidcaa
open Go.RowKit Go.Shelf
attribute [local go_sem] Oper.semAt_some

def chunkL (b : List UInt8) (j : Nat) : List UInt8 := (b.drop (52 * j)).take 52
theorem chunkL_length (b : List UInt8) (j : Nat) : (chunkL b j).length = min 52 (b.length - 52 * j) := by simp [chunkL]
/-- the pages of the chunks js -/
def PgRows (W : World) (base : Nat) (b : List UInt8) (js : List Nat) (ys : List Value) : Prop :=
  ys.length = js.length ∧ ∀ (i : Nat) (y : Value) (j : Nat), ys[i]? = some y → js[i]? = some j → W.ownsRow base 5 1 y 64 (bts (pageL (chunkL b j) 0))
theorem own_other {W W' : World} {base : Nat} {e : TypeId} {size n : Nat} {v : Value} {xs : List Value} {row : Option Nat} (h : W.ownsRow base e size v n xs) (hg : W.grownBy W' row) (hr : ∀ r, row = some r → ∃ o : Obj, W.heap[r]? = some o ∧ o.isCells = false) : W'.ownsRow base e size v n xs := by
  refine h.kept hg ?_
  rcases h.2 with ⟨rfl, _⟩ | ⟨g, cap, cur, rfl, _, hh, _⟩
  · exact .inl rfl
  · refine .inr fun he => ?_
    obtain ⟨o, ho, hc⟩ := hr g he.symm
    rw [hh] at ho
    cases ho
    cases hc
theorem own_types {W : World} {b1 b2 : Nat} {e1 e2 : TypeId} {s1 s2 n1 n2 : Nat} {v1 v2 : Value} {xs1 xs2 : List Value} (h1 : W.ownsRow b1 e1 s1 v1 n1 xs1) (h2 : W.ownsRow b2 e2 s2 v2 n2 xs2) (hne : e1 ≠ e2) : v1.ownBlock = none ∨ v1.ownBlock ≠ v2.ownBlock := by
  rcases h1.2 with ⟨rfl, _⟩ | ⟨g, cap, cur, rfl, _, hh, _⟩
  · exact .inl rfl
  · refine .inr fun he => ?_
    rcases h2.2 with ⟨rfl, _⟩ | ⟨g', cap', cur', rfl, _, hh', _⟩
    · cases he
    · have e : g = g' := by simpa [Value.ownBlock] using he
      subst e
      rw [hh] at hh'
      injection hh' with h3
      injection h3 with _ h4
      exact hne h4
theorem PgRows.mono {W : World} {base : Nat} {b : List UInt8} {js : List Nat} {ys : List Value} (h : PgRows W base b js ys) {W' : World} (hk : ∀ y xs, W.ownsRow base 5 1 y 64 xs → W'.ownsRow base 5 1 y 64 xs) : PgRows W' base b js ys :=
  ⟨h.1, fun i y j hy hj => hk _ _ (h.2 i y j hy hj)⟩
theorem PgRows.snoc {W : World} {base : Nat} {b : List UInt8} {js : List Nat} {ys : List Value} (h : PgRows W base b js ys) {y : Value} {j : Nat} (hy : W.ownsRow base 5 1 y 64 (bts (pageL (chunkL b j) 0))) : PgRows W base b (js ++ [j]) (ys ++ [y]) := by
  refine ⟨by simp [h.1], fun i y' j' h1 h2 => ?_⟩
  by_cases hi : i < ys.length
  · rw [List.getElem?_append_left hi] at h1
    rw [List.getElem?_append_left (by rw [← h.1]; exact hi)] at h2
    exact h.2 i y' j' h1 h2
  · rw [List.getElem?_append_right (by omega)] at h1
    rw [List.getElem?_append_right (by have := h.1; omega)] at h2
    have hl : i - ys.length = 0 := by
      have := List.getElem?_eq_some_iff.1 h1
      obtain ⟨h3, _⟩ := this
      simp at h3
      omega
    rw [hl] at h1
    rw [← h.1, hl] at h2
    simp at h1 h2
    subst h1 h2
    exact hy
/-- between two rounds -/
def CutI (w : World) (b : List UInt8) (js : List Nat) (W : World) : Prop :=
  (∃ v ys, Blk W w.heap.size 78 #[v] ∧ W.ownsRow (w.heap.size + 3) 25 1 v js.length ys ∧ PgRows W (w.heap.size + 3) b js ys) ∧ Below w.heap.size w W ∧ w.heap.size + 3 ≤ W.heap.size
theorem heap_kept2 {W W' : World} {row : Option Nat} {k : Nat} {cs : Array Value} {T : TypeId} {fr : Nat × Nat} (h : W.heap[k]? = some (.cells cs T fr)) (hg : W.grownBy W' row) (hr : ∀ r, row = some r → ∃ o : Obj, W.heap[r]? = some o ∧ o.isCells = false) : W'.heap[k]? = some (.cells cs T fr) := by
  rw [hg.block k (Array.getElem?_eq_some_iff.1 h).1 ?_]
  · exact h
  · intro e
    obtain ⟨o, ho, hc⟩ := hr k e.symm
    rw [h] at ho
    cases ho
    cases hc
theorem cutI_own {w : World} {b : List UInt8} {B M : Nat} (hB : w.heap.size ≤ B) : OwnFrom B (fun (pre : List (Ck M)) W => CutI w b (pre.map (·.1)) W) := by
  rintro s W W' row ⟨⟨v, ys, h1, h2, h3⟩, h4, h5⟩ hg hr
  have hr' := fun r e => (hr r e).2
  exact ⟨⟨v, ys, heap_kept2 h1 hg hr', own_other h2 hg hr', h3.mono fun y xs hy => own_other hy hg hr'⟩, h4.grown hg (Below.size h4) (fun r e => Nat.le_trans hB (hr r e).1), Nat.le_trans h5 hg.size⟩
theorem kpC_b {w : World} {Bs Bn : Nat} (hb : Bs < w.heap.size) (hn : Bn < w.heap.size) (W : World) (l : Nat) (o o' : Obj) (hl : w.heap.size ≤ l) (_ : W.heap[l]? = some o) (_ : o.isCells = false) (_ : o.isWalk = false) : KpC Bs Bn W (W.putObj l o') :=
  ⟨World.putObj_heap_other (by omega), World.putObj_heap_other (by omega)⟩
def CutPgPost (w : World) (b : List UInt8) (M : Nat) (e : Ending) (w' : World) : Prop :=
  ∃ v ys, e = .returned v ∧ w'.ownsRow w.heap.size 25 1 v M ys ∧ PgRows w' w.heap.size b (List.range M) ys ∧ Below w.heap.size w w'

set_option maxRecDepth 100000 in
set_option maxHeartbeats 2000000 in
theorem pgCut_in (b : List UInt8) (n : Nat) (hnb : n = b.length) (A : Option Addr) (c : Nat) (w : World) (B : Nat) (hr : Reads w B 1 A n (bts b)) (hB : B ≤ w.heap.size) (hc : n ≤ c) (hcm : c ≤ 9223372036854775807) (hn : n ≤ 140737488351232) (M : Nat) (hM : M = (n + 51) / 52) :
    CallsIn Fence.wide 9 Try.prog 54 #[.slice A n c] w (CutPgPost w b M) := by
  obtain ⟨i0, hi0, hz0, hz1, hz2⟩ := info_parts Try.infoSl
  have HN := Lib.hid hnb
  have HM := Lib.hid hM
  have hA : 0 < n → ∃ ad, A = some ad := fun h => by obtain ⟨ad, h, _⟩ := hr.2 h; exact ⟨ad, h⟩
  have HR := Lib.hid hr
  have HA := Lib.hid hA
  clear hnb hM hr hA
  have hro : (Fence.wide).round = none := rfl
  refine callsIn_of_wp_marks Try.func54 rfl trivial ?_ hro
  simp only [Try.ntmps54, List.size_toArray, List.length_cons, List.length_nil, Nat.reduceAdd, Nat.reduceSub, Array.replicate_succ, Array.replicate_zero, List.push_toArray, List.append_toArray, List.nil_append, List.cons_append]
  gi_wp2_with (refine ⟨trivial, ?_⟩; gi_at_call 68; refine (chunk_in Fence.wide 8 trivial rfl _ _ _ _).mono ?_; rintro e w' ⟨rfl, rfl⟩)
  have hW1 : Blk (((w.alloc (.cells #[.slice none 0 0] 78)).alloc (.cells #[.slice A n c] 25)).alloc (.cells #[.int .i64 52] 3)) w.heap.size 78 #[.slice none 0 0] := ((Blk.new w _ _).alloc _).alloc _
  have hb0 : Below w.heap.size w (((w.alloc (.cells #[.slice none 0 0] 78)).alloc (.cells #[.slice A n c] 25)).alloc (.cells #[.int .i64 52] 3)) := (((Below.refl _ _).alloc (Nat.le_refl _) _).alloc (by simp) _).alloc (by simp; omega) _
  have hBs : (((w.alloc (.cells #[.slice none 0 0] 78)).alloc (.cells #[.slice A n c] 25)).alloc (.cells #[.int .i64 52] 3)).cell? ⟨w.heap.size + 1, 0, none⟩ = some (.slice A n c) := by
    have := ((Blk.new (w.alloc (.cells #[.slice none 0 0] 78)) 25 #[.slice A n c]).alloc (.cells #[.int .i64 52] 3)).cell 0
    simpa using this
  have hBn : (((w.alloc (.cells #[.slice none 0 0] 78)).alloc (.cells #[.slice A n c] 25)).alloc (.cells #[.int .i64 52] 3)).cell? ⟨w.heap.size + 1 + 1, 0, none⟩ = some (.int .i64 52) := by
    have := (Blk.new ((w.alloc (.cells #[.slice none 0 0] 78)).alloc (.cells #[.slice A n c] 25)) 3 #[.int .i64 52]).cell 0
    simpa using this
  refine wpIn_rangeFunc_ownG rfl (by omega) (gf := 73) (lb := #[.pointer (some ⟨w.heap.size + 1, 0, none⟩), .pointer (some ⟨w.heap.size + 1 + 1, 0, none⟩)]) rfl trivial (enters_of Try.func73 (by kernel_rfl) rfl)
    (chunk_stops Fence.wide 8 trivial rfl (by omega) (w.heap.size + 1) (w.heap.size + 1 + 1) c n A HA.out hc hcm hn M HM.out _ (by first | omega | (simp; omega) | simp) (by first | omega | (simp; omega) | simp) hBs hBn) KpC.trans (kpC_b (by first | omega | (simp; omega) | simp) (by first | omega | (simp; omega) | simp)) (Below.refl _ _) (fun _ => rfl)
    (fun pre W => CutI w b (pre.map (·.1)) W) (fun _ _ _ => False) (cutI_own (by simp; omega)) (fun _ _ _ _ _ hs _ _ => hs) ⟨⟨.slice none 0 0, [], hW1, World.ownsRow_nil _ _ _ _, ⟨rfl, fun _ _ _ h => by simp at h⟩⟩, hb0, by simp⟩
    (fun x => { tmps := #[.slice A n c, undef, .slice none 0 0, .pointer (some ⟨w.heap.size, 0, none⟩), .slice (A.map (·.add (52 * x.1))) (min 52 (n - 52 * x.1)) (min 52 (n - 52 * x.1)), undef, undef, .slice A n c, .func (.func 73) #[] #[.pointer (some ⟨w.heap.size + 1, 0, none⟩), .pointer (some ⟨w.heap.size + 1 + 1, 0, none⟩)], .slice (A.map (·.add (52 * x.1))) (min 52 (n - 52 * x.1)) (min 52 (n - 52 * x.1)), undef, undef, undef, undef, undef, undef, undef, undef, undef, undef], defers := [] }) ?_ ?_ ?_ ?_
  · intro l x W K hK
    gi_wp2
    exact hK
  · rintro l pre x W hI hlt
    have hx := x.2
    have HM' := HM.out
    obtain ⟨⟨v, ys, h1, h2, h3⟩, h4, h5⟩ := hI
    obtain ⟨ad, rfl⟩ := HA.out (by omega)
    obtain ⟨c1, f1⟩ := blk1 h1
    generalize hxx : x.1 = j at *
    have HXX := Lib.hid hxx
    obtain ⟨q, hq⟩ : ∃ q, q = min 52 (n - 52 * j) := ⟨_, rfl⟩
    have hrW := HR.out.below (h4.mono hB)
    have hrq : Reads W B 1 (some (ad.add (52 * j))) q (bts (chunkL b j)) ∧ q = (chunkL b j).length := by
      have hl : q = (chunkL b j).length := by rw [chunkL_length, ← HN.out, hq]
      refine ⟨?_, hl⟩
      have k1 := hrW.cut (k := 52 * j) (cap := c) (by omega) hc
      rw [if_neg (by omega)] at k1
      simp only [Nat.mul_one, Option.map_some] at k1
      have k2 := k1.pre (k := q) (by omega)
      rw [Nat.mul_one, ← bts_drop, ← bts_take] at k2
      have e : (b.drop (52 * j)).take q = chunkL b j := by
        unfold chunkL
        rcases Nat.lt_or_ge 52 (n - 52 * j) with h | h
        · rw [show q = 52 by omega]
        · rw [List.take_of_length_le (by rw [List.length_drop, ← HN.out]; omega), List.take_of_length_le (by rw [List.length_drop, ← HN.out]; omega)]
      rwa [e] at k2
    have hen := pgEncode_ok (chunkL b j) q hrq.2 (some (ad.add (52 * j))) q 0 W B hrq.1 (Nat.le_trans hB h4.size) (Nat.le_refl _) (by omega) (by omega) (by omega) (by omega)
    obtain ⟨kk, hkk⟩ : ∃ kk, kk = (pre.map (·.1)).length := ⟨_, rfl⟩
    have hkM : kk < M := by rw [hkk, List.length_map]; omega
    rw [← hkk] at h2
    have HKK := Lib.hid hkk
    obtain ⟨A0, c0, rfl, _, _, _⟩ := own_form h2
    have H1 := Lib.hid h1
    have H2 := Lib.hid h2
    have H3 := Lib.hid h3
    have H4 := Lib.hid h4
    have hlt1 : w.heap.size < W.heap.size := h1.lt
    have hM24 : M ≤ 2706494526909 := by omega
    simp only [Option.map_some, ← hq]
    clear hxx hrW hrq h1 h2 h3 h4 hW1 hb0 hBs hBn HM' hx hq hkk hlt
    gi_wp2_with (first
      | (refine ⟨trivial, ?_⟩; gi_at_call 46; refine (CallsIn.inRound l (callsIn_wide.2 hen)).mono ?_; rintro e W1 ⟨v1, rfl, hown1, hb1⟩; obtain ⟨A1, cc1, rfl, _, _, _⟩ := own_form hown1; have c2 := (hb1.cell (p := ⟨w.heap.size, 0, none⟩) hlt1).trans c1; have f2 := (hb1.frozen (p := ⟨w.heap.size, 0, none⟩) hlt1).trans f1; have hv1 := own_below H2.out hb1; have hsz1 := hb1.size; clear c1 f1)
      | (gi_at_builtin; refine wpListIn_append_own _ rfl _ _ 78 rfl (w.heap.size + 3) 25 i0 (.slice none 0 0) 1 24 Try.underlying78 hi0 hz0 hz1 hz2 rfl (by decide) (.slice A0 kk c0) kk ys rfl (hv1.alloc _) ⟨W1.heap.size, 0, none⟩ 1 1 [.slice A1 64 cc1] rfl rfl (cell_one_new _ _ _) (by simp [Value.oneCell']) (by unfold maxLen; omega) (by omega) (by simp; omega) ?_; intro v2 W2 hown2 hgrow2 _; obtain ⟨A2, cc2, rfl, _, _, _⟩ := own_form hown2; have hne2 : some w.heap.size ≠ (Value.slice A0 kk c0).ownBlock := (fun e => (by have := (hv1.lt _ e.symm).1; omega)); have c3 := hgrow2.cell ((World.cell?_alloc_lt W1 (.cells #[.slice A1 64 cc1] 25) ⟨w.heap.size, 0, none⟩ (by show w.heap.size < W1.heap.size; omega)).trans c2) hne2; have f3 := (hgrow2.frozen_far ⟨w.heap.size, 0, none⟩ (by show w.heap.size < (World.alloc W1 _).heap.size; simp; omega) hne2).trans ((((Below.refl W1.heap.size W1).alloc (Nat.le_refl _) (.cells #[.slice A1 64 cc1] 25)).frozen (p := ⟨w.heap.size, 0, none⟩) (by show w.heap.size < W1.heap.size; omega)).trans f2); clear c2 f2))
    have hgr1 : W.grownBy W1 Option.none := ⟨hb1.os, hb1.tape, hb1.output, hb1.size, fun k hk _ => hb1.block k hk⟩
    have hcl : ∀ (jj : Nat) (o : Obj), (Value.slice A0 kk c0).ownBlock = some jj → (W1.alloc (.cells #[.slice A1 64 cc1] 25)).heap[jj]? = some o → o.isCells = true := by
      intro jj o e ho
      rcases (hv1.alloc (.cells #[.slice A1 64 cc1] 25)).2 with ⟨h, _⟩ | ⟨g, cap, cur, h, _, hh, _⟩
      · rw [h] at e; cases e
      · rw [h] at e
        have e2 : g = jj := by simpa [Value.ownBlock] using e
        subst e2
        rw [hh] at ho
        cases ho
        rfl
    have hrow3 : ∀ r, (Value.slice A0 kk c0).ownBlock = some r → w.heap.size + 3 ≤ r := fun r e => (hv1.lt r e).1
    have hkeep : ∀ k, k < w.heap.size + 3 → k ≠ w.heap.size → (W2.setCell ⟨w.heap.size, 0, none⟩ (.slice A2 (kk + 1) cc2)).heap[k]? = W.heap[k]? := by
      intro k hk hk2
      rw [Below.heap_setCell _ _ _ _ (fun e => hk2 e), hgrow2.block k (by simp; omega) (fun e => by have := hrow3 k e.symm; omega), Below.heap_alloc W1 _ k (by omega), hb1.block k (by omega)]
    have hrows : ∀ y xs base, w.heap.size + 3 ≤ base → W1.ownsRow base 5 1 y 64 xs → (W2.setCell ⟨w.heap.size, 0, none⟩ (.slice A2 (kk + 1) cc2)).ownsRow base 5 1 y 64 xs := by
      intro y xs base hbase hy
      have hy2 := (hy.alloc (.cells #[.slice A1 64 cc1] 25)).kept hgrow2 (by
        rcases own_types (hy.alloc (.cells #[.slice A1 64 cc1] 25)) (hv1.alloc (.cells #[.slice A1 64 cc1] 25)) (by decide) with h | h
        · exact .inl h
        · exact .inr h)
      exact own_setCell_below hy2 (by show w.heap.size < base; omega) _
    refine ⟨((((KeepsOthers.of_grownBy hgr1 (fun _ _ e => by cases e)).trans (KeepsOthers.alloc _ _)).trans (KeepsOthers.of_grownBy hgrow2 hcl)).trans (KeepsOthers.setCell _ _ _)).from _, ⟨hkeep _ (by omega) (by omega), hkeep _ (by omega) (by omega)⟩, ?_⟩
    show CutI w b ((pre ++ [x]).map (·.1)) _
    rw [List.map_append, List.map_singleton, HXX.out]
    refine ⟨⟨.slice A2 (kk + 1) cc2, ys ++ [.slice A1 64 cc1], ?_, ?_, ?_⟩, ?_, ?_⟩
    · exact (((H1.out.below hb1 H1.out.lt).alloc _).grown hgrow2 hne2).set_ 0 _
    · have := own_setCell_below hown2 (p := ⟨w.heap.size, 0, none⟩) (by show w.heap.size < w.heap.size + 3; omega) (.slice A2 (kk + 1) cc2)
      rw [List.length_append, List.length_singleton, ← HKK.out]
      exact this
    · refine PgRows.snoc (H3.out.mono fun y xs hy => hrows y xs _ (Nat.le_refl _) (own_below hy hb1)) (hrows _ _ _ (Nat.le_refl _) (own_mono hown1 h5))
    · exact (((H4.out.trans (hb1.mono H4.out.size)).alloc (by have := H4.out.size; omega) _).grown hgrow2 (by have := H4.out.size; simp; omega) (fun r e => by have := hrow3 r e; omega)).setCell (Nat.le_refl _) _
    · have := hgrow2.size
      simp at this ⊢
      omega
  · rintro D xs W hD hS hI hK
    obtain ⟨⟨v, ys, h1, h2, h3⟩, h4, h5⟩ := hI
    obtain ⟨c1, f1⟩ := blk1 h1
    rw [hS] at h2 h3
    rw [List.length_range] at h2
    have H2 := Lib.hid h2
    have H3 := Lib.hid h3
    have H4 := Lib.hid h4
    obtain ⟨A0, c0, rfl, _, _, _⟩ := own_form h2
    clear h1 h2 h3 h4 hW1 hb0 hBs hBn
    gi_wp2
    refine ⟨by simp, .inl ⟨_, _, rfl, run_takeDeferred hK, ?_⟩⟩
    refine ⟨_, results_tmp rfl _ _ _, _, ys, rfl, ?_, ?_, ?_⟩
    · exact own_mono (ownsRow_putObj H2.out _ hK rfl) (by omega)
    · exact ⟨H3.out.1, fun i y j hy hj => own_mono (ownsRow_putObj (H3.out.2 i y j hy hj) _ hK rfl) (by omega)⟩
    · exact H4.out.trans (belowK_b (w := w) (Nat.le_refl _) W D _ _ (by simp at hD; omega) hK rfl rfl)
  · rintro D c pre W _ _ h _
    exact h.elim

/-- pages.Cut -/
theorem pgCut_any (b : List UInt8) (n : Nat) (hnb : n = b.length) (A : Option Addr) (c : Nat) (w : World) (B : Nat) (hr : Reads w B 1 A n (bts b)) (hB : B ≤ w.heap.size) (hc : n ≤ c) (hcm : c ≤ 9223372036854775807) (hn : n ≤ 140737488351232) (M : Nat) (hM : M = (n + 51) / 52) :
    Calls Try.prog 54 #[.slice A n c] w (CutPgPost w b M) :=
  (callsIn_wide (n := 9)).1 (pgCut_in b n hnb A c w B hr hB hc hcm hn M hM)
end Go.Proofs.Ytcchnoadclidcaa
