/-
  FletchPartsUptoSaid: behind a text of whole words, and then another one, the sum is that of both. Condition: the arguments are together of bulk at most 1048576.
-/
import Derived.Test.YtcchnoadclidcaaFl3
import Derived.Deep.RegionHeld3
namespace Go.Proofs.Ytcchnoadclidcaa
open Go.RowKit Go.ChangeShapes Go.WideShapes Go.ChangeAt

theorem words_parts (a b : List UInt8) (h : a.length % 4 = 0) : words (a ++ b) = words a ++ words b := by
  obtain ⟨m, hm⟩ : ∃ m, a.length = 4 * m := ⟨a.length / 4, by omega⟩
  have e1 : ((a ++ b).length + 3) / 4 = m + (b.length + 3) / 4 := by rw [List.length_append, hm]; omega
  have e2 : (a.length + 3) / 4 = m := by omega
  have get1 : ∀ j, j < 4 * m → (a ++ b).getD j 0 = a.getD j 0 := fun j hj => by
    simp [List.getD_eq_getElem?_getD, List.getElem?_append_left (show j < a.length by omega)]
  have get2 : ∀ j, (a ++ b).getD (4 * m + j) 0 = b.getD j 0 := fun j => by
    simp [List.getD_eq_getElem?_getD, List.getElem?_append_right (show a.length ≤ 4 * m + j by omega), hm]
  have h1 : (List.range m).map (wordAt (a ++ b)) = (List.range m).map (wordAt a) := List.map_congr_left fun k hk => by
    have hk := List.mem_range.1 hk
    unfold wordAt
    rw [get1 _ (by omega), get1 _ (by omega), get1 _ (by omega), get1 _ (by omega)]
  have h2 : ∀ n, (List.range n).map (fun k => wordAt (a ++ b) (m + k)) = (List.range n).map (wordAt b) := fun n => List.map_congr_left fun k _ => by
    unfold wordAt
    rw [show 4 * (m + k) = 4 * m + 4 * k by omega, Nat.add_assoc, Nat.add_assoc, Nat.add_assoc, get2, get2, get2, get2]
  unfold words wordsN
  rw [e1, e2, List.range_add, List.map_append, List.map_map, h1, ← h2]
  exact congrArg _ (List.map_congr_left fun _ _ => Eq.refl _)
theorem feedL_append (s : Sm) (l r : List Nat) : feedL s (l ++ r) = feedL (feedL s l) r := by simp [feedL]

set_option maxRecDepth 100000 in
theorem fletchParts_any (s : Sm) (a b : List UInt8) (A A' : Option Addr) (c c' : Nat) (w : World) (hra : Reads w w.heap.size 1 A a.length (bts a)) (hrb : Reads w w.heap.size 1 A' b.length (bts b)) (hca : a.length ≤ c) (hcb : b.length ≤ c') (hn : a.length + b.length ≤ 1048576) (hcc : c ≤ 140737488351232) :
    LawCalls Try.prog 3 #[s.val, .slice A a.length c, .slice A' b.length c'] w := by
  obtain ⟨sa, sb, sc, sd⟩ := s
  show Calls _ _ #[.agg #[.int .u64 sa, .int .u64 sb, .int .u64 sc, .int .u64 sd], _, _] _ _
  obtain ⟨i0, hi0, hz0, hz1, hz2⟩ := info_parts Try.infoU8
  go_enter Try.func3, Try.ntmps3
  go_wp2_with fail
  refine (alive4_any _).mono ?_
  rintro e w1 ⟨rfl, hb1⟩
  simp only []
  have hk : Blk w1 w.heap.size 24 #[.int .u64 sa, .int .u64 sb, .int .u64 sc, .int .u64 sd] := (Blk.new w _ _).below hb1 (by simp)
  have hb : Below w.heap.size w w1 := ((Below.refl _ _).alloc (Nat.le_refl _) _).trans (hb1.mono (by simp))
  have hsz1 : w.heap.size + 1 ≤ w1.heap.size := by have := hb1.size; simpa using this
  clear hb1
  obtain ⟨k, hk4⟩ : ∃ k, k = a.length / 4 * 4 := ⟨_, rfl⟩
  have hkl : k ≤ a.length := by omega
  have hq : (a.length : Int) / 4 * 4 = (k : Int) := by omega
  have HK := Lib.hid hk4
  clear hk4
  have hra1 := (hra.below hb).bpre hkl
  have hrb1 := hrb.below hb
  go_wp2_with (first
    | (at_builtin; (refine wpList_append_any _ rfl (.tmp 16) (.tmp 17) _ rfl (w.heap.size + 1) 5 i0 _ 1 1 Try.underlying25 hi0 hz0 hz1 hz2 rfl (by omega) (.slice none 0 0) 0 [] rfl (World.ownsRow_nil _ _ _ _) w.heap.size A k c (bts (a.take k)) rfl hra1 (bts_one _) (by unfold maxLen; omega) (by omega) hsz1 ?_); intro v1 w2 hown1 hg1 hat1; have hb2 := (Below.refl w1.heap.size w1).grown hg1 (Nat.le_refl _) (by simp [Value.ownBlock]))
    | (at_builtin; (refine wpList_append_any _ rfl (.tmp 18) (.tmp 19) _ rfl (w.heap.size + 1) 5 i0 _ 1 1 Try.underlying25 hi0 hz0 hz1 hz2 rfl (by omega) v1 (0 + k) _ rfl hown1 w.heap.size A' b.length c' (bts b) rfl (hrb1.below (hb2.mono (by omega))) (bts_one _) (by unfold maxLen; omega) (by omega) (Nat.le_trans hsz1 hb2.size) ?_); intro v2 w3 hown2 hg2 hat2))
  have hb3 : Below w1.heap.size w1 w3 := hb2.grown hg2 hb2.size (fun j hj => by rcases hat1 with e | e <;> rw [e] at hj <;> simp [Value.ownBlock] at hj; omega)
  simp only [Nat.zero_add, List.nil_append] at hown2
  rw [← bts_append] at hown2
  have hkl2 : (a.take k).length = k := by simp; omega
  obtain ⟨A3, c3, rfl, hc3, hm3, hr3⟩ := own_form hown2
  have hra3 := hra1.below (hb3.mono (by omega))
  have hrb3 := hrb1.below (hb3.mono (by omega))
  have hk3 : Blk w3 w.heap.size 24 #[.int .u64 sa, .int .u64 sb, .int .u64 sc, .int .u64 sd] := hk.below hb3 (by omega)
  have hbw : Below w.heap.size w w3 := hb.trans (hb3.mono (by omega))
  have hsz3 := hb3.size
  obtain ⟨d0, d1, d2, d3, _, _, _, _⟩ := blk4 hk3
  obtain ⟨g0, hg0⟩ : ∃ g, g = w.heap.size := ⟨_, rfl⟩
  clear hg1 hg2 hat1 hat2 hown1 hown2 hra hrb hra1 hrb1 hk hb2 hb3 hb hk3
  have hkc : k ≤ c := by omega
  have HP := Lib.hid (show feedL ⟨sa, sb, sc, sd⟩ (words (a.take k ++ b)) = feedL (feedL ⟨sa, sb, sc, sd⟩ (words (a.take k))) (words b) by rw [words_parts _ _ (by rw [hkl2, HK.out]; omega), feedL_append])
  have hkl3 := Lib.hid (show k + b.length = (a.take k ++ b).length by simp; omega)
  have hS := Lib.hid (fun (W' : World) (hB : Below w3.heap.size w3 W') => (⟨(hB.cell (p := ⟨w.heap.size, 0, none⟩) (by simp; omega)).trans d0, (hB.cell (p := ⟨w.heap.size, 1, none⟩) (by simp; omega)).trans d1, (hB.cell (p := ⟨w.heap.size, 2, none⟩) (by simp; omega)).trans d2, (hB.cell (p := ⟨w.heap.size, 3, none⟩) (by simp; omega)).trans d3, hB⟩ :
    W'.cell? ⟨w.heap.size, 0, none⟩ = some (.int .u64 sa) ∧ W'.cell? ⟨w.heap.size, 1, none⟩ = some (.int .u64 sb) ∧ W'.cell? ⟨w.heap.size, 2, none⟩ = some (.int .u64 sc) ∧ W'.cell? ⟨w.heap.size, 3, none⟩ = some (.int .u64 sd) ∧ Below w3.heap.size w3 W'))
  have hS0 := (Below.refl w3.heap.size w3).drew
  go_region_held3 (fun w' => w'.cell? ⟨w.heap.size, 0, none⟩ = some (.int .u64 sa) ∧ w'.cell? ⟨w.heap.size, 1, none⟩ = some (.int .u64 sb) ∧ w'.cell? ⟨w.heap.size, 2, none⟩ = some (.int .u64 sc) ∧ w'.cell? ⟨w.heap.size, 3, none⟩ = some (.int .u64 sd) ∧ Below w3.heap.size w3 w')
    (first | (exact hS.out _ hS0) | (exact hS.out _ (below_step (held4 (by assumption)) hbn)))
    (first
      | (go_at_call 18; (with_reducible refine (feed_n ⟨sa, sb, sc, sd⟩ (a.take k) k hkl2.symm A c _ w.heap.size ?_ ?_ hkc ?_).mono ?_); (exact hra3.below ((held4 (by assumption)).mono (by omega))); (exact below_size (w := w3) (held4 (by assumption)) (by omega)); omega; rintro e w4 ⟨rfl, hbn⟩)
      | (go_at_call 18; (with_reducible refine (feed_n ⟨sa, sb, sc, sd⟩ (a.take k ++ b) (k + b.length) hkl3.out A3 c3 _ w3.heap.size ?_ ?_ hc3 ?_).mono ?_); (exact hr3.below ((held4 (by assumption)).mono (by omega))); (exact below_size (w := w3) (held4 (by assumption)) (by omega)); omega; rintro e w4 ⟨he, hbn⟩; rw [HP.out] at he; subst he)
      | (go_at_call 18; (with_reducible refine (feed_n (feedL ⟨sa, sb, sc, sd⟩ (words (a.take k))) b b.length rfl A' c' _ w.heap.size ?_ ?_ hcb ?_).mono ?_); (exact hrb3.below ((held4 (by assumption)).mono (by omega))); (exact below_size (w := w3) (held4 (by assumption)) (by omega)); omega; rintro e w4 ⟨rfl, hbn⟩))
  go_wp2_with fail
  go_ret
  exact ⟨rfl, hbw.trans ((held4 (by assumption)).mono (by omega))⟩

theorem fletchParts_core (H : Type) (enc : TypeId × Value → H) (W : World) (args : Array Value) (ds : List (DataW H)) (h : ArgsIn enc Try.prog W [24, 25, 25] args.toList ds) (hk : Rows.uptoBulkAll ds ≤ 1048576) :
    LawCalls Try.prog 3 args W := by
  obtain ⟨v0, v1, v2, d0, d1, d2, rfl, rfl, h0, h1, h2⟩ := argsIn3 h
  obtain ⟨s, rfl, _⟩ := h0.sum Try.underlying24 ⟨rfl, rfl, rfl, rfl⟩ Try.underlying22 (by kernel_rfl) (by kernel_rfl)
  obtain ⟨A, a, c, rfl, hc, hc2, hr, hd1⟩ := h1.bytes Try.underlying25 Try.underlying5 (by kernel_rfl) (by kernel_rfl)
  obtain ⟨A', b, c', rfl, hc', hc2', hr', hd2⟩ := h2.bytes Try.underlying25 Try.underlying5 (by kernel_rfl) (by kernel_rfl)
  refine fletchParts_any s a b A A' c c' W hr hr' hc hc' ?_ hc2
  have e1 := bulk_bytes hd1
  have e2 := bulk_bytes hd2
  simp only [Rows.uptoBulkAll] at hk
  omega

theorem fletchParts_spec {H : Type} {enc : TypeId × Value → H} (vs : List Value) (ds : List (DataW H)) (W : World) (p : List MemPlace) (h : DataW.TrodAll enc Try.prog W 0 (fun _ => true) true [24, 25, 25] vs ds p) :
    (Rows.fletchPartsSpec.fn H ds).results = [.lit (.bool true)] ∧ (Rows.fletchPartsSpec.fn H ds).args = ds ∧ (Rows.fletchPartsSpec.fn H ds).vars = [] := by
  obtain ⟨_, _, d0, ds0, _, _, rfl, rfl, _, _, r0⟩ := trodAll_cons h
  obtain ⟨_, _, d1, ds1, _, _, rfl, rfl, _, _, r1⟩ := trodAll_cons r0
  obtain ⟨_, _, d2, ds2, _, _, rfl, rfl, _, _, r2⟩ := trodAll_cons r1
  obtain ⟨rfl, rfl, rfl⟩ := trodAll_nil r2
  exact ⟨rfl, rfl, rfl⟩

set_option maxRecDepth 100000 in
theorem fletchParts_lifted (os : Os) (started : os.Started) (H : Type) (enc : TypeId × Value → H) (F : Stop.Interp) :
    ReturnsInHanded {} Try.checked os 3 .any ((Rows.OpenSpec.upto Rows.fletchPartsSpec).pre6 enc Try.prog Try.f3 Rows.fletchPartsUptoRow.domain false) (((Rows.OpenSpec.upto Rows.fletchPartsSpec).at F).post enc Try.prog Try.f3 false true false false) := by
  refine returnsInHanded_of_cond_sized (C := Try.checked) (s := Rows.OpenSpec.upto Rows.fletchPartsSpec) (k := Rows.uptoSmall) rfl Try.own started (by kernel_rfl) Try.func3
    (OpenSpec.witness (enc := enc) (C := Try.checked) (s := Rows.OpenSpec.upto Rows.fletchPartsSpec) (k := Rows.uptoSmall) rfl false ⟨#[], #[.agg #[.int .u64 0, .int .u64 0, .int .u64 0, .int .u64 0], .slice none 0 0, .slice none 0 0], []⟩ 8 (by kernel_rfl) (by kernel_rfl) (by kernel_rfl)
      (x := ([.agg [.lit (.int .u64 0), .lit (.int .u64 0), .lit (.int .u64 0), .lit (.int .u64 0)], .nil, .nil], [], [])) (by kernel_rfl) rfl (by kernel_rfl)) ?_
  intro W base args ds gs before hval hW _ hk hsz _
  refine law_contract (s := Rows.fletchPartsSpec) Try.laidOut Try.underlying4 (ps := [24, 25, 25]) rfl rfl rfl (by kernel_rfl) fletchParts_spec W base args ds gs before hval hW hsz (fun h hg => ?_)
  subst hg
  exact fletchParts_core H enc W args ds h (of_decide_eq_true (show decide (Rows.uptoBulkAll ds ≤ 1048576) = true from by rw [List.append_nil] at hk; exact hk))

theorem fletchParts_holds : Rows.FletchPartsUptoSaid :=
  OpenClaim.holds_of_cond 3 Try.f3 rfl rfl rfl rfl rfl rfl rfl ⟨rfl, rfl, rfl, rfl, rfl⟩ rfl rfl rfl rfl rfl (by kernel_rfl) Try.func3 (by kernel_rfl)
    (of_decide_eq_true (by kernel_rfl)) (by unfold Func.isWrapper; first | (rw [if_pos (by decide +kernel)]; kernel_rfl) | (rw [if_neg (by decide +kernel)]; exact ⟨rfl, rfl⟩))
    (fun os started H enc _ F => fletchParts_lifted os started H enc F)


end Go.Proofs.Ytcchnoadclidcaa
