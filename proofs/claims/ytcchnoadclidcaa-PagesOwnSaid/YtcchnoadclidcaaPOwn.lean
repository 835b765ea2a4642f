/-
  PagesOwnSaid: what is told shares nothing with what was handed in. No condition.
-/
import Derived.Test.YtcchnoadclidcaaPAlive
import Derived.Test.YtcchnoadclidcaaSpoil
namespace Go.Proofs.Ytcchnoadclidcaa
open Go.RowKit Go.ChangeShapes Go.WideShapes Go.ChangeAt

theorem own_farP {w w' : World} {base : Nat} {e : TypeId} {size n : Nat} {v : Value} {xs : List Value} {row : Option Nat} (h : w.ownsRow base e size v n xs) (hg : w.grownBy w' row) (hr : ∀ k, row = some k → k < base) : w'.ownsRow base e size v n xs := by
  refine h.kept hg ?_
  cases hv : v.ownBlock with
  | none => exact .inl rfl
  | some k => exact .inr (fun e => by have h1 := (h.lt k hv).1; have h2 := hr k e.symm; omega)
theorem own_same {W : World} {b1 b2 : Nat} {e : TypeId} {n : Nat} {v1 v2 : Value} {xs1 xs2 : List Value} (h1 : W.ownsRow b1 e 1 v1 n xs1) (h2 : W.ownsRow b2 e 1 v2 n xs2) {g : Nat} (g1 : v1.ownBlock = some g) (g2 : v2.ownBlock = some g) : v1 = v2 := by
  rcases h1.2 with ⟨rfl, _⟩ | ⟨g', cap, cur, rfl, _, hh, _, _, hs, _⟩
  · cases g1
  · rcases h2.2 with ⟨rfl, _⟩ | ⟨g2', cap', cur', rfl, _, hh', _, _, hs', _⟩
    · cases g2
    · have e1 : g' = g := by simpa [Value.ownBlock] using g1
      have e2 : g2' = g := by simpa [Value.ownBlock] using g2
      subst e1 e2
      rw [hh] at hh'
      injection hh' with h3
      injection h3 with h4 _
      subst h4
      have : cap = cap' := by omega
      subst this
      rfl
/-- every one of them is a row of 64 octets -/
def Rows64 (W : World) (base : Nat) (ys : List Value) : Prop := ∀ (i : Nat) (y : Value), ys[i]? = some y → ∃ s : List UInt8, 64 = s.length ∧ W.ownsRow base 5 1 y 64 (bts s)
theorem Rows64.turn {W W' : World} {base : Nat} {ys : List Value} {y : Value} {s s' : List UInt8} (h : Rows64 W base ys) (hy : W.ownsRow base 5 1 y 64 (bts s)) (hg : W.grownBy W' y.ownBlock) (hs : 64 = s'.length) (hy' : W'.ownsRow base 5 1 y 64 (bts s')) : Rows64 W' base ys := by
  intro i z hz
  obtain ⟨t, ht, hown⟩ := h i z hz
  cases hv : z.ownBlock with
  | none => exact ⟨t, ht, hown.kept hg (.inl hv)⟩
  | some k =>
    by_cases he : y.ownBlock = some k
    · obtain rfl := own_same hown hy hv he
      exact ⟨s', hs, hy'⟩
    · exact ⟨t, ht, hown.kept hg (.inr (fun e => he (by rw [← e, hv])))⟩

set_option maxRecDepth 100000 in
set_option maxHeartbeats 2000000 in
theorem pagesOwn_any (b : List UInt8) (n : Nat) (hnb : n = b.length) (A : Option Addr) (c : Nat) (w : World) (hr : Reads w w.heap.size 1 A n (bts b)) (hn : n ≤ 140737488351232) :
    LawCalls Try.prog 16 #[.slice A n c] w := by
  obtain ⟨i0, hi0, hz0, hz1, hz2⟩ := info_parts Try.infoU8'
  obtain ⟨M, hM⟩ : ∃ M, M = (n + 51) / 52 := ⟨_, rfl⟩
  have hMb : M ≤ 140737488351232 := by omega
  have HN := Lib.hid hnb
  have HM := Lib.hid hM
  clear hnb hM
  go_enter Try.func16, Try.ntmps16
  go_wp2_with fail
  refine (alive09_any _).mono ?_
  rintro e w0 ⟨rfl, hb0⟩
  have hr0 := hr.below hb0
  have hsz0 := hb0.size
  clear hr
  go_wp2_with (at_builtin; (refine wpList_append_any _ rfl (.tmp 10) (.tmp 11) _ rfl w0.heap.size 5 i0 _ 1 1 Try.underlying25 hi0 hz0 hz1 hz2 rfl (by omega) (.slice none 0 0) 0 [] rfl (World.ownsRow_nil _ _ _ _) w.heap.size A n c _ rfl hr0 (bts_one _) (by unfold maxLen; omega) (by omega) (Nat.le_refl _) ?_); intro v1 w1 hown1 hg1 _; have hbx1 : Below w0.heap.size w0 w1 := grown_none_below hg1; have hown1' : w1.ownsRow w0.heap.size 5 1 v1 n (bts b) := (by simpa using hown1); have hr1 := hr0.below (hbx1.mono hsz0); have hb1 := hb0.trans (hbx1.mono hsz0); clear hown1 hg1 hr0 hb0; obtain ⟨A1, c1, rfl, hc1, hm1, _⟩ := own_form hown1')
  have hlt1 := Lib.hid (fun k hk => hown1'.lt k hk)
  have z1 := hbx1.size
  unfold maxLen at hm1
  refine (pgCut_any b n HN.out A1 c1 w1 w1.heap.size (own_reads hown1').2.2 (Nat.le_refl _) hc1 hm1 hn M HM.out).mono ?_
  rintro e w2 ⟨v2, ys, rfl, hown2, hrows2, hb2⟩
  obtain ⟨A2, c2, rfl, _, _, _⟩ := own_form hown2
  have hlt2 := Lib.hid (fun (i : Nat) (y : Value) (hi : i < M) (hy : ys[i]? = some y) (k : Nat) (hk : y.ownBlock = some k) => ((hrows2.2 i y i hy (by rw [List.getElem?_range hi])).lt k hk).2)
  have ho12 := own_below hown1' hb2
  have hr2 := hr1.below (hb2.mono hb1.size)
  have hbb2 := hb1.trans (hb2.mono hb1.size)
  have z2 := hb2.size
  clear hown1' hr1 hb1 hb2 hbx1
  go_wp2_with fail
  refine (spoil_any b n HN.out w0.heap.size _ w2 ho12 hn).mono ?_
  rintro e w3 ⟨rfl, hg3⟩
  have hr3' : ∀ j, (Value.slice A1 n c1).ownBlock = some j → w0.heap.size ≤ j ∧ j < w1.heap.size := fun j hj => hlt1.out j hj
  have hown3 := own_farP hown2 hg3 (fun j hj => (hr3' j hj).2)
  have hrows3 := hrows2.mono fun y xs hy => own_farP hy hg3 (fun j hj => (hr3' j hj).2)
  have hr3 := hr2.grown hg3 (by omega) (fun j hj => by have := (hr3' j hj).1; omega)
  have hbb3 := hbb2.grown hg3 hbb2.size (fun j hj => by have := (hr3' j hj).1; omega)
  have z3 := hg3.size
  have hgl := glue_ok b n HN.out hn M HM.out A2 c2 w3 ys w1.heap.size (own_reads hown3).2.2 hrows3
  clear ho12 hown2 hrows2 hr2 hbb2 hg3 hr3'
  go_wp2_with fail
  refine hgl.mono ?_
  clear hgl
  rintro e w4 ⟨v3, rfl, hown4, hb4⟩
  obtain ⟨A3, c3, rfl, _, _, _⟩ := own_form hown4
  have hl4 := own_below hown3 hb4
  have hrows4 : Rows64 w4 w1.heap.size ys := fun i y hy => by
    have hi : i < M := by
      have h1 := (List.getElem?_eq_some_iff.1 hy).1
      rw [hrows3.1, List.length_range] at h1
      exact h1
    exact ⟨_, (pageL_length _ _ (by rw [chunkL_length]; omega)).symm, own_below (hrows3.2 i y i hy (by rw [List.getElem?_range hi])) hb4⟩
  have hr4 := hr3.below (hb4.mono hbb3.size)
  have hbb4 := hbb3.trans (hb4.mono hbb3.size)
  clear hown3 hrows3 hr3 hbb3 hb4
  go_wp2_with fail
  go_loopw [7] (fun i wr => ∃ k : Nat, k ≤ M ∧ i = .int .i64 (k : Int) ∧ wr.ownsRow w1.heap.size 25 1 (.slice A2 M c2) M ys ∧ Rows64 wr w1.heap.size ys ∧ wr.ownsRow w3.heap.size 5 1 (.slice A3 n c3) n (bts b) ∧ Reads wr w.heap.size 1 A n (bts b) ∧ Below w.heap.size w wr) (fun i _ => M - (intOf i).toNat)
  case atStart => exact ⟨0, Nat.zero_le _, rfl, hl4, hrows4, hown4, hr4, hbb4⟩
  case round =>
    obtain ⟨k, hk, rfl, hL, hR, hX, hrw, hbw⟩ := hrel
    clear hl4 hrows4 hown4 hr4 hbb4
    by_cases hlt : k < M
    · obtain ⟨ad, u, rfl, _, hu, hcu⟩ := (own_reads hL).2.2.at_ hlt
      obtain ⟨s, hs, hy⟩ := hR k u hu
      have hki : (k : Int) < (M : Int) := by omega
      have hblk := hlt2.out k u hlt hu
      have hsp := spoil_row s 64 hs w1.heap.size u wr hy (by omega)
      have HS := Lib.hid hs
      have HBLK := Lib.hid hblk
      have HY := Lib.hid hy
      have HL := Lib.hid hL
      have HRR := Lib.hid hR
      have HX := Lib.hid hX
      obtain ⟨Au, cu, rfl, _, _, _⟩ := own_form hy
      clear hu hs hblk hy hL hR hX
      go_wp2_with fail
      refine hsp.mono ?_
      clear hsp
      rintro e w6 ⟨rfl, hg6, s', hs', hy'⟩
      have hb1' : ∀ j, (Value.slice Au 64 cu).ownBlock = some j → w1.heap.size ≤ j ∧ j < w2.heap.size := fun j hj => ⟨(HY.out.lt j hj).1, HBLK.out j hj⟩
      have hL6 := HL.out.kept hg6 (by
        rcases own_types HL.out HY.out (by decide) with h | h
        · exact .inl h
        · exact .inr h)
      have hR6 := HRR.out.turn HY.out hg6 hs' hy'
      have hX6 := own_farP HX.out hg6 (fun j hj => by have := (hb1' j hj).2; omega)
      have hrw6 := hrw.grown hg6 hbw.size (fun j hj => by have := (hb1' j hj).1; omega)
      have hbw6 := hbw.grown hg6 hbw.size (fun j hj => by have := (hb1' j hj).1; omega)
      clear hs' hy' hg6 hrw hbw hb1'
      go_wp2_with fail
      go_roundw
      case rel => exact ⟨k + 1, by omega, by go_num, hL6, hR6, hX6, hrw6, hbw6⟩
      case measure => simp [intOf]; omega
    · obtain rfl : k = M := by omega
      have s1 := str_of (P := Try.prog) (c := c3) (own_reads hX).2.2 HN.out Try.underlying25 Try.underlying5 Try.underlying9
      have s2 := str_of (P := Try.prog) (c := c) hrw HN.out Try.underlying25 Try.underlying5 Try.underlying9
      clear hL hR hX hrw
      go_wp2_with fail
      refine (num09_any _ _).mono ?_
      rintro e w8 ⟨rfl, rfl⟩
      go_wp2_with fail
      go_ret
      exact ⟨rfl, hbw⟩

theorem pagesOwn_core (H : Type) (enc : TypeId × Value → H) (W : World) (args : Array Value) (ds : List (DataW H)) (h : ArgsIn enc Try.prog W [25] args.toList ds) :
    LawCalls Try.prog 16 args W := by
  obtain ⟨v0, d0, rfl, rfl, h0⟩ := argsIn1 h
  obtain ⟨A, b, c, rfl, hc, hc2, hr, _⟩ := h0.bytes Try.underlying25 Try.underlying5 (by kernel_rfl) (by kernel_rfl)
  exact pagesOwn_any b b.length rfl A c W hr (by omega)

theorem pagesOwn_spec {H : Type} {enc : TypeId × Value → H} (vs : List Value) (ds : List (DataW H)) (W : World) (p : List MemPlace) (h : DataW.TrodAll enc Try.prog W 0 (fun _ => true) true [25] vs ds p) :
    (Rows.pagesOwnSpec.fn H ds).results = [.lit (.bool true)] ∧ (Rows.pagesOwnSpec.fn H ds).args = ds ∧ (Rows.pagesOwnSpec.fn H ds).vars = [] := by
  obtain ⟨_, _, d0, ds0, _, _, rfl, rfl, _, _, r0⟩ := trodAll_cons h
  obtain ⟨rfl, rfl, rfl⟩ := trodAll_nil r0
  exact ⟨rfl, rfl, rfl⟩

set_option maxRecDepth 100000 in
theorem pagesOwn_lifted (os : Os) (started : os.Started) (H : Type) (enc : TypeId × Value → H) :
    ReturnsInHanded {} Try.checked os 16 .any (Rows.pagesOwnSpec.pre6 enc Try.prog Try.f16 Rows.pagesOwnRow.domain false) (Rows.pagesOwnSpec.post enc Try.prog Try.f16 false true false false) := by
  refine returnsInHanded_of_change_sized (C := Try.checked) Try.own started (by kernel_rfl) Try.func16
    (ChangeSpec.witness6 (enc := enc) (C := Try.checked) false ⟨#[], #[.slice none 0 0], []⟩ 8 (by kernel_rfl) (by kernel_rfl) (by kernel_rfl) (by kernel_rfl)) ?_
  intro W base args ds gs before hval hW _ hsz _
  exact law_contract Try.laidOut Try.underlying4 (ps := [25]) rfl rfl rfl (by kernel_rfl) pagesOwn_spec W base args ds gs before hval hW hsz (fun h _ => pagesOwn_core H enc W args ds h)

theorem pagesOwn_holds : Rows.PagesOwnSaid :=
  OpenClaim.holds_of_wide 16 Try.f16 rfl rfl rfl rfl rfl rfl rfl ⟨rfl, rfl, rfl, rfl, rfl⟩ rfl rfl rfl rfl rfl (by kernel_rfl) Try.func16 (by kernel_rfl)
    (of_decide_eq_true (by kernel_rfl)) (by unfold Func.isWrapper; first | (rw [if_pos (by decide +kernel)]; kernel_rfl) | (rw [if_neg (by decide +kernel)]; exact ⟨rfl, rfl⟩))
    (fun os started H enc _ => pagesOwn_lifted os started H enc)


end Go.Proofs.Ytcchnoadclidcaa
