/-
  PagesBackSaid: octets come back from their pages, as many as Count tells, each of 64 octets; a page comes back, too. No condition.
-/
import Derived.Test.YtcchnoadclidcaaPAlive
namespace Go.Proofs.Ytcchnoadclidcaa
open Go.RowKit Go.ChangeShapes Go.WideShapes Go.ChangeAt

theorem cnt_eq (n : Nat) : cntZ (n : Int) = (((n + 51) / 52 : Nat) : Int) := by
  unfold cntZ
  split <;> omega
theorem not_pdecOk_nil : ¬ PDecOk [] := fun h => by have := h.len; simp at this

set_option maxRecDepth 100000 in
set_option maxHeartbeats 2000000 in
theorem pagesBack_any (b : List UInt8) (n : Nat) (hnb : n = b.length) (next : Int) (A : Option Addr) (c : Nat) (w : World) (hr : Reads w w.heap.size 1 A n (bts b)) (hc : n ≤ c) (hcm : c ≤ 140737488351232) :
    LawCalls Try.prog 14 #[.slice A n c, .int .i64 next] w := by
  obtain ⟨M, hM⟩ : ∃ M, M = (n + 51) / 52 := ⟨_, rfl⟩
  have hn : n ≤ 140737488351232 := by omega
  have hMb : M ≤ 140737488351232 := by omega
  have hcut := fun W (hb : Below w.heap.size w W) => pgCut_any b n hnb A c W w.heap.size (hr.below hb) hb.size hc (by omega) hn M hM
  have hcnt := fun W => count_any (n : Int) (by omega) W
  have HCN := Lib.hid (show cntZ (n : Int) = (M : Int) by rw [cnt_eq, hM])
  have HN := Lib.hid hnb
  have HM := Lib.hid hM
  have HR := Lib.hid hr
  by_cases hgood : n ≤ 52 ∧ 0 ≤ next ∧ next < 8192
  · obtain ⟨g1, g2, g3⟩ := hgood
    have hen := fun W (hb : Below w.heap.size w W) => pgEncode_ok b n hnb A c next W w.heap.size (hr.below hb) hb.size hc (by omega) g1 g2 g3
    have HPB := Lib.hid (page_back b next (by omega) g2 g3)
    have HEL := Lib.hid (pageL_length b next (by omega))
    clear hnb hM hr g2 g3 g1 hc hcm
    go_enter Try.func14, Try.ntmps14
    go_wp2_with fail
    refine (alive09_any _).mono ?_
    rintro e w1 ⟨rfl, hb1⟩
    go_wp2_with fail
    refine (hcut _ hb1).mono ?_
    rintro e w2 ⟨v2, ys, rfl, hown2, hrows2, hb2⟩
    obtain ⟨A2, c2, rfl, _, _, hry2⟩ := own_form hown2
    have hgl := glue_ok b n HN.out hn M HM.out A2 c2 w2 ys w1.heap.size hry2 hrows2
    have hbb2 := hb1.trans (hb2.mono hb1.size)
    clear hcut hown2 hb1 hb2
    go_wp2_with fail
    refine hgl.mono ?_
    clear hgl
    rintro e w3 ⟨v3, rfl, hown3, hb3⟩
    obtain ⟨A3, c3, rfl, _, _, hr3⟩ := own_form hown3
    have hbb3 := hbb2.trans (hb3.mono hbb2.size)
    have hry3 := (hry2.below hb3).more hb3.size
    have hrows3 := hrows2.mono fun y xs hy => own_below hy hb3
    clear hown3 hb3 hbb2 hry2 hrows2
    go_wp2_with fail
    refine (hen _ hbb3).mono ?_
    clear hen
    rintro e w4 ⟨v4, rfl, hown4, hb4⟩
    obtain ⟨A4, c4, rfl, hc4, hm4, hr4⟩ := own_form hown4
    unfold maxLen at hm4
    have hbb4 := hbb3.trans (hb4.mono hbb3.size)
    have hry4 := (hry3.below hb4).more hb4.size
    have hr34 := (hr3.below hb4).more hb4.size
    have hrows4 := hrows3.mono fun y xs hy => own_below hy hb4
    have hde := pgDecode_any (pageL b next) 64 HEL.out.symm A4 c4 w4 w4.heap.size hr4 (Nat.le_refl _) hc4 hm4
    clear hown4 hb4 hbb3 hry3 hr3 hrows3 hr4 hc4 hm4
    go_wp2_with fail
    refine hde.mono ?_
    clear hde
    rintro e w5 ⟨⟨_, v5, rfl, hown5⟩ | ⟨hno, _⟩, hb5⟩
    case inr => exact absurd HPB.out.1 hno
    rw [HPB.out.2.2.1]
    rw [HPB.out.2.2.2, HPB.out.2.1, ← HN.out] at hown5
    obtain ⟨A5, c5, rfl, _, _, hr5⟩ := own_form hown5
    have hbb := hbb4.trans (hb5.mono hbb4.size)
    have hry := (hry4.below hb5).more hb5.size
    have hr35 := (hr34.below hb5).more hb5.size
    have hrows := hrows4.mono fun y xs hy => own_below hy hb5
    have HROWS := Lib.hid hrows
    have s1 := str_of (P := Try.prog) (c := c5) hr5 HN.out Try.underlying25 Try.underlying5 Try.underlying9
    have s2 := str_of (P := Try.prog) (c := c) (HR.out.below hbb) HN.out Try.underlying25 Try.underlying5 Try.underlying9
    have s3 := str_of (P := Try.prog) (c := c3) hr35 HN.out Try.underlying25 Try.underlying5 Try.underlying9
    clear hown5 hb5 hbb4 hry4 hr34 hr35 hr5 hrows4 hrows
    go_wp2_with fail
    repeat (refine (num09_any _ _).mono ?_; rintro e w6 ⟨rfl, rfl⟩; go_wp2_with fail)
    go_loop [13] (fun i => ∃ k : Nat, k ≤ M ∧ i = .int .i64 (k : Int)) (fun i => M - (intOf i).toNat)
    case atStart => exact ⟨0, Nat.zero_le _, rfl⟩
    case round =>
      obtain ⟨k, hk, rfl⟩ := hrel
      by_cases hlt : k < M
      · obtain ⟨ad, u, rfl, _, hu, hcu⟩ := hry.at_ hlt
        have hpg := HROWS.out.2 k u k hu (by rw [List.getElem?_range hlt])
        obtain ⟨Ap, cp, rfl, _, _, _⟩ := own_form hpg
        have hki : (k : Int) < (M : Int) := by omega
        clear hu hpg hry
        go_wp2_with fail
        go_round
        case rel => exact ⟨k + 1, by omega, by go_num⟩
        case measure => simp [intOf]; omega
      · obtain rfl : k = M := by omega
        clear hry
        go_wp2_with fail
        refine (num09_any _ _).mono ?_
        rintro e w8 ⟨rfl, rfl⟩
        go_wp2_with fail
        refine (hcnt _).mono ?_
        rintro e w8 ⟨rfl, rfl⟩
        rw [HCN.out]
        go_wp2_with fail
        go_ret
        exact ⟨rfl, hbb⟩
  · have hbad : ∃ E : Int, E ≠ 0 ∧ ∀ W, Calls Try.prog 46 #[.slice A n c, .int .i64 next] W (PgBad W E) := by
      by_cases h : 52 < n
      · exact ⟨5, by decide, fun W => pgEncode_long n A c next W h⟩
      · exact ⟨4, by decide, fun W => pgEncode_range n A c next W (by omega) (by omega)⟩
    obtain ⟨E, hE, hen⟩ := hbad
    have e1 : (E == 0) = false := by simp [hE]
    have e2 : (E != 0) = true := by simp [hE]
    clear hgood hnb hM hr hc hcm hE
    go_enter Try.func14, Try.ntmps14
    go_wp2_with fail
    refine (alive09_any _).mono ?_
    rintro e w1 ⟨rfl, hb1⟩
    go_wp2_with fail
    refine (hcut _ hb1).mono ?_
    rintro e w2 ⟨v2, ys, rfl, hown2, hrows2, hb2⟩
    obtain ⟨A2, c2, rfl, _, _, hry2⟩ := own_form hown2
    have hgl := glue_ok b n HN.out hn M HM.out A2 c2 w2 ys w1.heap.size hry2 hrows2
    have hbb2 := hb1.trans (hb2.mono hb1.size)
    clear hcut hown2 hb1 hb2
    go_wp2_with fail
    refine hgl.mono ?_
    clear hgl
    rintro e w3 ⟨v3, rfl, hown3, hb3⟩
    obtain ⟨A3, c3, rfl, _, _, hr3⟩ := own_form hown3
    have hbb3 := hbb2.trans (hb3.mono hbb2.size)
    have hry3 := (hry2.below hb3).more hb3.size
    have hrows3 := hrows2.mono fun y xs hy => own_below hy hb3
    clear hown3 hb3 hbb2 hry2 hrows2
    go_wp2_with fail
    refine (hen _).mono ?_
    clear hen
    rintro e w4 ⟨rfl, rfl⟩
    have hde := pgDecode_any [] 0 rfl none 0 w3 w3.heap.size (by simpa [bts] using Reads.none_) (Nat.le_refl _) (Nat.le_refl _) (by omega)
    go_wp2_with fail
    refine hde.mono ?_
    clear hde
    rintro e w5 ⟨⟨hyes, _⟩ | ⟨_, rfl⟩, hb5⟩
    case inl => exact absurd hyes not_pdecOk_nil
    have hbb := hbb3.trans (hb5.mono hbb3.size)
    have hry := (hry3.below hb5).more hb5.size
    have hr35 := (hr3.below hb5).more hb5.size
    have hrows := hrows3.mono fun y xs hy => own_below hy hb5
    have HROWS := Lib.hid hrows
    have s2 := str_of (P := Try.prog) (c := c) (HR.out.below hbb) HN.out Try.underlying25 Try.underlying5 Try.underlying9
    have s3 := str_of (P := Try.prog) (c := c3) hr35 HN.out Try.underlying25 Try.underlying5 Try.underlying9
    clear hb5 hbb3 hry3 hr3 hr35 hrows3 hrows
    go_wp2_with fail
    repeat (refine (num09_any _ _).mono ?_; rintro e w6 ⟨rfl, rfl⟩; go_wp2_with fail)
    go_loop [13] (fun i => ∃ k : Nat, k ≤ M ∧ i = .int .i64 (k : Int)) (fun i => M - (intOf i).toNat)
    case atStart => exact ⟨0, Nat.zero_le _, rfl⟩
    case round =>
      obtain ⟨k, hk, rfl⟩ := hrel
      by_cases hlt : k < M
      · obtain ⟨ad, u, rfl, _, hu, hcu⟩ := hry.at_ hlt
        have hpg := HROWS.out.2 k u k hu (by rw [List.getElem?_range hlt])
        obtain ⟨Ap, cp, rfl, _, _, _⟩ := own_form hpg
        have hki : (k : Int) < (M : Int) := by omega
        clear hu hpg hry
        go_wp2_with fail
        go_round
        case rel => exact ⟨k + 1, by omega, by go_num⟩
        case measure => simp [intOf]; omega
      · obtain rfl : k = M := by omega
        clear hry
        go_wp2_with fail
        refine (num09_any _ _).mono ?_
        rintro e w8 ⟨rfl, rfl⟩
        go_wp2_with fail
        refine (hcnt _).mono ?_
        rintro e w8 ⟨rfl, rfl⟩
        rw [HCN.out]
        go_wp2_with fail
        go_ret
        exact ⟨rfl, hbb⟩

theorem pagesBack_core (H : Type) (enc : TypeId × Value → H) (W : World) (args : Array Value) (ds : List (DataW H)) (h : ArgsIn enc Try.prog W [25, 3] args.toList ds) :
    LawCalls Try.prog 14 args W := by
  obtain ⟨v0, v1, d0, d1, rfl, rfl, h0, h1⟩ := argsIn2 h
  obtain ⟨A, b, c, rfl, hc, hc2, hr, _⟩ := h0.bytes Try.underlying25 Try.underlying5 (by kernel_rfl) (by kernel_rfl)
  obtain ⟨next, rfl, wx⟩ := h1.int Try.underlying3
  exact pagesBack_any b b.length rfl next A c W hr hc hc2

theorem pagesBack_spec {H : Type} {enc : TypeId × Value → H} (vs : List Value) (ds : List (DataW H)) (W : World) (p : List MemPlace) (h : DataW.TrodAll enc Try.prog W 0 (fun _ => true) true [25, 3] vs ds p) :
    (Rows.pagesBackSpec.fn H ds).results = [.lit (.bool true)] ∧ (Rows.pagesBackSpec.fn H ds).args = ds ∧ (Rows.pagesBackSpec.fn H ds).vars = [] := by
  obtain ⟨_, _, d0, ds0, _, _, rfl, rfl, _, _, r0⟩ := trodAll_cons h
  obtain ⟨_, _, d1, ds1, _, _, rfl, rfl, _, _, r1⟩ := trodAll_cons r0
  obtain ⟨rfl, rfl, rfl⟩ := trodAll_nil r1
  exact ⟨rfl, rfl, rfl⟩

set_option maxRecDepth 100000 in
theorem pagesBack_lifted (os : Os) (started : os.Started) (H : Type) (enc : TypeId × Value → H) :
    ReturnsInHanded {} Try.checked os 14 .any (Rows.pagesBackSpec.pre6 enc Try.prog Try.f14 Rows.pagesBackRow.domain false) (Rows.pagesBackSpec.post enc Try.prog Try.f14 false true false false) := by
  refine returnsInHanded_of_change_sized (C := Try.checked) Try.own started (by kernel_rfl) Try.func14
    (ChangeSpec.witness6 (enc := enc) (C := Try.checked) false ⟨#[], #[.slice none 0 0, .int .i64 0], []⟩ 8 (by kernel_rfl) (by kernel_rfl) (by kernel_rfl) (by kernel_rfl)) ?_
  intro W base args ds gs before hval hW _ hsz _
  exact law_contract Try.laidOut Try.underlying4 (ps := [25, 3]) rfl rfl rfl (by kernel_rfl) pagesBack_spec W base args ds gs before hval hW hsz (fun h _ => pagesBack_core H enc W args ds h)

theorem pagesBack_holds : Rows.PagesBackSaid :=
  OpenClaim.holds_of_wide 14 Try.f14 rfl rfl rfl rfl rfl rfl rfl ⟨rfl, rfl, rfl, rfl, rfl⟩ rfl rfl rfl rfl rfl (by kernel_rfl) Try.func14 (by kernel_rfl)
    (of_decide_eq_true (by kernel_rfl)) (by unfold Func.isWrapper; first | (rw [if_pos (by decide +kernel)]; kernel_rfl) | (rw [if_neg (by decide +kernel)]; exact ⟨rfl, rfl⟩))
    (fun os started H enc _ => pagesBack_lifted os started H enc)


end Go.Proofs.Ytcchnoadclidcaa
