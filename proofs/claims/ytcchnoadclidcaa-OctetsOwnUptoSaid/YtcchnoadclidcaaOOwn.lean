/-
  OctetsOwnUptoSaid: what is joined, and cut, shares nothing with what was handed in. Up to a bulk of 1048576.
-/
import Derived.Test.YtcchnoadclidcaaOBack
import Derived.Test.YtcchnoadclidcaaSpoil
import Derived.Test.YtcchnoadclidcaaCut
namespace Go.Proofs.Ytcchnoadclidcaa
open Go.RowKit Go.ChangeShapes Go.WideShapes Go.ChangeAt

theorem own_far {w w' : World} {base : Nat} {e : TypeId} {size n : Nat} {v : Value} {xs : List Value} {row : Option Nat} (h : w.ownsRow base e size v n xs) (hg : w.grownBy w' row) (hr : ∀ k, row = some k → k < base) : w'.ownsRow base e size v n xs := by
  refine h.kept hg ?_
  cases hv : v.ownBlock with
  | none => exact .inl rfl
  | some k => exact .inr (fun e => by have h1 := (h.lt k hv).1; have h2 := hr k e.symm; omega)

theorem str_add (x y : List UInt8) : ((⟨x.toArray⟩ : ByteArray) ++ (⟨y.toArray⟩ : ByteArray)) = ⟨(x ++ y).toArray⟩ := by
  apply ByteArray.ext
  simp

set_option maxRecDepth 100000 in
set_option maxHeartbeats 1000000 in
theorem octetsOwn_any (a b : List UInt8) (A A' : Option Addr) (c c' : Nat) (w : World) (hra : Reads w w.heap.size 1 A a.length (bts a)) (hrb : Reads w w.heap.size 1 A' b.length (bts b)) (ha : a.length ≤ 1048576) (hb : b.length ≤ 1048576) :
    LawCalls Try.prog 8 #[.slice A a.length c, .slice A' b.length c'] w := by
  obtain ⟨i0, hi0, hz0, hz1, hz2⟩ := info_parts Try.infoU8'
  obtain ⟨na, hna⟩ : ∃ n, n = a.length := ⟨_, rfl⟩
  obtain ⟨nb, hnb⟩ : ∃ n, n = b.length := ⟨_, rfl⟩
  rw [← hna] at hra ha ⊢
  rw [← hnb] at hrb hb ⊢
  have HNA := Lib.hid hna
  have HNB := Lib.hid hnb
  clear hna hnb
  go_enter Try.func8, Try.ntmps8
  go_wp2_with fail
  refine (alive01_any _).mono ?_
  rintro e w0 ⟨rfl, hb0⟩
  have hra0 := hra.below hb0
  have hrb0 := hrb.below hb0
  have hsz0 := hb0.size
  clear hra hrb
  go_wp2_with (first
    | (at_builtin; (refine wpList_append_any _ rfl (.tmp 13) (.tmp 14) _ rfl w0.heap.size 5 i0 _ 1 1 Try.underlying25 hi0 hz0 hz1 hz2 rfl (by omega) (.slice none 0 0) 0 [] rfl (World.ownsRow_nil _ _ _ _) w.heap.size A na c _ rfl hra0 (bts_one _) (by unfold maxLen; omega) (by omega) (Nat.le_refl _) ?_); intro v1 w1 hown1 hg1 _; have hbx1 : Below w0.heap.size w0 w1 := grown_none_below hg1; have hown1' : w1.ownsRow w0.heap.size 5 1 v1 na (bts a) := (by simpa using hown1); have hrb1 := hrb0.below (hbx1.mono hsz0); have hra1 := hra0.below (hbx1.mono hsz0); have hb1 := hb0.trans (hbx1.mono hsz0); clear hown1 hrb0 hra0 hg1 hb0; obtain ⟨A1, c1, rfl, _, _, _⟩ := own_form hown1'; have hlt1 := Lib.hid (fun k hk => (hown1'.lt k hk)))
    | (at_builtin; (refine wpList_append_any _ rfl (.tmp 16) (.tmp 17) _ rfl w1.heap.size 5 i0 _ 1 1 Try.underlying25 hi0 hz0 hz1 hz2 rfl (by omega) (.slice none 0 0) 0 [] rfl (World.ownsRow_nil _ _ _ _) w.heap.size A' nb c' _ rfl hrb1 (bts_one _) (by unfold maxLen; omega) (by omega) (Nat.le_refl _) ?_); intro v2 w2 hown2 hg2 _; have hbx2 : Below w1.heap.size w1 w2 := grown_none_below hg2; have hown2' : w2.ownsRow w1.heap.size 5 1 v2 nb (bts b) := (by simpa using hown2); have hown1'' := own_below hown1' hbx2; have hra2 := hra1.below (hbx2.mono hb1.size); have hrb2 := hrb1.below (hbx2.mono hb1.size); have hb2 := hb1.trans (hbx2.mono hb1.size); clear hown2 hg2 hown1' hb1 hra1 hrb1; obtain ⟨A2, c2, rfl, hc2, hm2, _⟩ := own_form hown2'; have hlt2 := Lib.hid (fun k hk => (hown2'.lt k hk))))
  have hp1 := PieceIn.own hown1'' HNA.out
  have hp2 := PieceIn.own hown2' HNB.out
  have hal : Below w2.heap.size w2 (w2.alloc (.cells #[.slice A1 na c1, .slice A2 nb c2] 25)) := (Below.refl _ _).alloc (Nat.le_refl _) _
  have hj := join_pcs (W := w2.alloc (.cells #[.slice A1 na c1, .slice A2 nb c2] 25)) (ys := [.slice A1 na c1, .slice A2 nb c2]) (ls := [a, b]) (n := 2) (T := na + nb) (g := w2.heap.size) (Blk.new _ _ _) rfl ⟨by rw [← HNA.out]; exact hp1.below hal, by rw [← HNB.out]; exact hp2.below hal, trivial⟩ (by simp [HNA.out, HNB.out]) (by omega) (by omega)
  have hsz2 := hb2.size
  have ho1 := own_below hown1'' hal
  have ho2 := own_below hown2' hal
  have hb2a := hb2.alloc hb2.size (.cells #[.slice A1 na c1, .slice A2 nb c2] 25)
  have hra2a := hra2.below (hal.mono hsz2)
  have hrb2a := hrb2.below (hal.mono hsz2)
  clear hp1 hp2 hown1'' hown2' hb2 hra2 hrb2 hal
  refine hj.mono ?_
  clear hj
  rintro e w3 ⟨v3, rfl, hown3, hb3⟩
  have ho13 := own_below ho1 hb3
  have ho23 := own_below ho2 hb3
  have hb3w := hb2a.trans (hb3.mono hb2a.size)
  have hra3 := hra2a.below (hb3.mono hb2a.size)
  have hrb3 := hrb2a.below (hb3.mono hb2a.size)
  obtain ⟨A3, c3, rfl, _, _, _⟩ := own_form hown3
  have hsz3 := hb3.size
  clear ho1 ho2 hb2a hra2a hrb2a hb3
  obtain ⟨k, hk⟩ : ∃ k, k = nb / 2 := ⟨_, rfl⟩
  have hk2 : ((nb : Int) / 2) = (k : Int) := by omega
  have hkn : k ≤ nb := by omega
  have hcut := cut_any b nb HNB.out A2 c2 k hkn w3 w3.heap.size (own_reads ho23).2.2 (Nat.le_refl _) hc2 (by unfold maxLen at hm2; exact hm2) (by omega)
  clear hk
  go_wp2_with fail
  refine hcut.mono ?_
  clear hcut
  rintro e w4 ⟨v5, v6, rfl, hown5, hown6, hb4⟩
  obtain ⟨A5, c5, rfl, _, _, _⟩ := own_form hown5
  obtain ⟨A6, c6, rfl, _, _, _⟩ := own_form hown6
  have HHN := Lib.hid (show b.length - k = nb - k by rw [← HNB.out])
  rw [HHN.out] at hown6 ⊢
  have ho14 := own_below ho13 hb4
  have ho24 := own_below ho23 hb4
  have ho34 := own_below hown3 hb4
  have hb4w := hb3w.trans (hb4.mono hb3w.size)
  have hra4 := hra3.below (hb4.mono hb3w.size)
  have hrb4 := hrb3.below (hb4.mono hb3w.size)
  have hsz4 := hb4.size
  have z1 := hbx1.size
  have z2 := hbx2.size
  have z3 : w2.heap.size + 1 ≤ w3.heap.size := by simp at hsz3; exact hsz3
  clear ho13 ho23 hown3 hb3w hra3 hrb3 hb4 hsz3
  go_wp2_with fail
  refine (spoil_any a na HNA.out w0.heap.size _ w4 ho14 (by omega)).mono ?_
  rintro e w5 ⟨rfl, hg5⟩
  have hr5 : ∀ j, (Value.slice A1 na c1).ownBlock = some j → w0.heap.size ≤ j ∧ j < w1.heap.size := fun j hj => hlt1.out j hj
  have ho25 := own_far ho24 hg5 (fun j hj => (hr5 j hj).2)
  have ho35 := own_far ho34 hg5 (fun j hj => by have := (hr5 j hj).2; simp; omega)
  have ho55 := own_far hown5 hg5 (fun j hj => by have := (hr5 j hj).2; omega)
  have ho65 := own_far hown6 hg5 (fun j hj => by have := (hr5 j hj).2; omega)
  have hra5 := hra4.grown hg5 (by omega) (fun j hj => by have := (hr5 j hj).1; omega)
  have hrb5 := hrb4.grown hg5 (by omega) (fun j hj => by have := (hr5 j hj).1; omega)
  have hb5w := hb4w.grown hg5 hb4w.size (fun j hj => by have := (hr5 j hj).1; omega)
  have z5 := hg5.size
  clear ho14 ho24 ho34 hown5 hown6 hra4 hrb4 hb4w hg5 hr5
  go_wp2_with fail
  refine (spoil_any b nb HNB.out w1.heap.size _ w5 ho25 (by omega)).mono ?_
  rintro e w6 ⟨rfl, hg6⟩
  have hr6 : ∀ j, (Value.slice A2 nb c2).ownBlock = some j → w1.heap.size ≤ j ∧ j < w2.heap.size := fun j hj => hlt2.out j hj
  have ho36 := own_far ho35 hg6 (fun j hj => by have := (hr6 j hj).2; simp; omega)
  have ho56 := own_far ho55 hg6 (fun j hj => by have := (hr6 j hj).2; omega)
  have ho66 := own_far ho65 hg6 (fun j hj => by have := (hr6 j hj).2; omega)
  have hra6 := hra5.grown hg6 (by omega) (fun j hj => by have := (hr6 j hj).1; omega)
  have hrb6 := hrb5.grown hg6 (by omega) (fun j hj => by have := (hr6 j hj).1; omega)
  have hb6w := hb5w.grown hg6 hb5w.size (fun j hj => by have := (hr6 j hj).1; omega)
  have hs1 := str_of (P := Try.prog) (c := c3) (own_reads ho36).2.2 (by simp [HNA.out, HNB.out]) Try.underlying25 Try.underlying5 Try.underlying9
  have hs2 := str_of (P := Try.prog) (c := c) hra6 HNA.out Try.underlying25 Try.underlying5 Try.underlying9
  have hs3 := str_of (P := Try.prog) (c := c') hrb6 HNB.out Try.underlying25 Try.underlying5 Try.underlying9
  have hs4 := str_of (P := Try.prog) (c := c5) (own_reads ho56).2.2 (by rw [List.length_take, ← HNB.out]; omega) Try.underlying25 Try.underlying5 Try.underlying9
  have hs5 := str_of (P := Try.prog) (c := c6) (own_reads ho66).2.2 (by rw [List.length_drop, ← HNB.out]) Try.underlying25 Try.underlying5 Try.underlying9
  have hfl : [a, b].flatten = a ++ b := by simp
  rw [hfl] at hs1
  have l1 : a.length ≤ 1048576 := by rw [← HNA.out]; exact ha
  have l2 : b.length ≤ 1048576 := by rw [← HNB.out]; exact hb
  have ha1 := str_add a b
  have ha2 := str_add (b.take k) (b.drop k)
  rw [List.take_append_drop] at ha2
  clear ho25 ho35 ho55 ho65 ho36 ho56 ho66 hra5 hrb5 hra6 hrb6 hb5w hg6 hr6 hfl hlt1 hlt2
  go_wp2_with fail
  go_ret
  exact ⟨rfl, hb6w⟩

theorem octetsOwn_core (H : Type) (enc : TypeId × Value → H) (W : World) (args : Array Value) (ds : List (DataW H)) (h : ArgsIn enc Try.prog W [25, 25] args.toList ds) (hk : Rows.uptoBulkAll ds ≤ 1048576) :
    LawCalls Try.prog 8 args W := by
  obtain ⟨v0, v1, d0, d1, rfl, rfl, h0, h1⟩ := argsIn2 h
  obtain ⟨A, a, c, rfl, hc, hc2, hr, hd1⟩ := h0.bytes Try.underlying25 Try.underlying5 (by kernel_rfl) (by kernel_rfl)
  obtain ⟨A', b, c', rfl, hc', hc2', hr', hd2⟩ := h1.bytes Try.underlying25 Try.underlying5 (by kernel_rfl) (by kernel_rfl)
  have e1 := bulk_bytes hd1
  have e2 := bulk_bytes hd2
  simp only [Rows.uptoBulkAll] at hk
  exact octetsOwn_any a b A A' c c' W hr hr' (by omega) (by omega)

theorem octetsOwn_spec {H : Type} {enc : TypeId × Value → H} (vs : List Value) (ds : List (DataW H)) (W : World) (p : List MemPlace) (h : DataW.TrodAll enc Try.prog W 0 (fun _ => true) true [25, 25] vs ds p) :
    (Rows.octetsOwnSpec.fn H ds).results = [.lit (.bool true)] ∧ (Rows.octetsOwnSpec.fn H ds).args = ds ∧ (Rows.octetsOwnSpec.fn H ds).vars = [] := by
  obtain ⟨_, _, d0, ds0, _, _, rfl, rfl, _, _, r0⟩ := trodAll_cons h
  obtain ⟨_, _, d1, ds1, _, _, rfl, rfl, _, _, r1⟩ := trodAll_cons r0
  obtain ⟨rfl, rfl, rfl⟩ := trodAll_nil r1
  exact ⟨rfl, rfl, rfl⟩

set_option maxRecDepth 100000 in
theorem octetsOwn_lifted (os : Os) (started : os.Started) (H : Type) (enc : TypeId × Value → H) (F : Stop.Interp) :
    ReturnsInHanded {} Try.checked os 8 .any ((Rows.OpenSpec.upto Rows.octetsOwnSpec).pre6 enc Try.prog Try.f8 Rows.octetsOwnUptoRow.domain false) (((Rows.OpenSpec.upto Rows.octetsOwnSpec).at F).post enc Try.prog Try.f8 false true false false) := by
  refine returnsInHanded_of_cond_sized (C := Try.checked) (s := Rows.OpenSpec.upto Rows.octetsOwnSpec) (k := Rows.uptoSmall) rfl Try.own started (by kernel_rfl) Try.func8
    (OpenSpec.witness (enc := enc) (C := Try.checked) (s := Rows.OpenSpec.upto Rows.octetsOwnSpec) (k := Rows.uptoSmall) rfl false ⟨#[], #[.slice none 0 0, .slice none 0 0], []⟩ 8 (by kernel_rfl) (by kernel_rfl) (by kernel_rfl)
      (x := ([.nil, .nil], [], [])) (by kernel_rfl) rfl (by kernel_rfl)) ?_
  intro W base args ds gs before hval hW _ hk hsz _
  refine law_contract (s := Rows.octetsOwnSpec) Try.laidOut Try.underlying4 (ps := [25, 25]) rfl rfl rfl (by kernel_rfl) octetsOwn_spec W base args ds gs before hval hW hsz (fun h hg => ?_)
  subst hg
  exact octetsOwn_core H enc W args ds h (of_decide_eq_true (show decide (Rows.uptoBulkAll ds ≤ 1048576) = true from by rw [List.append_nil] at hk; exact hk))

theorem octetsOwn_holds : Rows.OctetsOwnUptoSaid :=
  OpenClaim.holds_of_cond 8 Try.f8 rfl rfl rfl rfl rfl rfl rfl ⟨rfl, rfl, rfl, rfl, rfl⟩ rfl rfl rfl rfl rfl (by kernel_rfl) Try.func8 (by kernel_rfl)
    (of_decide_eq_true (by kernel_rfl)) (by unfold Func.isWrapper; first | (rw [if_pos (by decide +kernel)]; kernel_rfl) | (rw [if_neg (by decide +kernel)]; exact ⟨rfl, rfl⟩))
    (fun os started H enc _ F => octetsOwn_lifted os started H enc F)

end Go.Proofs.Ytcchnoadclidcaa
