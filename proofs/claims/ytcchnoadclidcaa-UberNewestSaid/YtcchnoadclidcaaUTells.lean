/-
  UberTellsSaid: any uberblock's sector, any sector's, whether any may be, and where it stands, are as the page says. No condition.
-/
import Derived.Test.YtcchnoadclidcaaRDec
import Derived.Test.YtcchnoadclidcaaUAlive
import Derived.Laws.Bits128
namespace Go.Proofs.Ytcchnoadclidcaa
open Go.RowKit Go.ChangeShapes Go.WideShapes Go.ChangeAt

theorem i64_and1 (n : Int) : bits .and .i64 n 1 = n % 2 := by
  have h1 : (BitVec.ofInt 64 1).toNat = 2 ^ 1 - 1 := by decide
  have key : (BitVec.ofInt 64 n &&& BitVec.ofInt 64 1).toNat = (n % ((2 ^ 64 : Nat) : Int)).toNat % 2 ^ 1 := by
    rw [BitVec.toNat_and, BitVec.toNat_ofInt, h1, Nat.and_two_pow_sub_one_eq_mod]
  show IntKind.i64.wrap ((BitVec.ofInt 64 n &&& BitVec.ofInt 64 1).toNat : Nat) = n % 2
  rw [key, IntKind.wrap_i64]
  omega
theorem slot_neg (t : Int) (h : t.tmod 2 < 0) : bits .and .i64 t 1 = 1 := by
  rw [i64_and1]
  rw [Int.tmod_eq_emod] at h
  split at h <;> simp at h <;> omega
theorem slot_pos (t : Int) (h : ¬ t.tmod 2 < 0) : bits .and .i64 t 1 = t.tmod 2 := by
  rw [i64_and1]
  rw [Int.tmod_eq_emod] at h ⊢
  split at h
  · simp_all
  · simp at h
    omega

noncomputable def encOut (u : Ub) : List UInt8 := by classical exact if u.ok then encL u else []
noncomputable def encE (u : Ub) : Int := by classical exact if u.ok then 0 else 4
noncomputable def decV (b : List UInt8) : Ub := by classical exact if DecOk b then decU b else ⟨0, 0, 0⟩
noncomputable def decE (b : List UInt8) : Int := by classical exact if DecOk b then 0 else 21
def BytesOut (w : World) (l : List UInt8) (n E : Int) (e : Ending) (w' : World) : Prop :=
  ∃ A k c, e = .returned (.tuple #[.slice A k c, .int .i64 E]) ∧ k = l.length ∧ Reads w' w'.heap.size 1 A k (bts l) ∧ k ≤ c ∧ n = n ∧ Below w.heap.size w w'

theorem encode_both (u : Ub) (w : World) : Calls Try.prog 37 #[u.val] w (BytesOut w (encOut u) 0 (encE u)) := by
  by_cases h : u.ok
  · refine (encode_ok u h w).mono ?_
    rintro e w1 ⟨v, rfl, hown, hb⟩
    obtain ⟨A, c, rfl, h1, h2, h3⟩ := own_form hown
    exact ⟨A, 64, c, by simp [encE, h], by simp [encOut, h, encL_length], by simpa [encOut, h] using h3, h1, rfl, hb⟩
  · refine (encode_bad u h w).mono ?_
    rintro e w1 ⟨rfl, hb⟩
    exact ⟨none, 0, 0, by simp [encE, h], by simp [encOut, h], by simpa [encOut, h, bts] using Reads.none_, by omega, rfl, hb⟩
theorem rencode_both (u : Ub) (w : World) : Calls Try.prog 38 #[u.val] w (BytesOut w (encOut u) 0 (encE u)) := by
  by_cases h : u.ok
  · refine (rencode_ok u h w).mono ?_
    rintro e w1 ⟨v, rfl, hown, hb⟩
    obtain ⟨A, c, rfl, h1, h2, h3⟩ := own_form hown
    exact ⟨A, 64, c, by simp [encE, h], by simp [encOut, h, encL_length], by simpa [encOut, h] using h3, h1, rfl, hb⟩
  · refine (rencode_bad u h w).mono ?_
    rintro e w1 ⟨rfl, hb⟩
    exact ⟨none, 0, 0, by simp [encE, h], by simp [encOut, h], by simpa [encOut, h, bts] using Reads.none_, by omega, rfl, hb⟩
theorem decode_both (b : List UInt8) (n : Nat) (hnb : n = b.length) (A : Option Addr) (c : Nat) (w : World) (B : Nat) (hr : Reads w B 1 A n (bts b)) (hB : B ≤ w.heap.size) (hc : n ≤ c) (hn : c ≤ 9223372036854775807) :
    Calls Try.prog 39 #[.slice A n c] w fun e w' => e = .returned (.tuple #[(decV b).val, .int .i64 (decE b)]) ∧ Below w.heap.size w w' := by
  refine (decode_any b n hnb A c w B hr hB hc hn).mono ?_
  rintro e w1 ⟨⟨h, rfl⟩ | ⟨h, rfl⟩, hb⟩
  · exact ⟨by simp [decV, decE, h], hb⟩
  · exact ⟨by simp [decV, decE, h, Ub.val], hb⟩
theorem rdecode_both (b : List UInt8) (n : Nat) (hnb : n = b.length) (A : Option Addr) (c : Nat) (w : World) (B : Nat) (hr : Reads w B 1 A n (bts b)) (hB : B ≤ w.heap.size) (hc : n ≤ c) (hn : c ≤ 9223372036854775807) :
    Calls Try.prog 40 #[.slice A n c] w fun e w' => e = .returned (.tuple #[(decV b).val, .int .i64 (decE b)]) ∧ Below w.heap.size w w' := by
  refine (rdecode_any b n hnb A c w B hr hB hc hn).mono ?_
  rintro e w1 ⟨⟨h, rfl⟩ | ⟨h, rfl⟩, hb⟩
  · exact ⟨by simp [decV, decE, h], hb⟩
  · exact ⟨by simp [decV, decE, h, Ub.val], hb⟩
theorem check_both (u : Ub) (w : World) : Calls Try.prog 42 #[u.val] w (CheckPost w (encE u)) := by
  by_cases h : u.ok
  · have : encE u = 0 := by simp [encE, h]
    rw [this]; exact check_ok u h w
  · have : encE u = 4 := by simp [encE, h]
    rw [this]; exact check_bad u h w

theorem slot_both (u : Ub) (t s : Int) (hu : u.t = t) (hs : bits .and .i64 t 1 = s) (w : World) : Calls Try.prog 43 #[u.val] w fun e w' => e = .returned (.int .i64 s) ∧ Below w.heap.size w w' := by
  subst hu
  rw [← hs]
  exact slotU_any u w

set_option maxRecDepth 100000 in
set_option maxHeartbeats 1000000 in
theorem uberTells_any (u : Ub) (b : List UInt8) (A : Option Addr) (c : Nat) (w : World) (hr : Reads w w.heap.size 1 A b.length (bts b)) (hc : b.length ≤ c) (hn : c ≤ 140737488351232) : LawCalls Try.prog 9 #[u.val, .slice A b.length c] w := by
  have hen := encode_both u
  have hren := rencode_both u
  have hck := check_both u
  have hde := fun W (hb : Below w.heap.size w W) => decode_both b b.length rfl A c W w.heap.size (hr.below hb) hb.size hc (by omega)
  have hrde := fun W (hb : Below w.heap.size w W) => rdecode_both b b.length rfl A c W w.heap.size (hr.below hb) hb.size hc (by omega)
  revert hen hren hck hde hrde
  generalize encOut u = x
  generalize encE u = xe
  generalize decV b = y
  generalize decE b = ye
  intro hen hren hck hde hrde
  have hsl := slot_both u u.t _ rfl rfl
  obtain ⟨t, f, o⟩ := u
  obtain ⟨yt, yf, yo⟩ := y
  simp only [Ub.val] at hen hren hck hde hrde hsl ⊢
  have hn1 := slot_neg t
  have hn2 := slot_pos t
  revert hn1 hn2 hsl
  generalize bits .and .i64 t 1 = s
  intro hsl hn1 hn2
  have HN1 := Lib.hid hn1
  have HN2 := Lib.hid hn2
  clear hn1 hn2
  go_enter Try.func9, Try.ntmps9
  go_wp2_with fail
  refine (hen _).mono ?_
  rintro e w1 ⟨A1, k1, c1, rfl, hk1, hr1, hc1, -, hb1⟩
  have hkx : Blk w1 w.heap.size 56 #[.int .i64 t, .int .i64 f, .int .i64 o] := (Blk.new w _ _).below hb1 (by simp)
  have hb : Below w.heap.size w w1 := ((Below.refl _ _).alloc (Nat.le_refl _) _).trans (hb1.mono (by simp))
  have HK1 := Lib.hid hk1
  obtain ⟨d0, d1, d2, _, _, _⟩ := blk3 hkx
  clear hb1 hen hk1
  go_wp2_with fail
  refine (hren _).mono ?_
  rintro e w2 ⟨A2, k2, c2, rfl, hk2, hr2, hc2, -, hb2⟩
  have hkx2 := hkx.below hb2 hkx.lt
  have hbb := hb.trans (hb2.mono hb.size)
  have hr1' := (hr1.below hb2).more hb2.size
  have HK2 := Lib.hid hk2
  clear hb2 hb hr1 hkx hren d0 d1 d2 hk2
  go_wp2_with fail
  refine (hde _ hbb).mono ?_
  rintro e w3 ⟨rfl, hb3⟩
  have hkx3 := (hkx2.below hb3 hkx2.lt).alloc (.cells #[.int .i64 yt, .int .i64 yf, .int .i64 yo] 56)
  have hky := Blk.new w3 56 #[.int .i64 yt, .int .i64 yf, .int .i64 yo]
  have hb3a : Below w2.heap.size w2 (w3.alloc (.cells #[.int .i64 yt, .int .i64 yf, .int .i64 yo] 56)) := hb3.alloc hb3.size _
  have hbb3 := hbb.trans (hb3a.mono hbb.size)
  have hr13 := (hr1'.below hb3a).more hb3a.size
  have hr23 := (hr2.below hb3a).more hb3a.size
  clear hb3 hb3a hr1' hr2 hkx2 hbb
  go_wp2_with fail
  refine (hrde _ hbb3).mono ?_
  rintro e w4 ⟨rfl, hb4⟩
  have hkx4 := (hkx3.below hb4 hkx3.lt).alloc (.cells #[.int .i64 yt, .int .i64 yf, .int .i64 yo] 56)
  have hky4 := (hky.below hb4 hky.lt).alloc (.cells #[.int .i64 yt, .int .i64 yf, .int .i64 yo] 56)
  have hkz := Blk.new w4 56 #[.int .i64 yt, .int .i64 yf, .int .i64 yo]
  have hb4a := hb4.alloc hb4.size (.cells #[.int .i64 yt, .int .i64 yf, .int .i64 yo] 56)
  have hbb4 := hbb3.trans (hb4a.mono hbb3.size)
  have hr14 := (hr13.below hb4a).more hb4a.size
  have hr24 := (hr23.below hb4a).more hb4a.size
  have hs1 := str_of (P := Try.prog) (c := c1) hr14 HK1.out Try.underlying25 Try.underlying5 Try.underlying9
  have hs2 := str_of (P := Try.prog) (c := c2) hr24 HK2.out Try.underlying25 Try.underlying5 Try.underlying9
  obtain ⟨p0, p1, p2, _, _, _⟩ := blk3 hkx4
  obtain ⟨q0, q1, q2, _, _, _⟩ := blk3 hky4
  obtain ⟨z0, z1, z2, _, _, _⟩ := blk3 hkz
  clear hb4 hb4a hr13 hr23 hr14 hr24 hkx3 hky hbb3 hde hrde hr hc hn hc1 hc2
  by_cases hneg : t.tmod 2 < 0
  · have hs : s = 1 := HN1.out hneg
    subst hs
    clear HN2 HN1
    go_wp2_with fail
    refine (numU_any _ _).mono ?_
    rintro e w6 ⟨rfl, rfl⟩
    go_wp2_with fail
    refine (hck _).mono ?_
    rintro e w5 ⟨rfl, hb5⟩
    obtain ⟨p0, p1, p2, _, _, _⟩ := blk3 (hkx4.below hb5 hkx4.lt)
    obtain ⟨q0, q1, q2, _, _, _⟩ := blk3 (hky4.below hb5 hky4.lt)
    obtain ⟨z0, z1, z2, _, _, _⟩ := blk3 (hkz.below hb5 hkz.lt)
    have hbb5 := hbb4.trans (hb5.mono hbb4.size)
    clear hb5 hkx4 hky4 hkz hbb4 hck
    go_wp2_with fail
    repeat (refine (numU_any _ _).mono ?_; rintro e w6 ⟨rfl, rfl⟩; go_wp2_with fail)
    refine (hsl _).mono ?_
    rintro e w6 ⟨rfl, hb6⟩
    have hbb6 := hbb5.trans (hb6.mono hbb5.size)
    clear hb6 hbb5 hsl
    go_wp2_with fail
    refine (alive8_any _).mono ?_
    rintro e w7 ⟨rfl, hb7⟩
    have hbb7 := hbb6.trans (hb7.mono hbb6.size)
    clear hb7 hbb6
    go_wp2_with fail
    go_ret
    exact ⟨rfl, hbb7⟩
  · have hs : s = t.tmod 2 := HN2.out (by omega)
    subst hs
    clear HN2 HN1
    go_wp2_with fail
    refine (numU_any _ _).mono ?_
    rintro e w6 ⟨rfl, rfl⟩
    go_wp2_with fail
    refine (hck _).mono ?_
    rintro e w5 ⟨rfl, hb5⟩
    obtain ⟨p0, p1, p2, _, _, _⟩ := blk3 (hkx4.below hb5 hkx4.lt)
    obtain ⟨q0, q1, q2, _, _, _⟩ := blk3 (hky4.below hb5 hky4.lt)
    obtain ⟨z0, z1, z2, _, _, _⟩ := blk3 (hkz.below hb5 hkz.lt)
    have hbb5 := hbb4.trans (hb5.mono hbb4.size)
    clear hb5 hkx4 hky4 hkz hbb4 hck
    go_wp2_with fail
    repeat (refine (numU_any _ _).mono ?_; rintro e w6 ⟨rfl, rfl⟩; go_wp2_with fail)
    refine (hsl _).mono ?_
    rintro e w6 ⟨rfl, hb6⟩
    have hbb6 := hbb5.trans (hb6.mono hbb5.size)
    clear hb6 hbb5 hsl
    go_wp2_with fail
    refine (alive8_any _).mono ?_
    rintro e w7 ⟨rfl, hb7⟩
    have hbb7 := hbb6.trans (hb7.mono hbb6.size)
    clear hb7 hbb6
    go_wp2_with fail
    go_ret
    exact ⟨rfl, hbb7⟩

theorem uberTells_core (H : Type) (enc : TypeId × Value → H) (W : World) (args : Array Value) (ds : List (DataW H)) (h : ArgsIn enc Try.prog W [56, 25] args.toList ds) :
    LawCalls Try.prog 9 args W := by
  obtain ⟨v0, v1, d0, d1, rfl, rfl, h0, h1⟩ := argsIn2 h
  obtain ⟨u, rfl⟩ := h0.uber Try.underlying56 ⟨rfl, rfl, rfl⟩ Try.underlying3 (by kernel_rfl) (by kernel_rfl)
  obtain ⟨A, b, c, rfl, hc, hc2, hr, _⟩ := h1.bytes Try.underlying25 Try.underlying5 (by kernel_rfl) (by kernel_rfl)
  exact uberTells_any u b A c W hr hc hc2

theorem uberTells_spec {H : Type} {enc : TypeId × Value → H} (vs : List Value) (ds : List (DataW H)) (W : World) (p : List MemPlace) (h : DataW.TrodAll enc Try.prog W 0 (fun _ => true) true [56, 25] vs ds p) :
    (Rows.uberTellsSpec.fn H ds).results = [.lit (.bool true)] ∧ (Rows.uberTellsSpec.fn H ds).args = ds ∧ (Rows.uberTellsSpec.fn H ds).vars = [] := by
  obtain ⟨_, _, d0, ds0, _, _, rfl, rfl, _, _, r0⟩ := trodAll_cons h
  obtain ⟨_, _, d1, ds1, _, _, rfl, rfl, _, _, r1⟩ := trodAll_cons r0
  obtain ⟨rfl, rfl, rfl⟩ := trodAll_nil r1
  exact ⟨rfl, rfl, rfl⟩

set_option maxRecDepth 100000 in
theorem uberTells_lifted (os : Os) (started : os.Started) (H : Type) (enc : TypeId × Value → H) :
    ReturnsInHanded {} Try.checked os 9 .any (Rows.uberTellsSpec.pre6 enc Try.prog Try.f9 Rows.uberTellsRow.domain false) (Rows.uberTellsSpec.post enc Try.prog Try.f9 false true false false) := by
  refine returnsInHanded_of_change_sized (C := Try.checked) Try.own started (by kernel_rfl) Try.func9
    (ChangeSpec.witness6 (enc := enc) (C := Try.checked) false ⟨#[], #[.agg #[.int .i64 0, .int .i64 0, .int .i64 0], .slice none 0 0], []⟩ 8 (by kernel_rfl) (by kernel_rfl) (by kernel_rfl) (by kernel_rfl)) ?_
  intro W base args ds gs before hval hW _ hsz _
  exact law_contract Try.laidOut Try.underlying4 (ps := [56, 25]) rfl rfl rfl (by kernel_rfl) uberTells_spec W base args ds gs before hval hW hsz (fun h _ => uberTells_core H enc W args ds h)

theorem uberTells_holds : Rows.UberTellsSaid :=
  OpenClaim.holds_of_wide 9 Try.f9 rfl rfl rfl rfl rfl rfl rfl ⟨rfl, rfl, rfl, rfl, rfl⟩ rfl rfl rfl rfl rfl (by kernel_rfl) Try.func9 (by kernel_rfl)
    (of_decide_eq_true (by kernel_rfl)) (by unfold Func.isWrapper; first | (rw [if_pos (by decide +kernel)]; kernel_rfl) | (rw [if_neg (by decide +kernel)]; exact ⟨rfl, rfl⟩))
    (fun os started H enc _ => uberTells_lifted os started H enc)


end Go.Proofs.Ytcchnoadclidcaa
