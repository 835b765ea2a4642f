/-
  The page's Of at a row of one grant; the walk of the law PermsGives.
-/
import Derived.Test.YtodikfhaghpkhaaDoorPmOwner
import Derived.Test.YtodikfhaghpkhaaDoorRfPath
import Derived.Test.YtodikfhaghpkhaaDoorRefNm
namespace Go.Proofs.YtodikfhaghpkhaaDoor
open Go.RowKit

theorem bit_all : ∀ R, R < 256 → ∀ j, j < 8 → (R &&& 2 ^ j = if R.testBit j = true then 2 ^ j else 0) ∧ R % 2 ^ (j + 1) = R % 2 ^ j + if R.testBit j = true then 2 ^ j else 0 := by decide +kernel
theorem and_bit (R j : Nat) (hR : R < 256) (hj : j < 8) : bits .and .i64 (R : Int) ((2 ^ j : Nat) : Int) = if R.testBit j = true then ((2 ^ j : Nat) : Int) else 0 := by
  have hp : (2 : Nat) ^ j < 256 := by
    have : (2 : Nat) ^ j ≤ 2 ^ 7 := Nat.pow_le_pow_right (by decide) (by omega)
    have e : (2 : Nat) ^ 7 = 128 := rfl
    omega
  show IntKind.i64.wrap ((BitVec.ofInt 64 (R : Int) &&& BitVec.ofInt 64 ((2 ^ j : Nat) : Int)).toNat : Int) = _
  rw [BitVec.toNat_and, bv_nat R (by omega), bv_nat (2 ^ j) (by omega), (bit_all R hR j hj).1]
  cases R.testBit j
  · rfl
  · simp only [if_true]
    exact wrapN _ (by omega)
theorem allowL_mem (l : GL) (u p : BS) (r : Int) : ∀ x ∈ allowL l u p r, x ∈ l ∨ x.1 = u ∧ x.2.1 = p := by
  intro x hx
  unfold allowL at hx
  rw [List.mem_append, List.mem_append] at hx
  rcases hx with (hx | hx) | hx
  · exact .inl (List.mem_of_mem_take hx)
  · rw [List.mem_singleton] at hx
    split at hx <;> (subst hx; exact .inr ⟨rfl, rfl⟩)
  · exact .inl (List.mem_of_mem_drop hx)
theorem allowL_len (l : GL) (u p : BS) (r : Int) (hv : lenG l) (hu : u.length ≤ 4000000000) (hp : p.length ≤ 4000000000) : lenG (allowL l u p r) := by
  intro x hx
  rcases allowL_mem l u p r x hx with h | ⟨rfl, rfl⟩
  · exact hv x h
  · exact ⟨hu, hp⟩
/-- the page's Of, at a row of one grant of a name -/
def of1 (_u q : BS) (r : Int) (pl : BS) : Int := if underB pl q = true then r else 0
theorem gives_law (l : GL) (u q : BS) (r : Int) (h : rightE l u q r = 0) (o pl : BS) :
    (o = u → of1 u q r pl = r → ofG (allowL l u q r) o pl = bits .or .i64 (ofG l o pl) r) ∧ (o = u → of1 u q r pl ≠ r → ofG (allowL l u q r) o pl = ofG l o pl) ∧ (o ≠ u → ofG (allowL l u q r) o pl = ofG l o pl) := by
  obtain ⟨hl, hu, hp, hr1, hr2⟩ := rightE_zero l u q r h
  have ha := allow_of l u q r h o pl
  refine ⟨?_, ?_, ?_⟩
  · rintro rfl h1
    have : hasG o pl (o, q, r) = true := by
      unfold of1 at h1
      unfold hasG
      split at h1
      · rename_i hx; simp [hu, hx]
      · omega
    rw [ha, if_pos this]
  · rintro rfl h1
    have : ¬ hasG o pl (o, q, r) = true := by
      unfold of1 at h1
      unfold hasG
      split at h1
      · exact absurd rfl h1
      · rename_i hx; simp [hx]
    rw [ha, if_neg this]
  · intro h1
    have : ¬ hasG o pl (u, q, r) = true := by
      unfold hasG
      intro e
      simp only [Bool.and_eq_true, beq_iff_eq] at e
      exact h1 e.1.1.symm
    rw [ha, if_neg this]
/-! ### the walks -/
set_option maxRecDepth 100000 in
set_option maxHeartbeats 2000000 in
theorem refOf1_any (u q : BS) (r : Int) (pl : BS) (A : Option Addr) (c : Nat) (w : World) (B : Nat) (hr : Reads w B 3 A 1 (gcells [(u, q, r)])) (hB : B ≤ w.heap.size) (hu : nameB u = true) (hr1 : 1 ≤ r) (hr2 : r ≤ 255) (hq : q.length ≤ 4000000000) (hpl : pl.length ≤ 4000000000) :
    Calls Tryd.prog 16 #[.slice A 1 c, .string ⟨u.toArray⟩, .string ⟨pl.toArray⟩] w fun e w' => e = .returned (.int .i64 (of1 u q r pl)) ∧ Below w.heap.size w w' := by
  have hu0 : u ≠ [] := by rintro rfl; cases hu
  have hu1 : (u == []) = false := by simpa using hu0
  have hu2 : u.isEmpty = false := by cases u <;> simp_all
  have hul : u.length ≤ 16 := by
    unfold nameB at hu
    simp only [Bool.and_eq_true, decide_eq_true_eq] at hu
    exact hu.1.2
  have hN : ∀ W, Calls Tryd.prog 29 #[.string ⟨u.toArray⟩] W fun e W' => e = .returned (.bool true) ∧ W' = W := fun W => by
    have := refName_s ⟨u.toArray⟩ W (by show u.length ≤ _; omega)
    rw [show nameB (ByteArray.mk u.toArray).data.toList = true from hu] at this
    exact this
  have hU : ∀ W, Calls Tryd.prog 49 #[.string ⟨pl.toArray⟩, .string ⟨q.toArray⟩] W fun e W' => e = .returned (.bool (underB pl q)) ∧ Below W.heap.size W W' := fun W => refUnder_any ⟨pl.toArray⟩ ⟨q.toArray⟩ W (by show pl.length ≤ _; exact hpl) (by show q.length ≤ _; exact hq)
  obtain ⟨bU, hbU⟩ : ∃ b, b = underB pl q := ⟨_, rfl⟩
  rw [← hbU] at hU
  have HV : Hid (of1 u q r pl = if bU = true then r else 0) := by show _ = _; unfold of1; rw [hbU]
  obtain ⟨R, rfl⟩ : ∃ R : Nat, r = (R : Int) := ⟨r.toNat, by omega⟩
  obtain ⟨ad, rfl, hadB, hc⟩ := hr.2 (by omega)
  have c0 : w.cell? ad = some (.string ⟨u.toArray⟩) := by have := hc 0 _ rfl; rwa [add_zero] at this
  have c1 : w.cell? ⟨ad.block, ad.off + 1, none⟩ = some (.string ⟨q.toArray⟩) := by have := hc 1 _ rfl; rwa [addr_add_succ] at this
  have c2 : w.cell? ⟨ad.block, ad.off + 2, none⟩ = some (.int .i64 (R : Int)) := by have := hc 2 _ rfl; rwa [addr_add_succ] at this
  have HR : Hid (R < 256) := by show _ < _; omega
  clear hbU hc hr hu hul hu0 hr1 hr2
  go_enter Tryd.func16, Tryd.ntmps16
  go_wp2_with fail
  go_loopw [7, 8] (fun z b wr => ∃ j Z : Nat, j ≤ 8 ∧ z = .int .i64 (Z : Int) ∧ Hid (Z = if bU = true then R % 2 ^ j else 0) ∧ b = .int .i64 ((2 ^ j : Nat) : Int) ∧ Below w.heap.size w wr) (fun _ b _ => 256 - (intOf b).toNat)
  case atStart => exact ⟨0, 0, Nat.zero_le _, rfl, by show 0 = _; cases bU <;> simp [Nat.mod_one], rfl, Below.refl _ _⟩
  case round =>
    obtain ⟨j, Z, hj, rfl, HZ, rfl, hbw⟩ := hrel
    by_cases hlt : j < 8
    · have hb := and_bit R j HR.out hlt
      have hm := (bit_all R HR.out j hlt).2
      have HP : Hid (2 ^ (j + 1) = 2 ^ j * 2) := Nat.pow_succ 2 j
      have hp1 : 1 ≤ 2 ^ j := Nat.one_le_two_pow
      have hp2 : 2 ^ j ≤ 128 := Nat.pow_le_pow_right (n := 2) (by decide) (show j ≤ 7 by omega)
      have hz : Z < 256 := by
        rw [HZ.out]
        have : R % 2 ^ j < 2 ^ j := Nat.mod_lt _ (by omega)
        split <;> omega
      have hbit : (Hid (R % 2 ^ (j + 1) = R % 2 ^ j) ∧ (bits .and .i64 (R : Int) ((2 ^ j : Nat) : Int) = 0) ∧ True) ∨ (Hid (R % 2 ^ (j + 1) = R % 2 ^ j + 2 ^ j) ∧ (bits .and .i64 (R : Int) ((2 ^ j : Nat) : Int) = ((2 ^ j : Nat) : Int))) := by
        by_cases ht : R.testBit j = true
        · rw [if_pos ht] at hb hm
          exact .inr ⟨hm, hb⟩
        · rw [if_neg ht] at hb hm
          exact .inl ⟨by show _ = _; omega, hb, trivial⟩
      obtain ⟨T, hT⟩ : ∃ T, T = 2 ^ j := ⟨_, rfl⟩
      rw [← hT] at hp1 hp2 hbit HP ⊢
      clear hb hm
      have HT := Lib.hid hT
      clear hT
      have hTi : (T : Int) < 256 := by omega
      have hT0 : ((T : Int) == 0) = false := by simp; omega
      have k0 := (hbw.cell (p := ad) (by omega)).trans c0
      have k1 := (hbw.cell (p := ⟨ad.block, ad.off + 1, none⟩) (by show ad.block < _; omega)).trans c1
      have k2 := (hbw.cell (p := ⟨ad.block, ad.off + 2, none⟩) (by show ad.block < _; omega)).trans c2
      have hadr : ad.block < wr.heap.size := by have := hbw.size; omega
      have hS := Lib.hid (fun (W' : World) (hB : Below wr.heap.size wr W') => (⟨(hB.cell (p := ad) hadr).trans k0, (hB.cell (p := ⟨ad.block, ad.off + 1, none⟩) hadr).trans k1, (hB.cell (p := ⟨ad.block, ad.off + 2, none⟩) hadr).trans k2, hB⟩ : W'.cell? ad = some (.string ⟨u.toArray⟩) ∧ W'.cell? ⟨ad.block, ad.off + 1, none⟩ = some (.string ⟨q.toArray⟩) ∧ W'.cell? ⟨ad.block, ad.off + 2, none⟩ = some (.int .i64 (R : Int)) ∧ Below wr.heap.size wr W'))
      have hS0 := (Below.refl wr.heap.size wr).drew
      clear c0 c1 c2
      go_wp2_with fail
      refine wp_loop_rounds 2 ?_
      rw [rounds_succ]
      go_wp2_with fail
      cases bU with
      | false =>
        go_wp2_with fail
        refine (hN _).mono ?_
        rintro e w4 ⟨rfl, rfl⟩
        go_wp2_with fail
        refine (hU _).mono ?_
        rintro e w5 ⟨rfl, hb5⟩
        have hbf := hbw.trans (hb5.mono hbw.size)
        clear hb5 hS hS0
        go_wp2_with fail
        rw [rounds_succ]
        go_wp2_with fail
        go_roundw
        case rel => exact ⟨j + 1, Z, by omega, rfl, HZ, by rw [HP.out]; go_num, hbf⟩
        case measure => simp [intOf]; omega
      | true =>
        go_wp2_with fail
        refine (hN _).mono ?_
        rintro e w4 ⟨rfl, rfl⟩
        go_wp2_with fail
        refine (hU _).mono ?_
        rintro e w5 ⟨rfl, hb5⟩
        have hbf := hbw.trans (hb5.mono hbw.size)
        obtain ⟨-, -, q2, -⟩ := hS.out _ hb5
        clear hb5 hS hS0 k0 k1 k2
        rcases hbit with ⟨h1, h2, -⟩ | ⟨h1, h2⟩
        · go_wp2_with fail
          rw [rounds_succ]
          go_wp2_with fail
          go_roundw
          case rel => exact ⟨j + 1, Z, by omega, rfl, by show Z = R % _; rw [h1.out, HT.out]; exact HZ.out.trans (if_pos trivial), by rw [HP.out]; go_num, hbf⟩
          case measure => simp [intOf]; omega
        · go_wp2_with fail
          rw [rounds_succ]
          go_wp2_with fail
          go_roundw
          case rel => exact ⟨j + 1, Z + T, by omega, by go_num, by show Z + T = R % _; rw [h1.out, HT.out, HZ.out.trans (if_pos trivial)], by rw [HP.out]; go_num, hbf⟩
          case measure => simp [intOf]; omega
    · obtain rfl : j = 8 := by omega
      have HE : Hid (of1 u q (R : Int) pl = (Z : Int)) := by
        show _ = _
        rw [HV.out, HZ.out]
        cases bU
        · rfl
        · simp only [if_true]
          rw [Nat.mod_eq_of_lt (show R < 2 ^ 8 from HR.out)]
      go_wp2_with fail
      go_ret
      exact ⟨by rw [HE.out]; rfl, hbw⟩
set_option maxRecDepth 100000 in
set_option maxHeartbeats 2000000 in
theorem permsGives_any (l : GL) (u q : BS) (r : Int) (o pl : BS) (n : Nat) (hnl : n = l.length) (A : Option Addr) (c : Nat) (w : World) (hr : Reads w w.heap.size 3 A n (gcells l)) (hn : n ≤ 1000000000000) (hv : lenG l) (hq : q.length ≤ 4000000000) (hpl : pl.length ≤ 4000000000) (hmx : HasMax w) :
    Calls Tryd.prog 4 #[.slice A n c, .string ⟨u.toArray⟩, .string ⟨q.toArray⟩, .int .i64 r, .string ⟨o.toArray⟩, .string ⟨pl.toArray⟩] w fun e w' => e = .returned (.bool true) ∧ Below w.heap.size w w' := by
  have hal := Lib.hid (fun w' (hb : Below w.heap.size w w') => allowG_any l u q r n hnl A c w' w.heap.size (hr.below hb) hb.size hn hv hq (hmx.below hb))
  have hof := Lib.hid (fun w' (hb : Below w.heap.size w w') => ofG_any l o pl n hnl A c w' w.heap.size (hr.below hb) hb.size (by omega) hv hpl (hmx.below hb))
  have HNL := Lib.hid hnl
  clear hnl
  obtain ⟨E, hE⟩ : ∃ E, E = allowE l u q r := ⟨_, rfl⟩
  rw [← hE] at hal
  by_cases h0 : E = 0
  · subst h0
    have hE1 : rightE l u q r = 0 := by
      unfold allowE at hE
      split at hE
      · assumption
      · exact absurd hE.symm ‹_›
    obtain ⟨hgl, hu, hp, hr1, hr2⟩ := rightE_zero l u q r hE1
    obtain ⟨g1, g2, g3⟩ := gives_law l u q r hE1 o pl
    have hok := allow_ok l u q r hE.symm
    have hlen := ((grantsB_iff _).1 hok).1
    have hlv : lenG (allowL l u q r) := allowL_len l u q r hv (by have := nameB_len _ hu; omega) hq
    have hofm := fun (n' : Nat) (hn' : n' = (allowL l u q r).length) A' c' w' B' (hr' : Reads w' B' 3 A' n' (gcells (allowL l u q r))) (hB' : B' ≤ w'.heap.size) (hm' : HasMax w') => ofG_any (allowL l u q r) o pl n' hn' A' c' w' B' hr' hB' (by omega) hlv hpl hm'
    obtain ⟨F, hF⟩ : ∃ F, F = allowL l u q r := ⟨_, rfl⟩
    obtain ⟨zi, hzi⟩ : ∃ z, z = ofG F o pl := ⟨_, rfl⟩
    obtain ⟨zw, hzw⟩ : ∃ z, z = ofG l o pl := ⟨_, rfl⟩
    obtain ⟨z1, hz1⟩ : ∃ z, z = of1 u q r pl := ⟨_, rfl⟩
    rw [← hF] at hal g1 g2 g3 hlen hofm
    rw [← hzi] at g1 g2 g3 hofm
    rw [← hzw] at g1 g2 g3 hof
    rw [← hz1] at g1 g2
    have G1 := Lib.hid g1
    have G2 := Lib.hid g2
    have G3 := Lib.hid g3
    have hone := fun A' c' w' B' (hr' : Reads w' B' 3 A' 1 (gcells [(u, q, r)])) (hB' : B' ≤ w'.heap.size) => refOf1_any u q r pl A' c' w' B' hr' hB' hu hr1 hr2 hq hpl
    rw [← hz1] at hone
    have HO := Lib.hid hone
    have HM := Lib.hid hofm
    have HL := Lib.hid hlen
    clear g1 g2 g3 hE hE1 hgl hu hp hr1 hr2 hok hlv hofm hF hzi hzw hz1 hone hlen hr hv hq hpl
    go_enter Tryd.func4, Tryd.ntmps4
    go_wp2_with fail
    refine (alive13_any _ hmx).mono ?_
    rintro e w1 ⟨rfl, hb1⟩
    go_wp2_with fail
    refine (hal.out _ hb1).mono ?_
    clear hal
    rintro e w2 ⟨v, rfl, hown, hb2⟩
    rw [if_pos rfl] at hown
    obtain ⟨A1, c1, rfl, _, _, hr1⟩ := own_form hown
    have hbb := hb1.trans (hb2.mono hb1.size)
    clear hown hb1 hb2
    have HR1 := Lib.hid hr1
    clear hr1
    go_wp2_with fail
    refine (num13_any _ _).mono ?_
    rintro e w3 ⟨rfl, rfl⟩
    go_wp2_with fail
    refine (hof.out _ hbb).mono ?_
    clear hof
    rintro e w4 ⟨rfl, hb4⟩
    have hb5 := hbb.trans (hb4.mono hbb.size)
    have hr4 := HR1.out.below hb4
    have hof2 := HM.out F.length rfl A1 c1 w4 _ hr4 hb4.size (hmx.below hb5)
    clear HR1 HM hr4 hbb hb4
    go_wp2_with fail
    refine hof2.mono ?_
    clear hof2
    rintro e w5 ⟨rfl, hb6⟩
    have hb7 := hb5.trans (hb6.mono hb5.size)
    clear hb5 hb6
    by_cases hou : o = u
    · subst hou
      go_wp2_with fail
      refine (HO.out _ _ _ _ (Reads.lit _ #[.string ⟨o.toArray⟩, .string ⟨q.toArray⟩, .int .i64 r] 45 (n := 1) (size := 3) rfl) (by simp)).mono ?_
      rintro e w6 ⟨rfl, hb8⟩
      have hb9 := hb7.alloc hb7.size (.cells #[.string ⟨o.toArray⟩, .string ⟨q.toArray⟩, .int .i64 r] 45)
      have hbf := hb9.trans (hb8.mono hb9.size)
      go_wp2_with fail
      · have hz : (z1 == r) = true := by assumption
        go_ret
        refine ⟨congrArg Ending.returned (congrArg Value.bool ?_), hbf⟩
        rw [G1.out trivial (by simpa using hz)]
        simp
      · have hz : (z1 == r) = false := by assumption
        go_ret
        refine ⟨congrArg Ending.returned (congrArg Value.bool ?_), hbf⟩
        rw [G2.out trivial (by simpa using hz)]
        simp
    · have hd : (o == u) = false := by simpa using hou
      have G := Lib.hid (G3.out hou)
      go_wp2_with fail
      go_ret
      exact ⟨by rw [G.out]; simp, hb7⟩
  · have HE := Lib.hid h0
    have hEb : (E == 0) = false := by simpa using h0
    clear hE hr hv
    go_enter Tryd.func4, Tryd.ntmps4
    go_wp2_with fail
    refine (alive13_any _ hmx).mono ?_
    rintro e w1 ⟨rfl, hb1⟩
    go_wp2_with fail
    refine (hal.out _ hb1).mono ?_
    clear hal
    rintro e w2 ⟨v, rfl, hv, hb2⟩
    rw [if_neg h0] at hv
    subst hv
    have hbb := hb1.trans (hb2.mono hb1.size)
    go_wp2_with fail
    refine (num13_any _ _).mono ?_
    rintro e w3 ⟨rfl, rfl⟩
    go_wp2_with fail
    go_ret
    exact ⟨rfl, hbb⟩
end Go.Proofs.YtodikfhaghpkhaaDoor
