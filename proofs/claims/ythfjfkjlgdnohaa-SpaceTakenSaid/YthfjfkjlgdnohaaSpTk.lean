/-
  SpaceTaken, walked.
-/
import Derived.Test.YthfjfkjlgdnohaaSpArg
namespace Go.Proofs.Ythfjfkjlgdnohaa
open Go.RowKit Go.Maps

theorem ints_one (l : List Int) : ∀ u ∈ ints l, u.oneCell' = true := by
  intro u hu
  obtain ⟨z, _, rfl⟩ := List.mem_map.1 hu
  rfl
theorem nodup_small (T : Int) (l : List Int) (h : usedE T l = 0) : l.length ≤ 8190 := by
  have h1 := length_free T l h
  have h2 := ((usedE_zero T l).1 h).1
  omega
theorem wf_free (T : Int) (l : List Int) (hT : T ≤ 8192) : wfZ (freeL T l) := by
  intro x hx
  have := ((mem_free T x l).1 hx).1
  exact WalkArith.wf_i64 (by omega)
theorem takeE_zero (T : Int) (l : List Int) (m : Int) (h : usedE T l = 0) : takeE T l m = 0 ↔ 0 ≤ m ∧ m ≤ T - 2 - l.length := by
  have h1 := length_free T l h
  unfold takeE
  rw [if_pos h]
  split
  · constructor
    · intro e; cases e
    · intro e; omega
  · split
    · constructor
      · intro e; cases e
      · intro e; omega
    · constructor
      · intro e; omega
      · intro e; rfl
set_option maxRecDepth 100000 in
set_option maxHeartbeats 2000000 in
theorem spaceTaken_any (T m1 m2 : Int) (l : List Int) (n : Nat) (hnl : n = l.length) (A : Option Addr) (c : Nat) (w : World) (hr : Reads w w.heap.size 1 A n (ints l)) (hwf : wfZ l) (hn : n ≤ 17592186044000) :
    LawCalls Try.prog 10 #[.int .i64 T, .slice A n c, .int .i64 m1, .int .i64 m2] w := by
  obtain ⟨i0, hi0, hz0, hz1, hz2⟩ := info_parts Try.infoI
  have c1 := fun W (hb : Below w.heap.size w W) => take_any T l m1 n hnl A c W _ (below_reads hr hb (Nat.le_refl _)) (Nat.le_refl _) hwf hn
  have hTE : Hid (takeE T l m1 = 0 → usedE T l = 0) := by
    show _ → _
    unfold takeE
    intro h
    split at h
    · assumption
    · exact h
  obtain ⟨R, hR⟩ : ∃ R, R = takeE T l m1 := ⟨_, rfl⟩
  rw [← hR] at hTE
  simp only [← hR] at c1
  have C1 := Lib.hid c1
  have HN := Lib.hid hnl
  have HW := Lib.hid hwf
  have HR := Lib.hid hr
  clear hR c1 hnl hwf hr
  show Calls _ _ _ _ _
  go_enter Try.func10, Try.ntmps10
  go_wp2_with fail
  refine (alive07_any _).mono ?_
  rintro e w1 ⟨rfl, hb1⟩
  go_wp2_with fail
  refine (C1.out w1 hb1).mono ?_
  clear C1
  rintro e w2 ⟨v, rfl, hv, hb2⟩
  have hb12 := hb1.trans (hb2.mono hb1.size)
  by_cases hR : R = 0
  · subst hR
    have hE := hTE.out rfl
    rw [if_pos rfl] at hv
    obtain ⟨A1, k, hk, hkF, rfl, r1⟩ := hv
    obtain ⟨L, hL⟩ : ∃ L, L = l ++ (freeL T l).take k := ⟨_, rfl⟩
    have hLE : usedE T L = 0 := by rw [hL]; exact used_taken T l k hE
    have hln := nodup_small T l hE
    have hLn := nodup_small T L hLE
    have hTb := ((usedE_zero T l).1 hE).1
    have hLlen : L.length = n + k := by rw [hL, List.length_append, List.length_take, HN.out, Nat.min_eq_left hkF]
    have hLw : wfZ L := by
      intro x hx
      rw [hL] at hx
      rcases List.mem_append.1 hx with hx | hx
      · exact HW.out x hx
      · exact wf_free T l hTb.2 x (List.mem_of_mem_take hx)
    have hn2 : n ≤ 8190 := by have := HN.out; omega
    have hk2 : k ≤ 8190 := by omega
    have HL : Hid (ints L = ints l ++ ints ((freeL T l).take k)) := by show _ = _; rw [hL, ints_append]
    have HLE := Lib.hid hLE
    have HLL := Lib.hid hLlen
    have HLW := Lib.hid hLw
    have r0 := below_reads HR.out hb12 (Nat.le_refl _)
    clear hTE hL hLE hln hLn hLlen hLw hkF hb1 hb2
    go_wp2_with fail
    refine (num07_any 0 _).mono ?_
    rintro e w3 ⟨rfl, rfl⟩
    have hs12 := hb12.size
    have tok : True := trivial
    have h1a := ints_one l
    have h1b := ints_one ((freeL T l).take k)
    have hm1 : 0 + n ≤ maxLen := by unfold maxLen; omega
    have hm2 : n + k ≤ maxLen := by unfold maxLen; omega
    go_wp2_with (first
      | (at_builtin; have _t := tok; refine wpList_append_any _ rfl (.tmp 30) (.tmp 31) _ rfl w.heap.size 3 i0 _ 1 8 Try.underlying54 hi0 hz0 hz1 hz2 rfl (by omega) (.slice none 0 0) 0 [] rfl (World.ownsRow_nil _ _ _ _) _ A n c (ints l) rfl r0 h1a hm1 (by omega) hs12 ?_; intro v1 w4 hown1 hg1 _; clear tok; have hg1b := grown_none_below hg1; have r1 := below_reads r1 hg1b (Nat.le_refl _); have hb14 := hb12.trans (hg1b.mono hs12); have hs14 := hb14.size; rw [List.nil_append, Nat.zero_add] at hown1; have hlt4 := hown1.lt)
      | (at_builtin; go_loud (refine wpList_append_any _ rfl (.tmp 32) (.tmp 33) _ rfl w.heap.size 3 i0 _ 1 8 Try.underlying54 hi0 hz0 hz1 hz2 rfl (by omega) _ n (ints l) rfl hown1 _ A1 k k _ rfl r1 h1b hm2 (by omega) hs14 ?_); intro v2 w5 hown2 hg2 _))
    have hb15 := hb14.grown hg2 hs14 (fun j hj => (hlt4 j hj).1)
    rw [← HL.out] at hown2
    obtain ⟨A5, c5, rfl, h51, h52, r5⟩ := own_form hown2
    have hs15 := hb15.size
    have ct := take_any T L m2 (n + k) HLL.out.symm A5 c5 w5 _ r5 (Nat.le_refl _) HLW.out (by omega)
    have hz := takeE_zero T L m2 HLE.out
    rw [HLL.out] at hz
    obtain ⟨R2, hR2⟩ : ∃ R2, R2 = takeE T L m2 := ⟨_, rfl⟩
    rw [← hR2] at ct hz
    have HZ := Lib.hid hz
    have R5 := Lib.hid r5
    clear hown1 hown2 hg1 hg2 hg1b hR2 hz r5 r1 r0 hb14 hlt4
    go_wp2_with fail
    refine ct.mono ?_
    clear ct
    rintro e w6 ⟨v6, rfl, hv6, hb6⟩
    have hb16 := hb15.trans (hb6.mono hs15)
    have r6 := below_reads R5.out hb6 (Nat.le_refl _)
    have hck := fun W (hb : Below w6.heap.size w6 W) => spCheck_any T L (n + k) HLL.out.symm A5 c5 W _ (below_reads r6 hb (Nat.le_refl _)) (Nat.le_refl _) HLW.out (by omega)
    rw [HLE.out] at hck
    have HCK := Lib.hid hck
    have R6 := Lib.hid r6
    clear hck r6 hb6
    obtain ⟨A6, k6, L6, hv6', h66, r66, hno⟩ : ∃ (A6 : Option Addr) (k6 : Nat) (L6 : List Int), v6 = .slice A6 k6 k6 ∧ k6 = L6.length ∧ Reads w6 w6.heap.size 1 A6 k6 (ints L6) ∧ (∀ x ∈ L6, x ∉ L) ∧ k6 ≤ 8192 := by
      by_cases h : R2 = 0
      · rw [if_pos h] at hv6
        obtain ⟨A', k', _, hkl, rfl, hr'⟩ := hv6
        refine ⟨A', k', (freeL T L).take k', rfl, by rw [List.length_take]; omega, hr', fun x hx => ((mem_free T x L).1 (List.mem_of_mem_take hx)).2, ?_⟩
        have := length_free T L HLE.out
        omega
      · rw [if_neg h] at hv6
        subst hv6
        exact ⟨none, 0, [], rfl, rfl, Reads.none_, (by intro x hx; cases hx), Nat.zero_le _⟩
    subst hv6'
    have HNO := Lib.hid hno.1
    have hk6 := hno.2
    have H66 := Lib.hid h66
    clear hv6 hno h66
    go_wp2_with fail
    go_loopw [14] (fun i wr => ∃ j : Nat, j ≤ k6 ∧ i = .int .i64 (j : Int) ∧ wr = w6) (fun i _ => k6 - (intOf i).toNat)
    case atStart => exact ⟨0, Nat.zero_le _, rfl, rfl⟩
    case round =>
      obtain ⟨j, hj, rfl, hww⟩ := hrel
      have hww := hww.symm
      subst hww
      by_cases hlt : j < k6
      · have hji : (j : Int) < (k6 : Int) := by omega
        obtain ⟨ad, rfl, hcell⟩ := ints_at r66 H66.out hlt
        obtain ⟨x, hx⟩ : ∃ x, x = L6[j]'(by have := H66.out; omega) := ⟨_, rfl⟩
        rw [← hx] at hcell
        have hnx : L.contains x = false := by
          rw [← Bool.not_eq_true, List.contains_iff_mem]
          exact HNO.out x (by rw [hx]; exact List.getElem_mem _)
        have hcx := has_any L x (n + k) HLL.out.symm A5 c5 w6 _ R6.out (by omega)
        rw [hnx] at hcx
        clear hx hnx r66
        go_wp2_with fail
        refine hcx.mono ?_
        clear hcx
        rintro e w7 ⟨rfl, rfl⟩
        go_wp2_with fail
        go_roundw
        case rel => exact ⟨j + 1, by omega, by go_num, trivial⟩
        case measure => simp [intOf]; omega
      · clear r66
        go_wp2_with fail
        refine (HCK.out _ (Below.refl _ _)).mono ?_
        rintro e w7 ⟨rfl, hb7⟩
        have hb17 := hb16.trans (hb7.mono hb16.size)
        go_wp2_with fail
        refine (num07_any 0 _).mono ?_
        rintro e w8 ⟨rfl, rfl⟩
        have hw1 : IntKind.i64.wrap (T - 2) = T - 2 := IntWalk.i64_in _ (by omega)
        have hw2 : IntKind.i64.wrap (T - 2 - ((n + k : Nat) : Int)) = T - 2 - ((n + k : Nat) : Int) := IntWalk.i64_in _ (by omega)
        by_cases h : R2 = 0
        · obtain ⟨z1, z2⟩ := HZ.out.1 h
          subst h
          clear HCK
          go_wp2_with fail
          refine (num07_any 0 _).mono ?_
          rintro e w8 ⟨rfl, rfl⟩
          go_wp2_with fail
          go_ret
          exact ⟨by first | (simp; done) | (simp; omega), hb17⟩
        · have hd : (R2 == 0) = false := by simp [h]
          have hnz : ¬ (0 ≤ m2 ∧ m2 ≤ T - 2 - ((n + k : Nat) : Int)) := fun e => h (HZ.out.2 e)
          clear h HCK
          by_cases z1 : 0 ≤ m2
          · have z2 : ¬ (m2 ≤ T - 2 - ((n + k : Nat) : Int)) := fun e => hnz ⟨z1, e⟩
            clear hnz
            go_wp2_with fail
            refine (num07_any R2 _).mono ?_
            rintro e w8 ⟨rfl, rfl⟩
            go_wp2_with fail
            go_ret
            exact ⟨by first | (simp; done) | (simp; omega), hb17⟩
          · clear hnz
            go_wp2_with fail
            refine (num07_any R2 _).mono ?_
            rintro e w8 ⟨rfl, rfl⟩
            go_wp2_with fail
            go_ret
            exact ⟨by first | (simp; done) | (simp; omega), hb17⟩
  · rw [if_neg hR] at hv
    subst hv
    have hd : (R != 0) = true := by simp [hR]
    clear hR hTE hb1 hb2
    go_wp2_with fail
    refine (num07_any R _).mono ?_
    rintro e w3 ⟨rfl, rfl⟩
    go_wp2_with fail
    go_ret
    exact ⟨rfl, hb12⟩
end Go.Proofs.Ythfjfkjlgdnohaa
