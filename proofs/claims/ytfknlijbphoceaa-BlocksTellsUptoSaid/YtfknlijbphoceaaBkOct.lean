/-
  blocks.Octets, by its contract.
-/
import Derived.Test.YtfknlijbphoceaaBk1
import Derived.Test.YtfknlijbphoceaaPiece
import Derived.Lib.ConvBytes
namespace Go.Proofs.Ytfknlijbphoceaa
open Go.RowKit

theorem below_bytesWorld (W : World) (e : TypeId) (s : ByteArray) : Below W.heap.size W (Lib.bytesWorld W e s) :=
  ⟨by unfold Lib.bytesWorld World.freeze; split <;> rfl, by unfold Lib.bytesWorld World.freeze; split <;> rfl, by unfold Lib.bytesWorld World.freeze; split <;> rfl, by rw [Lib.bytesWorld_size]; omega, fun k hk => Lib.bytesWorld_at_old W e s k hk⟩
theorem conv_bytes (W : World) (l : List UInt8) : (convert 9 47 (.string ⟨l.toArray⟩)).run Try.prog W = .ok (.slice (some ⟨W.heap.size, 0, none⟩) l.length (grownCap W l.length 0 5)) (Lib.bytesWorld W 5 ⟨l.toArray⟩) :=
  Lib.run_convert_string_bytes W _ _ 5 ⟨l.toArray⟩ Try.underlying9 Try.underlying47 Try.underlying5
theorem PieceIn.conv (W : World) (l : List UInt8) (hm : l.length ≤ maxLen) : PieceIn l.length l (.slice (some ⟨W.heap.size, 0, none⟩) l.length (grownCap W l.length 0 5)) (Lib.bytesWorld W 5 ⟨l.toArray⟩) := by
  refine ⟨rfl, _, _, rfl, grownCap_ge _ _ _ _, grownCap_le_maxLen _ _ _ _ hm, by rw [bts_length, Nat.mul_one], fun _ => ⟨_, rfl, by rw [Lib.bytesWorld_size]; simp, fun j u hu => ?_⟩⟩
  have hj : j < l.length := by
    have := (List.getElem?_eq_some_iff.1 hu).1
    rwa [bts_length] at this
  rw [addr_add0, Lib.bytesWorld_cell W 5 ⟨l.toArray⟩ j hj]
  rw [bts_get, List.getElem?_eq_getElem hj] at hu
  rw [← Option.some.inj hu]
  simp [List.getD_eq_getElem?_getD, hj]

/-- a content's octets -/
def bkOct (l : BL) : List UInt8 := l.flatMap fun x => putL x.1 2 ++ x.2
theorem bkOct_append (a b : BL) : bkOct (a ++ b) = bkOct a ++ bkOct b := by simp [bkOct]
theorem okFrom_len (p : Option Int) (l : BL) (h : okFrom p l = true) : ∀ x ∈ l, x.2.length = 16 ∧ 0 ≤ x.1 ∧ x.1 < 1024 := by
  induction l generalizing p with
  | nil => intro x hx; cases hx
  | cons y r ih =>
    simp only [okFrom, Bool.and_eq_true, decide_eq_true_eq] at h
    obtain ⟨⟨⟨⟨h1, h2⟩, h3⟩, _⟩, h5⟩ := h
    intro x hx
    rcases List.mem_cons.1 hx with rfl | hx
    · exact ⟨h3, h1, h2⟩
    · exact ih _ h5 x hx
theorem okL_len (l : BL) (h : okL l = true) : ∀ x ∈ l, x.2.length = 16 ∧ 0 ≤ x.1 ∧ x.1 < 1024 := okFrom_len none l h
def OctPost (w : World) (l : BL) (e : Ending) (w' : World) : Prop :=
  ∃ v m, e = .returned (.tuple #[v, .int .i64 (okE l)]) ∧ PieceIn m (if okL l then bkOct l else []) v w' ∧ Below w.heap.size w w'

set_option maxRecDepth 100000 in
set_option maxHeartbeats 2000000 in
theorem bkOctets_any (l : BL) (n : Nat) (hnl : n = l.length) (A : Option Addr) (c : Nat) (w : World) (B : Nat) (hr : Reads w B 2 A n (bcells l)) (hB : B ≤ w.heap.size) (hn : n ≤ 5000000000000) :
    Calls Try.prog 17 #[.slice A n c] w (OctPost w l) := by
  have hck := checkBk_any l n hnl A c w B hr hB (by omega)
  cases hok : okL l with
  | false =>
    have he : okE l = 9 := by unfold okE; rw [hok]; rfl
    have HP := Lib.hid (fun w' (hb : Below w.heap.size w w') => (⟨.slice none 0 0, 0, by rw [he], by rw [hok]; exact ⟨rfl, none, 0, rfl, by omega, by unfold maxLen; omega, by simpa [bts] using Reads.none_⟩, hb⟩ : OctPost w l (.returned (.tuple #[.slice none 0 0, .int .i64 9])) w'))
    rw [he] at hck
    clear hr hnl he hok
    go_enter Try.func17, Try.ntmps17
    go_wp2_with fail
    refine hck.mono ?_
    clear hck
    rintro e w1 ⟨rfl, hb1⟩
    go_wp2_with fail
    go_ret2
    exact HP.out _ hb1
  | true =>
    have he : okE l = 0 := by unfold okE; rw [hok]; rfl
    have HOK := Lib.hid (okL_len l hok)
    have HP := Lib.hid (fun w' v m (hp : PieceIn m (bkOct l) v w') (hb : Below w.heap.size w w') => (⟨v, m, by rw [he], by rw [hok]; exact hp, hb⟩ : OctPost w l (.returned (.tuple #[v, .int .i64 0])) w'))
    rw [he] at hck
    have HN := Lib.hid hnl
    clear hnl he hok
    go_enter Try.func17, Try.ntmps17
    go_wp2_with fail
    refine hck.mono ?_
    clear hck
    rintro e w1 ⟨rfl, hb1⟩
    go_wp2_with fail
    go_loopw [5, 15] (fun v j wr => ∃ k mm : Nat, k ≤ n ∧ j = .int .i64 (k : Int) ∧ Hid (mm = 18 * k) ∧ PieceIn mm (bkOct (l.take k)) v wr ∧ Below w.heap.size w wr) (fun _ j _ => n - (intOf j).toNat)
    case atStart => exact ⟨0, 0, Nat.zero_le _, rfl, rfl, ⟨by simp [bkOct], none, 0, rfl, by omega, by unfold maxLen; omega, by simpa [bkOct, bts] using Reads.none_⟩, hb1⟩
    case round =>
      obtain ⟨k, mm, hk, rfl, hm, hpb, hbw⟩ := hrel
      by_cases hlt : k < n
      · have hrw := hr.below (hbw.mono hB)
        obtain ⟨ad, rfl, hadB, c0, c1⟩ := hrw.blk2 HN.out hlt
        have hki : (k : Int) < (n : Int) := by omega
        have hkl : k < l.length := by have := HN.out; omega
        obtain ⟨x, hx⟩ : ∃ x, x = l[k]'hkl := ⟨_, rfl⟩
        rw [← hx] at c0 c1
        have htl := List.take_succ_eq_append_getElem hkl
        rw [← hx] at htl
        have hxl := (HOK.out x (by rw [hx]; exact List.getElem_mem _)).1
        obtain ⟨xi, xs⟩ := x
        simp only at c0 c1 hxl
        have HTK := Lib.hid (show bkOct (l.take (k + 1)) = bkOct (l.take k) ++ (putL xi 2 ++ xs) by rw [htl, bkOct_append]; simp [bkOct])
        have hS := Lib.hid (fun (W' : World) (hB : Below (wr.alloc (.cells #[.int .i64 xi, .string ⟨xs.toArray⟩] 30)).heap.size (wr.alloc (.cells #[.int .i64 xi, .string ⟨xs.toArray⟩] 30)) W') =>
          (⟨((Blk.new wr 30 #[.int .i64 xi, .string ⟨xs.toArray⟩]).below hB (by simp)).cell 0, ((Blk.new wr 30 #[.int .i64 xi, .string ⟨xs.toArray⟩]).below hB (by simp)).cell 1⟩ :
            W'.cell? ⟨wr.heap.size, 0, none⟩ = some (.int .i64 xi) ∧ W'.cell? ⟨wr.heap.size, 1, none⟩ = some (.string ⟨xs.toArray⟩)))
        have hpb := hpb.below ((Below.refl wr.heap.size wr).alloc (Nat.le_refl _) (.cells #[.int .i64 xi, .string ⟨xs.toArray⟩] 30))
        have hbw1 := hbw.alloc hbw.size (.cells #[.int .i64 xi, .string ⟨xs.toArray⟩] 30)
        have hm0 := hm.out
        have hmb : mm + 18 ≤ 140737488351232 := by omega
        revert hpb HTK
        generalize bkOct (l.take k) = ob
        intro HTK hpb
        have hmo : mm = ob.length := hpb.1
        have HT := Lib.hid (show mm + 18 = ([ob, putL xi 2, xs] : List (List UInt8)).flatten.length by simp [putL_length]; omega)
        have HT2 := Lib.hid (show mm + 18 = (ob ++ (putL xi 2 ++ xs)).length by simp [putL_length]; omega)
        obtain ⟨Ab, cb, rfl⟩ : ∃ Ab cb, u5 = .slice Ab mm cb := by obtain ⟨_, A, c, h, _⟩ := hpb; exact ⟨A, c, h⟩
        clear hx htl hmo hm0 hr hrw
        have HXL := Lib.hid hxl
        clear hxl
        go_wp2_with fail
        clear c0 c1
        refine wp_region_good2 (by kernel_rfl) (by kernel_rfl) [(fun v _ => v = .slice Ab mm cb),
    (fun v _ => v = .pointer (some ⟨wr.heap.size, 0, none⟩)),
    (fun v _ => v = .int .i64 xi),
    (fun v W => PieceIn 2 (putL xi 2) v W),
    (fun v _ => v = .pointer (some ⟨wr.heap.size, 1, none⟩)),
    (fun v _ => v = .string ⟨xs.toArray⟩),
    (fun v W => PieceIn xs.length xs v W),
    (fun v W => Pcs [ob, putL xi 2, xs] 3 v W),
    (fun v W => PieceIn (mm + 18) (ob ++ (putL xi 2 ++ xs)) v W),
    (fun v W => PieceIn (mm + 18) (ob ++ (putL xi 2 ++ xs)) v W)] ?_ ?_ ?_
        · repeat' (first | exact stays_nil | refine stays_cons ?_ ?_ | exact Stays.pure | exact PieceIn.stays _ _ | exact Pcs.stays _ _)
        · intro i oo ho m2 W hb0 hmi hcl hdeps AA KK hA hK
          have hx16 : xs.length ≤ 16 := by have := HXL.out; omega
          rcases i with _ | _ | _ | _ | _ | _ | _ | _ | _ | _ | i
          · injection ho with ho
            subst ho
            have q7 := none_up hcl (j := 7) rfl (e := ⟨0, .data⟩) (by simp) rfl hmi
            have q8 := none_up hcl (j := 8) rfl (e := ⟨7, .data⟩) (by simp) rfl q7
            have q9 := none_up hcl (j := 9) rfl (e := ⟨8, .data⟩) (by simp) rfl q8
            have ef5 : AA.tmps[5]?.getD undef = .slice Ab mm cb := by rw [hA]; exact tmps_pre2 (i := 9) (by kernel_rfl) q9
            clear q7 q8 q9
            clear hA hdeps hcl hmi
            have hK0 : KK (AA.put (some 19) _) _ := hK (.slice Ab mm cb) _ (Below.refl _ _) (Eq.refl _)
            clear hK
            go_simp
            exact hK0
          · injection ho with ho
            subst ho
            have ef7 : AA.tmps[7]?.getD undef = .pointer (some ⟨wr.heap.size, 0, none⟩) := by rw [hA]; exact tmps_free (by kernel_rfl)
            clear hA hdeps hcl hmi
            have hK0 : KK (AA.put (some 20) _) _ := hK (.pointer (some ⟨wr.heap.size, 0, none⟩)) _ (Below.refl _ _) (Eq.refl _)
            clear hK
            go_simp
            exact hK0
          · injection ho with ho
            subst ho
            obtain ⟨x1, hx1, hg1⟩ := hdeps ⟨1, .data⟩ (by simp) rfl
            have hg1 : x1 = .pointer (some ⟨wr.heap.size, 0, none⟩) := hg1
            subst hg1
            have e1 : AA.tmps[20]?.getD undef = .pointer (some ⟨wr.heap.size, 0, none⟩) := by rw [hA]; exact tmps_own (by kernel_rfl) hx1 (of_decide_eq_true (by kernel_rfl))
            clear hA hdeps hcl hmi hx1
            obtain ⟨c0, c1⟩ := hS.out W hb0
            have hK0 : KK (AA.put (some 21) _) _ := hK (.int .i64 xi) _ (Below.refl _ _) (Eq.refl _)
            clear hK
            go_simp
            exact hK0
          · injection ho with ho
            subst ho
            obtain ⟨x2, hx2, hg2⟩ := hdeps ⟨2, .data⟩ (by simp) rfl
            have hg2 : x2 = .int .i64 xi := hg2
            subst hg2
            have e2 : AA.tmps[21]?.getD undef = .int .i64 xi := by rw [hA]; exact tmps_own (by kernel_rfl) hx2 (of_decide_eq_true (by kernel_rfl))
            clear hA hdeps hcl hmi hx2
            have hKK := Lib.hid hK
            clear hK
            go_simp
            refine (put_any xi 2 2 (by decide) _).mono ?_
            rintro e w5 ⟨v, rfl, hown, hbn⟩
            exact hKK.out _ _ hbn (PieceIn.own hown (putL_length _ _).symm)
          · injection ho with ho
            subst ho
            have ef7 : AA.tmps[7]?.getD undef = .pointer (some ⟨wr.heap.size, 0, none⟩) := by rw [hA]; exact tmps_free (by kernel_rfl)
            clear hA hdeps hcl hmi
            have hK0 : KK (AA.put (some 23) _) _ := hK (.pointer (some ⟨wr.heap.size, 1, none⟩)) _ (Below.refl _ _) (Eq.refl _)
            clear hK
            go_simp
            exact hK0
          · injection ho with ho
            subst ho
            obtain ⟨x4, hx4, hg4⟩ := hdeps ⟨4, .data⟩ (by simp) rfl
            have hg4 : x4 = .pointer (some ⟨wr.heap.size, 1, none⟩) := hg4
            subst hg4
            have e4 : AA.tmps[23]?.getD undef = .pointer (some ⟨wr.heap.size, 1, none⟩) := by rw [hA]; exact tmps_own (by kernel_rfl) hx4 (of_decide_eq_true (by kernel_rfl))
            clear hA hdeps hcl hmi hx4
            obtain ⟨c0, c1⟩ := hS.out W hb0
            have hK0 : KK (AA.put (some 24) _) _ := hK (.string ⟨xs.toArray⟩) _ (Below.refl _ _) (Eq.refl _)
            clear hK
            go_simp
            exact hK0
          · injection ho with ho
            subst ho
            obtain ⟨x5, hx5, hg5⟩ := hdeps ⟨5, .data⟩ (by simp) rfl
            have hg5 : x5 = .string ⟨xs.toArray⟩ := hg5
            subst hg5
            have e5 : AA.tmps[24]?.getD undef = .string ⟨xs.toArray⟩ := by rw [hA]; exact tmps_own (by kernel_rfl) hx5 (of_decide_eq_true (by kernel_rfl))
            clear hA hdeps hcl hmi hx5
            have hcv := conv_bytes W xs
            have hK0 : KK (AA.put (some 25) _) _ := hK _ _ (below_bytesWorld W _ _) (PieceIn.conv W xs (by unfold maxLen; omega))
            clear hK
            go_simp
            exact hK0
          · injection ho with ho
            subst ho
            obtain ⟨x0, hx0, hg0⟩ := hdeps ⟨0, .data⟩ (by simp) rfl
            have hg0 : x0 = .slice Ab mm cb := hg0
            subst hg0
            have e0 : AA.tmps[19]?.getD undef = .slice Ab mm cb := by rw [hA]; exact tmps_own (by kernel_rfl) hx0 (of_decide_eq_true (by kernel_rfl))
            obtain ⟨x3, hx3, hg3⟩ := hdeps ⟨3, .data⟩ (by simp) rfl
            have hg3 : PieceIn 2 (putL xi 2) x3 W := hg3
            have hk3 := hg3
            obtain ⟨-, A3, c3, rfl, -, -, -⟩ := hg3
            have e3 : AA.tmps[22]?.getD undef = .slice A3 2 c3 := by rw [hA]; exact tmps_own (by kernel_rfl) hx3 (of_decide_eq_true (by kernel_rfl))
            obtain ⟨x6, hx6, hg6⟩ := hdeps ⟨6, .data⟩ (by simp) rfl
            have hg6 : PieceIn xs.length xs x6 W := hg6
            have hk6 := hg6
            obtain ⟨-, A6, c6, rfl, -, -, -⟩ := hg6
            have e6 : AA.tmps[25]?.getD undef = .slice A6 xs.length c6 := by rw [hA]; exact tmps_own (by kernel_rfl) hx6 (of_decide_eq_true (by kernel_rfl))
            clear hA hdeps hcl hmi hx0 hx3 hx6
            have hkb : PieceIn mm ob (.slice Ab mm cb) W := hpb.below hb0
            have hml : mm = ob.length := hkb.1
            have hK0 : KK (AA.put (some 26) _) _ := hK _ _ ((Below.refl _ _).alloc (Nat.le_refl _) _) (Pcs.new (W := W) (ys := [.slice Ab mm cb, .slice A3 2 c3, .slice A6 xs.length c6]) (ls := [ob, putL xi 2, xs]) rfl ⟨(by rw [← hml]; exact hkb), (by rw [putL_length]; exact hk3), hk6, trivial⟩)
            clear hK hml
            go_simp
            exact hK0
          · injection ho with ho
            subst ho
            obtain ⟨x7, hx7, hg7⟩ := hdeps ⟨7, .data⟩ (by simp) rfl
            have hg7 : Pcs [ob, putL xi 2, xs] 3 x7 W := hg7
            have hk7 := hg7
            obtain ⟨g, ys, rfl, hblk, hyl, hall⟩ := hg7
            have e7 : AA.tmps[26]?.getD undef = .slice (some ⟨g, 0, none⟩) 3 3 := by rw [hA]; exact tmps_own (by kernel_rfl) hx7 (of_decide_eq_true (by kernel_rfl))
            clear hA hdeps hcl hmi hx7
            have hKK := Lib.hid hK
            have hjn := join_pcs hblk hyl hall (HT.out) (by omega) (by omega)
            clear hK
            go_simp
            refine hjn.mono ?_
            rintro e w5 ⟨v, rfl, hown, hbn⟩
            exact hKK.out _ _ hbn (PieceIn.own (by simpa using hown) HT2.out)
          · injection ho with ho
            subst ho
            obtain ⟨x8, hx8, hg8⟩ := hdeps ⟨8, .data⟩ (by simp) rfl
            have hg8 : PieceIn (mm + 18) (ob ++ (putL xi 2 ++ xs)) x8 W := hg8
            have hk8 := hg8
            obtain ⟨-, A8, c8, rfl, -, -, -⟩ := hg8
            have e8 : AA.tmps[27]?.getD undef = .slice A8 (mm + 18) c8 := by rw [hA]; exact tmps_own (by kernel_rfl) hx8 (of_decide_eq_true (by kernel_rfl))
            clear hA hdeps hcl hmi hx8
            have hK0 : KK (AA.put (some 5) _) _ := hK _ _ (Below.refl _ _) hk8
            clear hK
            go_simp
            exact hK0
          · simp at ho
        · intro m W hbx hall
          obtain ⟨x0, m0, g0⟩ := hall 0 (by simp)
          replace g0 : x0 = .slice Ab mm cb := g0
          subst g0
          obtain ⟨x1, m1, g1⟩ := hall 1 (by simp)
          replace g1 : x1 = .pointer (some ⟨wr.heap.size, 0, none⟩) := g1
          subst g1
          obtain ⟨x2, m2, g2⟩ := hall 2 (by simp)
          replace g2 : x2 = .int .i64 xi := g2
          subst g2
          obtain ⟨x3, m3, g3⟩ := hall 3 (by simp)
          replace g3 : PieceIn 2 (putL xi 2) x3 W := g3
          obtain ⟨x4, m4, g4⟩ := hall 4 (by simp)
          replace g4 : x4 = .pointer (some ⟨wr.heap.size, 1, none⟩) := g4
          subst g4
          obtain ⟨x5, m5, g5⟩ := hall 5 (by simp)
          replace g5 : x5 = .string ⟨xs.toArray⟩ := g5
          subst g5
          obtain ⟨x6, m6, g6⟩ := hall 6 (by simp)
          replace g6 : PieceIn xs.length xs x6 W := g6
          obtain ⟨x7, m7, g7⟩ := hall 7 (by simp)
          replace g7 : Pcs [ob, putL xi 2, xs] 3 x7 W := g7
          obtain ⟨x8, m8, g8⟩ := hall 8 (by simp)
          replace g8 : PieceIn (mm + 18) (ob ++ (putL xi 2 ++ xs)) x8 W := g8
          obtain ⟨x9, m9, g9⟩ := hall 9 (by simp)
          replace g9 : PieceIn (mm + 18) (ob ++ (putL xi 2 ++ xs)) x9 W := g9
          rw [frameM_all (by kernel_rfl) [.slice Ab mm cb, .pointer (some ⟨wr.heap.size, 0, none⟩), .int .i64 xi, x3, .pointer (some ⟨wr.heap.size, 1, none⟩), .string ⟨xs.toArray⟩, x6, x7, x8, x9] rfl (fun i hi => by
              rcases i with _ | _ | _ | _ | _ | _ | _ | _ | _ | _ | i
              · exact m0
              · exact m1
              · exact m2
              · exact m3
              · exact m4
              · exact m5
              · exact m6
              · exact m7
              · exact m8
              · exact m9
              · simp at hi; omega)]
          clear hall m0 m1 m2 m3 m4 m5 m6 m7 m8 m9
          simp only [putAll, Act.put, List.setIfInBounds_toArray, List.set_cons_succ, List.set_cons_zero]
          clear g3 g6 g7 g8 hS
          have hbz := hbw1.trans (hbx.mono hbw1.size)
          clear hbx hbw1
          go_wp2_with fail
          go_roundw
          case rel => exact ⟨k + 1, mm + 18, by omega, by go_num, (show _ = _ by have := hm.out; omega), by rw [HTK.out]; exact g9, hbz⟩
          case measure => simp [intOf]; omega
      · obtain rfl : k = n := by omega
        rw [List.take_of_length_le (by rw [HN.out]; exact Nat.le_refl _)] at hpb
        clear hr
        go_wp2_with fail
        go_ret2
        exact HP.out _ _ _ hpb hbw
end Go.Proofs.Ytfknlijbphoceaa
