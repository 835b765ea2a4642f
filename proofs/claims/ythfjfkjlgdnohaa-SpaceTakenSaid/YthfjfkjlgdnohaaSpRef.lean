/-
  The reference's Has, Check, Free; godownplain.Ints; the law's num and alive: by their contracts.
-/
import Derived.Test.YthfjfkjlgdnohaaSpFree
namespace Go.Proofs.Ythfjfkjlgdnohaa
open Go.RowKit Go.Maps

theorem ints_at {w : World} {B n : Nat} {A : Option Addr} {l : List Int} (h : Reads w B 1 A n (ints l)) (hn : n = l.length) {k : Nat} (hk : k < n) :
    ∃ ad, A = some ad ∧ w.cell? (ad.add k) = some (.int .i64 (l[k]'(by omega))) := by
  obtain ⟨ad, u, e, _, hxu, hcell⟩ := h.at_ hk
  have hux : u = .int .i64 (l[k]'(by omega)) := by
    unfold ints at hxu
    rw [List.getElem?_map, List.getElem?_eq_getElem (by omega)] at hxu
    exact (Option.some.inj hxu).symm
  subst hux
  exact ⟨ad, e, hcell⟩
set_option maxRecDepth 100000 in
set_option maxHeartbeats 1000000 in
theorem has_any (l : List Int) (x : Int) (n : Nat) (hnl : n = l.length) (A : Option Addr) (c : Nat) (w : World) (B : Nat) (hr : Reads w B 1 A n (ints l)) (hn : n ≤ 17592186044000) :
    Calls Try.prog 37 #[.slice A n c, .int .i64 x] w fun e w' => e = .returned (.bool (l.contains x)) ∧ w' = w := by
  have HN := Lib.hid hnl
  clear hnl
  go_enter Try.func37, Try.ntmps37
  go_wp2_with fail
  go_loopw [5] (fun i wr => ∃ k : Nat, k ≤ n ∧ i = .int .i64 (k : Int) ∧ Hid (x ∉ l.take k) ∧ wr = w) (fun i _ => n - (intOf i).toNat)
  case atStart => exact ⟨0, Nat.zero_le _, rfl, (show x ∉ _ by simp), rfl⟩
  case round =>
    obtain ⟨k, hk, rfl, hno, rfl⟩ := hrel
    by_cases hlt : k < n
    · have hki : (k : Int) < (n : Int) := by omega
      have hkl : k < l.length := by have := HN.out; omega
      obtain ⟨ad, rfl, hcell⟩ := ints_at hr HN.out hlt
      obtain ⟨y, hy⟩ : ∃ y, y = l[k]'hkl := ⟨_, rfl⟩
      rw [← hy] at hcell
      have htk := List.take_succ_eq_append_getElem hkl
      rw [← hy] at htk
      have HT := Lib.hid htk
      have HM := Lib.hid (show y ∈ l by rw [hy]; exact List.getElem_mem _)
      clear hy htk hr
      by_cases hyx : y = x
      · subst hyx
        have HC : Hid (l.contains y = true) := by show _ = _; rw [List.contains_iff_mem]; exact HM.out
        go_wp2_with fail
        go_ret
        exact ⟨by rw [HC.out]; rfl, rfl⟩
      · have hd : (y == x) = false := by simp [hyx]
        have HY := Lib.hid hyx
        clear hyx
        go_wp2_with fail
        go_roundw
        case rel =>
          refine ⟨k + 1, by omega, by go_num, ?_, trivial⟩
          show x ∉ _
          rw [HT.out, List.mem_append, List.mem_singleton]
          exact fun h => h.elim hno.out (fun e => HY.out e.symm)
        case measure => simp [intOf]; omega
    · have HC : Hid (l.contains x = false) := by
        show _ = _
        rw [← Bool.not_eq_true, List.contains_iff_mem]
        have := hno.out
        rwa [List.take_of_length_le (by have := HN.out; omega)] at this
      clear hr
      go_wp2_with fail
      go_ret
      exact ⟨by rw [HC.out]; rfl, rfl⟩
theorem nodup_take (l : List Int) (k : Nat) (h : k < l.length) (hn : (l.take k).Nodup) : (l.take (k + 1)).Nodup ↔ l[k] ∉ l.take k := by
  rw [List.take_succ_eq_append_getElem h, List.nodup_append]
  constructor
  · rintro ⟨_, _, h3⟩ hm
    exact h3 _ hm _ (by simp) rfl
  · intro h4
    exact ⟨hn, by simp, fun a ha b hb e => h4 (by simp at hb; rw [← hb, ← e]; exact ha)⟩
set_option maxRecDepth 100000 in
set_option maxHeartbeats 1000000 in
theorem refCheck_any (T : Int) (l : List Int) (n : Nat) (hnl : n = l.length) (A : Option Addr) (c : Nat) (hnc : n ≤ c) (w : World) (B : Nat) (hr : Reads w B 1 A n (ints l)) (hn : n ≤ 17592186044000) :
    Calls Try.prog 71 #[.int .i64 T, .slice A n c] w fun e w' => e = .returned (.int .i64 (usedE T l)) ∧ ∃ q, w' = w.drewN q := by
  have HN := Lib.hid hnl
  clear hnl
  by_cases hT : T < 2 ∨ 8192 < T
  · have HE : Hid (usedE T l = 4) := by
      show _ = _
      unfold usedE
      rw [if_pos (.inl hT)]
    clear hr
    go_enter Try.func71, Try.ntmps71
    rcases hT with hT | hT
    · go_wp2_with fail
      go_ret
      exact ⟨by rw [HE.out]; rfl, 0, rfl⟩
    · have hT2 : ¬ T < 2 := by omega
      go_wp2_with fail
      go_ret
      exact ⟨by rw [HE.out]; rfl, 0, rfl⟩
  have hT1 : ¬ T < 2 := by omega
  have hT2 : ¬ 8192 < T := by omega
  have HT := Lib.hid hT
  clear hT
  go_enter Try.func71, Try.ntmps71
  go_wp2_with fail
  go_loopw [5] (fun i wr => ∃ k : Nat, k ≤ n ∧ i = .int .i64 (k : Int) ∧ Hid (∀ x ∈ l.take k, 2 ≤ x ∧ x < T) ∧ wr = w) (fun i _ => n - (intOf i).toNat)
  case atStart => exact ⟨0, Nat.zero_le _, rfl, (show ∀ x ∈ _, _ by simp), rfl⟩
  case round =>
    obtain ⟨k, hk, rfl, hok, hww⟩ := hrel
    have hww := hww.symm
    subst hww
    by_cases hlt : k < n
    · have hki : (k : Int) < (n : Int) := by omega
      have hkl : k < l.length := by have := HN.out; omega
      obtain ⟨ad, rfl, hcell⟩ := ints_at hr HN.out hlt
      obtain ⟨y, hy⟩ : ∃ y, y = l[k]'hkl := ⟨_, rfl⟩
      rw [← hy] at hcell
      have htk := List.take_succ_eq_append_getElem hkl
      rw [← hy] at htk
      have HTK := Lib.hid htk
      have HM := Lib.hid (show y ∈ l by rw [hy]; exact List.getElem_mem _)
      clear hy htk hr
      by_cases hyx : y < 2 ∨ T ≤ y
      · have HE : Hid (usedE T l = 4) := by
          show _ = _
          unfold usedE
          rw [if_pos (.inr (List.any_eq_true.2 ⟨y, HM.out, decide_eq_true hyx⟩))]
        rcases hyx with h | h
        · go_wp2_with fail
          go_ret
          exact ⟨by rw [HE.out]; rfl, 0, rfl⟩
        · have h2 : ¬ y < 2 := by omega
          go_wp2_with fail
          go_ret
          exact ⟨by rw [HE.out]; rfl, 0, rfl⟩
      · have h1 : ¬ y < 2 := by omega
        have h2 : ¬ T ≤ y := by omega
        clear hyx
        go_wp2_with fail
        go_roundw
        case rel =>
          refine ⟨k + 1, by omega, by go_num, ?_, trivial⟩
          show ∀ x ∈ _, _
          intro x hx
          rw [HTK.out, List.mem_append, List.mem_singleton] at hx
          rcases hx with hx | rfl
          · exact hok.out x hx
          · omega
        case measure => simp [intOf]; omega
    · have HA : Hid (usedE T l = if l.Nodup then 0 else 6) := by
        show _ = _
        unfold usedE
        rw [if_neg]
        rw [not_or]
        refine ⟨HT.out, ?_⟩
        rw [List.any_eq_true]
        rintro ⟨x, hx, hd⟩
        have h1 := of_decide_eq_true hd
        have h2 := hok.out
        rw [List.take_of_length_le (by have := HN.out; omega)] at h2
        have := h2 x hx
        omega
      clear hok
      go_wp2_with fail
      go_loopw [6] (fun i wr => ∃ k : Nat, k ≤ n ∧ i = .int .i64 (k : Int) ∧ Hid ((l.take k).Nodup) ∧ ∃ q, wr = w.drewN q) (fun i _ => n - (intOf i).toNat)
      case atStart => exact ⟨0, Nat.zero_le _, rfl, (show (l.take 0).Nodup by simp), 0, rfl⟩
      case round =>
        obtain ⟨k, hk, rfl, hnd, q, rfl⟩ := hrel
        by_cases hlt : k < n
        · have hki : (k : Int) < (n : Int) := by omega
          have hkc : (k : Int) ≤ (c : Int) := by omega
          have hkl : k < l.length := by have := HN.out; omega
          obtain ⟨ad, rfl, hcell⟩ := ints_at hr HN.out hlt
          obtain ⟨y, hy⟩ : ∃ y, y = l[k]'hkl := ⟨_, rfl⟩
          have hnt := nodup_take l k hkl hnd.out
          rw [← hy] at hcell hnt
          have hpre : ∀ q', Reads (w.drewN q') B 1 (some ad) k (ints (l.take k)) := fun q' => by
            have := hr.pre (k := k) (by omega)
            rw [Nat.mul_one, ← ints_take] at this
            exact this
          have hc := fun m => (has_any (l.take k) y k (by rw [List.length_take]; omega) (some ad) c (w.drewN (q + m)) B (hpre _) (by omega)).mono (R' := fun e w'' => e = .returned (.bool ((l.take k).contains y)) ∧ ∃ n, w'' = w.drewN (q + n)) (fun _ _ ⟨h1, h2⟩ => ⟨h1, m, h2⟩)
          obtain ⟨b, hb⟩ : ∃ b, b = (l.take k).contains y := ⟨_, rfl⟩
          rw [← hb] at hc
          have HNT := Lib.hid hnt
          have HB := Lib.hid hb
          clear hy hr hpre hnt hb
          go_wp2_with fail
          go_quiet ((go_at_call 37; exact hc _))
          cases b with
          | true =>
            have hE : Hid (usedE T l = 6) := by
              show _ = _
              rw [HA.out, if_neg]
              intro h
              have h1 := HNT.out.1 (h.sublist (List.take_sublist _ _))
              exact h1 (List.contains_iff_mem.1 HB.out.symm)
            clear hc
            go_wp2_with fail
            go_ret
            exact ⟨by rw [hE.out]; rfl, q + nq, by first | rfl | rw [World.drewN_drewN]⟩
          | false =>
            clear hc
            go_wp2_with fail
            go_roundw
            case rel =>
              refine ⟨k + 1, by omega, by go_num, ?_, q + nq, by first | rfl | rw [World.drewN_drewN]⟩
              show List.Nodup _
              refine HNT.out.2 (fun h => ?_)
              have := List.contains_iff_mem.2 h
              rw [← HB.out] at this
              cases this
            case measure => simp [intOf]; omega
        · have hE : Hid (usedE T l = 0) := by
            show _ = _
            have := hnd.out
            rw [List.take_of_length_le (by have := HN.out; omega)] at this
            rw [HA.out, if_pos this]
          clear hr
          go_wp2_with fail
          go_ret
          exact ⟨by rw [hE.out]; rfl, q, rfl⟩
set_option maxRecDepth 100000 in
theorem num07_any (x : Int) (w : World) : Calls Try.prog 33 #[.int .i64 x] w fun e w' => e = .returned (.int .i64 x) ∧ w' = w := by
  go_enter Try.func33, Try.ntmps33
  go_wp2_with fail
  go_ret
  exact ⟨rfl, rfl⟩
set_option maxRecDepth 100000 in
set_option maxHeartbeats 1000000 in
theorem intsSame_any (a b : List Int) (n m : Nat) (hna : n = a.length) (hmb : m = b.length) (A1 A2 : Option Addr) (c1 c2 : Nat) (w : World) (B1 B2 : Nat) (hr1 : Reads w B1 1 A1 n (ints a)) (hr2 : Reads w B2 1 A2 m (ints b)) (hn : n ≤ 17592186044000) (hm : m ≤ 17592186044000) :
    Calls Try.prog 32 #[.slice A1 n c1, .slice A2 m c2] w fun e w' => e = .returned (.bool (decide (a = b))) ∧ ∃ q, w' = w.drewN q := by
  have HN := Lib.hid hna
  have HM := Lib.hid hmb
  clear hna hmb
  by_cases hnm : n = m
  · subst hnm
    go_enter Try.func32, Try.ntmps32
    go_wp2_with fail
    go_loopw [5] (fun i wr => ∃ k : Nat, k ≤ n ∧ i = .int .i64 (k : Int) ∧ Hid (a.take k = b.take k) ∧ ∃ q, wr = w.drewN q) (fun i _ => n - (intOf i).toNat)
    case atStart => exact ⟨0, Nat.zero_le _, rfl, (show a.take 0 = b.take 0 by simp), 0, rfl⟩
    case round =>
      obtain ⟨k, hk, rfl, hok, q, rfl⟩ := hrel
      by_cases hlt : k < n
      · have hki : (k : Int) < (n : Int) := by omega
        have hka : k < a.length := by have := HN.out; omega
        have hkb : k < b.length := by have := HM.out; omega
        obtain ⟨ad1, rfl, hc1⟩ := ints_at hr1 HN.out hlt
        obtain ⟨ad2, rfl, hc2⟩ := ints_at hr2 HM.out hlt
        obtain ⟨x, hx⟩ : ∃ x, x = a[k]'hka := ⟨_, rfl⟩
        obtain ⟨y, hy⟩ : ∃ y, y = b[k]'hkb := ⟨_, rfl⟩
        rw [← hx] at hc1
        rw [← hy] at hc2
        have t1 := List.take_succ_eq_append_getElem hka
        have t2 := List.take_succ_eq_append_getElem hkb
        rw [← hx] at t1
        rw [← hy] at t2
        have T1 := Lib.hid t1
        have T2 := Lib.hid t2
        have X1 := Lib.hid hx
        have X2 := Lib.hid hy
        clear hx hy t1 t2 hr1 hr2
        by_cases hxy : x = y
        · have hd : (x != y) = false := by simp [hxy]
          have HXY := Lib.hid hxy
          clear hxy
          go_wp2_with fail
          go_region
          go_wp2_with fail
          go_roundw
          case rel =>
            refine ⟨k + 1, by omega, by go_num, ?_, q + 1, rfl⟩
            show a.take (k + 1) = b.take (k + 1)
            rw [T1.out, T2.out, hok.out, HXY.out]
          case measure => simp [intOf]; omega
        · have hd : (x != y) = true := by simp [hxy]
          have HD : Hid (decide (a = b) = false) := by
            show _ = _
            refine decide_eq_false (fun e => hxy ?_)
            rw [X1.out, X2.out]
            simp only [e]
          clear hxy
          go_wp2_with fail
          go_region
          go_wp2_with fail
          go_ret
          exact ⟨by rw [HD.out]; rfl, q + 1, rfl⟩
      · have HD : Hid (decide (a = b) = true) := by
          show _ = _
          refine decide_eq_true ?_
          have := hok.out
          rwa [List.take_of_length_le (by have := HN.out; omega), List.take_of_length_le (by have := HM.out; omega)] at this
        clear hr1 hr2
        go_wp2_with fail
        go_ret
        exact ⟨by rw [HD.out]; rfl, q, rfl⟩
  · have hd : ((n : Int) != (m : Int)) = true := by simp; omega
    have HD : Hid (decide (a = b) = false) := by
      show _ = _
      refine decide_eq_false (fun e => hnm ?_)
      rw [HN.out, HM.out, e]
    clear hnm hr1 hr2
    go_enter Try.func32, Try.ntmps32
    go_wp2_with fail
    go_ret
    exact ⟨by rw [HD.out]; rfl, 0, rfl⟩
end Go.Proofs.Ythfjfkjlgdnohaa
