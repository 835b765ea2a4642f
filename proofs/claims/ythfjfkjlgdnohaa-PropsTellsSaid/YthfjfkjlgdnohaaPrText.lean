/-
  props.Text; the reference's Prop; godownplain.Texts: by their contracts.
-/
import Derived.Test.YthfjfkjlgdnohaaPrForce
namespace Go.Proofs.Ythfjfkjlgdnohaa
open Go.RowKit

def scells (l : List BS) : List Value := l.map strV
theorem scells_length (l : List BS) : (scells l).length = l.length := by simp [scells]
theorem scells_append (a b : List BS) : scells (a ++ b) = scells a ++ scells b := by simp [scells]
theorem scells_one (l : List BS) : ∀ u ∈ scells l, u.oneCell' = true := by
  intro u hu
  obtain ⟨z, _, rfl⟩ := List.mem_map.1 hu
  rfl
theorem strs_at {w : World} {B n : Nat} {A : Option Addr} {l : List BS} (h : Reads w B 1 A n (scells l)) (hn : n = l.length) {k : Nat} (hk : k < n) :
    ∃ ad, A = some ad ∧ ad.block < B ∧ w.cell? (ad.add k) = some (strV (l[k]'(by omega))) := by
  obtain ⟨ad, u, e, hB, hxu, hcell⟩ := h.at_ hk
  have hux : u = strV (l[k]'(by omega)) := by
    unfold scells at hxu
    rw [List.getElem?_map, List.getElem?_eq_getElem (by omega)] at hxu
    exact (Option.some.inj hxu).symm
  subst hux
  exact ⟨ad, e, hB, hcell⟩
theorem Try.infoS : (Try.prog.info? 9).map (fun i => (i.zero, i.size, i.bytes)) = some (some (.string ByteArray.empty), 1, 16) := by kernel_rfl
theorem scells_pcells (l : PL) : pcells l = scells (ptexts l) := by
  induction l with
  | nil => rfl
  | cons x l ih =>
    show [strV x.1, strV x.2] ++ pcells l = scells ([x.1, x.2] ++ ptexts l)
    rw [ih, scells_append]
    rfl
set_option maxRecDepth 100000 in
set_option maxHeartbeats 1000000 in
theorem text_any (l : PL) (n : Nat) (hnl : n = l.length) (A : Option Addr) (c : Nat) (w : World) (B : Nat) (hr : Reads w B 2 A n (pcells l)) (hB : B ≤ w.heap.size) (hn : n ≤ 4398046511104) :
    Calls Try.prog 40 #[.slice A n c] w fun e w' => ∃ v, e = .returned v ∧ w'.ownsRow w.heap.size 9 1 v (2 * n) (scells (ptexts l)) ∧ Below w.heap.size w w' := by
  obtain ⟨i0, hi0, hz0, hz1, hz2⟩ := info_parts Try.infoS
  have HN := Lib.hid hnl
  rw [← scells_pcells]
  clear hnl
  go_enter Try.func40, Try.ntmps40
  go_wp2_with fail
  go_loopw [3, 8] (fun o i wr => ∃ (k : Nat) (A1 : Option Addr) (c1 : Nat), k ≤ n ∧ i = .int .i64 (k : Int) ∧ o = .slice A1 (2 * k) c1 ∧ wr.ownsRow w.heap.size 9 1 (.slice A1 (2 * k) c1) (2 * k) (pcells (l.take k)) ∧ Below w.heap.size w wr) (fun _ i _ => n - (intOf i).toNat)
  case atStart => exact ⟨0, none, 0, Nat.zero_le _, rfl, rfl, ⟨rfl, .inl ⟨rfl, rfl⟩⟩, Below.refl _ _⟩
  case round =>
    obtain ⟨k, A1, c1, hk, rfl, rfl, hown, hbw⟩ := hrel
    by_cases hlt : k < n
    · have hki : (k : Int) < (n : Int) := by omega
      have hkl : k < l.length := by have := HN.out; omega
      obtain ⟨ad, rfl, hadB, d0, d1⟩ := (hr.below (hbw.mono hB)).prop HN.out hlt
      obtain ⟨x, hx⟩ : ∃ x, x = l[k]'hkl := ⟨_, rfl⟩
      have htk := List.take_succ_eq_append_getElem hkl
      rw [← hx] at d0 d1 htk
      obtain ⟨xn, xv⟩ := x
      simp only [strV] at d0 d1
      have HT : Hid (pcells (l.take (k + 1)) = pcells (l.take k) ++ [.string ⟨xn.toArray⟩, .string ⟨xv.toArray⟩]) := by show _ = _; rw [htk, pcells_append]; rfl
      have hown2 := hown.alloc (.cells #[.string ⟨xn.toArray⟩, .string ⟨xv.toArray⟩] 99)
      have hbw2 := hbw.alloc hbw.size (.cells #[.string ⟨xn.toArray⟩, .string ⟨xv.toArray⟩] 99)
      have hsz2 := hbw2.size
      clear hx htk hr hown hbw
      go_wp2_with (at_builtin; (refine wpList_push _ rfl (.tmp 12) (.tmp 17) 69 rfl w.heap.size 9 i0 (.string ByteArray.empty) 1 16 Try.underlying69 hi0 hz0 hz1 hz2 rfl (by decide) (.slice A1 (2 * k) c1) (2 * k) (pcells (l.take k)) rfl hown2 2 #[.string ⟨xn.toArray⟩, .string ⟨xv.toArray⟩] 9 (by simp [Act.eval]) rfl (by simp [Value.oneCell']) (by unfold maxLen; omega) (by omega) hsz2 ?_); intro v4 w4 hown4 hb4 _)
      obtain ⟨A4, c4, rfl, _, _, _⟩ := own_form hown4
      have hb5 := hbw2.trans hb4
      have HO : Hid (w4.ownsRow w.heap.size 9 1 (.slice A4 (2 * (k + 1)) c4) (2 * (k + 1)) (pcells (l.take (k + 1)))) := by show World.ownsRow _ _ _ _ _ _ _; rw [HT.out]; exact hown4
      clear hown2 hown4 hbw2 hb4 d0 d1
      go_wp2_with fail
      go_roundw
      case rel => exact ⟨k + 1, A4, c4, by omega, by go_num, rfl, HO.out, hb5⟩
      case measure => simp [intOf]; omega
    · have hkn : k = n := by omega
      have HO : Hid (wr.ownsRow w.heap.size 9 1 (.slice A1 (2 * k) c1) (2 * n) (pcells l)) := by
        show World.ownsRow _ _ _ _ _ _ _
        rw [List.take_of_length_le (by have := HN.out; omega)] at hown
        rw [← hkn]
        exact hown
      clear hr hown hkn
      go_wp2_with fail
      go_ret
      exact ⟨_, rfl, HO.out, hbw⟩
set_option maxRecDepth 100000 in
set_option maxHeartbeats 1000000 in
theorem texts_any (a b : List BS) (n m : Nat) (hna : n = a.length) (hmb : m = b.length) (A1 A2 : Option Addr) (c1 c2 : Nat) (w : World) (B1 B2 : Nat) (hr1 : Reads w B1 1 A1 n (scells a)) (hr2 : Reads w B2 1 A2 m (scells b)) (hn : n ≤ 8796093022208) (hm : m ≤ 8796093022208) :
    Calls Try.prog 42 #[.slice A1 n c1, .slice A2 m c2] w fun e w' => e = .returned (.bool (decide (a = b))) ∧ ∃ q, w' = w.drewN q := by
  have HN := Lib.hid hna
  have HM := Lib.hid hmb
  clear hna hmb
  by_cases hnm : n = m
  · subst hnm
    go_enter Try.func42, Try.ntmps42
    go_wp2_with fail
    go_loopw [5] (fun i wr => ∃ k : Nat, k ≤ n ∧ i = .int .i64 (k : Int) ∧ Hid (a.take k = b.take k) ∧ ∃ q, wr = w.drewN q) (fun i _ => n - (intOf i).toNat)
    case atStart => exact ⟨0, Nat.zero_le _, rfl, (show a.take 0 = b.take 0 by simp), 0, rfl⟩
    case round =>
      obtain ⟨k, hk, rfl, hok, q, rfl⟩ := hrel
      by_cases hlt : k < n
      · have hki : (k : Int) < (n : Int) := by omega
        have hka : k < a.length := by have := HN.out; omega
        have hkb : k < b.length := by have := HM.out; omega
        obtain ⟨ad1, rfl, _, hc1⟩ := strs_at hr1 HN.out hlt
        obtain ⟨ad2, rfl, _, hc2⟩ := strs_at hr2 HM.out hlt
        obtain ⟨x, hx⟩ : ∃ x, x = a[k]'hka := ⟨_, rfl⟩
        obtain ⟨y, hy⟩ : ∃ y, y = b[k]'hkb := ⟨_, rfl⟩
        rw [← hx] at hc1
        rw [← hy] at hc2
        have t1 := List.take_succ_eq_append_getElem hka
        have t2 := List.take_succ_eq_append_getElem hkb
        rw [← hx] at t1
        rw [← hy] at t2
        have T1 := Lib.hid t1
        have T2 := Lib.hid t2
        have X1 := Lib.hid hx
        have X2 := Lib.hid hy
        simp only [strV] at hc1 hc2
        clear hx hy t1 t2 hr1 hr2
        by_cases hxy : x = y
        · subst hxy
          go_wp2_with fail
          go_region
          go_wp2_with fail
          go_roundw
          case rel =>
            refine ⟨k + 1, by omega, by go_num, ?_, q + 1, rfl⟩
            show a.take (k + 1) = b.take (k + 1)
            rw [T1.out, T2.out, hok.out]
          case measure => simp [intOf]; omega
        · have hd : (x != y) = true := by simp [hxy]
          have hd2 : (x == y) = false := by simp [hxy]
          have HD : Hid (decide (a = b) = false) := by
            show _ = _
            refine decide_eq_false (fun e => hxy ?_)
            rw [X1.out, X2.out]
            simp only [e]
          go_wp2_with fail
          go_region
          go_wp2_with fail
          go_ret
          exact ⟨by rw [HD.out]; rfl, q + 1, rfl⟩
      · have HD : Hid (decide (a = b) = true) := by
          show _ = _
          refine decide_eq_true ?_
          have := hok.out
          rwa [List.take_of_length_le (by have := HN.out; omega), List.take_of_length_le (by have := HM.out; omega)] at this
        clear hr1 hr2
        go_wp2_with fail
        go_ret
        exact ⟨by rw [HD.out]; rfl, q, rfl⟩
  · have hd : ((n : Int) != (m : Int)) = true := by simp; omega
    have HD : Hid (decide (a = b) = false) := by
      show _ = _
      refine decide_eq_false (fun e => hnm ?_)
      rw [HN.out, HM.out, e]
    clear hnm hr1 hr2
    go_enter Try.func42, Try.ntmps42
    go_wp2_with fail
    go_ret
    exact ⟨by rw [HD.out]; rfl, 0, rfl⟩
end Go.Proofs.Ythfjfkjlgdnohaa
