/-
  The page's Had, At, Count, Place, path and SameSession of sessions, by their contracts.
-/
import Derived.Test.YtcoaaljgaooeoaaDoorSeIdx
import Derived.Test.YtcoaaljgaooeoaaDoorRfPth
import Derived.Test.YtcoaaljgaooeoaaDoorStr
namespace Go.Proofs.YtcoaaljgaooeoaaDoor
open Go.RowKit

set_option maxRecDepth 100000 in
theorem rpath26_any (s : BS) (w : World) (hs : s.length ≤ 4000000000) :
    Calls Tryd.prog 41 #[.string ⟨s.toArray⟩] w fun e w' => e = .returned (.bool (sePath s)) ∧ Below w.heap.size w w' := by
  by_cases h0 : s = []
  · subst h0
    go_enter Tryd.func41, Tryd.ntmps41
    go_wp2_with fail
    go_ret
    exact ⟨rfl, Below.refl _ _⟩
  · have h1 : (s == []) = false := by simpa using h0
    have h2 : s.isEmpty = false := by cases s <;> simp_all
    have HV : Hid (sePath s = pathB s) := by show _ = _; unfold sePath; rw [h2]; rfl
    obtain ⟨b, hb⟩ : ∃ b, b = pathB s := ⟨_, rfl⟩
    have hc : Calls Tryd.prog 54 #[.string ⟨s.toArray⟩] w fun e W' => e = .returned (.bool (pathB s)) ∧ Below w.heap.size w W' := refPath_any ⟨s.toArray⟩ w (by show s.length ≤ _; exact hs)
    rw [← hb] at hc HV
    clear hb
    go_enter Tryd.func41, Tryd.ntmps41
    go_wp2_with fail
    refine hc.mono ?_
    rintro e w1 ⟨rfl, hb1⟩
    cases b <;> (go_wp2_with fail; go_ret; exact ⟨by rw [HV.out]; rfl, hb1⟩)
set_option maxRecDepth 100000 in
set_option maxHeartbeats 1000000 in
theorem rhad_any (t : TabR) (x : BS) (w : World) (B : Nat) (hr : t.rd w B) (hB : B ≤ w.heap.size) (hz : t.sz) :
    Calls Tryd.prog 44 #[t.val, .string ⟨x.toArray⟩] w fun e w' => e = .returned (.int .i64 (seHad t.con.had x)) ∧ Below w.heap.size w w' := by
  obtain ⟨⟨oA, on, oc, ol⟩, ⟨dA, dn, dc, dl⟩⟩ := t
  have HN := Lib.hid (show dn = dl.length from hr.had.1)
  have hsz : dn ≤ 1000000000 := hz.had
  have hrh : Reads w B 2 dA dn (cellsK (fun x : HadT => [.string ⟨x.1.toArray⟩, .int .i64 x.2]) dl) := hr.had.2.2
  show Calls Tryd.prog 44 #[.agg #[.slice oA on oc, .slice dA dn dc], .string ⟨x.toArray⟩] w fun e w' => e = .returned (.int .i64 (seHad (⟨ol.map SesR.con, dl⟩ : TabC).had x)) ∧ _
  have hb1 := (Below.refl w.heap.size w).alloc (Nat.le_refl _) (.cells #[.slice oA on oc, .slice dA dn dc] 25)
  have kT := Blk.new w 25 #[.slice oA on oc, .slice dA dn dc]
  obtain ⟨W1, hW1⟩ : ∃ W, W = w.alloc (.cells #[.slice oA on oc, .slice dA dn dc] 25) := ⟨_, rfl⟩
  have hsz1 : W1.heap.size = w.heap.size + 1 := by rw [hW1]; simp
  rw [← hW1] at hb1 kT
  have hT := Lib.hid (fun (W' : World) (hB' : Below W1.heap.size W1 W') => (⟨(kT.below hB' (by omega)).cell 0, (kT.below hB' (by omega)).cell 1⟩ : W'.cell? ⟨w.heap.size, 0, none⟩ = some (.slice oA on oc) ∧ W'.cell? ⟨w.heap.size, 1, none⟩ = some (.slice dA dn dc)))
  have HB1 := Lib.hid hb1
  have hrk : Reads W1 B 2 dA dn (cellsK (fun x : HadT => [.string ⟨x.1.toArray⟩, .int .i64 x.2]) dl) := hrh.below (hb1.mono hB)
  obtain ⟨V, hV⟩ : ∃ V, V = seHad (⟨ol.map SesR.con, dl⟩ : TabC).had x := ⟨_, rfl⟩
  rw [← hV]
  have HV := Lib.hid hV
  obtain ⟨c0, c1⟩ := hT.out _ (Below.refl _ _)
  clear hb1 kT hr hz hsz1 hrh hV
  go_enter Tryd.func44, Tryd.ntmps44
  go_wp2_with fail
  rw [← hW1]
  clear hW1
  go_loopw [5] (fun i wr => ∃ k : Nat, k ≤ dn ∧ i = .int .i64 (k : Int) ∧ Hid (V = seHad (dl.drop k) x) ∧ wr = W1) (fun i _ => dn - (intOf i).toNat)
  case atStart => exact ⟨0, Nat.zero_le _, rfl, HV.out, rfl⟩
  case round =>
    obtain ⟨k, hk, rfl, hno, hwr⟩ := hrel
    subst hwr
    by_cases hlt : k < dn
    · have hki : (k : Int) < (dn : Int) := by omega
      have hkl : k < dl.length := by have := HN.out; omega
      obtain ⟨ad, rfl, hadB, q0, q1⟩ := hrk.el2 HN.out hlt
      have hst := seHad_drop (t := x) hkl
      obtain ⟨y, hy⟩ : ∃ y, y = dl[k]'hkl := ⟨_, rfl⟩
      rw [← hy] at q0 q1 hst
      obtain ⟨yn, yc⟩ := y
      simp only at q0 q1 hst
      have HST := Lib.hid hst
      clear hy hst hrk
      by_cases hxn : yn = x
      · have hd : (yn == x) = true := by simp [hxn]
        have HVV : Hid (V = yc) := by show _ = _; rw [hno.out, HST.out, if_pos hxn]
        clear hxn
        go_wp2_with fail
        go_ret
        exact ⟨by rw [HVV.out]; rfl, HB1.out⟩
      · have hd : (yn == x) = false := by simp [hxn]
        have HVV : Hid (V = seHad (dl.drop (k + 1)) x) := by show _ = _; rw [hno.out, HST.out, if_neg hxn]
        clear hxn
        go_wp2_with fail
        go_roundw
        case rel => exact ⟨k + 1, by omega, by go_num, HVV, by trivial⟩
        case measure => simp [intOf]; omega
    · have hke : k = dn := by omega
      have HVV : Hid (V = 0) := by show _ = _; rw [hno.out, List.drop_eq_nil_of_le (by have := HN.out; omega)]; rfl
      have hnl : ¬ (k : Int) < (dn : Int) := by omega
      go_wp2_with fail
      go_ret
      exact ⟨by rw [HVV.out]; rfl, HB1.out⟩
set_option maxRecDepth 100000 in
set_option maxHeartbeats 1000000 in
theorem rat_any (t : TabR) (x z : BS) (w : World) (B : Nat) (hr : t.rd w B) (hB : B ≤ w.heap.size) (hz : t.sz) :
    Calls Tryd.prog 42 #[t.val, .string ⟨x.toArray⟩, .string ⟨z.toArray⟩] w fun e w' => e = .returned (.int .i64 (seAt t.con.opn x z)) ∧ Below w.heap.size w w' := by
  obtain ⟨⟨oA, on, oc, ol⟩, ⟨dA, dn, dc, dl⟩⟩ := t
  have HN := Lib.hid (show on = ol.length from hr.opn.1)
  have hsz : on ≤ 1000000000 := hz.opn
  have hrh : Reads w B 5 oA on (cellsK encSes ol) := hr.opn.2.2
  show Calls Tryd.prog 42 #[.agg #[.slice oA on oc, .slice dA dn dc], .string ⟨x.toArray⟩, .string ⟨z.toArray⟩] w fun e w' => e = .returned (.int .i64 (seAt (⟨ol.map SesR.con, dl⟩ : TabC).opn x z)) ∧ _
  have hb1 := (Below.refl w.heap.size w).alloc (Nat.le_refl _) (.cells #[.slice oA on oc, .slice dA dn dc] 25)
  have kT := Blk.new w 25 #[.slice oA on oc, .slice dA dn dc]
  obtain ⟨W1, hW1⟩ : ∃ W, W = w.alloc (.cells #[.slice oA on oc, .slice dA dn dc] 25) := ⟨_, rfl⟩
  have hsz1 : W1.heap.size = w.heap.size + 1 := by rw [hW1]; simp
  rw [← hW1] at hb1 kT
  have hT := Lib.hid (fun (W' : World) (hB' : Below W1.heap.size W1 W') => (⟨(kT.below hB' (by omega)).cell 0, (kT.below hB' (by omega)).cell 1⟩ : W'.cell? ⟨w.heap.size, 0, none⟩ = some (.slice oA on oc) ∧ W'.cell? ⟨w.heap.size, 1, none⟩ = some (.slice dA dn dc)))
  have HB1 := Lib.hid hb1
  have hrk : Reads W1 B 5 oA on (cellsK encSes ol) := hrh.below (hb1.mono hB)
  obtain ⟨V, hV⟩ : ∃ V, V = seAt (⟨ol.map SesR.con, dl⟩ : TabC).opn x z := ⟨_, rfl⟩
  rw [← hV]
  have HV := Lib.hid hV
  obtain ⟨c0, c1⟩ := hT.out _ (Below.refl _ _)
  clear hb1 kT hr hz hsz1 hrh hV
  go_enter Tryd.func42, Tryd.ntmps42
  go_wp2_with fail
  rw [← hW1]
  clear hW1
  go_loopw [7] (fun i wr => ∃ k : Nat, k ≤ on ∧ i = .int .i64 (k : Int) ∧ Hid (V = seAt ((ol.map SesR.con).drop k) x z) ∧ wr = W1) (fun i _ => on - (intOf i).toNat)
  case atStart => exact ⟨0, Nat.zero_le _, rfl, HV.out, rfl⟩
  case round =>
    obtain ⟨k, hk, rfl, hno, hwr⟩ := hrel
    subst hwr
    by_cases hlt : k < on
    · have hki : (k : Int) < (on : Int) := by omega
      have hkl : k < ol.length := by have := HN.out; omega
      obtain ⟨ad, rfl, hadB, q0, q1, q2, q3, q4⟩ := ses_at hrk HN.out hlt
      have hst := seAt_drop (l := ol.map SesR.con) (t := x) (i := z) (k := k) (by simpa using hkl)
      rw [List.getElem_map] at hst
      obtain ⟨y, hy⟩ : ∃ y, y = ol[k]'hkl := ⟨_, rfl⟩
      rw [← hy] at q0 q1 q2 q3 q4 hst
      obtain ⟨yt, yh, yi, ⟨yA, yn, yc, yl⟩, yb⟩ := y
      simp only [SesR.con] at q0 q1 q2 q3 q4 hst
      have HST := Lib.hid hst
      clear hy hst hrk
      by_cases hx1 : yt = x
      · have hd1 : (yt == x) = true := by simp [hx1]
        by_cases hx2 : yi = z
        · have hd2 : (yi == z) = true := by simp [hx2]
          have HVV : Hid (V = yh) := by show _ = _; exact hno.out.trans (HST.out.1 ⟨hx1, hx2⟩)
          clear hx1 hx2
          go_wp2_with fail
          go_ret
          exact ⟨by rw [HVV.out]; rfl, HB1.out⟩
        · have hd2 : (yi == z) = false := by simp [hx2]
          have HVV : Hid (V = seAt ((ol.map SesR.con).drop (k + 1)) x z) := by show _ = _; exact hno.out.trans (HST.out.2 (fun e => hx2 e.2))
          clear hx1 hx2
          go_wp2_with fail
          go_roundw
          case rel => exact ⟨k + 1, by omega, by go_num, HVV, by trivial⟩
          case measure => simp [intOf]; omega
      · have hd1 : (yt == x) = false := by simp [hx1]
        have HVV : Hid (V = seAt ((ol.map SesR.con).drop (k + 1)) x z) := by show _ = _; exact hno.out.trans (HST.out.2 (fun e => hx1 e.1))
        clear hx1
        go_wp2_with fail
        go_roundw
        case rel => exact ⟨k + 1, by omega, by go_num, HVV, by trivial⟩
        case measure => simp [intOf]; omega
    · have hke : k = on := by omega
      have HVV : Hid (V = 0) := by show _ = _; rw [hno.out, List.drop_eq_nil_of_le (by have := HN.out; simp; omega)]; rfl
      have hnl : ¬ (k : Int) < (on : Int) := by omega
      go_wp2_with fail
      go_ret
      exact ⟨by rw [HVV.out]; rfl, HB1.out⟩
set_option maxRecDepth 100000 in
set_option maxHeartbeats 1000000 in
theorem rcount_any (t : TabR) (x : BS) (w : World) (B : Nat) (hr : t.rd w B) (hB : B ≤ w.heap.size) (hz : t.sz) :
    Calls Tryd.prog 43 #[t.val, .string ⟨x.toArray⟩] w fun e w' => e = .returned (.int .i64 (((seOf t.con.opn x).length : Int))) ∧ Below w.heap.size w w' := by
  obtain ⟨⟨oA, on, oc, ol⟩, ⟨dA, dn, dc, dl⟩⟩ := t
  have HN := Lib.hid (show on = ol.length from hr.opn.1)
  have hsz : on ≤ 1000000000 := hz.opn
  have hrh : Reads w B 5 oA on (cellsK encSes ol) := hr.opn.2.2
  show Calls Tryd.prog 43 #[.agg #[.slice oA on oc, .slice dA dn dc], .string ⟨x.toArray⟩] w fun e w' => e = .returned (.int .i64 (((seOf (⟨ol.map SesR.con, dl⟩ : TabC).opn x).length : Int))) ∧ _
  have hb1 := (Below.refl w.heap.size w).alloc (Nat.le_refl _) (.cells #[.slice oA on oc, .slice dA dn dc] 25)
  have kT := Blk.new w 25 #[.slice oA on oc, .slice dA dn dc]
  obtain ⟨W1, hW1⟩ : ∃ W, W = w.alloc (.cells #[.slice oA on oc, .slice dA dn dc] 25) := ⟨_, rfl⟩
  have hsz1 : W1.heap.size = w.heap.size + 1 := by rw [hW1]; simp
  rw [← hW1] at hb1 kT
  have hT := Lib.hid (fun (W' : World) (hB' : Below W1.heap.size W1 W') => (⟨(kT.below hB' (by omega)).cell 0, (kT.below hB' (by omega)).cell 1⟩ : W'.cell? ⟨w.heap.size, 0, none⟩ = some (.slice oA on oc) ∧ W'.cell? ⟨w.heap.size, 1, none⟩ = some (.slice dA dn dc)))
  have HB1 := Lib.hid hb1
  have hrk : Reads W1 B 5 oA on (cellsK encSes ol) := hrh.below (hb1.mono hB)
  obtain ⟨V, hV⟩ : ∃ V, V = ((seOf (⟨ol.map SesR.con, dl⟩ : TabC).opn x).length : Int) := ⟨_, rfl⟩
  rw [← hV]
  have HV := Lib.hid hV
  obtain ⟨c0, c1⟩ := hT.out _ (Below.refl _ _)
  clear hb1 kT hr hz hsz1 hrh hV
  go_enter Tryd.func43, Tryd.ntmps43
  go_wp2_with fail
  rw [← hW1]
  clear hW1
  go_loopw [5, 6] (fun c i wr => ∃ (k m : Nat), k ≤ on ∧ i = .int .i64 (k : Int) ∧ c = .int .i64 (m : Int) ∧ Hid (m = (seOf ((ol.map SesR.con).take k) x).length) ∧ m ≤ k ∧ wr = W1) (fun _ i _ => on - (intOf i).toNat)
  case atStart => exact ⟨0, 0, Nat.zero_le _, rfl, rfl, rfl, Nat.le_refl _, rfl⟩
  case round =>
    obtain ⟨k, m, hk, rfl, rfl, hno, hmk, hwr⟩ := hrel
    subst hwr
    by_cases hlt : k < on
    · have hki : (k : Int) < (on : Int) := by omega
      have hkl : k < ol.length := by have := HN.out; omega
      obtain ⟨ad, rfl, hadB, q0, q1, q2, q3, q4⟩ := ses_at hrk HN.out hlt
      have hst := seOf_take (l := ol.map SesR.con) (t := x) (k := k) (by simpa using hkl)
      rw [List.getElem_map] at hst
      obtain ⟨y, hy⟩ : ∃ y, y = ol[k]'hkl := ⟨_, rfl⟩
      rw [← hy] at q0 q1 q2 q3 q4 hst
      obtain ⟨yt, yh, yi, ⟨yA, yn, yc, yl⟩, yb⟩ := y
      simp only [SesR.con] at q0 q1 q2 q3 q4 hst
      have HST := Lib.hid hst
      clear hy hst hrk
      by_cases hx1 : yt = x
      · have hd1 : (yt == x) = true := by simp [hx1]
        have HVV : Hid (m + 1 = (seOf ((ol.map SesR.con).take (k + 1)) x).length) := by show _ = _; rw [HST.out.1 hx1, List.length_append, ← hno.out]; rfl
        clear hx1
        go_wp2_with fail
        go_roundw
        case rel => exact ⟨k + 1, m + 1, by omega, by go_num, by go_num, HVV, by omega, by trivial⟩
        case measure => simp [intOf]; omega
      · have hd1 : (yt == x) = false := by simp [hx1]
        have HVV : Hid (m = (seOf ((ol.map SesR.con).take (k + 1)) x).length) := by show _ = _; rw [HST.out.2 hx1]; exact hno.out
        clear hx1
        go_wp2_with fail
        go_roundw
        case rel => exact ⟨k + 1, m, by omega, by go_num, rfl, HVV, by omega, by trivial⟩
        case measure => simp [intOf]; omega
    · have hke : k = on := by omega
      have HVV : Hid (V = (m : Int)) := by show _ = _; rw [HV.out, hno.out, List.take_of_length_le (by have := HN.out; simp; omega)]
      have hnl : ¬ (k : Int) < (on : Int) := by omega
      go_wp2_with fail
      go_ret
      exact ⟨by rw [HVV.out]; rfl, HB1.out⟩
set_option maxRecDepth 100000 in
set_option maxHeartbeats 1000000 in
theorem rplace_any (t : TabR) (x : BS) (h : Int) (w : World) (B : Nat) (hr : t.rd w B) (hB : B ≤ w.heap.size) (hz : t.sz) :
    Calls Tryd.prog 45 #[t.val, .string ⟨x.toArray⟩, .int .i64 h] w fun e w' => e = .returned (.int .i64 (firstI (sesAt x h) t.con.opn)) ∧ Below w.heap.size w w' := by
  obtain ⟨⟨oA, on, oc, ol⟩, ⟨dA, dn, dc, dl⟩⟩ := t
  have HN := Lib.hid (show on = ol.length from hr.opn.1)
  have hsz : on ≤ 1000000000 := hz.opn
  have hrh : Reads w B 5 oA on (cellsK encSes ol) := hr.opn.2.2
  show Calls Tryd.prog 45 #[.agg #[.slice oA on oc, .slice dA dn dc], .string ⟨x.toArray⟩, .int .i64 h] w fun e w' => e = .returned (.int .i64 (firstI (sesAt x h) (⟨ol.map SesR.con, dl⟩ : TabC).opn)) ∧ _
  have hb1 := (Below.refl w.heap.size w).alloc (Nat.le_refl _) (.cells #[.slice oA on oc, .slice dA dn dc] 25)
  have kT := Blk.new w 25 #[.slice oA on oc, .slice dA dn dc]
  obtain ⟨W1, hW1⟩ : ∃ W, W = w.alloc (.cells #[.slice oA on oc, .slice dA dn dc] 25) := ⟨_, rfl⟩
  have hsz1 : W1.heap.size = w.heap.size + 1 := by rw [hW1]; simp
  rw [← hW1] at hb1 kT
  have hT := Lib.hid (fun (W' : World) (hB' : Below W1.heap.size W1 W') => (⟨(kT.below hB' (by omega)).cell 0, (kT.below hB' (by omega)).cell 1⟩ : W'.cell? ⟨w.heap.size, 0, none⟩ = some (.slice oA on oc) ∧ W'.cell? ⟨w.heap.size, 1, none⟩ = some (.slice dA dn dc)))
  have HB1 := Lib.hid hb1
  have hrk : Reads W1 B 5 oA on (cellsK encSes ol) := hrh.below (hb1.mono hB)
  obtain ⟨V, hV⟩ : ∃ V, V = firstI (sesAt x h) (⟨ol.map SesR.con, dl⟩ : TabC).opn := ⟨_, rfl⟩
  rw [← hV]
  have HV := Lib.hid hV
  obtain ⟨c0, c1⟩ := hT.out _ (Below.refl _ _)
  clear hb1 kT hr hz hsz1 hrh hV
  go_enter Tryd.func45, Tryd.ntmps45
  go_wp2_with fail
  rw [← hW1]
  clear hW1
  go_loopw [7] (fun i wr => ∃ k : Nat, k ≤ on ∧ i = .int .i64 (k : Int) ∧ Hid (∀ y ∈ (ol.map SesR.con).take k, sesAt x h y = false) ∧ wr = W1) (fun i _ => on - (intOf i).toNat)
  case atStart => exact ⟨0, Nat.zero_le _, rfl, (show ∀ y ∈ _, _ by simp), rfl⟩
  case round =>
    obtain ⟨k, hk, rfl, hno, hwr⟩ := hrel
    subst hwr
    by_cases hlt : k < on
    · have hki : (k : Int) < (on : Int) := by omega
      have hkl : k < ol.length := by have := HN.out; omega
      obtain ⟨ad, rfl, hadB, q0, q1, q2, q3, q4⟩ := ses_at hrk HN.out hlt
      have HX : Hid ((ol.map SesR.con)[k]? = some (ol[k]'hkl).con) := by show _ = _; rw [List.getElem?_map, List.getElem?_eq_getElem hkl]; rfl
      obtain ⟨y, hy⟩ : ∃ y, y = ol[k]'hkl := ⟨_, rfl⟩
      rw [← hy] at q0 q1 q2 q3 q4 HX
      obtain ⟨yt, yh, yi, ⟨yA, yn, yc, yl⟩, yb⟩ := y
      simp only at q0 q1 q2 q3 q4
      have HTK : Hid ((ol.map SesR.con).take (k + 1) = (ol.map SesR.con).take k ++ [⟨yt, yh, yi, yl, yb⟩]) := by show _ = _; rw [List.take_add_one, HX.out]; rfl
      clear hy hrk
      have HNX : Hid (sesAt x h ⟨yt, yh, yi, yl, yb⟩ = false → ∀ y ∈ (ol.map SesR.con).take (k + 1), sesAt x h y = false) := by
        show _ → _
        intro hf y hy
        rw [HTK.out, List.mem_append, List.mem_singleton] at hy
        rcases hy with hy | rfl
        · exact hno.out y hy
        · exact hf
      by_cases hx1 : yt = x
      · have hd1 : (yt == x) = true := by simp [hx1]
        by_cases hx2 : yh = h
        · have hd2 : (yh == h) = true := by simp [hx2]
          have HVV : Hid (V = (k : Int)) := by
            show _ = _
            rw [HV.out]
            unfold firstI
            have := firstP_eq (sesAt x h) (ol.map SesR.con) k _ hno.out HX.out (show (yt == x && yh == h) = true by rw [hd1, hd2]; rfl)
            rw [this, if_pos (by simpa using hkl)]
          clear hx1 hx2
          go_wp2_with fail
          go_ret
          exact ⟨by rw [HVV.out]; rfl, HB1.out⟩
        · have hd2 : (yh == h) = false := by simp [hx2]
          have HVV := Lib.hid (HNX.out (show (yt == x && yh == h) = false by rw [hd2]; simp))
          clear hx1 hx2
          go_wp2_with fail
          go_roundw
          case rel => exact ⟨k + 1, by omega, by go_num, HVV, by trivial⟩
          case measure => simp [intOf]; omega
      · have hd1 : (yt == x) = false := by simp [hx1]
        have HVV := Lib.hid (HNX.out (show (yt == x && yh == h) = false by rw [hd1]; simp))
        clear hx1
        go_wp2_with fail
        go_roundw
        case rel => exact ⟨k + 1, by omega, by go_num, HVV, by trivial⟩
        case measure => simp [intOf]; omega
    · have hke : k = on := by omega
      have HVV : Hid (V = -1) := by
        show _ = _
        rw [HV.out]
        unfold firstI
        have hall := hno.out
        rw [List.take_of_length_le (by have := HN.out; simp; omega)] at hall
        rw [firstP_none _ _ hall, if_neg (Nat.lt_irrefl _)]
      have hnl : ¬ (k : Int) < (on : Int) := by omega
      go_wp2_with fail
      go_ret
      exact ⟨by rw [HVV.out]; rfl, HB1.out⟩
theorem reads_bts {w : World} {B n : Nat} {A : Option Addr} {l : BS} (h : Reads w B 1 A n (cellsK encU l)) : Reads w B 1 A n (bts l) := by rwa [encU_bts] at h
set_option maxRecDepth 100000 in
set_option maxHeartbeats 2000000 in
theorem sameS_any (a b : SesR) (hab : a.con = b.con) (w : World) (B : Nat) (hB : B ≤ w.heap.size) (ha : a.rd w B) (hb : b.rd w B) :
    Calls Tryd.prog 16 #[.agg (encSes a).toArray, .agg (encSes b).toArray] w fun e w' => e = .returned (.bool true) ∧ Below w.heap.size w w' := by
  obtain ⟨yt, yh, yi, ⟨pA, pn, pc, pl⟩, yb⟩ := a
  obtain ⟨yt2, yh2, yi2, ⟨qA, qn, qc, ql⟩, yb2⟩ := b
  simp only [SesR.con, SesC.mk.injEq] at hab
  obtain ⟨rfl, rfl, rfl, rfl, rfl⟩ := hab
  have e1 := Lib.hid (show pn = pl.length from ha.1)
  have e2 := Lib.hid (show qn = pl.length from hb.1)
  have hra := reads_bts ha.2.2
  have hrb := reads_bts hb.2.2
  show Calls Tryd.prog 16 #[.agg #[.string ⟨yt.toArray⟩, .int .i64 yh, .string ⟨yi.toArray⟩, .slice pA pn pc, .bool yb], .agg #[.string ⟨yt.toArray⟩, .int .i64 yh, .string ⟨yi.toArray⟩, .slice qA qn qc, .bool yb]] w _
  have hb2 := ((Below.refl w.heap.size w).alloc (Nat.le_refl _) (.cells #[.string ⟨yt.toArray⟩, .int .i64 yh, .string ⟨yi.toArray⟩, .slice pA pn pc, .bool yb] 33)).alloc (by simp) (.cells #[.string ⟨yt.toArray⟩, .int .i64 yh, .string ⟨yi.toArray⟩, .slice qA qn qc, .bool yb] 33)
  obtain ⟨W, hW⟩ : ∃ W, W = (w.alloc (.cells #[.string ⟨yt.toArray⟩, .int .i64 yh, .string ⟨yi.toArray⟩, .slice pA pn pc, .bool yb] 33)).alloc (.cells #[.string ⟨yt.toArray⟩, .int .i64 yh, .string ⟨yi.toArray⟩, .slice qA qn qc, .bool yb] 33) := ⟨_, rfl⟩
  rw [← hW] at hb2
  have hra2 := hra.below (hb2.mono hB)
  have hrb2 := hrb.below (hb2.mono hB)
  simp only at hra2 hrb2
  have hs1 := str_of (P := Tryd.prog) (c := pc) hra2 e1.out Tryd.underlying31 Tryd.underlying5 Tryd.underlying9
  have hs2 := str_of (P := Tryd.prog) (c := qc) hrb2 e2.out Tryd.underlying31 Tryd.underlying5 Tryd.underlying9
  have hd1 : (yt == yt) = true := by simp
  have hd2 : (yh == yh) = true := by simp
  have hd3 : (yi == yi) = true := by simp
  have hd4 : (pl == pl) = true := by simp
  have hd5 : (yb == yb) = true := by simp
  rw [hW] at hs1 hs2
  clear ha hb hra hrb hra2 hrb2
  have HB2 := Lib.hid hb2
  clear hb2
  go_enter Tryd.func16, Tryd.ntmps16
  go_wp2_with fail
  rw [← hW]
  go_ret
  exact ⟨rfl, HB2.out⟩
end Go.Proofs.YtcoaaljgaooeoaaDoor
