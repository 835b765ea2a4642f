/-
  The page's Had, At, Count, Place, path and SameSession of sessions, by their contracts.
  The page's Check of tables of sessions, by its contract.
  The page's Own of tables of sessions, by its contract.
  The page's Same of tables of sessions, of one content.
  The page's Find of sessions, by its contract.
-/
import Derived.Test.YtjdebhemoeojiaaDoorSeIdx
import Derived.Test.YtjdebhemoeojiaaDoorRfPth
import Derived.Test.YtjdebhemoeojiaaDoorStr
import Derived.Test.YtjdebhemoeojiaaDoorSeCnt
import Derived.Test.YtjdebhemoeojiaaDoorCls2
import Derived.Deep.Cut
import Derived.Test.YtjdebhemoeojiaaDoorSeNext
import Derived.Test.YtjdebhemoeojiaaDoorSeCp
import Derived.Test.YtjdebhemoeojiaaDoorYOpn
namespace Go.Proofs.YtjdebhemoeojiaaDoor
open Go.RowKit

set_option maxRecDepth 100000 in
theorem rpath26_any (s : BS) (w : World) (hs : s.length ≤ 4000000000) :
    Calls Tryd.prog 41 #[.string ⟨s.toArray⟩] w fun e w' => e = .returned (.bool (sePath s)) ∧ Below w.heap.size w w' := by
  by_cases h0 : s = []
  · subst h0
    go_enter Tryd.func41, Tryd.ntmps41
    go_wp2_with fail
    go_ret
    exact ⟨rfl, Below.refl _ _⟩
  · have h1 : (s == []) = false := by simpa using h0
    have h2 : s.isEmpty = false := by cases s <;> simp_all
    have HV : Hid (sePath s = pathB s) := by show _ = _; unfold sePath; rw [h2]; rfl
    obtain ⟨b, hb⟩ : ∃ b, b = pathB s := ⟨_, rfl⟩
    have hc : Calls Tryd.prog 54 #[.string ⟨s.toArray⟩] w fun e W' => e = .returned (.bool (pathB s)) ∧ Below w.heap.size w W' := refPath_any ⟨s.toArray⟩ w (by show s.length ≤ _; exact hs)
    rw [← hb] at hc HV
    clear hb
    go_enter Tryd.func41, Tryd.ntmps41
    go_wp2_with fail
    refine hc.mono ?_
    rintro e w1 ⟨rfl, hb1⟩
    cases b <;> (go_wp2_with fail; go_ret; exact ⟨by rw [HV.out]; rfl, hb1⟩)
set_option maxRecDepth 100000 in
set_option maxHeartbeats 1000000 in
theorem rhad_any (t : TabR) (x : BS) (w : World) (B : Nat) (hr : t.rd w B) (hB : B ≤ w.heap.size) (hz : t.sz) :
    Calls Tryd.prog 44 #[t.val, .string ⟨x.toArray⟩] w fun e w' => e = .returned (.int .i64 (seHad t.con.had x)) ∧ Below w.heap.size w w' := by
  obtain ⟨⟨oA, on, oc, ol⟩, ⟨dA, dn, dc, dl⟩⟩ := t
  have HN := Lib.hid (show dn = dl.length from hr.had.1)
  have hsz : dn ≤ 1000000000 := hz.had
  have hrh : Reads w B 2 dA dn (cellsK (fun x : HadT => [.string ⟨x.1.toArray⟩, .int .i64 x.2]) dl) := hr.had.2.2
  show Calls Tryd.prog 44 #[.agg #[.slice oA on oc, .slice dA dn dc], .string ⟨x.toArray⟩] w fun e w' => e = .returned (.int .i64 (seHad (⟨ol.map SesR.con, dl⟩ : TabC).had x)) ∧ _
  have hb1 := (Below.refl w.heap.size w).alloc (Nat.le_refl _) (.cells #[.slice oA on oc, .slice dA dn dc] 25)
  have kT := Blk.new w 25 #[.slice oA on oc, .slice dA dn dc]
  obtain ⟨W1, hW1⟩ : ∃ W, W = w.alloc (.cells #[.slice oA on oc, .slice dA dn dc] 25) := ⟨_, rfl⟩
  have hsz1 : W1.heap.size = w.heap.size + 1 := by rw [hW1]; simp
  rw [← hW1] at hb1 kT
  have hT := Lib.hid (fun (W' : World) (hB' : Below W1.heap.size W1 W') => (⟨(kT.below hB' (by omega)).cell 0, (kT.below hB' (by omega)).cell 1⟩ : W'.cell? ⟨w.heap.size, 0, none⟩ = some (.slice oA on oc) ∧ W'.cell? ⟨w.heap.size, 1, none⟩ = some (.slice dA dn dc)))
  have HB1 := Lib.hid hb1
  have hrk : Reads W1 B 2 dA dn (cellsK (fun x : HadT => [.string ⟨x.1.toArray⟩, .int .i64 x.2]) dl) := hrh.below (hb1.mono hB)
  obtain ⟨V, hV⟩ : ∃ V, V = seHad (⟨ol.map SesR.con, dl⟩ : TabC).had x := ⟨_, rfl⟩
  rw [← hV]
  have HV := Lib.hid hV
  obtain ⟨c0, c1⟩ := hT.out _ (Below.refl _ _)
  clear hb1 kT hr hz hsz1 hrh hV
  go_enter Tryd.func44, Tryd.ntmps44
  go_wp2_with fail
  rw [← hW1]
  clear hW1
  go_loopw [5] (fun i wr => ∃ k : Nat, k ≤ dn ∧ i = .int .i64 (k : Int) ∧ Hid (V = seHad (dl.drop k) x) ∧ wr = W1) (fun i _ => dn - (intOf i).toNat)
  case atStart => exact ⟨0, Nat.zero_le _, rfl, HV.out, rfl⟩
  case round =>
    obtain ⟨k, hk, rfl, hno, hwr⟩ := hrel
    subst hwr
    by_cases hlt : k < dn
    · have hki : (k : Int) < (dn : Int) := by omega
      have hkl : k < dl.length := by have := HN.out; omega
      obtain ⟨ad, rfl, hadB, q0, q1⟩ := hrk.el2 HN.out hlt
      have hst := seHad_drop (t := x) hkl
      obtain ⟨y, hy⟩ : ∃ y, y = dl[k]'hkl := ⟨_, rfl⟩
      rw [← hy] at q0 q1 hst
      obtain ⟨yn, yc⟩ := y
      simp only at q0 q1 hst
      have HST := Lib.hid hst
      clear hy hst hrk
      by_cases hxn : yn = x
      · have hd : (yn == x) = true := by simp [hxn]
        have HVV : Hid (V = yc) := by show _ = _; rw [hno.out, HST.out, if_pos hxn]
        clear hxn
        go_wp2_with fail
        go_ret
        exact ⟨by rw [HVV.out]; rfl, HB1.out⟩
      · have hd : (yn == x) = false := by simp [hxn]
        have HVV : Hid (V = seHad (dl.drop (k + 1)) x) := by show _ = _; rw [hno.out, HST.out, if_neg hxn]
        clear hxn
        go_wp2_with fail
        go_roundw
        case rel => exact ⟨k + 1, by omega, by go_num, HVV, by trivial⟩
        case measure => simp [intOf]; omega
    · have hke : k = dn := by omega
      have HVV : Hid (V = 0) := by show _ = _; rw [hno.out, List.drop_eq_nil_of_le (by have := HN.out; omega)]; rfl
      have hnl : ¬ (k : Int) < (dn : Int) := by omega
      go_wp2_with fail
      go_ret
      exact ⟨by rw [HVV.out]; rfl, HB1.out⟩
set_option maxRecDepth 100000 in
set_option maxHeartbeats 1000000 in
theorem rat_any (t : TabR) (x z : BS) (w : World) (B : Nat) (hr : t.rd w B) (hB : B ≤ w.heap.size) (hz : t.sz) :
    Calls Tryd.prog 42 #[t.val, .string ⟨x.toArray⟩, .string ⟨z.toArray⟩] w fun e w' => e = .returned (.int .i64 (seAt t.con.opn x z)) ∧ Below w.heap.size w w' := by
  obtain ⟨⟨oA, on, oc, ol⟩, ⟨dA, dn, dc, dl⟩⟩ := t
  have HN := Lib.hid (show on = ol.length from hr.opn.1)
  have hsz : on ≤ 1000000000 := hz.opn
  have hrh : Reads w B 5 oA on (cellsK encSes ol) := hr.opn.2.2
  show Calls Tryd.prog 42 #[.agg #[.slice oA on oc, .slice dA dn dc], .string ⟨x.toArray⟩, .string ⟨z.toArray⟩] w fun e w' => e = .returned (.int .i64 (seAt (⟨ol.map SesR.con, dl⟩ : TabC).opn x z)) ∧ _
  have hb1 := (Below.refl w.heap.size w).alloc (Nat.le_refl _) (.cells #[.slice oA on oc, .slice dA dn dc] 25)
  have kT := Blk.new w 25 #[.slice oA on oc, .slice dA dn dc]
  obtain ⟨W1, hW1⟩ : ∃ W, W = w.alloc (.cells #[.slice oA on oc, .slice dA dn dc] 25) := ⟨_, rfl⟩
  have hsz1 : W1.heap.size = w.heap.size + 1 := by rw [hW1]; simp
  rw [← hW1] at hb1 kT
  have hT := Lib.hid (fun (W' : World) (hB' : Below W1.heap.size W1 W') => (⟨(kT.below hB' (by omega)).cell 0, (kT.below hB' (by omega)).cell 1⟩ : W'.cell? ⟨w.heap.size, 0, none⟩ = some (.slice oA on oc) ∧ W'.cell? ⟨w.heap.size, 1, none⟩ = some (.slice dA dn dc)))
  have HB1 := Lib.hid hb1
  have hrk : Reads W1 B 5 oA on (cellsK encSes ol) := hrh.below (hb1.mono hB)
  obtain ⟨V, hV⟩ : ∃ V, V = seAt (⟨ol.map SesR.con, dl⟩ : TabC).opn x z := ⟨_, rfl⟩
  rw [← hV]
  have HV := Lib.hid hV
  obtain ⟨c0, c1⟩ := hT.out _ (Below.refl _ _)
  clear hb1 kT hr hz hsz1 hrh hV
  go_enter Tryd.func42, Tryd.ntmps42
  go_wp2_with fail
  rw [← hW1]
  clear hW1
  go_loopw [7] (fun i wr => ∃ k : Nat, k ≤ on ∧ i = .int .i64 (k : Int) ∧ Hid (V = seAt ((ol.map SesR.con).drop k) x z) ∧ wr = W1) (fun i _ => on - (intOf i).toNat)
  case atStart => exact ⟨0, Nat.zero_le _, rfl, HV.out, rfl⟩
  case round =>
    obtain ⟨k, hk, rfl, hno, hwr⟩ := hrel
    subst hwr
    by_cases hlt : k < on
    · have hki : (k : Int) < (on : Int) := by omega
      have hkl : k < ol.length := by have := HN.out; omega
      obtain ⟨ad, rfl, hadB, q0, q1, q2, q3, q4⟩ := ses_at hrk HN.out hlt
      have hst := seAt_drop (l := ol.map SesR.con) (t := x) (i := z) (k := k) (by simpa using hkl)
      rw [List.getElem_map] at hst
      obtain ⟨y, hy⟩ : ∃ y, y = ol[k]'hkl := ⟨_, rfl⟩
      rw [← hy] at q0 q1 q2 q3 q4 hst
      obtain ⟨yt, yh, yi, ⟨yA, yn, yc, yl⟩, yb⟩ := y
      simp only [SesR.con] at q0 q1 q2 q3 q4 hst
      have HST := Lib.hid hst
      clear hy hst hrk
      by_cases hx1 : yt = x
      · have hd1 : (yt == x) = true := by simp [hx1]
        by_cases hx2 : yi = z
        · have hd2 : (yi == z) = true := by simp [hx2]
          have HVV : Hid (V = yh) := by show _ = _; exact hno.out.trans (HST.out.1 ⟨hx1, hx2⟩)
          clear hx1 hx2
          go_wp2_with fail
          go_ret
          exact ⟨by rw [HVV.out]; rfl, HB1.out⟩
        · have hd2 : (yi == z) = false := by simp [hx2]
          have HVV : Hid (V = seAt ((ol.map SesR.con).drop (k + 1)) x z) := by show _ = _; exact hno.out.trans (HST.out.2 (fun e => hx2 e.2))
          clear hx1 hx2
          go_wp2_with fail
          go_roundw
          case rel => exact ⟨k + 1, by omega, by go_num, HVV, by trivial⟩
          case measure => simp [intOf]; omega
      · have hd1 : (yt == x) = false := by simp [hx1]
        have HVV : Hid (V = seAt ((ol.map SesR.con).drop (k + 1)) x z) := by show _ = _; exact hno.out.trans (HST.out.2 (fun e => hx1 e.1))
        clear hx1
        go_wp2_with fail
        go_roundw
        case rel => exact ⟨k + 1, by omega, by go_num, HVV, by trivial⟩
        case measure => simp [intOf]; omega
    · have hke : k = on := by omega
      have HVV : Hid (V = 0) := by show _ = _; rw [hno.out, List.drop_eq_nil_of_le (by have := HN.out; simp; omega)]; rfl
      have hnl : ¬ (k : Int) < (on : Int) := by omega
      go_wp2_with fail
      go_ret
      exact ⟨by rw [HVV.out]; rfl, HB1.out⟩
set_option maxRecDepth 100000 in
set_option maxHeartbeats 1000000 in
theorem rcount_any (t : TabR) (x : BS) (w : World) (B : Nat) (hr : t.rd w B) (hB : B ≤ w.heap.size) (hz : t.sz) :
    Calls Tryd.prog 43 #[t.val, .string ⟨x.toArray⟩] w fun e w' => e = .returned (.int .i64 (((seOf t.con.opn x).length : Int))) ∧ Below w.heap.size w w' := by
  obtain ⟨⟨oA, on, oc, ol⟩, ⟨dA, dn, dc, dl⟩⟩ := t
  have HN := Lib.hid (show on = ol.length from hr.opn.1)
  have hsz : on ≤ 1000000000 := hz.opn
  have hrh : Reads w B 5 oA on (cellsK encSes ol) := hr.opn.2.2
  show Calls Tryd.prog 43 #[.agg #[.slice oA on oc, .slice dA dn dc], .string ⟨x.toArray⟩] w fun e w' => e = .returned (.int .i64 (((seOf (⟨ol.map SesR.con, dl⟩ : TabC).opn x).length : Int))) ∧ _
  have hb1 := (Below.refl w.heap.size w).alloc (Nat.le_refl _) (.cells #[.slice oA on oc, .slice dA dn dc] 25)
  have kT := Blk.new w 25 #[.slice oA on oc, .slice dA dn dc]
  obtain ⟨W1, hW1⟩ : ∃ W, W = w.alloc (.cells #[.slice oA on oc, .slice dA dn dc] 25) := ⟨_, rfl⟩
  have hsz1 : W1.heap.size = w.heap.size + 1 := by rw [hW1]; simp
  rw [← hW1] at hb1 kT
  have hT := Lib.hid (fun (W' : World) (hB' : Below W1.heap.size W1 W') => (⟨(kT.below hB' (by omega)).cell 0, (kT.below hB' (by omega)).cell 1⟩ : W'.cell? ⟨w.heap.size, 0, none⟩ = some (.slice oA on oc) ∧ W'.cell? ⟨w.heap.size, 1, none⟩ = some (.slice dA dn dc)))
  have HB1 := Lib.hid hb1
  have hrk : Reads W1 B 5 oA on (cellsK encSes ol) := hrh.below (hb1.mono hB)
  obtain ⟨V, hV⟩ : ∃ V, V = ((seOf (⟨ol.map SesR.con, dl⟩ : TabC).opn x).length : Int) := ⟨_, rfl⟩
  rw [← hV]
  have HV := Lib.hid hV
  obtain ⟨c0, c1⟩ := hT.out _ (Below.refl _ _)
  clear hb1 kT hr hz hsz1 hrh hV
  go_enter Tryd.func43, Tryd.ntmps43
  go_wp2_with fail
  rw [← hW1]
  clear hW1
  go_loopw [5, 6] (fun c i wr => ∃ (k m : Nat), k ≤ on ∧ i = .int .i64 (k : Int) ∧ c = .int .i64 (m : Int) ∧ Hid (m = (seOf ((ol.map SesR.con).take k) x).length) ∧ m ≤ k ∧ wr = W1) (fun _ i _ => on - (intOf i).toNat)
  case atStart => exact ⟨0, 0, Nat.zero_le _, rfl, rfl, rfl, Nat.le_refl _, rfl⟩
  case round =>
    obtain ⟨k, m, hk, rfl, rfl, hno, hmk, hwr⟩ := hrel
    subst hwr
    by_cases hlt : k < on
    · have hki : (k : Int) < (on : Int) := by omega
      have hkl : k < ol.length := by have := HN.out; omega
      obtain ⟨ad, rfl, hadB, q0, q1, q2, q3, q4⟩ := ses_at hrk HN.out hlt
      have hst := seOf_take (l := ol.map SesR.con) (t := x) (k := k) (by simpa using hkl)
      rw [List.getElem_map] at hst
      obtain ⟨y, hy⟩ : ∃ y, y = ol[k]'hkl := ⟨_, rfl⟩
      rw [← hy] at q0 q1 q2 q3 q4 hst
      obtain ⟨yt, yh, yi, ⟨yA, yn, yc, yl⟩, yb⟩ := y
      simp only [SesR.con] at q0 q1 q2 q3 q4 hst
      have HST := Lib.hid hst
      clear hy hst hrk
      by_cases hx1 : yt = x
      · have hd1 : (yt == x) = true := by simp [hx1]
        have HVV : Hid (m + 1 = (seOf ((ol.map SesR.con).take (k + 1)) x).length) := by show _ = _; rw [HST.out.1 hx1, List.length_append, ← hno.out]; rfl
        clear hx1
        go_wp2_with fail
        go_roundw
        case rel => exact ⟨k + 1, m + 1, by omega, by go_num, by go_num, HVV, by omega, by trivial⟩
        case measure => simp [intOf]; omega
      · have hd1 : (yt == x) = false := by simp [hx1]
        have HVV : Hid (m = (seOf ((ol.map SesR.con).take (k + 1)) x).length) := by show _ = _; rw [HST.out.2 hx1]; exact hno.out
        clear hx1
        go_wp2_with fail
        go_roundw
        case rel => exact ⟨k + 1, m, by omega, by go_num, rfl, HVV, by omega, by trivial⟩
        case measure => simp [intOf]; omega
    · have hke : k = on := by omega
      have HVV : Hid (V = (m : Int)) := by show _ = _; rw [HV.out, hno.out, List.take_of_length_le (by have := HN.out; simp; omega)]
      have hnl : ¬ (k : Int) < (on : Int) := by omega
      go_wp2_with fail
      go_ret
      exact ⟨by rw [HVV.out]; rfl, HB1.out⟩
set_option maxRecDepth 100000 in
set_option maxHeartbeats 1000000 in
theorem rplace_any (t : TabR) (x : BS) (h : Int) (w : World) (B : Nat) (hr : t.rd w B) (hB : B ≤ w.heap.size) (hz : t.sz) :
    Calls Tryd.prog 45 #[t.val, .string ⟨x.toArray⟩, .int .i64 h] w fun e w' => e = .returned (.int .i64 (firstI (sesAt x h) t.con.opn)) ∧ Below w.heap.size w w' := by
  obtain ⟨⟨oA, on, oc, ol⟩, ⟨dA, dn, dc, dl⟩⟩ := t
  have HN := Lib.hid (show on = ol.length from hr.opn.1)
  have hsz : on ≤ 1000000000 := hz.opn
  have hrh : Reads w B 5 oA on (cellsK encSes ol) := hr.opn.2.2
  show Calls Tryd.prog 45 #[.agg #[.slice oA on oc, .slice dA dn dc], .string ⟨x.toArray⟩, .int .i64 h] w fun e w' => e = .returned (.int .i64 (firstI (sesAt x h) (⟨ol.map SesR.con, dl⟩ : TabC).opn)) ∧ _
  have hb1 := (Below.refl w.heap.size w).alloc (Nat.le_refl _) (.cells #[.slice oA on oc, .slice dA dn dc] 25)
  have kT := Blk.new w 25 #[.slice oA on oc, .slice dA dn dc]
  obtain ⟨W1, hW1⟩ : ∃ W, W = w.alloc (.cells #[.slice oA on oc, .slice dA dn dc] 25) := ⟨_, rfl⟩
  have hsz1 : W1.heap.size = w.heap.size + 1 := by rw [hW1]; simp
  rw [← hW1] at hb1 kT
  have hT := Lib.hid (fun (W' : World) (hB' : Below W1.heap.size W1 W') => (⟨(kT.below hB' (by omega)).cell 0, (kT.below hB' (by omega)).cell 1⟩ : W'.cell? ⟨w.heap.size, 0, none⟩ = some (.slice oA on oc) ∧ W'.cell? ⟨w.heap.size, 1, none⟩ = some (.slice dA dn dc)))
  have HB1 := Lib.hid hb1
  have hrk : Reads W1 B 5 oA on (cellsK encSes ol) := hrh.below (hb1.mono hB)
  obtain ⟨V, hV⟩ : ∃ V, V = firstI (sesAt x h) (⟨ol.map SesR.con, dl⟩ : TabC).opn := ⟨_, rfl⟩
  rw [← hV]
  have HV := Lib.hid hV
  obtain ⟨c0, c1⟩ := hT.out _ (Below.refl _ _)
  clear hb1 kT hr hz hsz1 hrh hV
  go_enter Tryd.func45, Tryd.ntmps45
  go_wp2_with fail
  rw [← hW1]
  clear hW1
  go_loopw [7] (fun i wr => ∃ k : Nat, k ≤ on ∧ i = .int .i64 (k : Int) ∧ Hid (∀ y ∈ (ol.map SesR.con).take k, sesAt x h y = false) ∧ wr = W1) (fun i _ => on - (intOf i).toNat)
  case atStart => exact ⟨0, Nat.zero_le _, rfl, (show ∀ y ∈ _, _ by simp), rfl⟩
  case round =>
    obtain ⟨k, hk, rfl, hno, hwr⟩ := hrel
    subst hwr
    by_cases hlt : k < on
    · have hki : (k : Int) < (on : Int) := by omega
      have hkl : k < ol.length := by have := HN.out; omega
      obtain ⟨ad, rfl, hadB, q0, q1, q2, q3, q4⟩ := ses_at hrk HN.out hlt
      have HX : Hid ((ol.map SesR.con)[k]? = some (ol[k]'hkl).con) := by show _ = _; rw [List.getElem?_map, List.getElem?_eq_getElem hkl]; rfl
      obtain ⟨y, hy⟩ : ∃ y, y = ol[k]'hkl := ⟨_, rfl⟩
      rw [← hy] at q0 q1 q2 q3 q4 HX
      obtain ⟨yt, yh, yi, ⟨yA, yn, yc, yl⟩, yb⟩ := y
      simp only at q0 q1 q2 q3 q4
      have HTK : Hid ((ol.map SesR.con).take (k + 1) = (ol.map SesR.con).take k ++ [⟨yt, yh, yi, yl, yb⟩]) := by show _ = _; rw [List.take_add_one, HX.out]; rfl
      clear hy hrk
      have HNX : Hid (sesAt x h ⟨yt, yh, yi, yl, yb⟩ = false → ∀ y ∈ (ol.map SesR.con).take (k + 1), sesAt x h y = false) := by
        show _ → _
        intro hf y hy
        rw [HTK.out, List.mem_append, List.mem_singleton] at hy
        rcases hy with hy | rfl
        · exact hno.out y hy
        · exact hf
      by_cases hx1 : yt = x
      · have hd1 : (yt == x) = true := by simp [hx1]
        by_cases hx2 : yh = h
        · have hd2 : (yh == h) = true := by simp [hx2]
          have HVV : Hid (V = (k : Int)) := by
            show _ = _
            rw [HV.out]
            unfold firstI
            have := firstP_eq (sesAt x h) (ol.map SesR.con) k _ hno.out HX.out (show (yt == x && yh == h) = true by rw [hd1, hd2]; rfl)
            rw [this, if_pos (by simpa using hkl)]
          clear hx1 hx2
          go_wp2_with fail
          go_ret
          exact ⟨by rw [HVV.out]; rfl, HB1.out⟩
        · have hd2 : (yh == h) = false := by simp [hx2]
          have HVV := Lib.hid (HNX.out (show (yt == x && yh == h) = false by rw [hd2]; simp))
          clear hx1 hx2
          go_wp2_with fail
          go_roundw
          case rel => exact ⟨k + 1, by omega, by go_num, HVV, by trivial⟩
          case measure => simp [intOf]; omega
      · have hd1 : (yt == x) = false := by simp [hx1]
        have HVV := Lib.hid (HNX.out (show (yt == x && yh == h) = false by rw [hd1]; simp))
        clear hx1
        go_wp2_with fail
        go_roundw
        case rel => exact ⟨k + 1, by omega, by go_num, HVV, by trivial⟩
        case measure => simp [intOf]; omega
    · have hke : k = on := by omega
      have HVV : Hid (V = -1) := by
        show _ = _
        rw [HV.out]
        unfold firstI
        have hall := hno.out
        rw [List.take_of_length_le (by have := HN.out; simp; omega)] at hall
        rw [firstP_none _ _ hall, if_neg (Nat.lt_irrefl _)]
      have hnl : ¬ (k : Int) < (on : Int) := by omega
      go_wp2_with fail
      go_ret
      exact ⟨by rw [HVV.out]; rfl, HB1.out⟩
theorem reads_bts {w : World} {B n : Nat} {A : Option Addr} {l : BS} (h : Reads w B 1 A n (cellsK encU l)) : Reads w B 1 A n (bts l) := by rwa [encU_bts] at h
set_option maxRecDepth 100000 in
set_option maxHeartbeats 2000000 in
theorem sameS_any (a b : SesR) (hab : a.con = b.con) (w : World) (B : Nat) (hB : B ≤ w.heap.size) (ha : a.rd w B) (hb : b.rd w B) :
    Calls Tryd.prog 16 #[.agg (encSes a).toArray, .agg (encSes b).toArray] w fun e w' => e = .returned (.bool true) ∧ Below w.heap.size w w' := by
  obtain ⟨yt, yh, yi, ⟨pA, pn, pc, pl⟩, yb⟩ := a
  obtain ⟨yt2, yh2, yi2, ⟨qA, qn, qc, ql⟩, yb2⟩ := b
  simp only [SesR.con, SesC.mk.injEq] at hab
  obtain ⟨rfl, rfl, rfl, rfl, rfl⟩ := hab
  have e1 := Lib.hid (show pn = pl.length from ha.1)
  have e2 := Lib.hid (show qn = pl.length from hb.1)
  have hra := reads_bts ha.2.2
  have hrb := reads_bts hb.2.2
  show Calls Tryd.prog 16 #[.agg #[.string ⟨yt.toArray⟩, .int .i64 yh, .string ⟨yi.toArray⟩, .slice pA pn pc, .bool yb], .agg #[.string ⟨yt.toArray⟩, .int .i64 yh, .string ⟨yi.toArray⟩, .slice qA qn qc, .bool yb]] w _
  have hb2 := ((Below.refl w.heap.size w).alloc (Nat.le_refl _) (.cells #[.string ⟨yt.toArray⟩, .int .i64 yh, .string ⟨yi.toArray⟩, .slice pA pn pc, .bool yb] 33)).alloc (by simp) (.cells #[.string ⟨yt.toArray⟩, .int .i64 yh, .string ⟨yi.toArray⟩, .slice qA qn qc, .bool yb] 33)
  obtain ⟨W, hW⟩ : ∃ W, W = (w.alloc (.cells #[.string ⟨yt.toArray⟩, .int .i64 yh, .string ⟨yi.toArray⟩, .slice pA pn pc, .bool yb] 33)).alloc (.cells #[.string ⟨yt.toArray⟩, .int .i64 yh, .string ⟨yi.toArray⟩, .slice qA qn qc, .bool yb] 33) := ⟨_, rfl⟩
  rw [← hW] at hb2
  have hra2 := hra.below (hb2.mono hB)
  have hrb2 := hrb.below (hb2.mono hB)
  simp only at hra2 hrb2
  have hs1 := str_of (P := Tryd.prog) (c := pc) hra2 e1.out Tryd.underlying31 Tryd.underlying5 Tryd.underlying9
  have hs2 := str_of (P := Tryd.prog) (c := qc) hrb2 e2.out Tryd.underlying31 Tryd.underlying5 Tryd.underlying9
  have hd1 : (yt == yt) = true := by simp
  have hd2 : (yh == yh) = true := by simp
  have hd3 : (yi == yi) = true := by simp
  have hd4 : (pl == pl) = true := by simp
  have hd5 : (yb == yb) = true := by simp
  rw [hW] at hs1 hs2
  clear ha hb hra hrb hra2 hrb2
  have HB2 := Lib.hid hb2
  clear hb2
  go_enter Tryd.func16, Tryd.ntmps16
  go_wp2_with fail
  rw [← hW]
  go_ret
  exact ⟨rfl, HB2.out⟩
end Go.Proofs.YtjdebhemoeojiaaDoor
namespace Go.Proofs.YtjdebhemoeojiaaDoor
open Go.RowKit

theorem bl_leq (a b : BS) : (Op.bytesLess a b || a == b) = !(Op.bytesLess b a) := by
  cases h1 : Op.bytesLess b a with
  | true =>
    have h2 : Op.bytesLess a b = false := by
      cases h : Op.bytesLess a b with
      | false => rfl
      | true => have := bl_trans h h1; rw [bl_irrefl] at this; cases this
    have h3 : (a == b) = false := by rw [beq_eq_false_iff_ne]; exact fun e => bl_ne h1 e.symm
    rw [h2, h3]; rfl
  | false =>
    by_cases e : a = b
    · simp [e]
    · have := bl_tri b a h1 (fun h => e h.symm)
      rw [this]; rfl
set_option maxRecDepth 100000 in
set_option maxHeartbeats 8000000 in
theorem rcheck26_any (t : TabR) (w : World) (B : Nat) (hr : t.rd w B) (hB : B ≤ w.heap.size) (hz : t.sz) :
    Calls Tryd.prog 17 #[t.val] w fun e w' => e = .returned (.int .i64 (tabE t.con)) ∧ Below w.heap.size w w' := by
  have hHdg := fun x W (hb : Below w.heap.size w W) => rhad_any t x W B (hr.below (hb.mono hB)) (Nat.le_trans hB hb.size) hz
  have hCtg := fun x W (hb : Below w.heap.size w W) => rcount_any t x W B (hr.below (hb.mono hB)) (Nat.le_trans hB hb.size) hz
  obtain ⟨V, hV⟩ : ∃ V, V = tabE t.con := ⟨_, rfl⟩
  rw [← hV]
  obtain ⟨T, hT0⟩ : ∃ T, T = t.con := ⟨_, rfl⟩
  have hTo : T.opn = t.opn.l.map SesR.con := by rw [hT0]; rfl
  have hTh : T.had = t.had.l := by rw [hT0]; rfl
  rw [← hT0] at hHdg hCtg hV
  clear hT0
  obtain ⟨⟨oA, on, oc, ol⟩, ⟨dA, dn, dc, l⟩⟩ := t
  have HNO := Lib.hid (show on = ol.length from hr.opn.1)
  have HN := Lib.hid (show dn = l.length from hr.had.1)
  have hszo : on ≤ 1000000000 := hz.opn
  have hszd : dn ≤ 1000000000 := hz.had
  have hrh : Reads w B 5 oA on (cellsK encSes ol) := hr.opn.2.2
  have hrd : Reads w B 2 dA dn (cellsK (fun x : HadT => [.string ⟨x.1.toArray⟩, .int .i64 x.2]) l) := hr.had.2.2
  have hre : ∀ y ∈ ol, y.sz := hz.each
  have hrn : ∀ y ∈ ol, y.rest.n = y.rest.l.length := fun y hy => (hr.each y hy).1
  have hrl : ∀ y ∈ l, y.1.length ≤ 4000000000 := hz.eachH
  show Calls Tryd.prog 17 #[.agg #[.slice oA on oc, .slice dA dn dc]] w _
  have hb1 := (Below.refl w.heap.size w).alloc (Nat.le_refl _) (.cells #[.slice oA on oc, .slice dA dn dc] 25)
  have kT := Blk.new w 25 #[.slice oA on oc, .slice dA dn dc]
  obtain ⟨W1, hW1⟩ : ∃ W, W = w.alloc (.cells #[.slice oA on oc, .slice dA dn dc] 25) := ⟨_, rfl⟩
  have hsz1 : W1.heap.size = w.heap.size + 1 := by rw [hW1]; simp
  rw [← hW1] at hb1 kT
  have hT := Lib.hid (fun (W' : World) (hB' : Below W1.heap.size W1 W') => (⟨(kT.below hB' (by omega)).cell 0, (kT.below hB' (by omega)).cell 1⟩ : W'.cell? ⟨w.heap.size, 0, none⟩ = some (.slice oA on oc) ∧ W'.cell? ⟨w.heap.size, 1, none⟩ = some (.slice dA dn dc)))
  have HUP : Hid (∀ W, Below W1.heap.size W1 W → Below w.heap.size w W) := fun W h => hb1.trans (h.mono (by omega))
  have HRD : Hid (∀ W, Below W1.heap.size W1 W → Reads W B 5 oA on (cellsK encSes ol) ∧ Reads W B 2 dA dn (cellsK (fun x : HadT => [.string ⟨x.1.toArray⟩, .int .i64 x.2]) l) ∧ w.heap.size < W.heap.size ∧ B ≤ W.heap.size) := by
    show ∀ W, _ → _
    intro W h
    have h1 := HUP.out W h
    exact ⟨hrh.below (h1.mono hB), hrd.below (h1.mono hB), by have := h.size; omega, by have := h1.size; omega⟩
  have HV : Hid (V = if (hadFrom none l && ropnFrom T [] T.opn) = true then 0 else 9) := by
    show _ = _
    rw [hV, show l = T.had from hTh.symm]
    unfold tabE
    rw [← rtabB_eq]
    rfl
  have HTO := Lib.hid hTo
  have HSE := Lib.hid hre
  have HRN := Lib.hid hrn
  have HLE := Lib.hid hrl
  have hHa : Hid (∀ x W, Below W1.heap.size W1 W → Calls Tryd.prog 44 #[.agg #[.slice oA on oc, .slice dA dn dc], .string ⟨x.toArray⟩] W fun e W' => e = .returned (.int .i64 (seHad T.had x)) ∧ Below W.heap.size W W') := fun x W h => hHdg x W (HUP.out W h)
  have hCt : Hid (∀ x W, Below W1.heap.size W1 W → Calls Tryd.prog 43 #[.agg #[.slice oA on oc, .slice dA dn dc], .string ⟨x.toArray⟩] W fun e W' => e = .returned (.int .i64 ((seOf T.opn x).length : Int)) ∧ Below W.heap.size W W') := fun x W h => hCtg x W (HUP.out W h)
  have HSZ1 := Lib.hid hsz1
  have HB1 := Lib.hid hb1
  clear hb1 kT hr hz hsz1 hrh hrd hre hrn hV hTo hTh hHdg hCtg hrl
  go_enter Tryd.func17, Tryd.ntmps17
  go_wp2_with fail
  rw [← hW1]
  clear hW1
  go_loopw [3] (fun j wr => ∃ k : Nat, k ≤ dn ∧ j = .int .i64 (k : Int) ∧ Hid (hadFrom none l = hadFrom (prevH l k) (l.drop k)) ∧ Below W1.heap.size W1 wr) (fun j _ => dn - (intOf j).toNat)
  case atStart => exact ⟨0, Nat.zero_le _, rfl, rfl, Below.refl _ _⟩
  case round =>
    obtain ⟨k, hk, rfl, hok, hbw⟩ := hrel
    obtain ⟨-, hrw, hsl, hBr⟩ := HRD.out wr hbw
    obtain ⟨c0, c1⟩ := hT.out wr hbw
    by_cases hlt : k < dn
    · obtain ⟨ad, rfl, hadB, q0, q1⟩ := hrw.el2 HN.out hlt
      have hki : (k : Int) < (dn : Int) := by omega
      have hkl : k < l.length := by have := HN.out; omega
      have hxl := HLE.out _ (List.getElem_mem hkl)
      obtain ⟨x, hx⟩ : ∃ x, x = l[k]'hkl := ⟨_, rfl⟩
      rw [← hx] at q0 q1 hxl
      have hdr := List.drop_eq_getElem_cons hkl
      rw [← hx] at hdr
      have HX := Lib.hid hx
      have HDR := Lib.hid hdr
      obtain ⟨xn, xc⟩ := x
      simp only at q0 q1 hxl
      obtain ⟨W0, hW0⟩ : ∃ W0, W0 = wr.alloc (.cells #[.string ⟨xn.toArray⟩, .int .i64 xc] 38) := ⟨_, rfl⟩
      have k0 : W0.cell? ⟨wr.heap.size, 0, none⟩ = some (.string ⟨xn.toArray⟩) := by rw [hW0]; exact (Blk.new wr _ _).cell 0
      have k1 : W0.cell? ⟨wr.heap.size, 1, none⟩ = some (.int .i64 xc) := by rw [hW0]; exact (Blk.new wr _ _).cell 1
      have hszW : W0.heap.size = wr.heap.size + 1 := by rw [hW0]; show (wr.heap.push _).size = _; rw [Array.size_push]
      have hlt0 : wr.heap.size < W0.heap.size := by omega
      have hbW1 : Below W1.heap.size W1 W0 := by rw [hW0]; exact hbw.alloc hbw.size _
      have hS0 := (Below.refl W0.heap.size W0).drew
      have hbad : Hid ((nameB xn = false ∨ xc < 1 ∨ 1099511627776 < xc ∨ (∃ y, prevH l k = some y ∧ Op.bytesLess y xn = false)) → V = 9) := by
        show _ → _
        intro h
        rw [HV.out, if_neg]
        rw [hok.out, HDR.out, hadFrom_cons]
        rcases h with h | h | h | ⟨y, hy, h⟩
        · simp only [h]; simp
        · simp only [decide_eq_false (show ¬ 1 ≤ xc by omega)]; simp
        · simp only [decide_eq_false (show ¬ xc ≤ 1099511627776 by omega)]; simp
        · rw [hy]; simp only [h]; simp
      have hgood : Hid (nameB xn = true → 1 ≤ xc → xc ≤ 1099511627776 → (∀ y, prevH l k = some y → Op.bytesLess y xn = true) → hadFrom none l = hadFrom (prevH l (k + 1)) (l.drop (k + 1))) := by
        show _ → _ → _ → _ → _
        intro h1 h4 h5 h3
        rw [hok.out, HDR.out]
        have hp : prevH l (k + 1) = some xn := by
          show (l[k]?).map _ = _
          rw [List.getElem?_eq_getElem hkl, ← HX.out]
          rfl
        rw [hp, hadFrom_cons]
        simp only [h1, decide_eq_true h4, decide_eq_true h5]
        cases hq : prevH l k with
        | none => rfl
        | some y => simp only [h3 y hq]; rfl
      have hN : ∀ W, Calls Tryd.prog 40 #[.string ⟨xn.toArray⟩] W fun e W' => e = .returned (.bool (nameB xn)) ∧ Below W.heap.size W W' := fun W => (refName_any xn W (by omega)).mono fun e w' h => ⟨h.1, by rw [h.2]; exact Below.refl _ _⟩
      clear hx hdr hok hxl
      obtain ⟨bn, hbn0⟩ : ∃ b, b = nameB xn := ⟨_, rfl⟩
      rw [← hbn0] at hbad hgood hN
      clear hbn0
      cases bn with
      | false =>
        have HB := Lib.hid (hbad.out (.inl rfl))
        have hS := Lib.hid (fun (W' : World) (hB : Below W0.heap.size W0 W') => (⟨(hT.out _ (hbW1.trans (hB.mono hbW1.size))).2, (hB.cell (p := ⟨wr.heap.size, 0, none⟩) hlt0).trans k0, (hB.cell (p := ⟨wr.heap.size, 1, none⟩) hlt0).trans k1, hB⟩ : W'.cell? ⟨w.heap.size, 1, none⟩ = some (.slice (some ad) dn dc) ∧ W'.cell? ⟨wr.heap.size, 0, none⟩ = some (.string ⟨xn.toArray⟩) ∧ W'.cell? ⟨wr.heap.size, 1, none⟩ = some (.int .i64 xc) ∧ Below W0.heap.size W0 W'))
        clear hrw hbad hgood
        go_wp2_with fail
        rw [← hW0]
        clear hW0 hszW c0 c1
        refine wpC_region (fun W' => W'.cell? ⟨w.heap.size, 1, none⟩ = some (.slice (some ad) dn dc) ∧ W'.cell? ⟨wr.heap.size, 0, none⟩ = some (.string ⟨xn.toArray⟩) ∧ W'.cell? ⟨wr.heap.size, 1, none⟩ = some (.int .i64 xc) ∧ Below W0.heap.size W0 W') (by kernel_rfl) (by kernel_rfl) (hS.out _ hS0) (fun OPS D QQ HO hD hD2 hQQ => ?_)
        have hgo4 : Hid ((OPS[4]?).bind (·.dst) = some 25) := by show _ = _; rw [HO.out]; rfl
        have hgo9 : Hid ((OPS[9]?).bind (·.dst) = some 30) := by show _ = _; rw [HO.out]; rfl
        have hgo14 : Hid ((OPS[14]?).bind (·.dst) = some 35) := by show _ = _; rw [HO.out]; rfl
        have hgo17 : Hid ((OPS[17]?).bind (·.dst) = some 38) := by show _ = _; rw [HO.out]; rfl
        clear HO
        have HD := Lib.hid hD
        have HD2 := Lib.hid hD2
        have HQQ := Lib.hid hQQ
        clear hD hD2 hQQ
        refine wpC_read (v := ?_) rfl (fun W hW => ?_) ?_
        rotate_left
        · clear hW; go_simp; try (with_reducible rfl)
        try simp only [Act.put, List.setIfInBounds_toArray, List.set_cons_zero, List.set_cons_succ]
        refine wpC_read (v := ?_) rfl (fun W hW => ?_) ?_
        rotate_left
        · replace hW := HD.out W hW
          obtain ⟨q0, q1, q2, hcW⟩ := hW
          go_simp; try (with_reducible rfl)
        try simp only [Act.put, List.setIfInBounds_toArray, List.set_cons_zero, List.set_cons_succ]
        refine wpC_read (v := .bool false) rfl (fun W hW => ?_) ?_
        · replace hW := HD.out W hW
          obtain ⟨q0, q1, q2, hcW⟩ := hW
          go_simp
          refine (hN _).mono ?_
          rintro e w4 ⟨rfl, hbn⟩
          exact ⟨rfl, HD2.out _ (hS.out _ (below_step hcW hbn))⟩
        try simp only [Act.put, List.setIfInBounds_toArray, List.set_cons_zero, List.set_cons_succ]
        refine wpC_read (v := ?_) rfl (fun W hW => ?_) ?_
        rotate_left
        · clear hW; go_simp; try (with_reducible rfl)
        try simp only [Act.put, List.setIfInBounds_toArray, List.set_cons_zero, List.set_cons_succ]
        refine wpC_read (v := ?_) rfl (fun W hW => ?_) ?_
        rotate_left
        · clear hW; go_simp; try (with_reducible rfl)
        try simp only [Act.put, List.setIfInBounds_toArray, List.set_cons_zero, List.set_cons_succ]
        refine wpC_skip rfl hgo4.out (.inl rfl) ?_
        try simp only [Act.put, List.setIfInBounds_toArray, List.set_cons_zero, List.set_cons_succ]
        refine wpC_skip rfl hgo4.out (.inl rfl) ?_
        try simp only [Act.put, List.setIfInBounds_toArray, List.set_cons_zero, List.set_cons_succ]
        refine wpC_skip rfl hgo4.out (.inl rfl) ?_
        try simp only [Act.put, List.setIfInBounds_toArray, List.set_cons_zero, List.set_cons_succ]
        refine wpC_read (v := ?_) rfl (fun W hW => ?_) ?_
        rotate_left
        · clear hW; go_simp; try (with_reducible rfl)
        try simp only [Act.put, List.setIfInBounds_toArray, List.set_cons_zero, List.set_cons_succ]
        refine wpC_read (v := ?_) rfl (fun W hW => ?_) ?_
        rotate_left
        · clear hW; go_simp; try (with_reducible rfl)
        try simp only [Act.put, List.setIfInBounds_toArray, List.set_cons_zero, List.set_cons_succ]
        refine wpC_skip rfl hgo9.out (.inl rfl) ?_
        try simp only [Act.put, List.setIfInBounds_toArray, List.set_cons_zero, List.set_cons_succ]
        refine wpC_skip rfl hgo9.out (.inl rfl) ?_
        try simp only [Act.put, List.setIfInBounds_toArray, List.set_cons_zero, List.set_cons_succ]
        refine wpC_skip rfl hgo9.out (.inl rfl) ?_
        try simp only [Act.put, List.setIfInBounds_toArray, List.set_cons_zero, List.set_cons_succ]
        refine wpC_read (v := ?_) rfl (fun W hW => ?_) ?_
        rotate_left
        · clear hW; go_simp; try (with_reducible rfl)
        try simp only [Act.put, List.setIfInBounds_toArray, List.set_cons_zero, List.set_cons_succ]
        refine wpC_read (v := ?_) rfl (fun W hW => ?_) ?_
        rotate_left
        · clear hW; go_simp; try (with_reducible rfl)
        try simp only [Act.put, List.setIfInBounds_toArray, List.set_cons_zero, List.set_cons_succ]
        refine wpC_skip rfl hgo14.out (.inl rfl) ?_
        try simp only [Act.put, List.setIfInBounds_toArray, List.set_cons_zero, List.set_cons_succ]
        refine wpC_skip rfl hgo14.out (.inl rfl) ?_
        try simp only [Act.put, List.setIfInBounds_toArray, List.set_cons_zero, List.set_cons_succ]
        refine wpC_skip rfl hgo14.out (.inl rfl) ?_
        try simp only [Act.put, List.setIfInBounds_toArray, List.set_cons_zero, List.set_cons_succ]
        refine wpC_skip rfl hgo17.out (.inr rfl) ?_
        try simp only [Act.put, List.setIfInBounds_toArray, List.set_cons_zero, List.set_cons_succ]
        refine wpC_skip rfl hgo17.out (.inr rfl) ?_
        try simp only [Act.put, List.setIfInBounds_toArray, List.set_cons_zero, List.set_cons_succ]
        refine wpC_skip rfl hgo17.out (.inr rfl) ?_
        try simp only [Act.put, List.setIfInBounds_toArray, List.set_cons_zero, List.set_cons_succ]
        refine wpC_skip rfl hgo17.out (.inr rfl) ?_
        try simp only [Act.put, List.setIfInBounds_toArray, List.set_cons_zero, List.set_cons_succ]
        refine wpC_skip rfl hgo17.out (.inr rfl) ?_
        try simp only [Act.put, List.setIfInBounds_toArray, List.set_cons_zero, List.set_cons_succ]
        refine wpC_skip rfl hgo17.out (.inr rfl) ?_
        try simp only [Act.put, List.setIfInBounds_toArray, List.set_cons_zero, List.set_cons_succ]
        refine wpC_skip rfl hgo17.out (.inr rfl) ?_
        try simp only [Act.put, List.setIfInBounds_toArray, List.set_cons_zero, List.set_cons_succ]
        refine wpC_skip rfl hgo17.out (.inr rfl) ?_
        try simp only [Act.put, List.setIfInBounds_toArray, List.set_cons_zero, List.set_cons_succ]
        refine wpC_skip rfl hgo17.out (.inr rfl) ?_
        try simp only [Act.put, List.setIfInBounds_toArray, List.set_cons_zero, List.set_cons_succ]
        refine wpC_skip rfl hgo17.out (.inr rfl) ?_
        try simp only [Act.put, List.setIfInBounds_toArray, List.set_cons_zero, List.set_cons_succ]
        refine wpC_skip rfl hgo14.out (.inl rfl) ?_
        try simp only [Act.put, List.setIfInBounds_toArray, List.set_cons_zero, List.set_cons_succ]
        refine wpC_read (v := ?_) rfl (fun W hW => ?_) ?_
        rotate_left
        · clear hW; go_simp; try (with_reducible rfl)
        try simp only [Act.put, List.setIfInBounds_toArray, List.set_cons_zero, List.set_cons_succ]
        refine wpQuiet_nil (HQQ.out _ (fun W hW => ?_))
        obtain ⟨q0, q1, q2, hcW⟩ := hW
        go_wp2_with fail
        go_ret
        exact ⟨by rw [HB.out]; rfl, HUP.out _ (hbW1.trans (hcW.mono hbW1.size))⟩
      | true =>
        by_cases z1 : xc < 1
        · have z1' : decide (xc < 1) = true := by simpa using z1
          have HB := Lib.hid (hbad.out (.inr (.inl z1)))
          have hS := Lib.hid (fun (W' : World) (hB : Below W0.heap.size W0 W') => (⟨(hT.out _ (hbW1.trans (hB.mono hbW1.size))).2, (hB.cell (p := ⟨wr.heap.size, 0, none⟩) hlt0).trans k0, (hB.cell (p := ⟨wr.heap.size, 1, none⟩) hlt0).trans k1, hB⟩ : W'.cell? ⟨w.heap.size, 1, none⟩ = some (.slice (some ad) dn dc) ∧ W'.cell? ⟨wr.heap.size, 0, none⟩ = some (.string ⟨xn.toArray⟩) ∧ W'.cell? ⟨wr.heap.size, 1, none⟩ = some (.int .i64 xc) ∧ Below W0.heap.size W0 W'))
          clear hrw hbad hgood
          go_wp2_with fail
          rw [← hW0]
          clear hW0 hszW c0 c1
          refine wpC_region (fun W' => W'.cell? ⟨w.heap.size, 1, none⟩ = some (.slice (some ad) dn dc) ∧ W'.cell? ⟨wr.heap.size, 0, none⟩ = some (.string ⟨xn.toArray⟩) ∧ W'.cell? ⟨wr.heap.size, 1, none⟩ = some (.int .i64 xc) ∧ Below W0.heap.size W0 W') (by kernel_rfl) (by kernel_rfl) (hS.out _ hS0) (fun OPS D QQ HO hD hD2 hQQ => ?_)
          have hgo4 : Hid ((OPS[4]?).bind (·.dst) = some 25) := by show _ = _; rw [HO.out]; rfl
          have hgo9 : Hid ((OPS[9]?).bind (·.dst) = some 30) := by show _ = _; rw [HO.out]; rfl
          have hgo14 : Hid ((OPS[14]?).bind (·.dst) = some 35) := by show _ = _; rw [HO.out]; rfl
          have hgo17 : Hid ((OPS[17]?).bind (·.dst) = some 38) := by show _ = _; rw [HO.out]; rfl
          clear HO
          have HD := Lib.hid hD
          have HD2 := Lib.hid hD2
          have HQQ := Lib.hid hQQ
          clear hD hD2 hQQ
          refine wpC_read (v := ?_) rfl (fun W hW => ?_) ?_
          rotate_left
          · clear hW; go_simp; try (with_reducible rfl)
          try simp only [Act.put, List.setIfInBounds_toArray, List.set_cons_zero, List.set_cons_succ]
          refine wpC_read (v := ?_) rfl (fun W hW => ?_) ?_
          rotate_left
          · replace hW := HD.out W hW
            obtain ⟨q0, q1, q2, hcW⟩ := hW
            go_simp; try (with_reducible rfl)
          try simp only [Act.put, List.setIfInBounds_toArray, List.set_cons_zero, List.set_cons_succ]
          refine wpC_read (v := .bool true) rfl (fun W hW => ?_) ?_
          · replace hW := HD.out W hW
            obtain ⟨q0, q1, q2, hcW⟩ := hW
            go_simp
            refine (hN _).mono ?_
            rintro e w4 ⟨rfl, hbn⟩
            exact ⟨rfl, HD2.out _ (hS.out _ (below_step hcW hbn))⟩
          try simp only [Act.put, List.setIfInBounds_toArray, List.set_cons_zero, List.set_cons_succ]
          refine wpC_read (v := ?_) rfl (fun W hW => ?_) ?_
          rotate_left
          · clear hW; go_simp; try (with_reducible rfl)
          try simp only [Act.put, List.setIfInBounds_toArray, List.set_cons_zero, List.set_cons_succ]
          refine wpC_read (v := ?_) rfl (fun W hW => ?_) ?_
          rotate_left
          · clear hW; go_simp; try (with_reducible rfl)
          try simp only [Act.put, List.setIfInBounds_toArray, List.set_cons_zero, List.set_cons_succ]
          refine wpC_gread (v := ?_) rfl hgo4.out rfl (fun W hW => ?_) ?_
          rotate_left
          · clear hW; go_simp; try (with_reducible rfl)
          try simp only [Act.put, List.setIfInBounds_toArray, List.set_cons_zero, List.set_cons_succ]
          refine wpC_gread (v := ?_) rfl hgo4.out rfl (fun W hW => ?_) ?_
          rotate_left
          · replace hW := HD.out W hW
            obtain ⟨q0, q1, q2, hcW⟩ := hW
            go_simp; try (with_reducible rfl)
          try simp only [Act.put, List.setIfInBounds_toArray, List.set_cons_zero, List.set_cons_succ]
          refine wpC_gread (v := ?_) rfl hgo4.out rfl (fun W hW => ?_) ?_
          rotate_left
          · clear hW; go_simp; try (with_reducible rfl)
          try simp only [Act.put, List.setIfInBounds_toArray, List.set_cons_zero, List.set_cons_succ]
          refine wpC_read (v := ?_) rfl (fun W hW => ?_) ?_
          rotate_left
          · clear hW; go_simp; try (with_reducible rfl)
          try simp only [Act.put, List.setIfInBounds_toArray, List.set_cons_zero, List.set_cons_succ]
          refine wpC_read (v := ?_) rfl (fun W hW => ?_) ?_
          rotate_left
          · clear hW; go_simp; try (with_reducible rfl)
          try simp only [Act.put, List.setIfInBounds_toArray, List.set_cons_zero, List.set_cons_succ]
          refine wpC_skip rfl hgo9.out (.inl rfl) ?_
          try simp only [Act.put, List.setIfInBounds_toArray, List.set_cons_zero, List.set_cons_succ]
          refine wpC_skip rfl hgo9.out (.inl rfl) ?_
          try simp only [Act.put, List.setIfInBounds_toArray, List.set_cons_zero, List.set_cons_succ]
          refine wpC_skip rfl hgo9.out (.inl rfl) ?_
          try simp only [Act.put, List.setIfInBounds_toArray, List.set_cons_zero, List.set_cons_succ]
          refine wpC_read (v := ?_) rfl (fun W hW => ?_) ?_
          rotate_left
          · clear hW; go_simp; try (with_reducible rfl)
          try simp only [Act.put, List.setIfInBounds_toArray, List.set_cons_zero, List.set_cons_succ]
          refine wpC_read (v := ?_) rfl (fun W hW => ?_) ?_
          rotate_left
          · clear hW; go_simp; try (with_reducible rfl)
          try simp only [Act.put, List.setIfInBounds_toArray, List.set_cons_zero, List.set_cons_succ]
          refine wpC_skip rfl hgo14.out (.inl rfl) ?_
          try simp only [Act.put, List.setIfInBounds_toArray, List.set_cons_zero, List.set_cons_succ]
          refine wpC_skip rfl hgo14.out (.inl rfl) ?_
          try simp only [Act.put, List.setIfInBounds_toArray, List.set_cons_zero, List.set_cons_succ]
          refine wpC_skip rfl hgo14.out (.inl rfl) ?_
          try simp only [Act.put, List.setIfInBounds_toArray, List.set_cons_zero, List.set_cons_succ]
          refine wpC_skip rfl hgo17.out (.inr rfl) ?_
          try simp only [Act.put, List.setIfInBounds_toArray, List.set_cons_zero, List.set_cons_succ]
          refine wpC_skip rfl hgo17.out (.inr rfl) ?_
          try simp only [Act.put, List.setIfInBounds_toArray, List.set_cons_zero, List.set_cons_succ]
          refine wpC_skip rfl hgo17.out (.inr rfl) ?_
          try simp only [Act.put, List.setIfInBounds_toArray, List.set_cons_zero, List.set_cons_succ]
          refine wpC_skip rfl hgo17.out (.inr rfl) ?_
          try simp only [Act.put, List.setIfInBounds_toArray, List.set_cons_zero, List.set_cons_succ]
          refine wpC_skip rfl hgo17.out (.inr rfl) ?_
          try simp only [Act.put, List.setIfInBounds_toArray, List.set_cons_zero, List.set_cons_succ]
          refine wpC_skip rfl hgo17.out (.inr rfl) ?_
          try simp only [Act.put, List.setIfInBounds_toArray, List.set_cons_zero, List.set_cons_succ]
          refine wpC_skip rfl hgo17.out (.inr rfl) ?_
          try simp only [Act.put, List.setIfInBounds_toArray, List.set_cons_zero, List.set_cons_succ]
          refine wpC_skip rfl hgo17.out (.inr rfl) ?_
          try simp only [Act.put, List.setIfInBounds_toArray, List.set_cons_zero, List.set_cons_succ]
          refine wpC_skip rfl hgo17.out (.inr rfl) ?_
          try simp only [Act.put, List.setIfInBounds_toArray, List.set_cons_zero, List.set_cons_succ]
          refine wpC_skip rfl hgo17.out (.inr rfl) ?_
          try simp only [Act.put, List.setIfInBounds_toArray, List.set_cons_zero, List.set_cons_succ]
          refine wpC_skip rfl hgo14.out (.inl rfl) ?_
          try simp only [Act.put, List.setIfInBounds_toArray, List.set_cons_zero, List.set_cons_succ]
          refine wpC_read (v := ?_) rfl (fun W hW => ?_) ?_
          rotate_left
          · clear hW; go_simp; try (with_reducible rfl)
          try simp only [Act.put, List.setIfInBounds_toArray, List.set_cons_zero, List.set_cons_succ]
          refine wpQuiet_nil (HQQ.out _ (fun W hW => ?_))
          obtain ⟨q0, q1, q2, hcW⟩ := hW
          go_wp2_with fail
          go_ret
          exact ⟨by rw [HB.out]; rfl, HUP.out _ (hbW1.trans (hcW.mono hbW1.size))⟩
        by_cases z2 : 1099511627776 < xc
        · have z1' : decide (xc < 1) = false := by simpa using z1
          have z2' : decide (1099511627776 < xc) = true := by simpa using z2
          have HB := Lib.hid (hbad.out (.inr (.inr (.inl z2))))
          have hS := Lib.hid (fun (W' : World) (hB : Below W0.heap.size W0 W') => (⟨(hT.out _ (hbW1.trans (hB.mono hbW1.size))).2, (hB.cell (p := ⟨wr.heap.size, 0, none⟩) hlt0).trans k0, (hB.cell (p := ⟨wr.heap.size, 1, none⟩) hlt0).trans k1, hB⟩ : W'.cell? ⟨w.heap.size, 1, none⟩ = some (.slice (some ad) dn dc) ∧ W'.cell? ⟨wr.heap.size, 0, none⟩ = some (.string ⟨xn.toArray⟩) ∧ W'.cell? ⟨wr.heap.size, 1, none⟩ = some (.int .i64 xc) ∧ Below W0.heap.size W0 W'))
          clear hrw hbad hgood
          go_wp2_with fail
          rw [← hW0]
          clear hW0 hszW c0 c1
          refine wpC_region (fun W' => W'.cell? ⟨w.heap.size, 1, none⟩ = some (.slice (some ad) dn dc) ∧ W'.cell? ⟨wr.heap.size, 0, none⟩ = some (.string ⟨xn.toArray⟩) ∧ W'.cell? ⟨wr.heap.size, 1, none⟩ = some (.int .i64 xc) ∧ Below W0.heap.size W0 W') (by kernel_rfl) (by kernel_rfl) (hS.out _ hS0) (fun OPS D QQ HO hD hD2 hQQ => ?_)
          have hgo4 : Hid ((OPS[4]?).bind (·.dst) = some 25) := by show _ = _; rw [HO.out]; rfl
          have hgo9 : Hid ((OPS[9]?).bind (·.dst) = some 30) := by show _ = _; rw [HO.out]; rfl
          have hgo14 : Hid ((OPS[14]?).bind (·.dst) = some 35) := by show _ = _; rw [HO.out]; rfl
          have hgo17 : Hid ((OPS[17]?).bind (·.dst) = some 38) := by show _ = _; rw [HO.out]; rfl
          clear HO
          have HD := Lib.hid hD
          have HD2 := Lib.hid hD2
          have HQQ := Lib.hid hQQ
          clear hD hD2 hQQ
          refine wpC_read (v := ?_) rfl (fun W hW => ?_) ?_
          rotate_left
          · clear hW; go_simp; try (with_reducible rfl)
          try simp only [Act.put, List.setIfInBounds_toArray, List.set_cons_zero, List.set_cons_succ]
          refine wpC_read (v := ?_) rfl (fun W hW => ?_) ?_
          rotate_left
          · replace hW := HD.out W hW
            obtain ⟨q0, q1, q2, hcW⟩ := hW
            go_simp; try (with_reducible rfl)
          try simp only [Act.put, List.setIfInBounds_toArray, List.set_cons_zero, List.set_cons_succ]
          refine wpC_read (v := .bool true) rfl (fun W hW => ?_) ?_
          · replace hW := HD.out W hW
            obtain ⟨q0, q1, q2, hcW⟩ := hW
            go_simp
            refine (hN _).mono ?_
            rintro e w4 ⟨rfl, hbn⟩
            exact ⟨rfl, HD2.out _ (hS.out _ (below_step hcW hbn))⟩
          try simp only [Act.put, List.setIfInBounds_toArray, List.set_cons_zero, List.set_cons_succ]
          refine wpC_read (v := ?_) rfl (fun W hW => ?_) ?_
          rotate_left
          · clear hW; go_simp; try (with_reducible rfl)
          try simp only [Act.put, List.setIfInBounds_toArray, List.set_cons_zero, List.set_cons_succ]
          refine wpC_read (v := ?_) rfl (fun W hW => ?_) ?_
          rotate_left
          · clear hW; go_simp; try (with_reducible rfl)
          try simp only [Act.put, List.setIfInBounds_toArray, List.set_cons_zero, List.set_cons_succ]
          refine wpC_gread (v := ?_) rfl hgo4.out rfl (fun W hW => ?_) ?_
          rotate_left
          · clear hW; go_simp; try (with_reducible rfl)
          try simp only [Act.put, List.setIfInBounds_toArray, List.set_cons_zero, List.set_cons_succ]
          refine wpC_gread (v := ?_) rfl hgo4.out rfl (fun W hW => ?_) ?_
          rotate_left
          · replace hW := HD.out W hW
            obtain ⟨q0, q1, q2, hcW⟩ := hW
            go_simp; try (with_reducible rfl)
          try simp only [Act.put, List.setIfInBounds_toArray, List.set_cons_zero, List.set_cons_succ]
          refine wpC_gread (v := ?_) rfl hgo4.out rfl (fun W hW => ?_) ?_
          rotate_left
          · clear hW; go_simp; try (with_reducible rfl)
          try simp only [Act.put, List.setIfInBounds_toArray, List.set_cons_zero, List.set_cons_succ]
          refine wpC_read (v := ?_) rfl (fun W hW => ?_) ?_
          rotate_left
          · clear hW; go_simp; try (with_reducible rfl)
          try simp only [Act.put, List.setIfInBounds_toArray, List.set_cons_zero, List.set_cons_succ]
          refine wpC_read (v := ?_) rfl (fun W hW => ?_) ?_
          rotate_left
          · clear hW; go_simp; try (with_reducible rfl)
          try simp only [Act.put, List.setIfInBounds_toArray, List.set_cons_zero, List.set_cons_succ]
          refine wpC_gread (v := ?_) rfl hgo9.out rfl (fun W hW => ?_) ?_
          rotate_left
          · clear hW; go_simp; try (with_reducible rfl)
          try simp only [Act.put, List.setIfInBounds_toArray, List.set_cons_zero, List.set_cons_succ]
          refine wpC_gread (v := ?_) rfl hgo9.out rfl (fun W hW => ?_) ?_
          rotate_left
          · replace hW := HD.out W hW
            obtain ⟨q0, q1, q2, hcW⟩ := hW
            go_simp; try (with_reducible rfl)
          try simp only [Act.put, List.setIfInBounds_toArray, List.set_cons_zero, List.set_cons_succ]
          refine wpC_gread (v := ?_) rfl hgo9.out rfl (fun W hW => ?_) ?_
          rotate_left
          · clear hW; go_simp; try (with_reducible rfl)
          try simp only [Act.put, List.setIfInBounds_toArray, List.set_cons_zero, List.set_cons_succ]
          refine wpC_read (v := ?_) rfl (fun W hW => ?_) ?_
          rotate_left
          · clear hW; go_simp; try (with_reducible rfl)
          try simp only [Act.put, List.setIfInBounds_toArray, List.set_cons_zero, List.set_cons_succ]
          refine wpC_read (v := ?_) rfl (fun W hW => ?_) ?_
          rotate_left
          · clear hW; go_simp; try (with_reducible rfl)
          try simp only [Act.put, List.setIfInBounds_toArray, List.set_cons_zero, List.set_cons_succ]
          refine wpC_skip rfl hgo14.out (.inl rfl) ?_
          try simp only [Act.put, List.setIfInBounds_toArray, List.set_cons_zero, List.set_cons_succ]
          refine wpC_skip rfl hgo14.out (.inl rfl) ?_
          try simp only [Act.put, List.setIfInBounds_toArray, List.set_cons_zero, List.set_cons_succ]
          refine wpC_skip rfl hgo14.out (.inl rfl) ?_
          try simp only [Act.put, List.setIfInBounds_toArray, List.set_cons_zero, List.set_cons_succ]
          refine wpC_skip rfl hgo17.out (.inr rfl) ?_
          try simp only [Act.put, List.setIfInBounds_toArray, List.set_cons_zero, List.set_cons_succ]
          refine wpC_skip rfl hgo17.out (.inr rfl) ?_
          try simp only [Act.put, List.setIfInBounds_toArray, List.set_cons_zero, List.set_cons_succ]
          refine wpC_skip rfl hgo17.out (.inr rfl) ?_
          try simp only [Act.put, List.setIfInBounds_toArray, List.set_cons_zero, List.set_cons_succ]
          refine wpC_skip rfl hgo17.out (.inr rfl) ?_
          try simp only [Act.put, List.setIfInBounds_toArray, List.set_cons_zero, List.set_cons_succ]
          refine wpC_skip rfl hgo17.out (.inr rfl) ?_
          try simp only [Act.put, List.setIfInBounds_toArray, List.set_cons_zero, List.set_cons_succ]
          refine wpC_skip rfl hgo17.out (.inr rfl) ?_
          try simp only [Act.put, List.setIfInBounds_toArray, List.set_cons_zero, List.set_cons_succ]
          refine wpC_skip rfl hgo17.out (.inr rfl) ?_
          try simp only [Act.put, List.setIfInBounds_toArray, List.set_cons_zero, List.set_cons_succ]
          refine wpC_skip rfl hgo17.out (.inr rfl) ?_
          try simp only [Act.put, List.setIfInBounds_toArray, List.set_cons_zero, List.set_cons_succ]
          refine wpC_skip rfl hgo17.out (.inr rfl) ?_
          try simp only [Act.put, List.setIfInBounds_toArray, List.set_cons_zero, List.set_cons_succ]
          refine wpC_skip rfl hgo17.out (.inr rfl) ?_
          try simp only [Act.put, List.setIfInBounds_toArray, List.set_cons_zero, List.set_cons_succ]
          refine wpC_skip rfl hgo14.out (.inl rfl) ?_
          try simp only [Act.put, List.setIfInBounds_toArray, List.set_cons_zero, List.set_cons_succ]
          refine wpC_read (v := ?_) rfl (fun W hW => ?_) ?_
          rotate_left
          · clear hW; go_simp; try (with_reducible rfl)
          try simp only [Act.put, List.setIfInBounds_toArray, List.set_cons_zero, List.set_cons_succ]
          refine wpQuiet_nil (HQQ.out _ (fun W hW => ?_))
          obtain ⟨q0, q1, q2, hcW⟩ := hW
          go_wp2_with fail
          go_ret
          exact ⟨by rw [HB.out]; rfl, HUP.out _ (hbW1.trans (hcW.mono hbW1.size))⟩
        have z1' : decide (xc < 1) = false := by simpa using z1
        have z2' : decide (1099511627776 < xc) = false := by simpa using z2
        rcases Nat.eq_zero_or_pos k with h0 | h0
        · have HG := Lib.hid (hgood.out rfl (by omega) (by omega) (fun y hy => by subst h0; cases hy))
          have d4 : decide ((0 : Int) < (k : Int)) = false := by simp; omega
          have d4' : decide (0 < k) = false := by simp; omega
          clear h0
          have hS := Lib.hid (fun (W' : World) (hB : Below W0.heap.size W0 W') => (⟨(hT.out _ (hbW1.trans (hB.mono hbW1.size))).2, (hB.cell (p := ⟨wr.heap.size, 0, none⟩) hlt0).trans k0, (hB.cell (p := ⟨wr.heap.size, 1, none⟩) hlt0).trans k1, hB⟩ : W'.cell? ⟨w.heap.size, 1, none⟩ = some (.slice (some ad) dn dc) ∧ W'.cell? ⟨wr.heap.size, 0, none⟩ = some (.string ⟨xn.toArray⟩) ∧ W'.cell? ⟨wr.heap.size, 1, none⟩ = some (.int .i64 xc) ∧ Below W0.heap.size W0 W'))
          clear hrw hbad hgood
          go_wp2_with fail
          rw [← hW0]
          clear hW0 hszW c0 c1
          refine wpC_region (fun W' => W'.cell? ⟨w.heap.size, 1, none⟩ = some (.slice (some ad) dn dc) ∧ W'.cell? ⟨wr.heap.size, 0, none⟩ = some (.string ⟨xn.toArray⟩) ∧ W'.cell? ⟨wr.heap.size, 1, none⟩ = some (.int .i64 xc) ∧ Below W0.heap.size W0 W') (by kernel_rfl) (by kernel_rfl) (hS.out _ hS0) (fun OPS D QQ HO hD hD2 hQQ => ?_)
          have hgo4 : Hid ((OPS[4]?).bind (·.dst) = some 25) := by show _ = _; rw [HO.out]; rfl
          have hgo9 : Hid ((OPS[9]?).bind (·.dst) = some 30) := by show _ = _; rw [HO.out]; rfl
          have hgo14 : Hid ((OPS[14]?).bind (·.dst) = some 35) := by show _ = _; rw [HO.out]; rfl
          have hgo17 : Hid ((OPS[17]?).bind (·.dst) = some 38) := by show _ = _; rw [HO.out]; rfl
          clear HO
          have HD := Lib.hid hD
          have HD2 := Lib.hid hD2
          have HQQ := Lib.hid hQQ
          clear hD hD2 hQQ
          refine wpC_read (v := ?_) rfl (fun W hW => ?_) ?_
          rotate_left
          · clear hW; go_simp; try (with_reducible rfl)
          try simp only [Act.put, List.setIfInBounds_toArray, List.set_cons_zero, List.set_cons_succ]
          refine wpC_read (v := ?_) rfl (fun W hW => ?_) ?_
          rotate_left
          · replace hW := HD.out W hW
            obtain ⟨q0, q1, q2, hcW⟩ := hW
            go_simp; try (with_reducible rfl)
          try simp only [Act.put, List.setIfInBounds_toArray, List.set_cons_zero, List.set_cons_succ]
          refine wpC_read (v := .bool true) rfl (fun W hW => ?_) ?_
          · replace hW := HD.out W hW
            obtain ⟨q0, q1, q2, hcW⟩ := hW
            go_simp
            refine (hN _).mono ?_
            rintro e w4 ⟨rfl, hbn⟩
            exact ⟨rfl, HD2.out _ (hS.out _ (below_step hcW hbn))⟩
          try simp only [Act.put, List.setIfInBounds_toArray, List.set_cons_zero, List.set_cons_succ]
          refine wpC_read (v := ?_) rfl (fun W hW => ?_) ?_
          rotate_left
          · clear hW; go_simp; try (with_reducible rfl)
          try simp only [Act.put, List.setIfInBounds_toArray, List.set_cons_zero, List.set_cons_succ]
          refine wpC_read (v := ?_) rfl (fun W hW => ?_) ?_
          rotate_left
          · clear hW; go_simp; try (with_reducible rfl)
          try simp only [Act.put, List.setIfInBounds_toArray, List.set_cons_zero, List.set_cons_succ]
          refine wpC_gread (v := ?_) rfl hgo4.out rfl (fun W hW => ?_) ?_
          rotate_left
          · clear hW; go_simp; try (with_reducible rfl)
          try simp only [Act.put, List.setIfInBounds_toArray, List.set_cons_zero, List.set_cons_succ]
          refine wpC_gread (v := ?_) rfl hgo4.out rfl (fun W hW => ?_) ?_
          rotate_left
          · replace hW := HD.out W hW
            obtain ⟨q0, q1, q2, hcW⟩ := hW
            go_simp; try (with_reducible rfl)
          try simp only [Act.put, List.setIfInBounds_toArray, List.set_cons_zero, List.set_cons_succ]
          refine wpC_gread (v := ?_) rfl hgo4.out rfl (fun W hW => ?_) ?_
          rotate_left
          · clear hW; go_simp; try (with_reducible rfl)
          try simp only [Act.put, List.setIfInBounds_toArray, List.set_cons_zero, List.set_cons_succ]
          refine wpC_read (v := ?_) rfl (fun W hW => ?_) ?_
          rotate_left
          · clear hW; go_simp; try (with_reducible rfl)
          try simp only [Act.put, List.setIfInBounds_toArray, List.set_cons_zero, List.set_cons_succ]
          refine wpC_read (v := ?_) rfl (fun W hW => ?_) ?_
          rotate_left
          · clear hW; go_simp; try (with_reducible rfl)
          try simp only [Act.put, List.setIfInBounds_toArray, List.set_cons_zero, List.set_cons_succ]
          refine wpC_gread (v := ?_) rfl hgo9.out rfl (fun W hW => ?_) ?_
          rotate_left
          · clear hW; go_simp; try (with_reducible rfl)
          try simp only [Act.put, List.setIfInBounds_toArray, List.set_cons_zero, List.set_cons_succ]
          refine wpC_gread (v := ?_) rfl hgo9.out rfl (fun W hW => ?_) ?_
          rotate_left
          · replace hW := HD.out W hW
            obtain ⟨q0, q1, q2, hcW⟩ := hW
            go_simp; try (with_reducible rfl)
          try simp only [Act.put, List.setIfInBounds_toArray, List.set_cons_zero, List.set_cons_succ]
          refine wpC_gread (v := ?_) rfl hgo9.out rfl (fun W hW => ?_) ?_
          rotate_left
          · clear hW; go_simp; try (with_reducible rfl)
          try simp only [Act.put, List.setIfInBounds_toArray, List.set_cons_zero, List.set_cons_succ]
          refine wpC_read (v := ?_) rfl (fun W hW => ?_) ?_
          rotate_left
          · clear hW; go_simp; try (with_reducible rfl)
          try simp only [Act.put, List.setIfInBounds_toArray, List.set_cons_zero, List.set_cons_succ]
          refine wpC_read (v := ?_) rfl (fun W hW => ?_) ?_
          rotate_left
          · clear hW; go_simp; try (with_reducible rfl)
          try simp only [Act.put, List.setIfInBounds_toArray, List.set_cons_zero, List.set_cons_succ]
          refine wpC_gread (v := ?_) rfl hgo14.out rfl (fun W hW => ?_) ?_
          rotate_left
          · clear hW; go_simp; try (with_reducible rfl)
          try simp only [Act.put, List.setIfInBounds_toArray, List.set_cons_zero, List.set_cons_succ]
          refine wpC_gread (v := ?_) rfl hgo14.out rfl (fun W hW => ?_) ?_
          rotate_left
          · clear hW; go_simp; try (with_reducible rfl)
          try simp only [Act.put, List.setIfInBounds_toArray, List.set_cons_zero, List.set_cons_succ]
          refine wpC_gread (v := ?_) rfl hgo14.out rfl (fun W hW => ?_) ?_
          rotate_left
          · clear hW; go_simp; try (with_reducible rfl)
          try simp only [Act.put, List.setIfInBounds_toArray, List.set_cons_zero, List.set_cons_succ]
          refine wpC_skip rfl hgo17.out (.inl rfl) ?_
          try simp only [Act.put, List.setIfInBounds_toArray, List.set_cons_zero, List.set_cons_succ]
          refine wpC_skip rfl hgo17.out (.inl rfl) ?_
          try simp only [Act.put, List.setIfInBounds_toArray, List.set_cons_zero, List.set_cons_succ]
          refine wpC_skip rfl hgo17.out (.inl rfl) ?_
          try simp only [Act.put, List.setIfInBounds_toArray, List.set_cons_zero, List.set_cons_succ]
          refine wpC_skip rfl hgo17.out (.inl rfl) ?_
          try simp only [Act.put, List.setIfInBounds_toArray, List.set_cons_zero, List.set_cons_succ]
          refine wpC_skip rfl hgo17.out (.inl rfl) ?_
          try simp only [Act.put, List.setIfInBounds_toArray, List.set_cons_zero, List.set_cons_succ]
          refine wpC_skip rfl hgo17.out (.inl rfl) ?_
          try simp only [Act.put, List.setIfInBounds_toArray, List.set_cons_zero, List.set_cons_succ]
          refine wpC_skip rfl hgo17.out (.inl rfl) ?_
          try simp only [Act.put, List.setIfInBounds_toArray, List.set_cons_zero, List.set_cons_succ]
          refine wpC_skip rfl hgo17.out (.inl rfl) ?_
          try simp only [Act.put, List.setIfInBounds_toArray, List.set_cons_zero, List.set_cons_succ]
          refine wpC_skip rfl hgo17.out (.inl rfl) ?_
          try simp only [Act.put, List.setIfInBounds_toArray, List.set_cons_zero, List.set_cons_succ]
          refine wpC_skip rfl hgo17.out (.inl rfl) ?_
          try simp only [Act.put, List.setIfInBounds_toArray, List.set_cons_zero, List.set_cons_succ]
          refine wpC_gread (v := ?_) rfl hgo14.out rfl (fun W hW => ?_) ?_
          rotate_left
          · clear hW; go_simp; try (with_reducible rfl)
          try simp only [Act.put, List.setIfInBounds_toArray, List.set_cons_zero, List.set_cons_succ]
          refine wpC_read (v := ?_) rfl (fun W hW => ?_) ?_
          rotate_left
          · clear hW; go_simp; try (with_reducible rfl)
          try simp only [Act.put, List.setIfInBounds_toArray, List.set_cons_zero, List.set_cons_succ]
          refine wpQuiet_nil (HQQ.out _ (fun W hW => ?_))
          obtain ⟨q0, q1, q2, hcW⟩ := hW
          go_wp2_with fail
          go_roundw
          case rel => exact ⟨k + 1, by omega, by go_num, HG, hbW1.trans (hcW.mono hbW1.size)⟩
          case measure => simp [intOf]; omega
        · have d4 : decide ((0 : Int) < (k : Int)) = true := by simp; omega
          have d4' : decide (0 < k) = true := by simp; omega
          have hk1l : k - 1 < l.length := by omega
          obtain ⟨y, hy⟩ : ∃ y, y = l[k - 1]'hk1l := ⟨_, rfl⟩
          have hpv : prevH l k = some y.1 := by
            obtain ⟨j, rfl⟩ : ∃ j, k = j + 1 := ⟨k - 1, by omega⟩
            show (l[j]?).map _ = _
            have hj : j < l.length := by simpa using hk1l
            rw [List.getElem?_eq_getElem hj, hy]
            rfl
          obtain ⟨ad2, e2, -, p0, p1⟩ := (hrw.el2 HN.out (i := k - 1) (by omega))
          injection e2 with e2
          subst e2
          rw [← hy] at p0 p1
          obtain ⟨yn, yc⟩ := y
          simp only at p0 p1 hpv
          have hltw : (ad.add ((k - 1) * 2)).block < wr.heap.size := by rw [block_of_add]; omega
          have hltp : (ad.add ((k - 1) * 2)).block < W0.heap.size := by omega
          have kp0 : W0.cell? (ad.add ((k - 1) * 2)) = some (.string ⟨yn.toArray⟩) := by rw [hW0]; exact (World.cell?_alloc_lt wr _ _ hltw).trans p0
          have i1 : (1 : Int) ≤ (k : Int) := by omega
          have i2 : (k : Int) - 1 < (dn : Int) := by omega
          have i3 : IntKind.i64.wrap ((k : Int) - 1) = (k : Int) - 1 := IntWalk.i64_in _ (by omega)
          have i4 : ((k : Int) - 1).toNat = k - 1 := by omega
          have hleq := leqS 9 xn yn
          rw [bl_leq] at hleq
          have hbadO := fun (h : Op.bytesLess yn xn = false) => hbad.out (.inr (.inr (.inr ⟨_, hpv, h⟩)))
          have hgoodO := fun (h : Op.bytesLess yn xn = true) => hgood.out rfl (by omega) (by omega) (fun y' hy' => by rw [hpv] at hy'; cases hy'; exact h)
          obtain ⟨z, hz⟩ : ∃ z, z = Op.bytesLess yn xn := ⟨_, rfl⟩
          rw [← hz] at hleq hbadO hgoodO
          clear hz
          cases z with
          | true =>
            have HG := Lib.hid (hgoodO rfl)
            simp only [Bool.not_true] at hleq
            clear h0 hpv hy p0 p1 hbadO hgoodO
            have hS := Lib.hid (fun (W' : World) (hB : Below W0.heap.size W0 W') => (⟨(hT.out _ (hbW1.trans (hB.mono hbW1.size))).2, (hB.cell (p := ⟨wr.heap.size, 0, none⟩) hlt0).trans k0, (hB.cell (p := ⟨wr.heap.size, 1, none⟩) hlt0).trans k1, (hB.cell (p := ad.add ((k - 1) * 2)) hltp).trans kp0, hB⟩ : W'.cell? ⟨w.heap.size, 1, none⟩ = some (.slice (some ad) dn dc) ∧ W'.cell? ⟨wr.heap.size, 0, none⟩ = some (.string ⟨xn.toArray⟩) ∧ W'.cell? ⟨wr.heap.size, 1, none⟩ = some (.int .i64 xc) ∧ W'.cell? (ad.add ((k - 1) * 2)) = some (.string ⟨yn.toArray⟩) ∧ Below W0.heap.size W0 W'))
            clear hrw hbad hgood
            go_wp2_with fail
            rw [← hW0]
            clear hW0 hszW c0 c1
            refine wpC_region (fun W' => W'.cell? ⟨w.heap.size, 1, none⟩ = some (.slice (some ad) dn dc) ∧ W'.cell? ⟨wr.heap.size, 0, none⟩ = some (.string ⟨xn.toArray⟩) ∧ W'.cell? ⟨wr.heap.size, 1, none⟩ = some (.int .i64 xc) ∧ W'.cell? (ad.add ((k - 1) * 2)) = some (.string ⟨yn.toArray⟩) ∧ Below W0.heap.size W0 W') (by kernel_rfl) (by kernel_rfl) (hS.out _ hS0) (fun OPS D QQ HO hD hD2 hQQ => ?_)
            have hgo4 : Hid ((OPS[4]?).bind (·.dst) = some 25) := by show _ = _; rw [HO.out]; rfl
            have hgo9 : Hid ((OPS[9]?).bind (·.dst) = some 30) := by show _ = _; rw [HO.out]; rfl
            have hgo14 : Hid ((OPS[14]?).bind (·.dst) = some 35) := by show _ = _; rw [HO.out]; rfl
            have hgo17 : Hid ((OPS[17]?).bind (·.dst) = some 38) := by show _ = _; rw [HO.out]; rfl
            clear HO
            have HD := Lib.hid hD
            have HD2 := Lib.hid hD2
            have HQQ := Lib.hid hQQ
            clear hD hD2 hQQ
            refine wpC_read (v := ?_) rfl (fun W hW => ?_) ?_
            rotate_left
            · clear hW; go_simp; try (with_reducible rfl)
            try simp only [Act.put, List.setIfInBounds_toArray, List.set_cons_zero, List.set_cons_succ]
            refine wpC_read (v := ?_) rfl (fun W hW => ?_) ?_
            rotate_left
            · replace hW := HD.out W hW
              obtain ⟨q0, q1, q2, q3, hcW⟩ := hW
              go_simp; try (with_reducible rfl)
            try simp only [Act.put, List.setIfInBounds_toArray, List.set_cons_zero, List.set_cons_succ]
            refine wpC_read (v := .bool true) rfl (fun W hW => ?_) ?_
            · replace hW := HD.out W hW
              obtain ⟨q0, q1, q2, q3, hcW⟩ := hW
              go_simp
              refine (hN _).mono ?_
              rintro e w4 ⟨rfl, hbn⟩
              exact ⟨rfl, HD2.out _ (hS.out _ (below_step hcW hbn))⟩
            try simp only [Act.put, List.setIfInBounds_toArray, List.set_cons_zero, List.set_cons_succ]
            refine wpC_read (v := ?_) rfl (fun W hW => ?_) ?_
            rotate_left
            · clear hW; go_simp; try (with_reducible rfl)
            try simp only [Act.put, List.setIfInBounds_toArray, List.set_cons_zero, List.set_cons_succ]
            refine wpC_read (v := ?_) rfl (fun W hW => ?_) ?_
            rotate_left
            · clear hW; go_simp; try (with_reducible rfl)
            try simp only [Act.put, List.setIfInBounds_toArray, List.set_cons_zero, List.set_cons_succ]
            refine wpC_gread (v := ?_) rfl hgo4.out rfl (fun W hW => ?_) ?_
            rotate_left
            · clear hW; go_simp; try (with_reducible rfl)
            try simp only [Act.put, List.setIfInBounds_toArray, List.set_cons_zero, List.set_cons_succ]
            refine wpC_gread (v := ?_) rfl hgo4.out rfl (fun W hW => ?_) ?_
            rotate_left
            · replace hW := HD.out W hW
              obtain ⟨q0, q1, q2, q3, hcW⟩ := hW
              go_simp; try (with_reducible rfl)
            try simp only [Act.put, List.setIfInBounds_toArray, List.set_cons_zero, List.set_cons_succ]
            refine wpC_gread (v := ?_) rfl hgo4.out rfl (fun W hW => ?_) ?_
            rotate_left
            · clear hW; go_simp; try (with_reducible rfl)
            try simp only [Act.put, List.setIfInBounds_toArray, List.set_cons_zero, List.set_cons_succ]
            refine wpC_read (v := ?_) rfl (fun W hW => ?_) ?_
            rotate_left
            · clear hW; go_simp; try (with_reducible rfl)
            try simp only [Act.put, List.setIfInBounds_toArray, List.set_cons_zero, List.set_cons_succ]
            refine wpC_read (v := ?_) rfl (fun W hW => ?_) ?_
            rotate_left
            · clear hW; go_simp; try (with_reducible rfl)
            try simp only [Act.put, List.setIfInBounds_toArray, List.set_cons_zero, List.set_cons_succ]
            refine wpC_gread (v := ?_) rfl hgo9.out rfl (fun W hW => ?_) ?_
            rotate_left
            · clear hW; go_simp; try (with_reducible rfl)
            try simp only [Act.put, List.setIfInBounds_toArray, List.set_cons_zero, List.set_cons_succ]
            refine wpC_gread (v := ?_) rfl hgo9.out rfl (fun W hW => ?_) ?_
            rotate_left
            · replace hW := HD.out W hW
              obtain ⟨q0, q1, q2, q3, hcW⟩ := hW
              go_simp; try (with_reducible rfl)
            try simp only [Act.put, List.setIfInBounds_toArray, List.set_cons_zero, List.set_cons_succ]
            refine wpC_gread (v := ?_) rfl hgo9.out rfl (fun W hW => ?_) ?_
            rotate_left
            · clear hW; go_simp; try (with_reducible rfl)
            try simp only [Act.put, List.setIfInBounds_toArray, List.set_cons_zero, List.set_cons_succ]
            refine wpC_read (v := ?_) rfl (fun W hW => ?_) ?_
            rotate_left
            · clear hW; go_simp; try (with_reducible rfl)
            try simp only [Act.put, List.setIfInBounds_toArray, List.set_cons_zero, List.set_cons_succ]
            refine wpC_read (v := ?_) rfl (fun W hW => ?_) ?_
            rotate_left
            · clear hW; go_simp; try (with_reducible rfl)
            try simp only [Act.put, List.setIfInBounds_toArray, List.set_cons_zero, List.set_cons_succ]
            refine wpC_gread (v := ?_) rfl hgo14.out rfl (fun W hW => ?_) ?_
            rotate_left
            · clear hW; go_simp; try (with_reducible rfl)
            try simp only [Act.put, List.setIfInBounds_toArray, List.set_cons_zero, List.set_cons_succ]
            refine wpC_gread (v := ?_) rfl hgo14.out rfl (fun W hW => ?_) ?_
            rotate_left
            · clear hW; go_simp; try (with_reducible rfl)
            try simp only [Act.put, List.setIfInBounds_toArray, List.set_cons_zero, List.set_cons_succ]
            refine wpC_gread (v := ?_) rfl hgo14.out rfl (fun W hW => ?_) ?_
            rotate_left
            · clear hW; go_simp; try (with_reducible rfl)
            try simp only [Act.put, List.setIfInBounds_toArray, List.set_cons_zero, List.set_cons_succ]
            refine wpC_gread (v := ?_) rfl hgo17.out rfl (fun W hW => ?_) ?_
            rotate_left
            · clear hW; go_simp; try (with_reducible rfl)
            try simp only [Act.put, List.setIfInBounds_toArray, List.set_cons_zero, List.set_cons_succ]
            refine wpC_gread (v := ?_) rfl hgo17.out rfl (fun W hW => ?_) ?_
            rotate_left
            · replace hW := HD.out W hW
              obtain ⟨q0, q1, q2, q3, hcW⟩ := hW
              go_simp; try (with_reducible rfl)
            try simp only [Act.put, List.setIfInBounds_toArray, List.set_cons_zero, List.set_cons_succ]
            refine wpC_gread (v := ?_) rfl hgo17.out rfl (fun W hW => ?_) ?_
            rotate_left
            · clear hW; go_simp; try (with_reducible rfl)
            try simp only [Act.put, List.setIfInBounds_toArray, List.set_cons_zero, List.set_cons_succ]
            refine wpC_gread (v := ?_) rfl hgo17.out rfl (fun W hW => ?_) ?_
            rotate_left
            · replace hW := HD.out W hW
              obtain ⟨q0, q1, q2, q3, hcW⟩ := hW
              go_simp; try (with_reducible rfl)
            try simp only [Act.put, List.setIfInBounds_toArray, List.set_cons_zero, List.set_cons_succ]
            refine wpC_gread (v := ?_) rfl hgo17.out rfl (fun W hW => ?_) ?_
            rotate_left
            · clear hW; go_simp; try (with_reducible rfl)
            try simp only [Act.put, List.setIfInBounds_toArray, List.set_cons_zero, List.set_cons_succ]
            refine wpC_gread (v := ?_) rfl hgo17.out rfl (fun W hW => ?_) ?_
            rotate_left
            · clear hW; go_simp; try (with_reducible rfl)
            try simp only [Act.put, List.setIfInBounds_toArray, List.set_cons_zero, List.set_cons_succ]
            refine wpC_gread (v := ?_) rfl hgo17.out rfl (fun W hW => ?_) ?_
            rotate_left
            · clear hW; go_simp; try (with_reducible rfl)
            try simp only [Act.put, List.setIfInBounds_toArray, List.set_cons_zero, List.set_cons_succ]
            refine wpC_gread (v := ?_) rfl hgo17.out rfl (fun W hW => ?_) ?_
            rotate_left
            · clear hW; go_simp; try (with_reducible rfl)
            try simp only [Act.put, List.setIfInBounds_toArray, List.set_cons_zero, List.set_cons_succ]
            refine wpC_gread (v := ?_) rfl hgo17.out rfl (fun W hW => ?_) ?_
            rotate_left
            · replace hW := HD.out W hW
              obtain ⟨q0, q1, q2, q3, hcW⟩ := hW
              go_simp; try (with_reducible rfl)
            try simp only [Act.put, List.setIfInBounds_toArray, List.set_cons_zero, List.set_cons_succ]
            refine wpC_gread (v := ?_) rfl hgo17.out rfl (fun W hW => ?_) ?_
            rotate_left
            · clear hW; go_simp; try (with_reducible rfl)
            try simp only [Act.put, List.setIfInBounds_toArray, List.set_cons_zero, List.set_cons_succ]
            refine wpC_gread (v := ?_) rfl hgo14.out rfl (fun W hW => ?_) ?_
            rotate_left
            · clear hW; go_simp; try (with_reducible rfl)
            try simp only [Act.put, List.setIfInBounds_toArray, List.set_cons_zero, List.set_cons_succ]
            refine wpC_read (v := ?_) rfl (fun W hW => ?_) ?_
            rotate_left
            · clear hW; go_simp; try (with_reducible rfl)
            try simp only [Act.put, List.setIfInBounds_toArray, List.set_cons_zero, List.set_cons_succ]
            refine wpQuiet_nil (HQQ.out _ (fun W hW => ?_))
            obtain ⟨q0, q1, q2, q3, hcW⟩ := hW
            go_wp2_with fail
            go_roundw
            case rel => exact ⟨k + 1, by omega, by go_num, HG, hbW1.trans (hcW.mono hbW1.size)⟩
            case measure => simp [intOf]; omega
          | false =>
            have HB := Lib.hid (hbadO rfl)
            simp only [Bool.not_false] at hleq
            clear h0 hpv hy p0 p1 hbadO hgoodO
            have hS := Lib.hid (fun (W' : World) (hB : Below W0.heap.size W0 W') => (⟨(hT.out _ (hbW1.trans (hB.mono hbW1.size))).2, (hB.cell (p := ⟨wr.heap.size, 0, none⟩) hlt0).trans k0, (hB.cell (p := ⟨wr.heap.size, 1, none⟩) hlt0).trans k1, (hB.cell (p := ad.add ((k - 1) * 2)) hltp).trans kp0, hB⟩ : W'.cell? ⟨w.heap.size, 1, none⟩ = some (.slice (some ad) dn dc) ∧ W'.cell? ⟨wr.heap.size, 0, none⟩ = some (.string ⟨xn.toArray⟩) ∧ W'.cell? ⟨wr.heap.size, 1, none⟩ = some (.int .i64 xc) ∧ W'.cell? (ad.add ((k - 1) * 2)) = some (.string ⟨yn.toArray⟩) ∧ Below W0.heap.size W0 W'))
            clear hrw hbad hgood
            go_wp2_with fail
            rw [← hW0]
            clear hW0 hszW c0 c1
            refine wpC_region (fun W' => W'.cell? ⟨w.heap.size, 1, none⟩ = some (.slice (some ad) dn dc) ∧ W'.cell? ⟨wr.heap.size, 0, none⟩ = some (.string ⟨xn.toArray⟩) ∧ W'.cell? ⟨wr.heap.size, 1, none⟩ = some (.int .i64 xc) ∧ W'.cell? (ad.add ((k - 1) * 2)) = some (.string ⟨yn.toArray⟩) ∧ Below W0.heap.size W0 W') (by kernel_rfl) (by kernel_rfl) (hS.out _ hS0) (fun OPS D QQ HO hD hD2 hQQ => ?_)
            have hgo4 : Hid ((OPS[4]?).bind (·.dst) = some 25) := by show _ = _; rw [HO.out]; rfl
            have hgo9 : Hid ((OPS[9]?).bind (·.dst) = some 30) := by show _ = _; rw [HO.out]; rfl
            have hgo14 : Hid ((OPS[14]?).bind (·.dst) = some 35) := by show _ = _; rw [HO.out]; rfl
            have hgo17 : Hid ((OPS[17]?).bind (·.dst) = some 38) := by show _ = _; rw [HO.out]; rfl
            clear HO
            have HD := Lib.hid hD
            have HD2 := Lib.hid hD2
            have HQQ := Lib.hid hQQ
            clear hD hD2 hQQ
            refine wpC_read (v := ?_) rfl (fun W hW => ?_) ?_
            rotate_left
            · clear hW; go_simp; try (with_reducible rfl)
            try simp only [Act.put, List.setIfInBounds_toArray, List.set_cons_zero, List.set_cons_succ]
            refine wpC_read (v := ?_) rfl (fun W hW => ?_) ?_
            rotate_left
            · replace hW := HD.out W hW
              obtain ⟨q0, q1, q2, q3, hcW⟩ := hW
              go_simp; try (with_reducible rfl)
            try simp only [Act.put, List.setIfInBounds_toArray, List.set_cons_zero, List.set_cons_succ]
            refine wpC_read (v := .bool true) rfl (fun W hW => ?_) ?_
            · replace hW := HD.out W hW
              obtain ⟨q0, q1, q2, q3, hcW⟩ := hW
              go_simp
              refine (hN _).mono ?_
              rintro e w4 ⟨rfl, hbn⟩
              exact ⟨rfl, HD2.out _ (hS.out _ (below_step hcW hbn))⟩
            try simp only [Act.put, List.setIfInBounds_toArray, List.set_cons_zero, List.set_cons_succ]
            refine wpC_read (v := ?_) rfl (fun W hW => ?_) ?_
            rotate_left
            · clear hW; go_simp; try (with_reducible rfl)
            try simp only [Act.put, List.setIfInBounds_toArray, List.set_cons_zero, List.set_cons_succ]
            refine wpC_read (v := ?_) rfl (fun W hW => ?_) ?_
            rotate_left
            · clear hW; go_simp; try (with_reducible rfl)
            try simp only [Act.put, List.setIfInBounds_toArray, List.set_cons_zero, List.set_cons_succ]
            refine wpC_gread (v := ?_) rfl hgo4.out rfl (fun W hW => ?_) ?_
            rotate_left
            · clear hW; go_simp; try (with_reducible rfl)
            try simp only [Act.put, List.setIfInBounds_toArray, List.set_cons_zero, List.set_cons_succ]
            refine wpC_gread (v := ?_) rfl hgo4.out rfl (fun W hW => ?_) ?_
            rotate_left
            · replace hW := HD.out W hW
              obtain ⟨q0, q1, q2, q3, hcW⟩ := hW
              go_simp; try (with_reducible rfl)
            try simp only [Act.put, List.setIfInBounds_toArray, List.set_cons_zero, List.set_cons_succ]
            refine wpC_gread (v := ?_) rfl hgo4.out rfl (fun W hW => ?_) ?_
            rotate_left
            · clear hW; go_simp; try (with_reducible rfl)
            try simp only [Act.put, List.setIfInBounds_toArray, List.set_cons_zero, List.set_cons_succ]
            refine wpC_read (v := ?_) rfl (fun W hW => ?_) ?_
            rotate_left
            · clear hW; go_simp; try (with_reducible rfl)
            try simp only [Act.put, List.setIfInBounds_toArray, List.set_cons_zero, List.set_cons_succ]
            refine wpC_read (v := ?_) rfl (fun W hW => ?_) ?_
            rotate_left
            · clear hW; go_simp; try (with_reducible rfl)
            try simp only [Act.put, List.setIfInBounds_toArray, List.set_cons_zero, List.set_cons_succ]
            refine wpC_gread (v := ?_) rfl hgo9.out rfl (fun W hW => ?_) ?_
            rotate_left
            · clear hW; go_simp; try (with_reducible rfl)
            try simp only [Act.put, List.setIfInBounds_toArray, List.set_cons_zero, List.set_cons_succ]
            refine wpC_gread (v := ?_) rfl hgo9.out rfl (fun W hW => ?_) ?_
            rotate_left
            · replace hW := HD.out W hW
              obtain ⟨q0, q1, q2, q3, hcW⟩ := hW
              go_simp; try (with_reducible rfl)
            try simp only [Act.put, List.setIfInBounds_toArray, List.set_cons_zero, List.set_cons_succ]
            refine wpC_gread (v := ?_) rfl hgo9.out rfl (fun W hW => ?_) ?_
            rotate_left
            · clear hW; go_simp; try (with_reducible rfl)
            try simp only [Act.put, List.setIfInBounds_toArray, List.set_cons_zero, List.set_cons_succ]
            refine wpC_read (v := ?_) rfl (fun W hW => ?_) ?_
            rotate_left
            · clear hW; go_simp; try (with_reducible rfl)
            try simp only [Act.put, List.setIfInBounds_toArray, List.set_cons_zero, List.set_cons_succ]
            refine wpC_read (v := ?_) rfl (fun W hW => ?_) ?_
            rotate_left
            · clear hW; go_simp; try (with_reducible rfl)
            try simp only [Act.put, List.setIfInBounds_toArray, List.set_cons_zero, List.set_cons_succ]
            refine wpC_gread (v := ?_) rfl hgo14.out rfl (fun W hW => ?_) ?_
            rotate_left
            · clear hW; go_simp; try (with_reducible rfl)
            try simp only [Act.put, List.setIfInBounds_toArray, List.set_cons_zero, List.set_cons_succ]
            refine wpC_gread (v := ?_) rfl hgo14.out rfl (fun W hW => ?_) ?_
            rotate_left
            · clear hW; go_simp; try (with_reducible rfl)
            try simp only [Act.put, List.setIfInBounds_toArray, List.set_cons_zero, List.set_cons_succ]
            refine wpC_gread (v := ?_) rfl hgo14.out rfl (fun W hW => ?_) ?_
            rotate_left
            · clear hW; go_simp; try (with_reducible rfl)
            try simp only [Act.put, List.setIfInBounds_toArray, List.set_cons_zero, List.set_cons_succ]
            refine wpC_gread (v := ?_) rfl hgo17.out rfl (fun W hW => ?_) ?_
            rotate_left
            · clear hW; go_simp; try (with_reducible rfl)
            try simp only [Act.put, List.setIfInBounds_toArray, List.set_cons_zero, List.set_cons_succ]
            refine wpC_gread (v := ?_) rfl hgo17.out rfl (fun W hW => ?_) ?_
            rotate_left
            · replace hW := HD.out W hW
              obtain ⟨q0, q1, q2, q3, hcW⟩ := hW
              go_simp; try (with_reducible rfl)
            try simp only [Act.put, List.setIfInBounds_toArray, List.set_cons_zero, List.set_cons_succ]
            refine wpC_gread (v := ?_) rfl hgo17.out rfl (fun W hW => ?_) ?_
            rotate_left
            · clear hW; go_simp; try (with_reducible rfl)
            try simp only [Act.put, List.setIfInBounds_toArray, List.set_cons_zero, List.set_cons_succ]
            refine wpC_gread (v := ?_) rfl hgo17.out rfl (fun W hW => ?_) ?_
            rotate_left
            · replace hW := HD.out W hW
              obtain ⟨q0, q1, q2, q3, hcW⟩ := hW
              go_simp; try (with_reducible rfl)
            try simp only [Act.put, List.setIfInBounds_toArray, List.set_cons_zero, List.set_cons_succ]
            refine wpC_gread (v := ?_) rfl hgo17.out rfl (fun W hW => ?_) ?_
            rotate_left
            · clear hW; go_simp; try (with_reducible rfl)
            try simp only [Act.put, List.setIfInBounds_toArray, List.set_cons_zero, List.set_cons_succ]
            refine wpC_gread (v := ?_) rfl hgo17.out rfl (fun W hW => ?_) ?_
            rotate_left
            · clear hW; go_simp; try (with_reducible rfl)
            try simp only [Act.put, List.setIfInBounds_toArray, List.set_cons_zero, List.set_cons_succ]
            refine wpC_gread (v := ?_) rfl hgo17.out rfl (fun W hW => ?_) ?_
            rotate_left
            · clear hW; go_simp; try (with_reducible rfl)
            try simp only [Act.put, List.setIfInBounds_toArray, List.set_cons_zero, List.set_cons_succ]
            refine wpC_gread (v := ?_) rfl hgo17.out rfl (fun W hW => ?_) ?_
            rotate_left
            · clear hW; go_simp; try (with_reducible rfl)
            try simp only [Act.put, List.setIfInBounds_toArray, List.set_cons_zero, List.set_cons_succ]
            refine wpC_gread (v := ?_) rfl hgo17.out rfl (fun W hW => ?_) ?_
            rotate_left
            · replace hW := HD.out W hW
              obtain ⟨q0, q1, q2, q3, hcW⟩ := hW
              go_simp; try (with_reducible rfl)
            try simp only [Act.put, List.setIfInBounds_toArray, List.set_cons_zero, List.set_cons_succ]
            refine wpC_gread (v := ?_) rfl hgo17.out rfl (fun W hW => ?_) ?_
            rotate_left
            · clear hW; go_simp; try (with_reducible rfl)
            try simp only [Act.put, List.setIfInBounds_toArray, List.set_cons_zero, List.set_cons_succ]
            refine wpC_gread (v := ?_) rfl hgo14.out rfl (fun W hW => ?_) ?_
            rotate_left
            · clear hW; go_simp; try (with_reducible rfl)
            try simp only [Act.put, List.setIfInBounds_toArray, List.set_cons_zero, List.set_cons_succ]
            refine wpC_read (v := ?_) rfl (fun W hW => ?_) ?_
            rotate_left
            · clear hW; go_simp; try (with_reducible rfl)
            try simp only [Act.put, List.setIfInBounds_toArray, List.set_cons_zero, List.set_cons_succ]
            refine wpQuiet_nil (HQQ.out _ (fun W hW => ?_))
            obtain ⟨q0, q1, q2, q3, hcW⟩ := hW
            go_wp2_with fail
            go_ret
            exact ⟨by rw [HB.out]; rfl, HUP.out _ (hbW1.trans (hcW.mono hbW1.size))⟩
    · have hke : k = dn := by omega
      have HF : Hid (hadFrom none l = true) := by
        show _ = _
        rw [hok.out, List.drop_of_length_le (by rw [hke, HN.out]; exact Nat.le_refl _)]
        cases prevH l k <;> rfl
      have hnl : ¬ (k : Int) < (dn : Int) := by omega
      have HV2 : Hid (V = if ropnFrom T [] T.opn = true then 0 else 9) := by show _ = _; rw [HV.out, HF.out, Bool.true_and]
      have HBW := Lib.hid hbw
      clear hok hrw hbw
      go_wp2_with fail
      clear c0 c1 hsl hBr hnl hke
      obtain ⟨wp, hwp⟩ : ∃ X, X = wr := ⟨_, rfl⟩
      rw [← hwp] at HBW
      try rw [← hwp]
      clear hwp wr
      go_loopw [5] (fun i wr => ∃ k : Nat, k ≤ on ∧ i = .int .i64 (k : Int) ∧ Hid (ropnFrom T [] T.opn = ropnFrom T (T.opn.take k) (T.opn.drop k)) ∧ Below W1.heap.size W1 wr) (fun i _ => on - (intOf i).toNat)
      case atStart => exact ⟨0, Nat.zero_le _, rfl, rfl, HBW.out⟩
      case round =>
        clear HBW HF HV hlt hk
        obtain ⟨k, hk, rfl, hok, hbw⟩ := hrel
        obtain ⟨hrw, -, hsl, hBr⟩ := HRD.out wr hbw
        obtain ⟨c0, c1⟩ := hT.out wr hbw
        by_cases hlt : k < on
        · obtain ⟨ad, rfl, hadB, q0, q1, q2, q3, q4⟩ := ses_at hrw HNO.out hlt
          have hki : (k : Int) < (on : Int) := by omega
          have hkl : k < ol.length := by have := HNO.out; omega
          have hkT : k < T.opn.length := by rw [HTO.out, List.length_map]; exact hkl
          have hTx : T.opn[k]'hkT = (ol[k]'hkl).con := by simp only [HTO.out, List.getElem_map]
          have hdr := List.drop_eq_getElem_cons hkT
          have htk : T.opn.take (k + 1) = T.opn.take k ++ [T.opn[k]'hkT] := by rw [List.take_add_one, List.getElem?_eq_getElem hkT]; rfl
          rw [hTx] at hdr htk
          have hsx := HSE.out _ (List.getElem_mem hkl)
          have hnx := HRN.out _ (List.getElem_mem hkl)
          obtain ⟨y, hy⟩ : ∃ y, y = ol[k]'hkl := ⟨_, rfl⟩
          rw [← hy] at q0 q1 q2 q3 q4 hdr htk hsx hnx
          obtain ⟨yt, yh, yi, ⟨yA, yn, yc, yl⟩, yb⟩ := y
          simp only [SesR.con] at q0 q1 q2 q3 q4 hdr htk hnx
          have hsT : yt.length ≤ 4000000000 := hsx.ten
          have hsI : yi.length ≤ 4000000000 := hsx.into
          have HDR := Lib.hid hdr
          have HTK := Lib.hid htk
          have HBD2 : Hid ((rsesB T ⟨yt, yh, yi, yl, yb⟩ && (T.opn.take k).all (fun o => okPair o ⟨yt, yh, yi, yl, yb⟩)) = false → V = 9) := by
            show _ → _
            intro h
            rw [HV2.out, hok.out, HDR.out, ropnFrom_cons, h, Bool.false_and]
            rfl
          have HNX0 : Hid (rsesB T ⟨yt, yh, yi, yl, yb⟩ = true → (T.opn.take k).all (fun o => okPair o ⟨yt, yh, yi, yl, yb⟩) = true → ropnFrom T [] T.opn = ropnFrom T (T.opn.take (k + 1)) (T.opn.drop (k + 1))) := by
            show _ → _ → _
            intro h1 h2
            rw [hok.out, HDR.out, ropnFrom_cons, h1, h2, HTK.out]
            rfl
          obtain ⟨m, hm⟩ : ∃ m, m = (seOf T.opn yt).length := ⟨_, rfl⟩
          obtain ⟨zH, hzH⟩ : ∃ z, z = seHad T.had yt := ⟨_, rfl⟩
          obtain ⟨bN, hbN⟩ : ∃ b, b = nameB yt := ⟨_, rfl⟩
          obtain ⟨bP, hbP⟩ : ∃ b, b = sePath yi := ⟨_, rfl⟩
          have HRS : Hid (rsesB T ⟨yt, yh, yi, yl, yb⟩ = (bN && bP && decide (yn ≤ 4096) && decide (1 ≤ yh) && decide (yh ≤ zH) && decide (m ≤ 16))) := by
            show _ = _
            rw [hbN, hbP, hzH, hm, hnx]
            rfl
          have HBD : Hid ((bN && bP && decide (yn ≤ 4096) && decide (1 ≤ yh) && decide (yh ≤ zH) && decide (m ≤ 16)) = false → V = 9) := by
            show _ → _
            intro h
            refine HBD2.out ?_
            rw [HRS.out, h]
            rfl
          obtain ⟨W0, hW0⟩ : ∃ W0, W0 = wr.alloc (.cells #[.string ⟨yt.toArray⟩, .int .i64 yh, .string ⟨yi.toArray⟩, .slice yA yn yc, .bool yb] 33) := ⟨_, rfl⟩
          have kB := Blk.new wr 33 #[.string ⟨yt.toArray⟩, .int .i64 yh, .string ⟨yi.toArray⟩, .slice yA yn yc, .bool yb]
          have hbW1 : Below W1.heap.size W1 W0 := by rw [hW0]; exact hbw.alloc hbw.size _
          have hsz0 : W0.heap.size = wr.heap.size + 1 := by rw [hW0]; show (wr.heap.push _).size = _; rw [Array.size_push]
          rw [← hW0] at kB
          have hS := Lib.hid (fun (W' : World) (hB' : Below W0.heap.size W0 W') => (⟨(hT.out _ (hbW1.trans (hB'.mono hbW1.size))).1, (hT.out _ (hbW1.trans (hB'.mono hbW1.size))).2, (kB.below hB' (by omega)).cell 0, (kB.below hB' (by omega)).cell 1, (kB.below hB' (by omega)).cell 2, (kB.below hB' (by omega)).cell 3, (kB.below hB' (by omega)).cell 4⟩ :
            W'.cell? ⟨w.heap.size, 0, none⟩ = some (.slice (some ad) on oc) ∧ W'.cell? ⟨w.heap.size, 1, none⟩ = some (.slice dA dn dc) ∧ W'.cell? ⟨wr.heap.size, 0, none⟩ = some (.string ⟨yt.toArray⟩) ∧ W'.cell? ⟨wr.heap.size, 1, none⟩ = some (.int .i64 yh) ∧ W'.cell? ⟨wr.heap.size, 2, none⟩ = some (.string ⟨yi.toArray⟩) ∧ W'.cell? ⟨wr.heap.size, 3, none⟩ = some (.slice yA yn yc) ∧ W'.cell? ⟨wr.heap.size, 4, none⟩ = some (.bool yb)))
          have hNa : Hid (∀ W, Below W0.heap.size W0 W → Calls Tryd.prog 40 #[.string ⟨yt.toArray⟩] W fun e W' => e = .returned (.bool bN) ∧ Below W.heap.size W W') := fun W _ => by rw [hbN]; exact (refName_any yt W (by omega)).mono fun e w' h => ⟨h.1, by rw [h.2]; exact Below.refl _ _⟩
          have hPa : Hid (∀ W, Below W0.heap.size W0 W → Calls Tryd.prog 41 #[.string ⟨yi.toArray⟩] W fun e W' => e = .returned (.bool bP) ∧ Below W.heap.size W W') := fun W _ => by rw [hbP]; exact rpath26_any yi W hsI
          have hHx : Hid (∀ W, Below W0.heap.size W0 W → Calls Tryd.prog 44 #[.agg #[.slice (some ad) on oc, .slice dA dn dc], .string ⟨yt.toArray⟩] W fun e W' => e = .returned (.int .i64 zH) ∧ Below W.heap.size W W') := fun W h => by rw [hzH]; exact hHa.out yt W (hbW1.trans (h.mono hbW1.size))
          have hCx : Hid (∀ W, Below W0.heap.size W0 W → Calls Tryd.prog 43 #[.agg #[.slice (some ad) on oc, .slice dA dn dc], .string ⟨yt.toArray⟩] W fun e W' => e = .returned (.int .i64 (m : Int)) ∧ Below W.heap.size W W') := fun W h => by rw [hm]; exact hCt.out yt W (hbW1.trans (h.mono hbW1.size))
          have hyn : (decide (yn ≤ 4096) = false ∧ decide ((4096 : Int) < (yn : Int)) = true) ∨ (decide (yn ≤ 4096) = true ∧ decide ((4096 : Int) < (yn : Int)) = false) := by
            by_cases h : yn ≤ 4096
            · exact .inr ⟨by simpa using h, by simp; omega⟩
            · exact .inl ⟨by simpa using h, by simp; omega⟩
          have hyh : (decide (1 ≤ yh) = false ∧ decide (yh < 1) = true) ∨ (decide (1 ≤ yh) = true ∧ decide (yh < 1) = false) := by
            by_cases h : 1 ≤ yh
            · exact .inr ⟨by simpa using h, by simp; omega⟩
            · exact .inl ⟨by simpa using h, by simp; omega⟩
          have hzh : (decide (yh ≤ zH) = false ∧ decide (zH < yh) = true) ∨ (decide (yh ≤ zH) = true ∧ decide (zH < yh) = false) := by
            by_cases h : yh ≤ zH
            · exact .inr ⟨by simpa using h, by simp; omega⟩
            · exact .inl ⟨by simpa using h, by simp; omega⟩
          have hzm : (decide (m ≤ 16) = false ∧ decide ((16 : Int) < (m : Int)) = true) ∨ (decide (m ≤ 16) = true ∧ decide ((16 : Int) < (m : Int)) = false) := by
            by_cases h : m ≤ 16
            · exact .inr ⟨by simpa using h, by simp; omega⟩
            · exact .inl ⟨by simpa using h, by simp; omega⟩
          have hb4 := Below.refl W0.heap.size W0
          clear hdr htk hTx hy hrw hok hsx hnx hm hzH hbN hbP kB hbw hsT hsI
          go_wp2_with fail
          rw [← hW0]
          clear hW0 c0 c1 q0 q1 q2 q3 q4
          refine wpC_region (fun W' => Below W0.heap.size W0 W') (by kernel_rfl) (by kernel_rfl) (hb4.drew) (fun OPS D QQ HO hD hD2 hQQ => ?_)
          have hgo4 : Hid ((OPS[4]?).bind (·.dst) = some 67) := by show _ = _; rw [HO.out]; rfl
          have hgo10 : Hid ((OPS[10]?).bind (·.dst) = some 73) := by show _ = _; rw [HO.out]; rfl
          have hgo16 : Hid ((OPS[16]?).bind (·.dst) = some 79) := by show _ = _; rw [HO.out]; rfl
          have hgo21 : Hid ((OPS[21]?).bind (·.dst) = some 84) := by show _ = _; rw [HO.out]; rfl
          have hgo30 : Hid ((OPS[30]?).bind (·.dst) = some 93) := by show _ = _; rw [HO.out]; rfl
          clear HO
          have HD := Lib.hid hD
          have HD2 := Lib.hid hD2
          have HQQ := Lib.hid hQQ
          clear hD hD2 hQQ
          refine wpC_read (v := ?_) rfl (fun W hW => ?_) ?_
          rotate_left
          · clear hW; go_simp; try (with_reducible rfl)
          try simp only [Act.put, List.setIfInBounds_toArray, List.set_cons_zero, List.set_cons_succ]
          refine wpC_read (v := ?_) rfl (fun W hW => ?_) ?_
          rotate_left
          · replace hW := HD.out W hW
            obtain ⟨t0, t1, p0, p1, p2, p3, p4⟩ := hS.out W hW
            go_simp; try (with_reducible rfl)
          try simp only [Act.put, List.setIfInBounds_toArray, List.set_cons_zero, List.set_cons_succ]
          cases bN with
          | false =>
            have HB : Hid (V = 9) := HBD.out (by rfl)
            refine wpC_read (v := .bool false) rfl (fun W hW => ?_) ?_
            · replace hW := HD.out W hW
              obtain ⟨t0, t1, p0, p1, p2, p3, p4⟩ := hS.out W hW
              go_simp
              refine (hNa.out _ hW).mono ?_
              rintro e w5 ⟨rfl, hbn⟩
              exact ⟨rfl, HD2.out _ (below_step hW hbn)⟩
            try simp only [Act.put, List.setIfInBounds_toArray, List.set_cons_zero, List.set_cons_succ]
            refine wpC_read (v := ?_) rfl (fun W hW => ?_) ?_
            rotate_left
            · clear hW; go_simp; try (with_reducible rfl)
            try simp only [Act.put, List.setIfInBounds_toArray, List.set_cons_zero, List.set_cons_succ]
            refine wpC_read (v := ?_) rfl (fun W hW => ?_) ?_
            rotate_left
            · clear hW; go_simp; try (with_reducible rfl)
            try simp only [Act.put, List.setIfInBounds_toArray, List.set_cons_zero, List.set_cons_succ]
            refine wpC_skip rfl hgo4.out (.inl rfl) ?_
            try simp only [Act.put, List.setIfInBounds_toArray, List.set_cons_zero, List.set_cons_succ]
            refine wpC_skip rfl hgo4.out (.inl rfl) ?_
            try simp only [Act.put, List.setIfInBounds_toArray, List.set_cons_zero, List.set_cons_succ]
            refine wpC_skip rfl hgo4.out (.inl rfl) ?_
            try simp only [Act.put, List.setIfInBounds_toArray, List.set_cons_zero, List.set_cons_succ]
            refine wpC_skip rfl hgo4.out (.inl rfl) ?_
            try simp only [Act.put, List.setIfInBounds_toArray, List.set_cons_zero, List.set_cons_succ]
            refine wpC_read (v := ?_) rfl (fun W hW => ?_) ?_
            rotate_left
            · clear hW; go_simp; try (with_reducible rfl)
            try simp only [Act.put, List.setIfInBounds_toArray, List.set_cons_zero, List.set_cons_succ]
            refine wpC_read (v := ?_) rfl (fun W hW => ?_) ?_
            rotate_left
            · clear hW; go_simp; try (with_reducible rfl)
            try simp only [Act.put, List.setIfInBounds_toArray, List.set_cons_zero, List.set_cons_succ]
            refine wpC_skip rfl hgo10.out (.inl rfl) ?_
            try simp only [Act.put, List.setIfInBounds_toArray, List.set_cons_zero, List.set_cons_succ]
            refine wpC_skip rfl hgo10.out (.inl rfl) ?_
            try simp only [Act.put, List.setIfInBounds_toArray, List.set_cons_zero, List.set_cons_succ]
            refine wpC_skip rfl hgo10.out (.inl rfl) ?_
            try simp only [Act.put, List.setIfInBounds_toArray, List.set_cons_zero, List.set_cons_succ]
            refine wpC_skip rfl hgo10.out (.inl rfl) ?_
            try simp only [Act.put, List.setIfInBounds_toArray, List.set_cons_zero, List.set_cons_succ]
            refine wpC_read (v := ?_) rfl (fun W hW => ?_) ?_
            rotate_left
            · clear hW; go_simp; try (with_reducible rfl)
            try simp only [Act.put, List.setIfInBounds_toArray, List.set_cons_zero, List.set_cons_succ]
            refine wpC_read (v := ?_) rfl (fun W hW => ?_) ?_
            rotate_left
            · clear hW; go_simp; try (with_reducible rfl)
            try simp only [Act.put, List.setIfInBounds_toArray, List.set_cons_zero, List.set_cons_succ]
            refine wpC_skip rfl hgo16.out (.inl rfl) ?_
            try simp only [Act.put, List.setIfInBounds_toArray, List.set_cons_zero, List.set_cons_succ]
            refine wpC_skip rfl hgo16.out (.inl rfl) ?_
            try simp only [Act.put, List.setIfInBounds_toArray, List.set_cons_zero, List.set_cons_succ]
            refine wpC_skip rfl hgo16.out (.inl rfl) ?_
            try simp only [Act.put, List.setIfInBounds_toArray, List.set_cons_zero, List.set_cons_succ]
            refine wpC_read (v := ?_) rfl (fun W hW => ?_) ?_
            rotate_left
            · clear hW; go_simp; try (with_reducible rfl)
            try simp only [Act.put, List.setIfInBounds_toArray, List.set_cons_zero, List.set_cons_succ]
            refine wpC_read (v := ?_) rfl (fun W hW => ?_) ?_
            rotate_left
            · clear hW; go_simp; try (with_reducible rfl)
            try simp only [Act.put, List.setIfInBounds_toArray, List.set_cons_zero, List.set_cons_succ]
            refine wpC_skip rfl hgo21.out (.inl rfl) ?_
            try simp only [Act.put, List.setIfInBounds_toArray, List.set_cons_zero, List.set_cons_succ]
            refine wpC_skip rfl hgo21.out (.inl rfl) ?_
            try simp only [Act.put, List.setIfInBounds_toArray, List.set_cons_zero, List.set_cons_succ]
            refine wpC_skip rfl hgo21.out (.inl rfl) ?_
            try simp only [Act.put, List.setIfInBounds_toArray, List.set_cons_zero, List.set_cons_succ]
            refine wpC_skip rfl hgo21.out (.inl rfl) ?_
            try simp only [Act.put, List.setIfInBounds_toArray, List.set_cons_zero, List.set_cons_succ]
            refine wpC_skip rfl hgo21.out (.inl rfl) ?_
            try simp only [Act.put, List.setIfInBounds_toArray, List.set_cons_zero, List.set_cons_succ]
            refine wpC_skip rfl hgo21.out (.inl rfl) ?_
            try simp only [Act.put, List.setIfInBounds_toArray, List.set_cons_zero, List.set_cons_succ]
            refine wpC_skip rfl hgo21.out (.inl rfl) ?_
            try simp only [Act.put, List.setIfInBounds_toArray, List.set_cons_zero, List.set_cons_succ]
            refine wpC_read (v := ?_) rfl (fun W hW => ?_) ?_
            rotate_left
            · clear hW; go_simp; try (with_reducible rfl)
            try simp only [Act.put, List.setIfInBounds_toArray, List.set_cons_zero, List.set_cons_succ]
            refine wpC_read (v := ?_) rfl (fun W hW => ?_) ?_
            rotate_left
            · clear hW; go_simp; try (with_reducible rfl)
            try simp only [Act.put, List.setIfInBounds_toArray, List.set_cons_zero, List.set_cons_succ]
            refine wpC_skip rfl hgo30.out (.inl rfl) ?_
            try simp only [Act.put, List.setIfInBounds_toArray, List.set_cons_zero, List.set_cons_succ]
            refine wpC_skip rfl hgo30.out (.inl rfl) ?_
            try simp only [Act.put, List.setIfInBounds_toArray, List.set_cons_zero, List.set_cons_succ]
            refine wpC_skip rfl hgo30.out (.inl rfl) ?_
            try simp only [Act.put, List.setIfInBounds_toArray, List.set_cons_zero, List.set_cons_succ]
            refine wpC_skip rfl hgo30.out (.inl rfl) ?_
            try simp only [Act.put, List.setIfInBounds_toArray, List.set_cons_zero, List.set_cons_succ]
            refine wpC_skip rfl hgo30.out (.inl rfl) ?_
            try simp only [Act.put, List.setIfInBounds_toArray, List.set_cons_zero, List.set_cons_succ]
            refine wpC_read (v := ?_) rfl (fun W hW => ?_) ?_
            rotate_left
            · clear hW; go_simp; try (with_reducible rfl)
            try simp only [Act.put, List.setIfInBounds_toArray, List.set_cons_zero, List.set_cons_succ]
            refine wpQuiet_nil (HQQ.out _ (fun W hW => ?_))
            obtain ⟨t0, t1, p0, p1, p2, p3, p4⟩ := hS.out W hW
            go_wp2_with fail
            go_ret
            exact ⟨by rw [HB.out]; rfl, HUP.out _ (hbW1.trans (hW.mono hbW1.size))⟩
          | true =>
            refine wpC_read (v := .bool true) rfl (fun W hW => ?_) ?_
            · replace hW := HD.out W hW
              obtain ⟨t0, t1, p0, p1, p2, p3, p4⟩ := hS.out W hW
              go_simp
              refine (hNa.out _ hW).mono ?_
              rintro e w5 ⟨rfl, hbn⟩
              exact ⟨rfl, HD2.out _ (below_step hW hbn)⟩
            try simp only [Act.put, List.setIfInBounds_toArray, List.set_cons_zero, List.set_cons_succ]
            refine wpC_read (v := ?_) rfl (fun W hW => ?_) ?_
            rotate_left
            · clear hW; go_simp; try (with_reducible rfl)
            try simp only [Act.put, List.setIfInBounds_toArray, List.set_cons_zero, List.set_cons_succ]
            refine wpC_read (v := ?_) rfl (fun W hW => ?_) ?_
            rotate_left
            · clear hW; go_simp; try (with_reducible rfl)
            try simp only [Act.put, List.setIfInBounds_toArray, List.set_cons_zero, List.set_cons_succ]
            refine wpC_gread (v := ?_) rfl hgo4.out rfl (fun W hW => ?_) ?_
            rotate_left
            · clear hW; go_simp; try (with_reducible rfl)
            try simp only [Act.put, List.setIfInBounds_toArray, List.set_cons_zero, List.set_cons_succ]
            refine wpC_gread (v := ?_) rfl hgo4.out rfl (fun W hW => ?_) ?_
            rotate_left
            · replace hW := HD.out W hW
              obtain ⟨t0, t1, p0, p1, p2, p3, p4⟩ := hS.out W hW
              go_simp; try (with_reducible rfl)
            try simp only [Act.put, List.setIfInBounds_toArray, List.set_cons_zero, List.set_cons_succ]
            cases bP with
            | false =>
              have HB : Hid (V = 9) := HBD.out (by rfl)
              refine wpC_gread (v := .bool false) rfl hgo4.out rfl (fun W hW => ?_) ?_
              · replace hW := HD.out W hW
                obtain ⟨t0, t1, p0, p1, p2, p3, p4⟩ := hS.out W hW
                go_simp
                refine (hPa.out _ hW).mono ?_
                rintro e w5 ⟨rfl, hbn⟩
                exact ⟨rfl, HD2.out _ (below_step hW hbn)⟩
              try simp only [Act.put, List.setIfInBounds_toArray, List.set_cons_zero, List.set_cons_succ]
              refine wpC_gread (v := ?_) rfl hgo4.out rfl (fun W hW => ?_) ?_
              rotate_left
              · clear hW; go_simp; try (with_reducible rfl)
              try simp only [Act.put, List.setIfInBounds_toArray, List.set_cons_zero, List.set_cons_succ]
              refine wpC_read (v := ?_) rfl (fun W hW => ?_) ?_
              rotate_left
              · clear hW; go_simp; try (with_reducible rfl)
              try simp only [Act.put, List.setIfInBounds_toArray, List.set_cons_zero, List.set_cons_succ]
              refine wpC_read (v := ?_) rfl (fun W hW => ?_) ?_
              rotate_left
              · clear hW; go_simp; try (with_reducible rfl)
              try simp only [Act.put, List.setIfInBounds_toArray, List.set_cons_zero, List.set_cons_succ]
              refine wpC_skip rfl hgo10.out (.inl rfl) ?_
              try simp only [Act.put, List.setIfInBounds_toArray, List.set_cons_zero, List.set_cons_succ]
              refine wpC_skip rfl hgo10.out (.inl rfl) ?_
              try simp only [Act.put, List.setIfInBounds_toArray, List.set_cons_zero, List.set_cons_succ]
              refine wpC_skip rfl hgo10.out (.inl rfl) ?_
              try simp only [Act.put, List.setIfInBounds_toArray, List.set_cons_zero, List.set_cons_succ]
              refine wpC_skip rfl hgo10.out (.inl rfl) ?_
              try simp only [Act.put, List.setIfInBounds_toArray, List.set_cons_zero, List.set_cons_succ]
              refine wpC_read (v := ?_) rfl (fun W hW => ?_) ?_
              rotate_left
              · clear hW; go_simp; try (with_reducible rfl)
              try simp only [Act.put, List.setIfInBounds_toArray, List.set_cons_zero, List.set_cons_succ]
              refine wpC_read (v := ?_) rfl (fun W hW => ?_) ?_
              rotate_left
              · clear hW; go_simp; try (with_reducible rfl)
              try simp only [Act.put, List.setIfInBounds_toArray, List.set_cons_zero, List.set_cons_succ]
              refine wpC_skip rfl hgo16.out (.inl rfl) ?_
              try simp only [Act.put, List.setIfInBounds_toArray, List.set_cons_zero, List.set_cons_succ]
              refine wpC_skip rfl hgo16.out (.inl rfl) ?_
              try simp only [Act.put, List.setIfInBounds_toArray, List.set_cons_zero, List.set_cons_succ]
              refine wpC_skip rfl hgo16.out (.inl rfl) ?_
              try simp only [Act.put, List.setIfInBounds_toArray, List.set_cons_zero, List.set_cons_succ]
              refine wpC_read (v := ?_) rfl (fun W hW => ?_) ?_
              rotate_left
              · clear hW; go_simp; try (with_reducible rfl)
              try simp only [Act.put, List.setIfInBounds_toArray, List.set_cons_zero, List.set_cons_succ]
              refine wpC_read (v := ?_) rfl (fun W hW => ?_) ?_
              rotate_left
              · clear hW; go_simp; try (with_reducible rfl)
              try simp only [Act.put, List.setIfInBounds_toArray, List.set_cons_zero, List.set_cons_succ]
              refine wpC_skip rfl hgo21.out (.inl rfl) ?_
              try simp only [Act.put, List.setIfInBounds_toArray, List.set_cons_zero, List.set_cons_succ]
              refine wpC_skip rfl hgo21.out (.inl rfl) ?_
              try simp only [Act.put, List.setIfInBounds_toArray, List.set_cons_zero, List.set_cons_succ]
              refine wpC_skip rfl hgo21.out (.inl rfl) ?_
              try simp only [Act.put, List.setIfInBounds_toArray, List.set_cons_zero, List.set_cons_succ]
              refine wpC_skip rfl hgo21.out (.inl rfl) ?_
              try simp only [Act.put, List.setIfInBounds_toArray, List.set_cons_zero, List.set_cons_succ]
              refine wpC_skip rfl hgo21.out (.inl rfl) ?_
              try simp only [Act.put, List.setIfInBounds_toArray, List.set_cons_zero, List.set_cons_succ]
              refine wpC_skip rfl hgo21.out (.inl rfl) ?_
              try simp only [Act.put, List.setIfInBounds_toArray, List.set_cons_zero, List.set_cons_succ]
              refine wpC_skip rfl hgo21.out (.inl rfl) ?_
              try simp only [Act.put, List.setIfInBounds_toArray, List.set_cons_zero, List.set_cons_succ]
              refine wpC_read (v := ?_) rfl (fun W hW => ?_) ?_
              rotate_left
              · clear hW; go_simp; try (with_reducible rfl)
              try simp only [Act.put, List.setIfInBounds_toArray, List.set_cons_zero, List.set_cons_succ]
              refine wpC_read (v := ?_) rfl (fun W hW => ?_) ?_
              rotate_left
              · clear hW; go_simp; try (with_reducible rfl)
              try simp only [Act.put, List.setIfInBounds_toArray, List.set_cons_zero, List.set_cons_succ]
              refine wpC_skip rfl hgo30.out (.inl rfl) ?_
              try simp only [Act.put, List.setIfInBounds_toArray, List.set_cons_zero, List.set_cons_succ]
              refine wpC_skip rfl hgo30.out (.inl rfl) ?_
              try simp only [Act.put, List.setIfInBounds_toArray, List.set_cons_zero, List.set_cons_succ]
              refine wpC_skip rfl hgo30.out (.inl rfl) ?_
              try simp only [Act.put, List.setIfInBounds_toArray, List.set_cons_zero, List.set_cons_succ]
              refine wpC_skip rfl hgo30.out (.inl rfl) ?_
              try simp only [Act.put, List.setIfInBounds_toArray, List.set_cons_zero, List.set_cons_succ]
              refine wpC_skip rfl hgo30.out (.inl rfl) ?_
              try simp only [Act.put, List.setIfInBounds_toArray, List.set_cons_zero, List.set_cons_succ]
              refine wpC_read (v := ?_) rfl (fun W hW => ?_) ?_
              rotate_left
              · clear hW; go_simp; try (with_reducible rfl)
              try simp only [Act.put, List.setIfInBounds_toArray, List.set_cons_zero, List.set_cons_succ]
              refine wpQuiet_nil (HQQ.out _ (fun W hW => ?_))
              obtain ⟨t0, t1, p0, p1, p2, p3, p4⟩ := hS.out W hW
              go_wp2_with fail
              go_ret
              exact ⟨by rw [HB.out]; rfl, HUP.out _ (hbW1.trans (hW.mono hbW1.size))⟩
            | true =>
              refine wpC_gread (v := .bool true) rfl hgo4.out rfl (fun W hW => ?_) ?_
              · replace hW := HD.out W hW
                obtain ⟨t0, t1, p0, p1, p2, p3, p4⟩ := hS.out W hW
                go_simp
                refine (hPa.out _ hW).mono ?_
                rintro e w5 ⟨rfl, hbn⟩
                exact ⟨rfl, HD2.out _ (below_step hW hbn)⟩
              try simp only [Act.put, List.setIfInBounds_toArray, List.set_cons_zero, List.set_cons_succ]
              refine wpC_gread (v := ?_) rfl hgo4.out rfl (fun W hW => ?_) ?_
              rotate_left
              · clear hW; go_simp; try (with_reducible rfl)
              try simp only [Act.put, List.setIfInBounds_toArray, List.set_cons_zero, List.set_cons_succ]
              refine wpC_read (v := ?_) rfl (fun W hW => ?_) ?_
              rotate_left
              · clear hW; go_simp; try (with_reducible rfl)
              try simp only [Act.put, List.setIfInBounds_toArray, List.set_cons_zero, List.set_cons_succ]
              refine wpC_read (v := ?_) rfl (fun W hW => ?_) ?_
              rotate_left
              · clear hW; go_simp; try (with_reducible rfl)
              try simp only [Act.put, List.setIfInBounds_toArray, List.set_cons_zero, List.set_cons_succ]
              refine wpC_gread (v := ?_) rfl hgo10.out rfl (fun W hW => ?_) ?_
              rotate_left
              · clear hW; go_simp; try (with_reducible rfl)
              try simp only [Act.put, List.setIfInBounds_toArray, List.set_cons_zero, List.set_cons_succ]
              refine wpC_gread (v := ?_) rfl hgo10.out rfl (fun W hW => ?_) ?_
              rotate_left
              · replace hW := HD.out W hW
                obtain ⟨t0, t1, p0, p1, p2, p3, p4⟩ := hS.out W hW
                go_simp; try (with_reducible rfl)
              try simp only [Act.put, List.setIfInBounds_toArray, List.set_cons_zero, List.set_cons_succ]
              refine wpC_gread (v := ?_) rfl hgo10.out rfl (fun W hW => ?_) ?_
              rotate_left
              · clear hW; go_simp; try (with_reducible rfl)
              try simp only [Act.put, List.setIfInBounds_toArray, List.set_cons_zero, List.set_cons_succ]
              rcases hyn with ⟨hz4, d14⟩ | ⟨hz4, d14⟩
              · have HB : Hid (V = 9) := HBD.out (by rw [hz4]; rfl)
                refine wpC_gread (v := ?_) rfl hgo10.out rfl (fun W hW => ?_) ?_
                rotate_left
                · clear hW; go_simp; try (with_reducible rfl)
                try simp only [Act.put, List.setIfInBounds_toArray, List.set_cons_zero, List.set_cons_succ]
                refine wpC_read (v := ?_) rfl (fun W hW => ?_) ?_
                rotate_left
                · clear hW; go_simp; try (with_reducible rfl)
                try simp only [Act.put, List.setIfInBounds_toArray, List.set_cons_zero, List.set_cons_succ]
                refine wpC_read (v := ?_) rfl (fun W hW => ?_) ?_
                rotate_left
                · clear hW; go_simp; try (with_reducible rfl)
                try simp only [Act.put, List.setIfInBounds_toArray, List.set_cons_zero, List.set_cons_succ]
                refine wpC_skip rfl hgo16.out (.inl rfl) ?_
                try simp only [Act.put, List.setIfInBounds_toArray, List.set_cons_zero, List.set_cons_succ]
                refine wpC_skip rfl hgo16.out (.inl rfl) ?_
                try simp only [Act.put, List.setIfInBounds_toArray, List.set_cons_zero, List.set_cons_succ]
                refine wpC_skip rfl hgo16.out (.inl rfl) ?_
                try simp only [Act.put, List.setIfInBounds_toArray, List.set_cons_zero, List.set_cons_succ]
                refine wpC_read (v := ?_) rfl (fun W hW => ?_) ?_
                rotate_left
                · clear hW; go_simp; try (with_reducible rfl)
                try simp only [Act.put, List.setIfInBounds_toArray, List.set_cons_zero, List.set_cons_succ]
                refine wpC_read (v := ?_) rfl (fun W hW => ?_) ?_
                rotate_left
                · clear hW; go_simp; try (with_reducible rfl)
                try simp only [Act.put, List.setIfInBounds_toArray, List.set_cons_zero, List.set_cons_succ]
                refine wpC_skip rfl hgo21.out (.inl rfl) ?_
                try simp only [Act.put, List.setIfInBounds_toArray, List.set_cons_zero, List.set_cons_succ]
                refine wpC_skip rfl hgo21.out (.inl rfl) ?_
                try simp only [Act.put, List.setIfInBounds_toArray, List.set_cons_zero, List.set_cons_succ]
                refine wpC_skip rfl hgo21.out (.inl rfl) ?_
                try simp only [Act.put, List.setIfInBounds_toArray, List.set_cons_zero, List.set_cons_succ]
                refine wpC_skip rfl hgo21.out (.inl rfl) ?_
                try simp only [Act.put, List.setIfInBounds_toArray, List.set_cons_zero, List.set_cons_succ]
                refine wpC_skip rfl hgo21.out (.inl rfl) ?_
                try simp only [Act.put, List.setIfInBounds_toArray, List.set_cons_zero, List.set_cons_succ]
                refine wpC_skip rfl hgo21.out (.inl rfl) ?_
                try simp only [Act.put, List.setIfInBounds_toArray, List.set_cons_zero, List.set_cons_succ]
                refine wpC_skip rfl hgo21.out (.inl rfl) ?_
                try simp only [Act.put, List.setIfInBounds_toArray, List.set_cons_zero, List.set_cons_succ]
                refine wpC_read (v := ?_) rfl (fun W hW => ?_) ?_
                rotate_left
                · clear hW; go_simp; try (with_reducible rfl)
                try simp only [Act.put, List.setIfInBounds_toArray, List.set_cons_zero, List.set_cons_succ]
                refine wpC_read (v := ?_) rfl (fun W hW => ?_) ?_
                rotate_left
                · clear hW; go_simp; try (with_reducible rfl)
                try simp only [Act.put, List.setIfInBounds_toArray, List.set_cons_zero, List.set_cons_succ]
                refine wpC_skip rfl hgo30.out (.inl rfl) ?_
                try simp only [Act.put, List.setIfInBounds_toArray, List.set_cons_zero, List.set_cons_succ]
                refine wpC_skip rfl hgo30.out (.inl rfl) ?_
                try simp only [Act.put, List.setIfInBounds_toArray, List.set_cons_zero, List.set_cons_succ]
                refine wpC_skip rfl hgo30.out (.inl rfl) ?_
                try simp only [Act.put, List.setIfInBounds_toArray, List.set_cons_zero, List.set_cons_succ]
                refine wpC_skip rfl hgo30.out (.inl rfl) ?_
                try simp only [Act.put, List.setIfInBounds_toArray, List.set_cons_zero, List.set_cons_succ]
                refine wpC_skip rfl hgo30.out (.inl rfl) ?_
                try simp only [Act.put, List.setIfInBounds_toArray, List.set_cons_zero, List.set_cons_succ]
                refine wpC_read (v := ?_) rfl (fun W hW => ?_) ?_
                rotate_left
                · clear hW; go_simp; try (with_reducible rfl)
                try simp only [Act.put, List.setIfInBounds_toArray, List.set_cons_zero, List.set_cons_succ]
                refine wpQuiet_nil (HQQ.out _ (fun W hW => ?_))
                obtain ⟨t0, t1, p0, p1, p2, p3, p4⟩ := hS.out W hW
                go_wp2_with fail
                go_ret
                exact ⟨by rw [HB.out]; rfl, HUP.out _ (hbW1.trans (hW.mono hbW1.size))⟩
              · refine wpC_gread (v := ?_) rfl hgo10.out rfl (fun W hW => ?_) ?_
                rotate_left
                · clear hW; go_simp; try (with_reducible rfl)
                try simp only [Act.put, List.setIfInBounds_toArray, List.set_cons_zero, List.set_cons_succ]
                refine wpC_read (v := ?_) rfl (fun W hW => ?_) ?_
                rotate_left
                · clear hW; go_simp; try (with_reducible rfl)
                try simp only [Act.put, List.setIfInBounds_toArray, List.set_cons_zero, List.set_cons_succ]
                refine wpC_read (v := ?_) rfl (fun W hW => ?_) ?_
                rotate_left
                · clear hW; go_simp; try (with_reducible rfl)
                try simp only [Act.put, List.setIfInBounds_toArray, List.set_cons_zero, List.set_cons_succ]
                refine wpC_gread (v := ?_) rfl hgo16.out rfl (fun W hW => ?_) ?_
                rotate_left
                · clear hW; go_simp; try (with_reducible rfl)
                try simp only [Act.put, List.setIfInBounds_toArray, List.set_cons_zero, List.set_cons_succ]
                refine wpC_gread (v := ?_) rfl hgo16.out rfl (fun W hW => ?_) ?_
                rotate_left
                · replace hW := HD.out W hW
                  obtain ⟨t0, t1, p0, p1, p2, p3, p4⟩ := hS.out W hW
                  go_simp; try (with_reducible rfl)
                try simp only [Act.put, List.setIfInBounds_toArray, List.set_cons_zero, List.set_cons_succ]
                rcases hyh with ⟨hz5, d19⟩ | ⟨hz5, d19⟩
                · have HB : Hid (V = 9) := HBD.out (by rw [hz4, hz5]; rfl)
                  refine wpC_gread (v := ?_) rfl hgo16.out rfl (fun W hW => ?_) ?_
                  rotate_left
                  · clear hW; go_simp; try (with_reducible rfl)
                  try simp only [Act.put, List.setIfInBounds_toArray, List.set_cons_zero, List.set_cons_succ]
                  refine wpC_read (v := ?_) rfl (fun W hW => ?_) ?_
                  rotate_left
                  · clear hW; go_simp; try (with_reducible rfl)
                  try simp only [Act.put, List.setIfInBounds_toArray, List.set_cons_zero, List.set_cons_succ]
                  refine wpC_read (v := ?_) rfl (fun W hW => ?_) ?_
                  rotate_left
                  · clear hW; go_simp; try (with_reducible rfl)
                  try simp only [Act.put, List.setIfInBounds_toArray, List.set_cons_zero, List.set_cons_succ]
                  refine wpC_skip rfl hgo21.out (.inl rfl) ?_
                  try simp only [Act.put, List.setIfInBounds_toArray, List.set_cons_zero, List.set_cons_succ]
                  refine wpC_skip rfl hgo21.out (.inl rfl) ?_
                  try simp only [Act.put, List.setIfInBounds_toArray, List.set_cons_zero, List.set_cons_succ]
                  refine wpC_skip rfl hgo21.out (.inl rfl) ?_
                  try simp only [Act.put, List.setIfInBounds_toArray, List.set_cons_zero, List.set_cons_succ]
                  refine wpC_skip rfl hgo21.out (.inl rfl) ?_
                  try simp only [Act.put, List.setIfInBounds_toArray, List.set_cons_zero, List.set_cons_succ]
                  refine wpC_skip rfl hgo21.out (.inl rfl) ?_
                  try simp only [Act.put, List.setIfInBounds_toArray, List.set_cons_zero, List.set_cons_succ]
                  refine wpC_skip rfl hgo21.out (.inl rfl) ?_
                  try simp only [Act.put, List.setIfInBounds_toArray, List.set_cons_zero, List.set_cons_succ]
                  refine wpC_skip rfl hgo21.out (.inl rfl) ?_
                  try simp only [Act.put, List.setIfInBounds_toArray, List.set_cons_zero, List.set_cons_succ]
                  refine wpC_read (v := ?_) rfl (fun W hW => ?_) ?_
                  rotate_left
                  · clear hW; go_simp; try (with_reducible rfl)
                  try simp only [Act.put, List.setIfInBounds_toArray, List.set_cons_zero, List.set_cons_succ]
                  refine wpC_read (v := ?_) rfl (fun W hW => ?_) ?_
                  rotate_left
                  · clear hW; go_simp; try (with_reducible rfl)
                  try simp only [Act.put, List.setIfInBounds_toArray, List.set_cons_zero, List.set_cons_succ]
                  refine wpC_skip rfl hgo30.out (.inl rfl) ?_
                  try simp only [Act.put, List.setIfInBounds_toArray, List.set_cons_zero, List.set_cons_succ]
                  refine wpC_skip rfl hgo30.out (.inl rfl) ?_
                  try simp only [Act.put, List.setIfInBounds_toArray, List.set_cons_zero, List.set_cons_succ]
                  refine wpC_skip rfl hgo30.out (.inl rfl) ?_
                  try simp only [Act.put, List.setIfInBounds_toArray, List.set_cons_zero, List.set_cons_succ]
                  refine wpC_skip rfl hgo30.out (.inl rfl) ?_
                  try simp only [Act.put, List.setIfInBounds_toArray, List.set_cons_zero, List.set_cons_succ]
                  refine wpC_skip rfl hgo30.out (.inl rfl) ?_
                  try simp only [Act.put, List.setIfInBounds_toArray, List.set_cons_zero, List.set_cons_succ]
                  refine wpC_read (v := ?_) rfl (fun W hW => ?_) ?_
                  rotate_left
                  · clear hW; go_simp; try (with_reducible rfl)
                  try simp only [Act.put, List.setIfInBounds_toArray, List.set_cons_zero, List.set_cons_succ]
                  refine wpQuiet_nil (HQQ.out _ (fun W hW => ?_))
                  obtain ⟨t0, t1, p0, p1, p2, p3, p4⟩ := hS.out W hW
                  go_wp2_with fail
                  go_ret
                  exact ⟨by rw [HB.out]; rfl, HUP.out _ (hbW1.trans (hW.mono hbW1.size))⟩
                · refine wpC_gread (v := ?_) rfl hgo16.out rfl (fun W hW => ?_) ?_
                  rotate_left
                  · clear hW; go_simp; try (with_reducible rfl)
                  try simp only [Act.put, List.setIfInBounds_toArray, List.set_cons_zero, List.set_cons_succ]
                  refine wpC_read (v := ?_) rfl (fun W hW => ?_) ?_
                  rotate_left
                  · clear hW; go_simp; try (with_reducible rfl)
                  try simp only [Act.put, List.setIfInBounds_toArray, List.set_cons_zero, List.set_cons_succ]
                  refine wpC_read (v := ?_) rfl (fun W hW => ?_) ?_
                  rotate_left
                  · clear hW; go_simp; try (with_reducible rfl)
                  try simp only [Act.put, List.setIfInBounds_toArray, List.set_cons_zero, List.set_cons_succ]
                  refine wpC_gread (v := ?_) rfl hgo21.out rfl (fun W hW => ?_) ?_
                  rotate_left
                  · clear hW; go_simp; try (with_reducible rfl)
                  try simp only [Act.put, List.setIfInBounds_toArray, List.set_cons_zero, List.set_cons_succ]
                  refine wpC_gread (v := ?_) rfl hgo21.out rfl (fun W hW => ?_) ?_
                  rotate_left
                  · replace hW := HD.out W hW
                    obtain ⟨t0, t1, p0, p1, p2, p3, p4⟩ := hS.out W hW
                    go_simp; try (with_reducible rfl)
                  try simp only [Act.put, List.setIfInBounds_toArray, List.set_cons_zero, List.set_cons_succ]
                  refine wpC_gread (v := ?_) rfl hgo21.out rfl (fun W hW => ?_) ?_
                  rotate_left
                  · replace hW := HD.out W hW
                    obtain ⟨t0, t1, p0, p1, p2, p3, p4⟩ := hS.out W hW
                    go_simp; try (with_reducible rfl)
                  try simp only [Act.put, List.setIfInBounds_toArray, List.set_cons_zero, List.set_cons_succ]
                  refine wpC_gread (v := ?_) rfl hgo21.out rfl (fun W hW => ?_) ?_
                  rotate_left
                  · clear hW; go_simp; try (with_reducible rfl)
                  try simp only [Act.put, List.setIfInBounds_toArray, List.set_cons_zero, List.set_cons_succ]
                  refine wpC_gread (v := ?_) rfl hgo21.out rfl (fun W hW => ?_) ?_
                  rotate_left
                  · replace hW := HD.out W hW
                    obtain ⟨t0, t1, p0, p1, p2, p3, p4⟩ := hS.out W hW
                    go_simp; try (with_reducible rfl)
                  try simp only [Act.put, List.setIfInBounds_toArray, List.set_cons_zero, List.set_cons_succ]
                  refine wpC_gread (v := .int .i64 zH) rfl hgo21.out rfl (fun W hW => ?_) ?_
                  · replace hW := HD.out W hW
                    obtain ⟨t0, t1, p0, p1, p2, p3, p4⟩ := hS.out W hW
                    go_simp
                    refine (hHx.out _ hW).mono ?_
                    rintro e w5 ⟨rfl, hbn⟩
                    exact ⟨rfl, HD2.out _ (below_step hW hbn)⟩
                  try simp only [Act.put, List.setIfInBounds_toArray, List.set_cons_zero, List.set_cons_succ]
                  rcases hzh with ⟨hz6, d28⟩ | ⟨hz6, d28⟩
                  · have HB : Hid (V = 9) := HBD.out (by rw [hz4, hz5, hz6]; rfl)
                    refine wpC_gread (v := ?_) rfl hgo21.out rfl (fun W hW => ?_) ?_
                    rotate_left
                    · clear hW; go_simp; try (with_reducible rfl)
                    try simp only [Act.put, List.setIfInBounds_toArray, List.set_cons_zero, List.set_cons_succ]
                    refine wpC_read (v := ?_) rfl (fun W hW => ?_) ?_
                    rotate_left
                    · clear hW; go_simp; try (with_reducible rfl)
                    try simp only [Act.put, List.setIfInBounds_toArray, List.set_cons_zero, List.set_cons_succ]
                    refine wpC_read (v := ?_) rfl (fun W hW => ?_) ?_
                    rotate_left
                    · clear hW; go_simp; try (with_reducible rfl)
                    try simp only [Act.put, List.setIfInBounds_toArray, List.set_cons_zero, List.set_cons_succ]
                    refine wpC_skip rfl hgo30.out (.inl rfl) ?_
                    try simp only [Act.put, List.setIfInBounds_toArray, List.set_cons_zero, List.set_cons_succ]
                    refine wpC_skip rfl hgo30.out (.inl rfl) ?_
                    try simp only [Act.put, List.setIfInBounds_toArray, List.set_cons_zero, List.set_cons_succ]
                    refine wpC_skip rfl hgo30.out (.inl rfl) ?_
                    try simp only [Act.put, List.setIfInBounds_toArray, List.set_cons_zero, List.set_cons_succ]
                    refine wpC_skip rfl hgo30.out (.inl rfl) ?_
                    try simp only [Act.put, List.setIfInBounds_toArray, List.set_cons_zero, List.set_cons_succ]
                    refine wpC_skip rfl hgo30.out (.inl rfl) ?_
                    try simp only [Act.put, List.setIfInBounds_toArray, List.set_cons_zero, List.set_cons_succ]
                    refine wpC_read (v := ?_) rfl (fun W hW => ?_) ?_
                    rotate_left
                    · clear hW; go_simp; try (with_reducible rfl)
                    try simp only [Act.put, List.setIfInBounds_toArray, List.set_cons_zero, List.set_cons_succ]
                    refine wpQuiet_nil (HQQ.out _ (fun W hW => ?_))
                    obtain ⟨t0, t1, p0, p1, p2, p3, p4⟩ := hS.out W hW
                    go_wp2_with fail
                    go_ret
                    exact ⟨by rw [HB.out]; rfl, HUP.out _ (hbW1.trans (hW.mono hbW1.size))⟩
                  · refine wpC_gread (v := ?_) rfl hgo21.out rfl (fun W hW => ?_) ?_
                    rotate_left
                    · clear hW; go_simp; try (with_reducible rfl)
                    try simp only [Act.put, List.setIfInBounds_toArray, List.set_cons_zero, List.set_cons_succ]
                    refine wpC_read (v := ?_) rfl (fun W hW => ?_) ?_
                    rotate_left
                    · clear hW; go_simp; try (with_reducible rfl)
                    try simp only [Act.put, List.setIfInBounds_toArray, List.set_cons_zero, List.set_cons_succ]
                    refine wpC_read (v := ?_) rfl (fun W hW => ?_) ?_
                    rotate_left
                    · clear hW; go_simp; try (with_reducible rfl)
                    try simp only [Act.put, List.setIfInBounds_toArray, List.set_cons_zero, List.set_cons_succ]
                    refine wpC_gread (v := ?_) rfl hgo30.out rfl (fun W hW => ?_) ?_
                    rotate_left
                    · replace hW := HD.out W hW
                      obtain ⟨t0, t1, p0, p1, p2, p3, p4⟩ := hS.out W hW
                      go_simp; try (with_reducible rfl)
                    try simp only [Act.put, List.setIfInBounds_toArray, List.set_cons_zero, List.set_cons_succ]
                    refine wpC_gread (v := ?_) rfl hgo30.out rfl (fun W hW => ?_) ?_
                    rotate_left
                    · clear hW; go_simp; try (with_reducible rfl)
                    try simp only [Act.put, List.setIfInBounds_toArray, List.set_cons_zero, List.set_cons_succ]
                    refine wpC_gread (v := ?_) rfl hgo30.out rfl (fun W hW => ?_) ?_
                    rotate_left
                    · replace hW := HD.out W hW
                      obtain ⟨t0, t1, p0, p1, p2, p3, p4⟩ := hS.out W hW
                      go_simp; try (with_reducible rfl)
                    try simp only [Act.put, List.setIfInBounds_toArray, List.set_cons_zero, List.set_cons_succ]
                    refine wpC_gread (v := .int .i64 (m : Int)) rfl hgo30.out rfl (fun W hW => ?_) ?_
                    · replace hW := HD.out W hW
                      obtain ⟨t0, t1, p0, p1, p2, p3, p4⟩ := hS.out W hW
                      go_simp
                      refine (hCx.out _ hW).mono ?_
                      rintro e w5 ⟨rfl, hbn⟩
                      exact ⟨rfl, HD2.out _ (below_step hW hbn)⟩
                    try simp only [Act.put, List.setIfInBounds_toArray, List.set_cons_zero, List.set_cons_succ]
                    rcases hzm with ⟨hz7, d35⟩ | ⟨hz7, d35⟩
                    · have HB : Hid (V = 9) := HBD.out (by rw [hz4, hz5, hz6, hz7]; rfl)
                      refine wpC_gread (v := ?_) rfl hgo30.out rfl (fun W hW => ?_) ?_
                      rotate_left
                      · clear hW; go_simp; try (with_reducible rfl)
                      try simp only [Act.put, List.setIfInBounds_toArray, List.set_cons_zero, List.set_cons_succ]
                      refine wpC_read (v := ?_) rfl (fun W hW => ?_) ?_
                      rotate_left
                      · clear hW; go_simp; try (with_reducible rfl)
                      try simp only [Act.put, List.setIfInBounds_toArray, List.set_cons_zero, List.set_cons_succ]
                      refine wpQuiet_nil (HQQ.out _ (fun W hW => ?_))
                      obtain ⟨t0, t1, p0, p1, p2, p3, p4⟩ := hS.out W hW
                      go_wp2_with fail
                      go_ret
                      exact ⟨by rw [HB.out]; rfl, HUP.out _ (hbW1.trans (hW.mono hbW1.size))⟩
                    · refine wpC_gread (v := ?_) rfl hgo30.out rfl (fun W hW => ?_) ?_
                      rotate_left
                      · clear hW; go_simp; try (with_reducible rfl)
                      try simp only [Act.put, List.setIfInBounds_toArray, List.set_cons_zero, List.set_cons_succ]
                      refine wpC_read (v := ?_) rfl (fun W hW => ?_) ?_
                      rotate_left
                      · clear hW; go_simp; try (with_reducible rfl)
                      try simp only [Act.put, List.setIfInBounds_toArray, List.set_cons_zero, List.set_cons_succ]
                      refine wpQuiet_nil (HQQ.out _ (fun W hW => ?_))
                      obtain ⟨t0, t1, p0, p1, p2, p3, p4⟩ := hS.out W hW
                      have HGX : Hid (rsesB T ⟨yt, yh, yi, yl, yb⟩ = true) := by
                        show _ = _
                        rw [HRS.out, hz4, hz5, hz6, hz7]
                        rfl
                      have HPB : Hid (∀ j, j < k → ∀ o, T.opn[j]? = some o → okPair o ⟨yt, yh, yi, yl, yb⟩ = false → V = 9) := by
                        show ∀ j, _ → ∀ o, _ → _ → _
                        intro j hj o ho hf
                        refine HBD2.out ?_
                        rw [show (T.opn.take k).all (fun o => okPair o ⟨yt, yh, yi, yl, yb⟩) = false from ?_]
                        · simp
                        · rw [List.all_eq_false]
                          exact ⟨o, List.mem_of_getElem? (i := j) (by rw [List.getElem?_take_of_lt hj]; exact ho), by rw [hf]; decide⟩
                      have HW2 := Lib.hid (hbW1.trans (hW.mono hbW1.size))
                      obtain ⟨wo, hwo⟩ : ∃ X, X = wr := ⟨_, rfl⟩
                      rw [← hwo] at hS hsz0
                      clear t0 t1 p0 p1 p2 p3 p4 hNa hPa hHx hCx d14 d19 d28 d35 hz4 hz5 hz6 hz7 hb4
                      go_wp2_with fail
                      rw [← hwo]
                      clear hwo hsl hBr wr
                      go_loopw [7] (fun i wr => ∃ j : Nat, j ≤ k ∧ i = .int .i64 (j : Int) ∧ Hid (∀ o ∈ T.opn.take j, okPair o ⟨yt, yh, yi, yl, yb⟩ = true) ∧ Below W0.heap.size W0 wr) (fun i _ => k - (intOf i).toNat)
                      case atStart => exact ⟨0, Nat.zero_le _, rfl, (show ∀ o ∈ _, _ by simp), hW⟩
                      case round =>
                        obtain ⟨j, hj, rfl, hall, hbj⟩ := hrel
                        obtain ⟨t0, t1, p0, p1, p2, p3, p4⟩ := hS.out wr hbj
                        by_cases hjk : j < k
                        · have hji : (j : Int) < (k : Int) := by omega
                          have hjo : (j : Int) < (on : Int) := by omega
                          have hjl : j < ol.length := by omega
                          have hb1j := hbW1.trans (hbj.mono hbW1.size)
                          obtain ⟨hro, -, hsl3, hBr3⟩ := HRD.out wr hb1j
                          obtain ⟨ad2, e2, hadB2, q0, q1, q2, q3, q4⟩ := ses_at hro HNO.out (show j < on by omega)
                          injection e2 with e2
                          subst e2
                          have HOJ : Hid (T.opn[j]? = some (ol[j]'hjl).con) := by show _ = _; rw [HTO.out, List.getElem?_map, List.getElem?_eq_getElem hjl]; rfl
                          obtain ⟨y2, hy2⟩ : ∃ y, y = ol[j]'hjl := ⟨_, rfl⟩
                          rw [← hy2] at q0 q1 q2 q3 q4 HOJ
                          obtain ⟨ot, oh, oi, ⟨pA, pn, pc, plst⟩, ob⟩ := y2
                          simp only at q0 q1 q2 q3 q4
                          have HTJ : Hid (T.opn.take (j + 1) = T.opn.take j ++ [⟨ot, oh, oi, plst, ob⟩]) := by show _ = _; rw [List.take_add_one, HOJ.out]; rfl
                          have HW3 : Hid (Below W1.heap.size W1 (wr.alloc (.cells #[.string ⟨ot.toArray⟩, .int .i64 oh, .string ⟨oi.toArray⟩, .slice pA pn pc, .bool ob] 33))) := hb1j.alloc hb1j.size _
                          have HWI : Hid (Below W0.heap.size W0 (wr.alloc (.cells #[.string ⟨ot.toArray⟩, .int .i64 oh, .string ⟨oi.toArray⟩, .slice pA pn pc, .bool ob] 33))) := hbj.alloc hbj.size _
                          have hsz3 : wo.heap.size < wr.heap.size := by have := hbj.size; omega
                          have hgt := gtrS 9 ot yt
                          rw [bl_leq, Bool.not_not] at hgt
                          obtain ⟨g1, hg1⟩ : ∃ g, g = Op.bytesLess yt ot := ⟨_, rfl⟩
                          rw [← hg1] at hgt
                          have HG1 := Lib.hid hg1
                          clear hy2 hro hg1 hb1j
                          cases g1 with
                          | true =>
                            have HB : Hid (V = 9) := HPB.out j hjk _ HOJ.out (show okPair ⟨ot, oh, oi, plst, ob⟩ ⟨yt, yh, yi, yl, yb⟩ = false by unfold okPair; simp only; rw [← HG1.out]; rfl)
                            go_wp2_with fail
                            go_ret
                            exact ⟨by rw [HB.out]; rfl, HUP.out _ HW3.out⟩
                          | false =>
                            by_cases h2 : ot = yt
                            · have d2 : (ot == yt) = true := by simp [h2]
                              have HD2 := Lib.hid d2
                              clear h2
                              by_cases h3 : yh ≤ oh
                              · have d3 : decide (yh ≤ oh) = true := by simpa using h3
                                have HD3 := Lib.hid d3
                                clear h3
                                have HB : Hid (V = 9) := HPB.out j hjk _ HOJ.out (show okPair ⟨ot, oh, oi, plst, ob⟩ ⟨yt, yh, yi, yl, yb⟩ = false by unfold okPair; simp only; rw [← HG1.out, HD2.out, HD3.out]; rfl)
                                go_wp2_with fail
                                go_ret
                                exact ⟨by rw [HB.out]; rfl, HUP.out _ HW3.out⟩
                              · have d3 : decide (yh ≤ oh) = false := by simpa using h3
                                have HD3 := Lib.hid d3
                                clear h3
                                by_cases h4 : oi = yi
                                · have d4 : (oi == yi) = true := by simp [h4]
                                  have HD4 := Lib.hid d4
                                  clear h4
                                  have HB : Hid (V = 9) := HPB.out j hjk _ HOJ.out (show okPair ⟨ot, oh, oi, plst, ob⟩ ⟨yt, yh, yi, yl, yb⟩ = false by unfold okPair; simp only; rw [← HG1.out, HD2.out, HD3.out, HD4.out]; rfl)
                                  go_wp2_with fail
                                  go_ret
                                  exact ⟨by rw [HB.out]; rfl, HUP.out _ HW3.out⟩
                                · have d4 : (oi == yi) = false := by simp [h4]
                                  have HD4 := Lib.hid d4
                                  clear h4
                                  have HO : Hid (okPair ⟨ot, oh, oi, plst, ob⟩ ⟨yt, yh, yi, yl, yb⟩ = true) := by show okPair _ _ = true; unfold okPair; simp only; rw [← HG1.out, HD2.out, HD3.out, HD4.out]; rfl
                                  go_wp2_with fail
                                  go_roundw
                                  case rel =>
                                    refine ⟨j + 1, by omega, by go_num, ?_, HWI.out⟩
                                    show ∀ o ∈ _, _
                                    intro o ho
                                    rw [HTJ.out, List.mem_append, List.mem_singleton] at ho
                                    rcases ho with ho | rfl
                                    · exact hall.out o ho
                                    · exact HO.out
                                  case measure => simp [intOf]; omega
                            · have d2 : (ot == yt) = false := by simp [h2]
                              have HD2 := Lib.hid d2
                              clear h2
                              have HO : Hid (okPair ⟨ot, oh, oi, plst, ob⟩ ⟨yt, yh, yi, yl, yb⟩ = true) := by show okPair _ _ = true; unfold okPair; simp only; rw [← HG1.out, HD2.out]; rfl
                              go_wp2_with fail
                              go_roundw
                              case rel =>
                                refine ⟨j + 1, by omega, by go_num, ?_, HWI.out⟩
                                show ∀ o ∈ _, _
                                intro o ho
                                rw [HTJ.out, List.mem_append, List.mem_singleton] at ho
                                rcases ho with ho | rfl
                                · exact hall.out o ho
                                · exact HO.out
                              case measure => simp [intOf]; omega
                        · have hjk0 : j = k := by omega
                          have hjn : ¬ (j : Int) < (k : Int) := by omega
                          have HAL : Hid ((T.opn.take k).all (fun o => okPair o ⟨yt, yh, yi, yl, yb⟩) = true) := by
                            show _ = _
                            rw [List.all_eq_true]
                            rw [← hjk0]
                            exact hall.out
                          have HNX : Hid (ropnFrom T [] T.opn = ropnFrom T (T.opn.take (k + 1)) (T.opn.drop (k + 1))) := HNX0.out HGX.out HAL.out
                          have HWF := Lib.hid (hbW1.trans (hbj.mono hbW1.size))
                          clear hbj
                          go_wp2_with fail
                          go_roundw
                          case rel => exact ⟨k + 1, by omega, by go_num, HNX.out, HWF.out⟩
                          case measure => simp [intOf]; omega
        · have hke : k = on := by omega
          have HF : Hid (V = 0) := by
            show _ = _
            rw [HV2.out, hok.out, List.drop_eq_nil_of_le (by rw [HTO.out, List.length_map]; have := HNO.out; omega)]
            rfl
          have hnl : ¬ (k : Int) < (on : Int) := by omega
          have HBF := Lib.hid (HUP.out _ hbw)
          clear hok hrw hbw
          go_wp2_with fail
          go_ret
          exact ⟨by rw [HF.out]; rfl, HBF.out⟩
end Go.Proofs.YtjdebhemoeojiaaDoor
namespace Go.Proofs.YtjdebhemoeojiaaDoor
open Go.RowKit

theorem cloneH_info2 : (Tryd.prog.info? 38).map (fun i => (i.zero, i.size, i.bytes)) = some (some (.agg #[.string ByteArray.empty, .int .i64 0]), 2, 24) := Tryd.cloneH_info
set_option maxRecDepth 100000 in
set_option maxHeartbeats 4000000 in
theorem rown26_any (t : TabR) (w : World) (B : Nat) (hr : t.rd w B) (hB : B ≤ w.heap.size) (hz : t.sz) :
    Calls Tryd.prog 9 #[t.val] w fun e w' => ∃ s : TabR, e = .returned s.val ∧ TabO w' w.heap.size s ∧ s.con = t.con ∧ Below w.heap.size w w' := by
  obtain ⟨i0, hi0, hz0, hz1, hz2⟩ := info_parts Tryd.ses_info
  obtain ⟨j0, hj0, hy0, hy1, hy2⟩ := info_parts cloneH_info2
  obtain ⟨u0, hu0, hx0, hx1, hx2⟩ := info_parts Tryd.infoU8c
  obtain ⟨T, hT0⟩ : ∃ T, T = t.con := ⟨_, rfl⟩
  have hTo : T.opn = t.opn.l.map SesR.con := by rw [hT0]; rfl
  have hTh : T.had = t.had.l := by rw [hT0]; rfl
  rw [← hT0]
  clear hT0
  obtain ⟨⟨oA, on, oc, ol⟩, ⟨dA, dn, dc, dl⟩⟩ := t
  have HN := Lib.hid (show on = ol.length from hr.opn.1)
  have HND := Lib.hid (show dn = dl.length from hr.had.1)
  have hsz : on ≤ 1000000000 := hz.opn
  have hszd : dn ≤ 1000000000 := hz.had
  have hrh : Reads w B 5 oA on (cellsK encSes ol) := hr.opn.2.2
  have hrd : Reads w B 2 dA dn (cellsK encHad dl) := hr.had.2.2
  have hre : ∀ y ∈ ol, y.rd w B := hr.each
  have hze : ∀ y ∈ ol, y.sz := hz.each
  show Calls Tryd.prog 9 #[.agg #[.slice oA on oc, .slice dA dn dc]] w _
  have hb1 := (Below.refl w.heap.size w).alloc (Nat.le_refl _) (.cells #[.slice oA on oc, .slice dA dn dc] 25)
  have kT := Blk.new w 25 #[.slice oA on oc, .slice dA dn dc]
  obtain ⟨W1, hW1⟩ : ∃ W, W = w.alloc (.cells #[.slice oA on oc, .slice dA dn dc] 25) := ⟨_, rfl⟩
  have hsz1 : W1.heap.size = w.heap.size + 1 := by rw [hW1]; simp
  rw [← hW1] at hb1 kT
  have hT := Lib.hid (fun (W' : World) (hB' : Below W1.heap.size W1 W') => (⟨(kT.below hB' (by omega)).cell 0, (kT.below hB' (by omega)).cell 1⟩ : W'.cell? ⟨w.heap.size, 0, none⟩ = some (.slice oA on oc) ∧ W'.cell? ⟨w.heap.size, 1, none⟩ = some (.slice dA dn dc)))
  obtain ⟨W0, hW0⟩ : ∃ W, W = W1.alloc (.cells #[.slice none 0 0, .slice none 0 0] 25) := ⟨_, rfl⟩
  have kR := Blk.new W1 25 #[.slice none 0 0, .slice none 0 0]
  have hb01 := (Below.refl W1.heap.size W1).alloc (Nat.le_refl _) (.cells #[.slice none 0 0, .slice none 0 0] 25)
  have kT0 := kT.alloc (.cells #[.slice none 0 0, .slice none 0 0] 25)
  have hsz0 : W0.heap.size = w.heap.size + 2 := by rw [hW0]; show (World.heap _ |>.push _).size = _; rw [Array.size_push, hsz1]
  rw [← hW0] at kR hb01 kT0
  rw [hsz1] at kR
  have hb0 : Below w.heap.size w W0 := hb1.trans (hb01.mono (by omega))
  obtain ⟨g, hg⟩ : ∃ g, g = W0.heap.size := ⟨_, rfl⟩
  obtain ⟨W3, hW3⟩ : ∃ W, W = W0.alloc (.cells #[.slice none 0 0, .slice none 0 0] 25) := ⟨_, rfl⟩
  have kG := Blk.new W0 25 #[.slice none 0 0, .slice none 0 0]
  have hbg := (Below.refl W0.heap.size W0).alloc (Nat.le_refl _) (.cells #[.slice none 0 0, .slice none 0 0] 25)
  rw [← hW3] at kG hbg
  rw [← hg] at kG hbg
  have hrw : Hid (∀ W, Below g W0 W → Reads W B 5 oA on (cellsK encSes ol) ∧ w.heap.size + 1 < W.heap.size ∧ Below w.heap.size w W ∧ (∀ y ∈ ol, y.rd W B ∧ y.sz) ∧ Reads W B 2 dA dn (cellsK encHad dl)) := by
    show ∀ W, _ → _
    intro W h
    have h1 := hb0.trans (h.mono (by omega))
    exact ⟨hrh.below (h1.mono hB), by have := h.size; omega, h1, fun y hy => ⟨(hre y hy).below (h1.mono hB), hze y hy⟩, hrd.below (h1.mono hB)⟩
  have hgw : g = w.heap.size + 2 := by omega
  have HGW := Lib.hid hgw
  have HG := Lib.hid hg
  have KR : Hid (∀ W, Below g W0 W → Blk W (w.heap.size + 1) 25 #[.slice none 0 0, .slice none 0 0]) := fun W h => kR.below h (by omega)
  have KT : Hid (∀ W, Below g W0 W → Blk W w.heap.size 25 #[.slice oA on oc, .slice dA dn dc]) := fun W h => kT0.below h (by omega)
  have HTO := Lib.hid hTo
  have HTH := Lib.hid hTh
  have KG := Lib.hid kG
  have HBG := Lib.hid hbg
  clear hb1 kT hr hz hrh hre hze kR hb01 kT0 hb0 hrd hT hTo hTh kG hbg
  go_enter Tryd.func9, Tryd.ntmps9
  go_wp2_with fail
  rw [← hW1, ← hW0, ← hW3, show w.heap.size + 1 + 1 = g from by omega]
  clear hW1 hW0 hW3 hsz1 hsz0 hg hgw
  go_loopw [4] (fun i wr => ∃ (k : Nat) (s : FS SesR), k ≤ on ∧ i = .int .i64 (k : Int) ∧ Hid (Blk wr g 25 #[.slice s.A s.n s.c, .slice none 0 0]) ∧ Hid (s.own wr (g + 1) 33 5 encSes) ∧ Hid (∀ y ∈ s.l, SesO wr (g + 1) y) ∧ Hid (s.l.map SesR.con = (ol.map SesR.con).take k) ∧ Hid (s.n ≤ k) ∧ Hid (Below g W0 wr)) (fun i _ => on - (intOf i).toNat)
  case atStart => exact ⟨0, ⟨none, 0, 0, []⟩, Nat.zero_le _, rfl, KG.out, ⟨rfl, World.ownsRow_nil _ _ _ _⟩, (show ∀ y ∈ _, _ from fun y hy => by cases hy), rfl, Nat.le_refl _, HBG.out⟩
  case round =>
    obtain ⟨k, ⟨sA, sn, sc, sl⟩, hk, rfl, hkg, hso, hse, hsc, hsk, hbw⟩ := hrel
    obtain ⟨hrk, hsl, hbb, hel, hrdk⟩ := hrw.out wr hbw.out
    obtain ⟨⟨c0, c1⟩, -⟩ := blk2T (KT.out wr hbw.out)
    by_cases hlt : k < on
    · have hki : (k : Int) < (on : Int) := by omega
      have hkl : k < ol.length := by have := HN.out; omega
      obtain ⟨ad, rfl, hadB, q0, q1, q2, q3, q4⟩ := ses_at hrk HN.out hlt
      have hst : (ol.map SesR.con).take (k + 1) = (ol.map SesR.con).take k ++ [(ol[k]'hkl).con] := by
        rw [List.take_add_one, List.getElem?_map, List.getElem?_eq_getElem hkl]; rfl
      have hey := hel _ (List.getElem_mem hkl)
      obtain ⟨y, hy⟩ : ∃ y, y = ol[k]'hkl := ⟨_, rfl⟩
      rw [← hy] at q0 q1 q2 q3 q4 hst hey
      obtain ⟨yt, yh, yi, ⟨yA, yn, yc, yl⟩, yb⟩ := y
      simp only [SesR.con] at q0 q1 q2 q3 q4 hst
      obtain ⟨W2, hW2⟩ : ∃ W2, W2 = (wr.alloc (.cells #[.string ⟨yt.toArray⟩, .int .i64 yh, .string ⟨yi.toArray⟩, .slice yA yn yc, .bool yb] 33)).alloc (.cells #[] 5) := ⟨_, rfl⟩
      have hbr := ((Below.refl wr.heap.size wr).alloc (Nat.le_refl _) (.cells #[.string ⟨yt.toArray⟩, .int .i64 yh, .string ⟨yi.toArray⟩, .slice yA yn yc, .bool yb] 33)).alloc (by simp) (.cells #[] 5)
      have hsz2 : W2.heap.size = wr.heap.size + 2 := by rw [hW2]; simp
      have kB := (Blk.new wr 33 #[.string ⟨yt.toArray⟩, .int .i64 yh, .string ⟨yi.toArray⟩, .slice yA yn yc, .bool yb]).alloc (.cells #[] 5)
      have hownE : W2.ownsRow (wr.heap.size + 1) 5 1 (.slice (some ⟨wr.heap.size + 1, 0, none⟩) 0 0) 0 [] := by
        have := World.ownsRow_made (e := 5) (size := 1) (base := (wr.alloc (.cells #[.string ⟨yt.toArray⟩, .int .i64 yh, .string ⟨yi.toArray⟩, .slice yA yn yc, .bool yb] 33)).heap.size) (wr.alloc (.cells #[.string ⟨yt.toArray⟩, .int .i64 yh, .string ⟨yi.toArray⟩, .slice yA yn yc, .bool yb] 33)) #[] 0 (Nat.le_refl _) (by simp [maxLen]) rfl
        rw [hW2]
        simpa using this
      rw [← hW2] at hbr kB
      have HST := Lib.hid hst
      have hgl := hkg.out.lt
      have hrd2 : Reads W2 B 1 yA yn (cellsK encU yl) := (hey.1.below (hbr.mono (by have := hbb.size; omega))).2.2
      have HYN := Lib.hid (show yn = yl.length from hey.1.1)
      have hynb : yn ≤ 4000000000 := hey.2.rest
      have HBR := Lib.hid hbr
      have HSZ2 := Lib.hid hsz2
      have HKB := Lib.hid kB
      have HKG := Lib.hid (hkg.out.below hbr hgl)
      have HOE := Lib.hid hownE
      have HRD2 := Lib.hid hrd2
      have e1 : (wr.alloc (.cells #[.string ⟨yt.toArray⟩, .int .i64 yh, .string ⟨yi.toArray⟩, .slice yA yn yc, .bool yb] 33)).heap.size = wr.heap.size + 1 := by simp
      clear hst hey hy hrk hel hbb hbr hsz2 kB hrd2 hownE hrdk
      go_upto_region 7 with (at_builtin; (refine wpList_append_any _ rfl (.tmp 18) (.tmp 20) _ rfl (wr.heap.size + 1) 5 u0 _ 1 1 Tryd.underlying31 hu0 hx0 hx1 hx2 rfl (by omega) (.slice (some ⟨wr.heap.size + 1, 0, none⟩) 0 0) 0 [] (by simp [Act.eval]) (by rw [← hW2]; exact HOE.out) B yA yn yc (cellsK encU yl) rfl (by rw [← hW2]; exact HRD2.out) (cellsU_one yl) (by unfold maxLen; omega) (by omega) (by rw [← hW2]; have := HSZ2.out; omega) ?_); rw [← hW2]; intro v3 w3 hown3 hg3 _; (obtain ⟨A3, c3, rfl, hc3, -, -⟩ := own_form hown3); (have hO3 : Hid (w3.ownsRow (wr.heap.size + 1) 5 1 (.slice A3 yn c3) yn (cellsK encU yl)) := by (show World.ownsRow _ _ _ _ _ _ _); simpa using hown3); (have hG3 := Lib.hid hg3); (have hbr3 : Below wr.heap.size wr w3 := HBR.out.grown hg3 HBR.out.size (fun q hq => by simp [Value.ownBlock] at hq; omega)); (have HB3 := Lib.hid hbr3); (have k3 := HKB.out.grown hg3 (fun e => by simp [Value.ownBlock] at e)); (have HK3 := Lib.hid k3); (obtain ⟨⟨p0, p1, p2, p3, p4⟩, f3⟩ := blk5 k3); clear hown3 hg3 hbr3 k3)
      clear hW2
      obtain ⟨W4, hW4⟩ : ∃ W4, W4 = w3.setCell ⟨wr.heap.size, 3, none⟩ (.slice A3 yn c3) := ⟨_, rfl⟩
      rw [← hW4]
      have hbr4 : Below wr.heap.size wr W4 := by rw [hW4]; exact HB3.out.setCell (Nat.le_refl _) _
      have kg4 := Lib.hid (hkg.out.below hbr4 hgl)
      have hso4 := Lib.hid (hso.out.below hbr4)
      have hse4 : Hid (∀ y ∈ sl, SesO W4 (g + 1) y) := show ∀ y ∈ sl, _ from fun y hy => (hse.out y hy).below hbr4
      have hrs4 : Hid (SesO W4 (g + 1) ⟨yt, yh, yi, ⟨A3, yn, c3, yl⟩, yb⟩) := by
        refine ⟨HYN.out, ?_⟩
        show World.ownsRow _ _ _ _ _ _ _
        rw [hW4]
        exact own_mono (own_setCell_below hO3.out (p := ⟨wr.heap.size, 3, none⟩) (by simp only; omega) _) (by omega)
      have hbw4 := Lib.hid (hbw.out.trans (hbr4.mono (by omega)))
      have hsz4' := Lib.hid (show g + 1 ≤ W4.heap.size by have := hbr4.size; omega)
      have k4 : Blk W4 wr.heap.size 33 #[.string ⟨yt.toArray⟩, .int .i64 yh, .string ⟨yi.toArray⟩, .slice A3 yn c3, .bool yb] := by rw [hW4]; exact HK3.out.set_ 3 _
      clear p0 p1 p2 p3 p4 f3 hbr4 hW4
      obtain ⟨⟨g0, g1⟩, fg0, fg1⟩ := blk2T kg4.out
      obtain ⟨⟨p0, p1, p2, p3, p4⟩, f3⟩ := blk5 k4
      clear k4
      go_wp2_with (at_builtin; (refine wpList_push _ rfl (.tmp 24) (.tmp 26) 22 rfl (g + 1) 33 i0 _ 5 72 Tryd.underlying22 hi0 hz0 hz1 hz2 rfl (by decide) (.slice sA sn sc) sn (cellsK encSes sl) rfl hso4.out.2 1 #[.string ⟨yt.toArray⟩, .int .i64 yh, .string ⟨yi.toArray⟩, .slice A3 yn c3, .bool yb] 33 rfl rfl (by intro u hu; simp at hu; rcases hu with rfl | rfl | rfl | rfl | rfl <;> rfl) (by have h9 : sn ≤ k := hsk.out; unfold maxLen; omega) (by have h9 : sn ≤ k := hsk.out; omega) hsz4'.out ?_); intro v5 w5 hown5 hb5 hg5; (obtain ⟨A5, c5, rfl, hc5, -, -⟩ := own_form hown5); (have kg5 := kg4.out.below hb5 (Nat.lt_succ_self g)); (obtain ⟨⟨g0, g1⟩, fg0, fg1⟩ := blk2T kg5))
      go_roundw
      case rel =>
        refine ⟨k + 1, ⟨A5, sn + 1, c5, sl ++ [⟨yt, yh, yi, ⟨A3, yn, c3, yl⟩, yb⟩]⟩, by omega, by go_num, kg5.set_ 0 _, ⟨?_, ?_⟩, ?_, ?_, ?_, (hbw4.out.trans (hb5.mono (by omega))).setCell (Nat.le_refl _) _⟩
        · rw [List.length_append]; have := hso4.out.1; show sn + 1 = _; rw [show sn = sl.length from this]; rfl
        · rw [cellsK_append, cellsK_one]; exact own_setCell_below hown5 (by simp only; omega) _
        · show ∀ y ∈ _, _
          intro y hy
          rcases List.mem_append.1 hy with hy | hy
          · have := hse4.out y hy
            exact ⟨this.1, own_setCell_below (own_other this.2 hso4.out.2 (by decide) hg5) (by simp only; omega) _⟩
          · rw [List.mem_singleton.1 hy]
            exact ⟨hrs4.out.1, own_setCell_below (own_other hrs4.out.2 hso4.out.2 (by decide) hg5) (by simp only; omega) _⟩
        · show _ = _
          rw [HST.out, ← hsc.out, List.map_append]; rfl
        · have h9 : sn ≤ k := hsk.out; show sn + 1 ≤ k + 1; omega
      case measure => simp [intOf]; omega
    · have hke : k = on := by omega
      have hnl : ¬ (k : Int) < (on : Int) := by omega
      obtain ⟨⟨g0, g1⟩, fg0, fg1⟩ := blk2T hkg.out
      have hne : w.heap.size + 1 ≠ g := by have := HGW.out; omega
      have hgl := hkg.out.lt
      have HBB := Lib.hid hbb
      have HRDK := Lib.hid hrdk
      have HBK := Lib.hid hbw.out
      clear hrk hel hbb hrdk
      go_upto_region 9 with (at_builtin; (refine wpList_append_any _ rfl (.tmp 30) (.tmp 32) _ rfl wr.heap.size 38 j0 _ 2 24 Tryd.underlying23 hj0 hy0 hy1 hy2 rfl (by omega) (.slice none 0 0) 0 [] (by simp [Act.eval]) (World.ownsRow_nil _ _ _ _) B dA dn dc (cellsK encHad dl) rfl HRDK.out (cellsH_one dl) (by unfold maxLen; omega) (by omega) (Nat.le_refl _) ?_); intro v3 w3 hown3 hg3 _; (obtain ⟨A3, c3, rfl, hc3, -, -⟩ := own_form hown3); (have hO3 : Hid (w3.ownsRow wr.heap.size 38 2 (.slice A3 dn c3) dn (cellsK encHad dl)) := by (show World.ownsRow _ _ _ _ _ _ _); simpa using hown3); (have hbr3 : Below wr.heap.size wr w3 := (Below.refl wr.heap.size wr).grown hg3 (Nat.le_refl _) (fun q hq => by simp [Value.ownBlock] at hq)); (have HB3 := Lib.hid hbr3); (have kg3 := hkg.out.below hbr3 hgl); (have HKG3 := Lib.hid kg3); clear g0 g1 fg0 fg1; (obtain ⟨⟨g0, g1⟩, fg0, fg1⟩ := blk2T kg3); clear hown3 hg3 hbr3 kg3)
      obtain ⟨W4, hW4⟩ : ∃ W4, W4 = w3.setCell ⟨g, 1, none⟩ (.slice A3 dn c3) := ⟨_, rfl⟩
      rw [← hW4]
      have kR3 := (KR.out wr HBK.out).below HB3.out (by omega)
      have kR := kR3.far (p := ⟨g, 1, none⟩) hne (.slice A3 dn c3)
      have kG := HKG3.out.set_ 1 (.slice A3 dn c3)
      have hK4 : KeepsT 25 w3 W4 := by rw [hW4]; exact KeepsT.of_box HKG3.out
      have hB4 : Below w.heap.size w W4 := by rw [hW4]; exact (HBB.out.trans (HB3.out.mono (by omega))).setCell (by have := HGW.out; simp only; omega) _
      rw [← hW4] at kR kG
      have HK4 := Lib.hid hK4
      have HB4 := Lib.hid hB4
      clear g0 g1 fg0 fg1 hW4 hK4 hB4 kR3 c0 c1
      obtain ⟨⟨r0, r1⟩, fr0, fr1⟩ := blk2T kR
      obtain ⟨⟨g0, g1⟩, -⟩ := blk2T kG
      go_wp2_with fail
      have hgwr := HGW.out
      have kE := (kR.set_ 0 (.slice sA sn sc)).set_ 1 (.slice A3 dn c3)
      obtain ⟨⟨r0, r1⟩, -⟩ := blk2T kE
      obtain ⟨W8, hW8⟩ : ∃ W, W = (W4.setCell ⟨w.heap.size + 1, 0, none⟩ (.slice sA sn sc)).setCell ⟨w.heap.size + 1, 1, none⟩ (.slice A3 dn c3) := ⟨_, rfl⟩
      rw [← hW8] at r0 r1 ⊢
      have hT8 : KeepsT 25 w3 W8 := by rw [hW8]; exact HK4.out.trans ((KeepsT.of_box kR).trans (KeepsT.of_box (kR.set_ 0 (.slice sA sn sc))))
      refine bodyPost_ret (v := .agg #[.slice sA sn sc, .slice A3 dn c3]) (by simp [results, Tryd.results9, go_sem, r0, r1]) rfl ⟨⟨⟨sA, sn, sc, sl⟩, ⟨A3, dn, c3, dl⟩⟩, rfl, ⟨⟨hso.out.1, ?_⟩, fun y hy => ⟨(hse.out y hy).1, ?_⟩, ⟨HND.out, ?_⟩⟩, ?_, ?_⟩
      · exact own_mono (hT8.own (own_below hso.out.2 HB3.out) (by decide)) (by omega)
      · exact own_mono (hT8.own (own_below (hse.out y hy).2 HB3.out) (by decide)) (by omega)
      · exact own_mono (hT8.own hO3.out (by decide)) (by omega)
      · show TabC.mk (sl.map SesR.con) dl = T
        rw [hsc.out, List.take_of_length_le (by have := HN.out; simp; omega), ← HTO.out, ← HTH.out]
      · rw [hW8]
        exact (HB4.out.setCell (by simp only; omega) _).setCell (by simp only; omega) _
end Go.Proofs.YtjdebhemoeojiaaDoor
namespace Go.Proofs.YtjdebhemoeojiaaDoor
open Go.RowKit

set_option maxRecDepth 100000 in
set_option maxHeartbeats 4000000 in
theorem same26_any (s t : TabR) (hst : s.con = t.con) (w : World) (B : Nat) (hB : B ≤ w.heap.size) (hs : s.rd w B) (ht : t.rd w B) (hz : s.sz) :
    Calls Tryd.prog 12 #[s.val, t.val] w fun e w' => e = .returned (.bool true) ∧ Below w.heap.size w w' := by
  obtain ⟨⟨pA, n, pc, pl⟩, ⟨pB, m, pd, l⟩⟩ := s
  obtain ⟨⟨qA, n', qc, ql⟩, ⟨qB, m', qd, l'⟩⟩ := t
  have ho : pl.map SesR.con = ql.map SesR.con := congrArg TabC.opn hst
  obtain rfl : l = l' := congrArg TabC.had hst
  have hlen : pl.length = ql.length := by simpa using congrArg List.length ho
  have e1 : n = pl.length := hs.opn.1
  have e2 : n' = ql.length := ht.opn.1
  have e3 : m = l.length := hs.had.1
  have e4 : m' = l.length := ht.had.1
  obtain rfl : n = n' := by omega
  obtain rfl : m = m' := by omega
  have HN1 := Lib.hid e1
  have HN2 := Lib.hid e2
  have HM := Lib.hid e3
  have HO := Lib.hid ho
  have hszn : n ≤ 1000000000 := hz.opn
  have hszm : m ≤ 1000000000 := hz.had
  have hrp : Reads w B 5 pA n (cellsK encSes pl) := hs.opn.2.2
  have hrq : Reads w B 5 qA n (cellsK encSes ql) := ht.opn.2.2
  have hep : ∀ y ∈ pl, y.rd w B := hs.each
  have heq : ∀ y ∈ ql, y.rd w B := ht.each
  have hrl : Reads w B 2 pB m (cellsK (fun x : HadT => [.string ⟨x.1.toArray⟩, .int .i64 x.2]) l) := hs.had.2.2
  have hrl' : Reads w B 2 qB m (cellsK (fun x : HadT => [.string ⟨x.1.toArray⟩, .int .i64 x.2]) l) := ht.had.2.2
  show Calls Tryd.prog 12 #[.agg #[.slice pA n pc, .slice pB m pd], .agg #[.slice qA n qc, .slice qB m qd]] w _
  obtain ⟨W0, hW0⟩ : ∃ W, W = (w.alloc (.cells #[.slice pA n pc, .slice pB m pd] 25)).alloc (.cells #[.slice qA n qc, .slice qB m qd] 25) := ⟨_, rfl⟩
  have hb0 := ((Below.refl w.heap.size w).alloc (Nat.le_refl _) (.cells #[.slice pA n pc, .slice pB m pd] 25)).alloc (by simp) (.cells #[.slice qA n qc, .slice qB m qd] 25)
  have kA := (Blk.new w 25 #[.slice pA n pc, .slice pB m pd]).alloc (.cells #[.slice qA n qc, .slice qB m qd] 25)
  have kB := Blk.new (w.alloc (.cells #[.slice pA n pc, .slice pB m pd] 25)) 25 #[.slice qA n qc, .slice qB m qd]
  have ea : (w.alloc (.cells #[.slice pA n pc, .slice pB m pd] 25)).heap.size = w.heap.size + 1 := by simp
  rw [ea] at kB
  rw [← hW0] at hb0 kA kB
  have hsz0 : W0.heap.size = w.heap.size + 2 := by rw [hW0]; simp
  have hT := Lib.hid (fun (W' : World) (hB' : Below W0.heap.size W0 W') => (⟨(kA.below hB' (by omega)).cell 0, (kA.below hB' (by omega)).cell 1, (kB.below hB' (by omega)).cell 0, (kB.below hB' (by omega)).cell 1⟩ : W'.cell? ⟨w.heap.size, 0, none⟩ = some (.slice pA n pc) ∧ W'.cell? ⟨w.heap.size, 1, none⟩ = some (.slice pB m pd) ∧ W'.cell? ⟨w.heap.size + 1, 0, none⟩ = some (.slice qA n qc) ∧ W'.cell? ⟨w.heap.size + 1, 1, none⟩ = some (.slice qB m qd)))
  have hR : Hid (∀ W, Below W0.heap.size W0 W → Reads W B 5 pA n (cellsK encSes pl) ∧ Reads W B 5 qA n (cellsK encSes ql) ∧ (∀ y ∈ pl, y.rd W B) ∧ (∀ y ∈ ql, y.rd W B) ∧ Reads W B 2 pB m (cellsK (fun x : HadT => [.string ⟨x.1.toArray⟩, .int .i64 x.2]) l) ∧ Reads W B 2 qB m (cellsK (fun x : HadT => [.string ⟨x.1.toArray⟩, .int .i64 x.2]) l) ∧ B ≤ W.heap.size ∧ Below w.heap.size w W) := by
    show ∀ W, _ → _
    intro W h
    have h1 := hb0.trans (h.mono (by omega))
    have h2 := h1.mono hB
    exact ⟨hrp.below h2, hrq.below h2, fun y hy => (hep y hy).below h2, fun y hy => (heq y hy).below h2, hrl.below h2, hrl'.below h2, by have := h1.size; omega, h1⟩
  clear hs ht hz hst ho hlen e1 e2 e3 e4 hrp hrq hep heq hrl hrl' hb0 kA kB ea hsz0
  obtain ⟨t0, t1, t2, t3⟩ := hT.out _ (Below.refl _ _)
  have dn : (n == n) = true := by simp
  have dm : (m == m) = true := by simp
  rw [hW0] at t0 t1 t2 t3
  go_enter Tryd.func12, Tryd.ntmps12
  go_wp2_with fail
  rw [← hW0]
  clear hW0 t0 t1 t2 t3
  go_loopw [5] (fun i wr => ∃ k : Nat, k ≤ n ∧ i = .int .i64 (k : Int) ∧ Below W0.heap.size W0 wr) (fun i _ => n - (intOf i).toNat)
  case atStart => exact ⟨0, Nat.zero_le _, rfl, Below.refl _ _⟩
  case round =>
    obtain ⟨k, hk, rfl, hbw⟩ := hrel
    obtain ⟨t0, t1, t2, t3⟩ := hT.out _ hbw
    obtain ⟨hrp, hrq, hep, heq, -, -, hBr, hww⟩ := hR.out _ hbw
    by_cases hlt : k < n
    · have hki : (k : Int) < (n : Int) := by omega
      have hkp : k < pl.length := by have := HN1.out; omega
      have hkq : k < ql.length := by have := HN2.out; omega
      obtain ⟨ad, rfl, hadB, a0, a1, a2, a3, a4⟩ := ses_at hrp HN1.out hlt
      obtain ⟨ae, rfl, haeB, b0, b1, b2, b3, b4⟩ := ses_at hrq HN2.out hlt
      have hcp : (pl[k]'hkp).con = (ql[k]'hkq).con := by
        have := congrArg (fun l : List SesC => l[k]?) HO.out
        simpa [List.getElem?_map, List.getElem?_eq_getElem hkp, List.getElem?_eq_getElem hkq] using this
      have hc : Hid (∀ W, Below W0.heap.size W0 W → Calls Tryd.prog 16 #[.agg (encSes (pl[k]'hkp)).toArray, .agg (encSes (ql[k]'hkq)).toArray] W fun e w' => e = .returned (.bool true) ∧ Below W.heap.size W w') := by
        show ∀ W, _ → _
        intro W h
        obtain ⟨-, -, hep, heq, -, -, hBr, -⟩ := hR.out _ h
        exact sameS_any _ _ hcp W B hBr (hep _ (List.getElem_mem hkp)) (heq _ (List.getElem_mem hkq))
      have hS : Hid (∀ W', Below W0.heap.size W0 W' → (W'.cell? ⟨w.heap.size, 0, none⟩ = some (.slice (some ad) n pc) ∧ W'.cell? ⟨w.heap.size, 1, none⟩ = some (.slice pB m pd) ∧ W'.cell? ⟨w.heap.size + 1, 0, none⟩ = some (.slice (some ae) n qc) ∧ W'.cell? ⟨w.heap.size + 1, 1, none⟩ = some (.slice qB m qd)) ∧ ∀ (j : Nat), j < 5 → W'.cell? ((ad.add (k * 5)).add j) = (encSes (pl[k]'hkp))[j]? ∧ W'.cell? ((ae.add (k * 5)).add j) = (encSes (ql[k]'hkq))[j]?) := by
        show ∀ W', _ → _
        intro W' hB'
        obtain ⟨h1, h2, -⟩ := hR.out _ hB'
        obtain ⟨ad2, e2, -, h3⟩ := Reads.elK (k := 5) (fun _ => rfl) h1 HN1.out hlt
        obtain ⟨ae2, e3, -, h4⟩ := Reads.elK (k := 5) (fun _ => rfl) h2 HN2.out hlt
        injection e2 with e2
        injection e3 with e3
        subst e2 e3
        exact ⟨hT.out _ hB', fun j hj => ⟨h3 j hj, h4 j hj⟩⟩
      obtain ⟨yp, hyp⟩ : ∃ y, y = pl[k]'hkp := ⟨_, rfl⟩
      obtain ⟨yq, hyq⟩ : ∃ y, y = ql[k]'hkq := ⟨_, rfl⟩
      rw [← hyp] at hc hS
      rw [← hyq] at hc hS
      obtain ⟨ft, fh, fi, ⟨fA, fn, fc, fl⟩, fb⟩ := yp
      obtain ⟨ut, uh, ui, ⟨uA, un, uc, ul⟩, ub⟩ := yq
      simp only [encSes] at hc
      replace hS : Hid (∀ W', Below W0.heap.size W0 W' → (W'.cell? ⟨w.heap.size, 0, none⟩ = some (.slice (some ad) n pc) ∧ W'.cell? ⟨w.heap.size, 1, none⟩ = some (.slice pB m pd) ∧ W'.cell? ⟨w.heap.size + 1, 0, none⟩ = some (.slice (some ae) n qc) ∧ W'.cell? ⟨w.heap.size + 1, 1, none⟩ = some (.slice qB m qd)) ∧ W'.cell? (ad.add (k * 5)) = some (.string ⟨ft.toArray⟩) ∧ W'.cell? ⟨(ad.add (k * 5)).block, (ad.add (k * 5)).off + 1, none⟩ = some (.int .i64 fh) ∧ W'.cell? ⟨(ad.add (k * 5)).block, (ad.add (k * 5)).off + 2, none⟩ = some (.string ⟨fi.toArray⟩) ∧ W'.cell? ⟨(ad.add (k * 5)).block, (ad.add (k * 5)).off + 3, none⟩ = some (.slice fA fn fc) ∧ W'.cell? ⟨(ad.add (k * 5)).block, (ad.add (k * 5)).off + 4, none⟩ = some (.bool fb) ∧ W'.cell? (ae.add (k * 5)) = some (.string ⟨ut.toArray⟩) ∧ W'.cell? ⟨(ae.add (k * 5)).block, (ae.add (k * 5)).off + 1, none⟩ = some (.int .i64 uh) ∧ W'.cell? ⟨(ae.add (k * 5)).block, (ae.add (k * 5)).off + 2, none⟩ = some (.string ⟨ui.toArray⟩) ∧ W'.cell? ⟨(ae.add (k * 5)).block, (ae.add (k * 5)).off + 3, none⟩ = some (.slice uA un uc) ∧ W'.cell? ⟨(ae.add (k * 5)).block, (ae.add (k * 5)).off + 4, none⟩ = some (.bool ub)) := by
        show ∀ W', _ → _
        intro W' hB'
        obtain ⟨h1, h2⟩ := hS.out W' hB'
        refine ⟨h1, ?_, ?_, ?_, ?_, ?_, ?_, ?_, ?_, ?_, ?_⟩
        · have := (h2 0 (by omega)).1; rwa [add_zero] at this
        · have := (h2 1 (by omega)).1; rwa [addr_add_succ] at this
        · have := (h2 2 (by omega)).1; rwa [addr_add_succ] at this
        · have := (h2 3 (by omega)).1; rwa [addr_add_succ] at this
        · have := (h2 4 (by omega)).1; rwa [addr_add_succ] at this
        · have := (h2 0 (by omega)).2; rwa [add_zero] at this
        · have := (h2 1 (by omega)).2; rwa [addr_add_succ] at this
        · have := (h2 2 (by omega)).2; rwa [addr_add_succ] at this
        · have := (h2 3 (by omega)).2; rwa [addr_add_succ] at this
        · have := (h2 4 (by omega)).2; rwa [addr_add_succ] at this
      have HBW := Lib.hid hbw
      clear hyp hyq hcp hrp hrq hep heq hbw hww a0 a1 a2 a3 a4 b0 b1 b2 b3 b4
      go_wp2_with fail
      clear t0 t1 t2 t3
      refine wpC_region (fun W' => Below W0.heap.size W0 W') (by kernel_rfl) (by kernel_rfl) (HBW.out.drew) (fun OPS D QQ HO hD hD2 hQQ => ?_)
      clear HO
      have HD := Lib.hid hD
      have HD2 := Lib.hid hD2
      have HQQ := Lib.hid hQQ
      clear hD hD2 hQQ
      refine wpC_read (v := ?_) rfl (fun W hW => ?_) ?_
      rotate_left
      · clear hW; go_simp; try (with_reducible rfl)
      try simp only [Act.put, List.setIfInBounds_toArray, List.set_cons_zero, List.set_cons_succ]
      refine wpC_read (v := ?_) rfl (fun W hW => ?_) ?_
      rotate_left
      · replace hW := HD.out W hW
        obtain ⟨⟨t0, t1, t2, t3⟩, a0, a1, a2, a3, a4, b0, b1, b2, b3, b4⟩ := hS.out W hW
        go_simp; try (with_reducible rfl)
      try simp only [Act.put, List.setIfInBounds_toArray, List.set_cons_zero, List.set_cons_succ]
      refine wpC_read (v := ?_) rfl (fun W hW => ?_) ?_
      rotate_left
      · clear hW; go_simp; try (with_reducible rfl)
      try simp only [Act.put, List.setIfInBounds_toArray, List.set_cons_zero, List.set_cons_succ]
      refine wpC_read (v := ?_) rfl (fun W hW => ?_) ?_
      rotate_left
      · clear hW; go_simp; try (with_reducible rfl)
      try simp only [Act.put, List.setIfInBounds_toArray, List.set_cons_zero, List.set_cons_succ]
      refine wpC_read (v := ?_) rfl (fun W hW => ?_) ?_
      rotate_left
      · replace hW := HD.out W hW
        obtain ⟨⟨t0, t1, t2, t3⟩, a0, a1, a2, a3, a4, b0, b1, b2, b3, b4⟩ := hS.out W hW
        go_simp; try (with_reducible rfl)
      try simp only [Act.put, List.setIfInBounds_toArray, List.set_cons_zero, List.set_cons_succ]
      refine wpC_read (v := ?_) rfl (fun W hW => ?_) ?_
      rotate_left
      · clear hW; go_simp; try (with_reducible rfl)
      try simp only [Act.put, List.setIfInBounds_toArray, List.set_cons_zero, List.set_cons_succ]
      refine wpC_read (v := ?_) rfl (fun W hW => ?_) ?_
      rotate_left
      · replace hW := HD.out W hW
        obtain ⟨⟨t0, t1, t2, t3⟩, a0, a1, a2, a3, a4, b0, b1, b2, b3, b4⟩ := hS.out W hW
        go_simp; try (with_reducible rfl)
      try simp only [Act.put, List.setIfInBounds_toArray, List.set_cons_zero, List.set_cons_succ]
      refine wpC_read (v := ?_) rfl (fun W hW => ?_) ?_
      rotate_left
      · clear hW; go_simp; try (with_reducible rfl)
      try simp only [Act.put, List.setIfInBounds_toArray, List.set_cons_zero, List.set_cons_succ]
      refine wpC_read (v := ?_) rfl (fun W hW => ?_) ?_
      rotate_left
      · clear hW; go_simp; try (with_reducible rfl)
      try simp only [Act.put, List.setIfInBounds_toArray, List.set_cons_zero, List.set_cons_succ]
      refine wpC_read (v := ?_) rfl (fun W hW => ?_) ?_
      rotate_left
      · replace hW := HD.out W hW
        obtain ⟨⟨t0, t1, t2, t3⟩, a0, a1, a2, a3, a4, b0, b1, b2, b3, b4⟩ := hS.out W hW
        go_simp; try (with_reducible rfl)
      try simp only [Act.put, List.setIfInBounds_toArray, List.set_cons_zero, List.set_cons_succ]
      refine wpC_read (v := .bool true) rfl (fun W hW => ?_) ?_
      · replace hW := HD.out W hW
        obtain ⟨⟨t0, t1, t2, t3⟩, a0, a1, a2, a3, a4, b0, b1, b2, b3, b4⟩ := hS.out W hW
        go_simp
        refine (hc.out _ hW).mono ?_
        rintro e w5 ⟨rfl, hbn⟩
        exact ⟨rfl, HD2.out _ (below_step hW hbn)⟩
      try simp only [Act.put, List.setIfInBounds_toArray, List.set_cons_zero, List.set_cons_succ]
      refine wpC_read (v := ?_) rfl (fun W hW => ?_) ?_
      rotate_left
      · clear hW; go_simp; try (with_reducible rfl)
      try simp only [Act.put, List.setIfInBounds_toArray, List.set_cons_zero, List.set_cons_succ]
      refine wpQuiet_nil (HQQ.out _ (fun W hW => ?_))
      obtain ⟨⟨t0, t1, t2, t3⟩, a0, a1, a2, a3, a4, b0, b1, b2, b3, b4⟩ := hS.out W hW
      go_wp2_with fail
      go_roundw
      case rel => exact ⟨k + 1, by omega, by go_num, hW⟩
      case measure => simp [intOf]; omega
    · have hke : k = n := by omega
      have hnl : ¬ (k : Int) < (n : Int) := by omega
      have HBW := Lib.hid hbw
      clear hrp hrq hep heq hbw hww hke
      go_wp2_with fail
      clear t0 t1 t2 t3 hnl hBr
      obtain ⟨wp, hwp⟩ : ∃ X, X = wr := ⟨_, rfl⟩
      rw [← hwp] at HBW
      try rw [← hwp]
      clear hwp wr
      go_loopw [6] (fun i wr => ∃ k : Nat, k ≤ m ∧ i = .int .i64 (k : Int) ∧ Below W0.heap.size W0 wr) (fun i _ => m - (intOf i).toNat)
      case atStart => exact ⟨0, Nat.zero_le _, rfl, HBW.out⟩
      case round =>
        clear hk hlt
        obtain ⟨k, hk, rfl, hbw⟩ := hrel
        obtain ⟨-, -, -, -, hrl, hrl', hBr, hww⟩ := hR.out _ hbw
        by_cases hlt : k < m
        · have hki : (k : Int) < (m : Int) := by omega
          have hk0 : (0 : Int) ≤ (k : Int) := by omega
          have hkl : k < l.length := by have := HM.out; omega
          obtain ⟨ad, rfl, hadB, a0, a1⟩ := hrl.el2 HM.out hlt
          obtain ⟨ae, rfl, haeB, b0, b1⟩ := hrl'.el2 HM.out hlt
          obtain ⟨y, hy⟩ : ∃ y, y = l[k]'hkl := ⟨_, rfl⟩
          rw [← hy] at a0 a1 b0 b1
          obtain ⟨yn, yc⟩ := y
          simp only at a0 a1 b0 b1
          have lp : (ad.add (k * 2)).block < wr.heap.size := by rw [block_of_add]; omega
          have lq : (ae.add (k * 2)).block < wr.heap.size := by rw [block_of_add]; omega
          have hS : Hid (∀ W', Below W0.heap.size W0 W' → (W'.cell? ⟨w.heap.size, 0, none⟩ = some (.slice pA n pc) ∧ W'.cell? ⟨w.heap.size, 1, none⟩ = some (.slice (some ad) m pd) ∧ W'.cell? ⟨w.heap.size + 1, 0, none⟩ = some (.slice qA n qc) ∧ W'.cell? ⟨w.heap.size + 1, 1, none⟩ = some (.slice (some ae) m qd)) ∧ W'.cell? (ad.add (k * 2)) = some (.string ⟨yn.toArray⟩) ∧ W'.cell? ⟨(ad.add (k * 2)).block, (ad.add (k * 2)).off + 1, none⟩ = some (.int .i64 yc) ∧ W'.cell? (ae.add (k * 2)) = some (.string ⟨yn.toArray⟩) ∧ W'.cell? ⟨(ae.add (k * 2)).block, (ae.add (k * 2)).off + 1, none⟩ = some (.int .i64 yc)) := by
            show ∀ W', _ → _
            intro W' hB'
            obtain ⟨-, -, -, -, hrl2, hrl3, -, -⟩ := hR.out _ hB'
            obtain ⟨ad2, e2, -, a0', a1'⟩ := hrl2.el2 HM.out hlt
            obtain ⟨ae2, e3, -, b0', b1'⟩ := hrl3.el2 HM.out hlt
            injection e2 with e2
            injection e3 with e3
            subst e2 e3
            rw [← hy] at a0' a1' b0' b1'
            exact ⟨hT.out _ hB', a0', a1', b0', b1'⟩
          have dy : (yn == yn) = true := by simp
          have dc : (yc == yc) = true := by simp
          obtain ⟨t0, t1, t2, t3⟩ := hT.out _ hbw
          clear hy hrl hrl' hww lp lq a0 a1 b0 b1
          go_wp2_with fail
          clear t0 t1 t2 t3
          refine wpC_region (fun W' => Below W0.heap.size W0 W') (by kernel_rfl) (by kernel_rfl) (hbw.drew) (fun OPS D QQ HO hD hD2 hQQ => ?_)
          clear HO
          have HD := Lib.hid hD
          have HD2 := Lib.hid hD2
          have HQQ := Lib.hid hQQ
          clear hD hD2 hQQ
          refine wpC_read (v := ?_) rfl (fun W hW => ?_) ?_
          rotate_left
          · clear hW; go_simp; try (with_reducible rfl)
          try simp only [Act.put, List.setIfInBounds_toArray, List.set_cons_zero, List.set_cons_succ]
          refine wpC_read (v := ?_) rfl (fun W hW => ?_) ?_
          rotate_left
          · replace hW := HD.out W hW
            obtain ⟨⟨t0, t1, t2, t3⟩, a0, a1, b0, b1⟩ := hS.out W hW
            go_simp; try (with_reducible rfl)
          try simp only [Act.put, List.setIfInBounds_toArray, List.set_cons_zero, List.set_cons_succ]
          refine wpC_read (v := ?_) rfl (fun W hW => ?_) ?_
          rotate_left
          · clear hW; go_simp; try (with_reducible rfl)
          try simp only [Act.put, List.setIfInBounds_toArray, List.set_cons_zero, List.set_cons_succ]
          refine wpC_read (v := ?_) rfl (fun W hW => ?_) ?_
          rotate_left
          · clear hW; go_simp; try (with_reducible rfl)
          try simp only [Act.put, List.setIfInBounds_toArray, List.set_cons_zero, List.set_cons_succ]
          refine wpC_read (v := ?_) rfl (fun W hW => ?_) ?_
          rotate_left
          · replace hW := HD.out W hW
            obtain ⟨⟨t0, t1, t2, t3⟩, a0, a1, b0, b1⟩ := hS.out W hW
            go_simp; try (with_reducible rfl)
          try simp only [Act.put, List.setIfInBounds_toArray, List.set_cons_zero, List.set_cons_succ]
          refine wpC_read (v := ?_) rfl (fun W hW => ?_) ?_
          rotate_left
          · clear hW; go_simp; try (with_reducible rfl)
          try simp only [Act.put, List.setIfInBounds_toArray, List.set_cons_zero, List.set_cons_succ]
          refine wpC_read (v := ?_) rfl (fun W hW => ?_) ?_
          rotate_left
          · replace hW := HD.out W hW
            obtain ⟨⟨t0, t1, t2, t3⟩, a0, a1, b0, b1⟩ := hS.out W hW
            go_simp; try (with_reducible rfl)
          try simp only [Act.put, List.setIfInBounds_toArray, List.set_cons_zero, List.set_cons_succ]
          refine wpC_read (v := ?_) rfl (fun W hW => ?_) ?_
          rotate_left
          · clear hW; go_simp; try (with_reducible rfl)
          try simp only [Act.put, List.setIfInBounds_toArray, List.set_cons_zero, List.set_cons_succ]
          refine wpC_read (v := ?_) rfl (fun W hW => ?_) ?_
          rotate_left
          · clear hW; go_simp; try (with_reducible rfl)
          try simp only [Act.put, List.setIfInBounds_toArray, List.set_cons_zero, List.set_cons_succ]
          refine wpC_read (v := ?_) rfl (fun W hW => ?_) ?_
          rotate_left
          · replace hW := HD.out W hW
            obtain ⟨⟨t0, t1, t2, t3⟩, a0, a1, b0, b1⟩ := hS.out W hW
            go_simp; try (with_reducible rfl)
          try simp only [Act.put, List.setIfInBounds_toArray, List.set_cons_zero, List.set_cons_succ]
          refine wpC_read (v := ?_) rfl (fun W hW => ?_) ?_
          rotate_left
          · clear hW; go_simp; try (with_reducible rfl)
          try simp only [Act.put, List.setIfInBounds_toArray, List.set_cons_zero, List.set_cons_succ]
          refine wpQuiet_nil (HQQ.out _ (fun W hW => ?_))
          obtain ⟨⟨t0, t1, t2, t3⟩, a0, a1, b0, b1⟩ := hS.out W hW
          go_wp2_with fail
          go_roundw
          case rel => exact ⟨k + 1, by omega, by go_num, hW⟩
          case measure => simp [intOf]; omega
        · have hke : k = m := by omega
          have hnl : ¬ (k : Int) < (m : Int) := by omega
          obtain ⟨t0, t1, t2, t3⟩ := hT.out _ hbw
          have HWW := Lib.hid hww
          clear hrl hrl' hww
          go_wp2_with fail
          go_ret
          exact ⟨rfl, HWW.out⟩
end Go.Proofs.YtjdebhemoeojiaaDoor
namespace Go.Proofs.YtjdebhemoeojiaaDoor
open Go.RowKit

set_option maxRecDepth 100000 in
set_option maxHeartbeats 4000000 in
theorem rfind26_any (t : TabR) (x : BS) (h : Int) (w : World) (B : Nat) (hr : t.rd w B) (hB : B ≤ w.heap.size) (hz : t.sz) :
    Calls Tryd.prog 14 #[t.val, .string ⟨x.toArray⟩, .int .i64 h] w fun e w' => ∃ s : SesR, e = .returned (.tuple #[.agg (encSes s).toArray, .int .i64 (findS t.con x h).2]) ∧ SesO w' w.heap.size s ∧ s.con = (findS t.con x h).1 ∧ Below w.heap.size w w' := by
  have hCk := fun W (hb : Below w.heap.size w W) => rcheck26_any t W B (hr.below (hb.mono hB)) (Nat.le_trans hB hb.size) hz
  have hPl := fun W (hb : Below w.heap.size w W) => rplace_any t x h W B (hr.below (hb.mono hB)) (Nat.le_trans hB hb.size) hz
  have hOw := fun W (hb : Below w.heap.size w W) => rown26_any t W B (hr.below (hb.mono hB)) (Nat.le_trans hB hb.size) hz
  obtain ⟨T, hT0⟩ : ∃ T, T = t.con := ⟨_, rfl⟩
  rw [← hT0] at hCk hPl hOw ⊢
  clear hT0
  obtain ⟨⟨oA, on, oc, ol⟩, ⟨dA, dn, dc, dl⟩⟩ := t
  have hsz : on ≤ 1000000000 := hz.opn
  show Calls Tryd.prog 14 #[.agg #[.slice oA on oc, .slice dA dn dc], .string ⟨x.toArray⟩, .int .i64 h] w _
  have hb1 := (Below.refl w.heap.size w).alloc (Nat.le_refl _) (.cells #[.slice oA on oc, .slice dA dn dc] 25)
  have kT := Blk.new w 25 #[.slice oA on oc, .slice dA dn dc]
  obtain ⟨W1, hW1⟩ : ∃ W, W = w.alloc (.cells #[.slice oA on oc, .slice dA dn dc] 25) := ⟨_, rfl⟩
  have hsz1 : W1.heap.size = w.heap.size + 1 := by rw [hW1]; simp
  rw [← hW1] at hb1 kT
  have hT := Lib.hid (fun (W' : World) (hB' : Below W1.heap.size W1 W') => (⟨(kT.below hB' (by omega)).cell 0, (kT.below hB' (by omega)).cell 1⟩ : W'.cell? ⟨w.heap.size, 0, none⟩ = some (.slice oA on oc) ∧ W'.cell? ⟨w.heap.size, 1, none⟩ = some (.slice dA dn dc)))
  obtain ⟨W0, hW0⟩ : ∃ W, W = W1.alloc (.cells #[.string ⟨#[]⟩, .int .i64 0, .string ⟨#[]⟩, .slice none 0 0, .bool false] 33) := ⟨_, rfl⟩
  have kR := Blk.new W1 33 #[.string ⟨#[]⟩, .int .i64 0, .string ⟨#[]⟩, .slice none 0 0, .bool false]
  have hb01 := (Below.refl W1.heap.size W1).alloc (Nat.le_refl _) (.cells #[.string ⟨#[]⟩, .int .i64 0, .string ⟨#[]⟩, .slice none 0 0, .bool false] 33)
  have kT0 := kT.alloc (.cells #[.string ⟨#[]⟩, .int .i64 0, .string ⟨#[]⟩, .slice none 0 0, .bool false] 33)
  have hsz0 : W0.heap.size = w.heap.size + 2 := by rw [hW0]; show (World.heap _ |>.push _).size = _; rw [Array.size_push, hsz1]
  rw [← hW0] at kR hb01 kT0
  rw [hsz1] at kR
  have hb0 : Below w.heap.size w W0 := hb1.trans (hb01.mono (by omega))
  have HUP : Hid (∀ W, Below W0.heap.size W0 W → Below w.heap.size w W) := fun W h => hb0.trans (h.mono (by omega))
  have hCk : Hid (∀ W, Below W0.heap.size W0 W → Calls Tryd.prog 17 #[.agg #[.slice oA on oc, .slice dA dn dc]] W fun e W' => e = .returned (.int .i64 (tabE T)) ∧ Below W.heap.size W W') := fun W h => hCk W (HUP.out W h)
  have hPl : Hid (∀ W, Below W0.heap.size W0 W → Calls Tryd.prog 45 #[.agg #[.slice oA on oc, .slice dA dn dc], .string ⟨x.toArray⟩, .int .i64 h] W fun e W' => e = .returned (.int .i64 (firstI (sesAt x h) T.opn)) ∧ Below W.heap.size W W') := fun W h => hPl W (HUP.out W h)
  have hOw : Hid (∀ W, Below W0.heap.size W0 W → Calls Tryd.prog 9 #[.agg #[.slice oA on oc, .slice dA dn dc]] W fun e W' => ∃ s : TabR, e = .returned s.val ∧ TabO W' W.heap.size s ∧ s.con = T ∧ Below W.heap.size W W') := fun W h => hOw W (HUP.out W h)
  have HPI : Hid (placeI T x h = if tabE T = 9 then (0, 9) else if firstI (sesAt x h) T.opn < 0 then (0, 72) else (firstI (sesAt x h) T.opn, 0)) := rfl
  have hE9 := tabE_09 T
  have hfc := firstI_cs (sesAt x h) T.opn
  obtain ⟨E, hE⟩ : ∃ E, E = tabE T := ⟨_, rfl⟩
  rw [← hE] at hE9 hCk HPI
  obtain ⟨z, hz0⟩ : ∃ z, z = firstI (sesAt x h) T.opn := ⟨_, rfl⟩
  rw [← hz0] at hfc hPl HPI
  have HSZ0 := Lib.hid hsz0
  have KR := Lib.hid kR
  have KT := Lib.hid kT0
  have hc := hCk.out _ (Below.refl _ _)
  obtain ⟨⟨c0, c1⟩, -⟩ := blk2T kT0
  rw [hW0, hW1] at c0 c1
  clear hb1 kT hr hz hsz1 kR hb01 kT0 hsz0 hb0 hT hCk hE hz0
  go_enter Tryd.func14, Tryd.ntmps14
  go_wp2_with fail
  rw [← hW1, ← hW0]
  refine hc.mono ?_
  clear hc c0 c1 hW0 hW1
  rintro e w2 ⟨rfl, hb2⟩
  have HB2 := Lib.hid hb2
  clear hb2
  rcases hE9 with rfl | rfl
  case inr =>
    have HF : Hid (findS T x h = (seZ, 9)) := by show _ = _; unfold findS; rw [show (placeI T x h) = (0, 9) from by rw [HPI.out]; rfl]; rfl
    have kR := KR.out.below HB2.out (by have := HSZ0.out; omega)
    obtain ⟨⟨r0, r1, r2, r3, r4⟩, fr0, fr1, fr2, fr3, fr4⟩ := blk5F kR
    have HBW := Lib.hid (HUP.out _ HB2.out)
    go_wp2_with fail
    have kE := ((((kR.set_ 0 (.string ⟨#[]⟩)).set_ 1 (.int .i64 0)).set_ 2 (.string ⟨#[]⟩)).set_ 3 (.slice none 0 0)).set_ 4 (.bool false)
    obtain ⟨⟨r0, r1, r2, r3, r4⟩, -⟩ := blk5F kE
    refine bodyPost_ret (v := .tuple #[.agg #[.string ⟨#[]⟩, .int .i64 0, .string ⟨#[]⟩, .slice none 0 0, .bool false], .int .i64 9]) (by simp [results, Tryd.results14, go_sem, r0, r1, r2, r3, r4]) rfl ⟨⟨[], 0, [], ⟨none, 0, 0, []⟩, false⟩, by rw [HF.out]; rfl, ⟨rfl, World.ownsRow_nil _ _ _ _⟩, by rw [HF.out]; rfl, ?_⟩
    exact (((((HBW.out.setCell (by simp only; omega) _).setCell (by simp only; omega) _).setCell (by simp only; omega) _).setCell (by simp only; omega) _).setCell (by simp only; omega) _)
  case inl =>
    have hc := hPl.out w2 HB2.out
    obtain ⟨⟨c0, c1⟩, -⟩ := blk2T (KT.out.below HB2.out (by have := HSZ0.out; omega))
    go_wp2_with fail
    refine hc.mono ?_
    clear hc c0 c1
    rintro e w3 ⟨rfl, hb3⟩
    have HB3 := Lib.hid (HB2.out.trans (hb3.mono HB2.out.size))
    clear hb3
    rcases hfc with ⟨h1, -⟩ | ⟨k, hkT, h1, -, -⟩
    · rw [h1] at HPI ⊢
      have HF : Hid (findS T x h = (seZ, 72)) := by show _ = _; unfold findS; rw [show (placeI T x h) = (0, 72) from by rw [HPI.out]; rfl]; rfl
      have kR := KR.out.below HB3.out (by have := HSZ0.out; omega)
      obtain ⟨⟨r0, r1, r2, r3, r4⟩, fr0, fr1, fr2, fr3, fr4⟩ := blk5F kR
      have HBW := Lib.hid (HUP.out _ HB3.out)
      go_wp2_with fail
      have kE := ((((kR.set_ 0 (.string ⟨#[]⟩)).set_ 1 (.int .i64 0)).set_ 2 (.string ⟨#[]⟩)).set_ 3 (.slice none 0 0)).set_ 4 (.bool false)
      obtain ⟨⟨r0, r1, r2, r3, r4⟩, -⟩ := blk5F kE
      refine bodyPost_ret (v := .tuple #[.agg #[.string ⟨#[]⟩, .int .i64 0, .string ⟨#[]⟩, .slice none 0 0, .bool false], .int .i64 72]) (by simp [results, Tryd.results14, go_sem, r0, r1, r2, r3, r4]) rfl ⟨⟨[], 0, [], ⟨none, 0, 0, []⟩, false⟩, by rw [HF.out]; rfl, ⟨rfl, World.ownsRow_nil _ _ _ _⟩, by rw [HF.out]; rfl, ?_⟩
      exact (((((HBW.out.setCell (by simp only; omega) _).setCell (by simp only; omega) _).setCell (by simp only; omega) _).setCell (by simp only; omega) _).setCell (by simp only; omega) _)
    · rw [h1] at HPI ⊢
      have HP2 : Hid (placeI T x h = ((k : Int), 0)) := by show _ = _; rw [HPI.out, if_neg (by decide), if_neg (by omega)]
      have HF : Hid (findS T x h = ((T.opn[k]?).getD seZ, 0)) := by show _ = _; unfold findS; rw [HP2.out]; rfl
      have hk0 : ¬ (k : Int) < 0 := by omega
      have hk1 : (0 : Int) ≤ (k : Int) := by omega
      have hc := hOw.out w3 HB3.out
      obtain ⟨⟨c0, c1⟩, -⟩ := blk2T (KT.out.below HB3.out (by have := HSZ0.out; omega))
      clear h1
      go_wp2_with fail
      refine hc.mono ?_
      clear hc c0 c1
      rintro e w4 ⟨⟨⟨sA, sn, sc, sl⟩, ⟨eA, en, ec, el⟩⟩, he, hO4, hcon, hb4⟩
      replace he : e = .returned (.agg #[.slice sA sn sc, .slice eA en ec]) := he
      subst he
      have hTs : T.opn = sl.map SesR.con := (congrArg TabC.opn hcon).symm
      have hsn : sn = sl.length := hO4.opn.1
      have hkl : k < sl.length := by rw [hTs, List.length_map] at hkT; exact hkT
      have hks : k < sn := by omega
      have hki : (k : Int) < (sn : Int) := by omega
      have hf : ∀ W : World, (Instr.field 25 (.agg #[.slice sA sn sc, .slice eA en ec]) 0).run Tryd.prog W = .ok (.slice sA sn sc) W := fun _ => by kernel_rfl
      obtain ⟨ad, hsa, hadB, q0, q1, q2, q3, q4⟩ := ses_at hO4.opn.rd.2.2 hsn hks
      simp only at hsa
      subst hsa
      have hx := hO4.each _ (List.getElem_mem hkl)
      have HY : Hid ((T.opn[k]?).getD seZ = (sl[k]'hkl).con) := by
        show _ = _
        rw [hTs, List.getElem?_map, List.getElem?_eq_getElem hkl]
        rfl
      obtain ⟨y, hy⟩ : ∃ y, y = sl[k]'hkl := ⟨_, rfl⟩
      simp only at q0 q1 q2 q3 q4
      rw [← hy] at q0 q1 q2 q3 q4 hx HY
      obtain ⟨yt, yh, yi, ⟨yA, yn, yc, yl⟩, yb⟩ := y
      simp only at q0 q1 q2 q3 q4
      have HB4 := Lib.hid (HB3.out.trans (hb4.mono HB3.out.size))
      have HBW := Lib.hid (HUP.out _ HB4.out)
      have HX := Lib.hid hx
      have hw3 : w.heap.size + 2 ≤ w3.heap.size := by have := HB3.out.size; have := HSZ0.out; omega
      have HW3 := Lib.hid hw3
      have hne : (ad.add (k * 5)).block ≠ w.heap.size + 1 := by
        have h1 : (Value.slice (some ad) sn sc).ownBlock = some ad.block := rfl
        have := (hO4.opn.2.lt _ h1).1
        rw [block_of_add]
        omega
      have kR := KR.out.below HB4.out (by have := HSZ0.out; omega)
      obtain ⟨⟨r0, r1, r2, r3, r4⟩, fr0, fr1, fr2, fr3, fr4⟩ := blk5F kR
      clear hO4 hcon hb4 hTs hsn hkl hy hx hw3 hkT
      go_wp2_with fail
      have kE := ((((kR.set_ 0 (.string ⟨yt.toArray⟩)).set_ 1 (.int .i64 yh)).set_ 2 (.string ⟨yi.toArray⟩)).set_ 3 (.slice yA yn yc)).set_ 4 (.bool yb)
      obtain ⟨⟨r0, r1, r2, r3, r4⟩, -⟩ := blk5F kE
      refine bodyPost_ret (v := .tuple #[.agg #[.string ⟨yt.toArray⟩, .int .i64 yh, .string ⟨yi.toArray⟩, .slice yA yn yc, .bool yb], .int .i64 0]) (by simp [results, Tryd.results14, go_sem, r0, r1, r2, r3, r4]) rfl ⟨⟨yt, yh, yi, ⟨yA, yn, yc, yl⟩, yb⟩, by rw [HF.out]; rfl, ⟨HX.out.1, ?_⟩, by rw [HF.out, HY.out], ?_⟩
      · refine own_mono (base := w3.heap.size) ?_ (by have := HW3.out; omega)
        show World.ownsRow _ _ _ _ _ yn _
        have := HW3.out
        repeat (with_reducible refine own_setCell_below ?_ (by dsimp only; omega) _)
        exact HX.out.2
      · exact (((((HBW.out.setCell (by simp only; omega) _).setCell (by simp only; omega) _).setCell (by simp only; omega) _).setCell (by simp only; omega) _).setCell (by simp only; omega) _)
end Go.Proofs.YtjdebhemoeojiaaDoor
