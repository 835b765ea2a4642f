/-
  token.decimal, and the page's digits and Decimal, by their contracts.
-/
import Derived.ShutString
import Derived.Test.YtjdebhemoeojiaaDoorTkLaw
import Derived.Test.YtjdebhemoeojiaaDoorStr
import Derived.Test.YtjdebhemoeojiaaDoorCells
namespace Go.Proofs.YtjdebhemoeojiaaDoor
open Go.RowKit

set_option maxRecDepth 100000 in
theorem dec1_any (n : Nat) (h : n < 10) (w : World) : Calls Tryd.prog 49 #[.int .i64 (n : Int)] w fun e w' => e = .returned (.string ⟨(decL n).toArray⟩) ∧ Below w.heap.size w w' := by
  have hd := digC_nat h
  have hw1 : IntKind.i64.wrap (48 + (n : Int)) = 48 + (n : Int) := IntWalk.i64_in _ (by omega)
  have hw2 : IntKind.u8.wrap (48 + (n : Int)) = 48 + (n : Int) := IntWalk.u8_in _ (by omega)
  have hlt : (n : Int) < 10 := by omega
  have hb : ((digC n).toNat : Int) = 48 + (n : Int) := by omega
  obtain ⟨W, hW⟩ : ∃ W, W = w.alloc (.cells #[.int .u8 (48 + (n : Int))] 5) := ⟨_, rfl⟩
  have hrd : Reads W (w.heap.size + 1) 1 (some ⟨w.heap.size, 0, none⟩) 1 (bts [digC n]) := by
    rw [hW, show bts [digC n] = (#[.int .u8 (48 + (n : Int))] : Array Value).toList by rw [← hb]; rfl]
    exact Reads.lit w _ _ rfl
  have hbe : Below w.heap.size w W := by rw [hW]; exact (Below.refl _ _).alloc (Nat.le_refl _) _
  have HST := Lib.hid (str_of (P := Tryd.prog) (c := 1) hrd rfl Tryd.underlying31 Tryd.underlying5 Tryd.underlying9)
  have HB := Lib.hid hbe
  have HN := Lib.hid h
  clear hd hb hrd hbe h
  go_enter Tryd.func49, Tryd.ntmps49
  go_wp2_with fail
  rw [← hW, HST.out]
  go_wp2_with fail
  go_ret
  refine ⟨by rw [decL_small HN.out]; rfl, ?_⟩
  rw [← hW]
  exact HB.out
set_option maxRecDepth 100000 in
theorem dec_any (n : Nat) (hn : n ≤ 1099511627776) (w : World) : Calls Tryd.prog 49 #[.int .i64 (n : Int)] w fun e w' => e = .returned (.string ⟨(decL n).toArray⟩) ∧ Below w.heap.size w w' := by
  induction n using Nat.strongRecOn generalizing w with
  | _ n ih =>
    by_cases h : n < 10
    · exact dec1_any n h w
    · have hq := Lib.hid (fun W => ih (n / 10) (by omega) (by omega) W)
      have hr := Lib.hid (fun W => dec1_any (n % 10) (by omega) W)
      have hlt : ¬ (n : Int) < 10 := by omega
      have hdq : Int.tdiv (n : Int) 10 = ((n / 10 : Nat) : Int) := by rw [Int.tdiv_eq_ediv_of_nonneg (by omega)]; omega
      have hdr : Int.tmod (n : Int) 10 = ((n % 10 : Nat) : Int) := by rw [Int.tmod_eq_emod_of_nonneg (by omega)]; omega
      obtain ⟨q, hqe⟩ : ∃ q, q = n / 10 := ⟨_, rfl⟩
      obtain ⟨r, hre⟩ : ∃ r, r = n % 10 := ⟨_, rfl⟩
      have HD : Hid (decL n = decL q ++ decL r) := by
        show _ = _
        rw [decL_big h, hqe, hre, decL_small (n := n % 10) (by omega)]
      have hq9 : q ≤ 1099511627776 := by omega
      have hr9 : r < 10 := by omega
      have hw1 : IntKind.i64.wrap (q : Int) = (q : Int) := IntWalk.i64_in _ (by omega)
      have hw2 : IntKind.i64.wrap (r : Int) = (r : Int) := IntWalk.i64_in _ (by omega)
      have hlq := decL_len q
      have hlr := decL_len r
      rw [← hqe] at hq hdq
      rw [← hre] at hr hdr
      clear ih hqe hre hn h
      go_enter Tryd.func49, Tryd.ntmps49
      go_wp2_with fail
      refine (hq.out _).mono ?_
      rintro e w1 ⟨rfl, hb1⟩
      go_wp2_with fail
      refine (hr.out _).mono ?_
      rintro e w2 ⟨rfl, hb2⟩
      go_wp2_with fail
      go_ret
      refine ⟨congrArg Ending.returned (congrArg Value.string (eq_mk _ _ ?_)), hb1.trans (hb2.mono hb1.size)⟩
      rw [append_data, HD.out]
set_option maxRecDepth 100000 in
theorem digits1_any (n : Nat) (h : n < 10) (w : World) : Calls Tryd.prog 87 #[.int .u64 (n : Int)] w fun e w' => e = .returned (.string ⟨(decL n).toArray⟩) ∧ Below w.heap.size w w' := by
  have hd := digC_nat h
  have hw1 : IntKind.u64.wrap (48 + (n : Int)) = 48 + (n : Int) := IntWalk.u64_in _ (by omega)
  have hw2 : IntKind.u8.wrap (48 + (n : Int)) = 48 + (n : Int) := IntWalk.u8_in _ (by omega)
  have hlt : (n : Int) < 10 := by omega
  have hb : ((digC n).toNat : Int) = 48 + (n : Int) := by omega
  obtain ⟨W, hW⟩ : ∃ W, W = w.alloc (.cells #[.int .u8 (48 + (n : Int))] 5) := ⟨_, rfl⟩
  have hrd : Reads W (w.heap.size + 1) 1 (some ⟨w.heap.size, 0, none⟩) 1 (bts [digC n]) := by
    rw [hW, show bts [digC n] = (#[.int .u8 (48 + (n : Int))] : Array Value).toList by rw [← hb]; rfl]
    exact Reads.lit w _ _ rfl
  have hbe : Below w.heap.size w W := by rw [hW]; exact (Below.refl _ _).alloc (Nat.le_refl _) _
  have HST := Lib.hid (str_of (P := Tryd.prog) (c := 1) hrd rfl Tryd.underlying31 Tryd.underlying5 Tryd.underlying9)
  have HB := Lib.hid hbe
  have HN := Lib.hid h
  clear hd hb hrd hbe h
  go_enter Tryd.func87, Tryd.ntmps87
  go_wp2_with fail
  rw [← hW, HST.out]
  go_wp2_with fail
  go_ret
  refine ⟨by rw [decL_small HN.out]; rfl, ?_⟩
  rw [← hW]
  exact HB.out
set_option maxRecDepth 100000 in
theorem digits_any (n : Nat) (hn : n ≤ 1099511627776) (w : World) : Calls Tryd.prog 87 #[.int .u64 (n : Int)] w fun e w' => e = .returned (.string ⟨(decL n).toArray⟩) ∧ Below w.heap.size w w' := by
  induction n using Nat.strongRecOn generalizing w with
  | _ n ih =>
    by_cases h : n < 10
    · exact digits1_any n h w
    · have hq := Lib.hid (fun W => ih (n / 10) (by omega) (by omega) W)
      have hr := Lib.hid (fun W => digits1_any (n % 10) (by omega) W)
      have hlt : ¬ (n : Int) < 10 := by omega
      have hdq : Int.tdiv (n : Int) 10 = ((n / 10 : Nat) : Int) := by rw [Int.tdiv_eq_ediv_of_nonneg (by omega)]; omega
      have hdr : Int.tmod (n : Int) 10 = ((n % 10 : Nat) : Int) := by rw [Int.tmod_eq_emod_of_nonneg (by omega)]; omega
      obtain ⟨q, hqe⟩ : ∃ q, q = n / 10 := ⟨_, rfl⟩
      obtain ⟨r, hre⟩ : ∃ r, r = n % 10 := ⟨_, rfl⟩
      have HD : Hid (decL n = decL q ++ decL r) := by
        show _ = _
        rw [decL_big h, hqe, hre, decL_small (n := n % 10) (by omega)]
      have hq9 : q ≤ 1099511627776 := by omega
      have hr9 : r < 10 := by omega
      have hw1 : IntKind.u64.wrap (q : Int) = (q : Int) := IntWalk.u64_in _ (by omega)
      have hw2 : IntKind.u64.wrap (r : Int) = (r : Int) := IntWalk.u64_in _ (by omega)
      have hlq := decL_len q
      have hlr := decL_len r
      rw [← hqe] at hq hdq
      rw [← hre] at hr hdr
      clear ih hqe hre hn h
      go_enter Tryd.func87, Tryd.ntmps87
      go_wp2_with fail
      refine (hq.out _).mono ?_
      rintro e w1 ⟨rfl, hb1⟩
      go_wp2_with fail
      refine (hr.out _).mono ?_
      rintro e w2 ⟨rfl, hb2⟩
      go_wp2_with fail
      go_ret
      refine ⟨congrArg Ending.returned (congrArg Value.string (eq_mk _ _ ?_)), hb1.trans (hb2.mono hb1.size)⟩
      rw [append_data, HD.out]
set_option maxRecDepth 100000 in
theorem decimal_any (n : Nat) (hn : n ≤ 1099511627776) (w : World) : Calls Tryd.prog 59 #[.int .i64 (n : Int)] w fun e w' => e = .returned (.string ⟨(decL n).toArray⟩) ∧ Below w.heap.size w w' := by
  have hlt : ¬ (n : Int) < 0 := by omega
  have hw1 : IntKind.u64.wrap (n : Int) = (n : Int) := IntWalk.u64_in _ (by omega)
  have hd := Lib.hid (fun W => digits_any n hn W)
  go_enter Tryd.func59, Tryd.ntmps59
  go_wp2_with fail
  refine (hd.out _).mono ?_
  rintro e w1 ⟨rfl, hb1⟩
  go_wp2_with fail
  go_ret
  exact ⟨rfl, hb1⟩
end Go.Proofs.YtjdebhemoeojiaaDoor
