/-
  bytes.Equal, uber.number.
-/
import Derived.Test.YtcchnoadclidcaaNumber
import Derived.Handy
import Derived.Laws.IdiomStrings
import Derived.Laws.BytesString
namespace Go.Proofs.Ytcchnoadclidcaa
open Go.RowKit
theorem str_of {P : Program} {w : World} {B n c : Nat} {A : Option Addr} {b : List UInt8} (hr : Reads w B 1 A n (bts b)) (hnb : n = b.length) {src dst e : TypeId} (hs : P.underlying src = some (.slice e)) (he : P.underlying e = some (.int .u8)) (hd : P.underlying dst = some .string) :
    (convert src dst (.slice A n c)).run P w = .ok (.string ⟨b.toArray⟩) w := by
  subst hnb
  rcases Nat.eq_zero_or_pos b.length with h | h
  · obtain rfl := List.eq_nil_of_length_eq_zero h
    rw [run_convert_bytes_string w src dst e _ _ c hs he hd]
    cases A <;> simp [Conv.bytesToString, loadCells]
    all_goals rfl
  · obtain ⟨ad, rfl, _, hc⟩ := hr.2 h
    exact run_convert_bytes_back w src dst e ad c b hs he hd (fun j hj => hc j _ (by rw [bts_get, List.getElem?_eq_getElem hj]; rfl))

set_option maxRecDepth 100000 in
theorem equal_any (a b : List UInt8) (n m : Nat) (hna : n = a.length) (hmb : m = b.length) (A A' : Option Addr) (c c' : Nat) (w : World) (B B' : Nat) (hra : Reads w B 1 A n (bts a)) (hrb : Reads w B' 1 A' m (bts b)) :
    Calls Try.prog 66 #[.slice A n c, .slice A' m c'] w fun e w' => e = .returned (.bool (a == b)) ∧ w = w' := by
  have h1 := str_of (P := Try.prog) (c := c) hra hna Try.underlying25 Try.underlying5 Try.underlying9
  have h2 := str_of (P := Try.prog) (c := c') hrb hmb Try.underlying25 Try.underlying5 Try.underlying9
  clear hra hrb hna hmb
  go_enter Try.func66, Try.ntmps66
  go_wp2_with fail
  go_ret
  exact ⟨rfl, rfl⟩

set_option maxRecDepth 100000 in
theorem numberAt_any (b : List UInt8) (n : Nat) (hnb : n = b.length) (A : Option Addr) (c : Nat) (from_ size : Nat) (hf : from_ + size ≤ n) (hs : 0 < size) (h8 : size ≤ 8) (hc : n ≤ c) (hn : c ≤ 9223372036854775807) (w : World) (B : Nat) (hr : Reads w B 1 A n (bts b)) :
    Calls Try.prog 65 #[.slice A n c, .int .i64 (from_ : Int), .int .i64 (size : Int)] w fun e w' => e = .returned (.int .i64 (numV ((b.drop from_).take size))) ∧ w = w' := by
  subst hnb
  obtain ⟨ad, rfl, _, _⟩ := hr.2 (by omega)
  have h1 := hr.cut (k := from_) (cap := c) (by omega) hc
  rw [if_neg (by omega)] at h1
  simp only [Nat.mul_one, Option.map_some] at h1
  have h2 := h1.pre (k := size) (by omega)
  rw [Nat.mul_one, ← bts_drop, ← bts_take] at h2
  have hl : size = ((b.drop from_).take size).length := by simp; omega
  have i1 : (0 : Int) ≤ (from_ : Int) := by omega
  have i2 : (from_ : Int) ≤ (from_ : Int) + (size : Int) := by omega
  have i3 : (from_ : Int) + (size : Int) ≤ (c : Int) := by omega
  have i4 : from_ < c := by omega
  have HL := Lib.hid hl
  clear hl hr h1
  go_enter Try.func65, Try.ntmps65
  go_wp2_with fail
  refine (number_any _ size HL.out _ _ _ B h2 (by omega)).mono ?_
  rintro e w1 ⟨rfl, rfl⟩
  go_wp2_with fail
  go_ret
  exact ⟨rfl, rfl⟩
end Go.Proofs.Ytcchnoadclidcaa
