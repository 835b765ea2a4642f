/-
  token.Fits, the law's num and alive, by their contracts.
-/
import Derived.Test.YtjdebhemoeojiaaDoorTkPrp
namespace Go.Proofs.YtjdebhemoeojiaaDoor
open Go.RowKit

set_option maxRecDepth 100000 in
set_option maxHeartbeats 4000000 in
theorem fits_ok (into : BS) (kind : Int) (nm : BS) (frm : Int) (o1 : Option Addr) (o2 o3 : Nat) (ol : List (BS × BS)) (ix ct : Int) (dt : BS) (sa sb sc sd : Int) (b1 : Option Addr) (b2 b3 : Nat) (bl : List BlkT) (nx ua ub uc ud : Int) (done : Bool) (na ng : Nat) (hna : na ≤ 1099511627776) (hng : ng ≤ 1099511627776) (t : BS) (w0 : World) (B : Nat) (hro : Reads w0 B 2 o1 o2 (pcells ol)) (hol : o2 = ol.length) (hrb : Reads w0 B 2 b1 b2 (bcells bl)) (hbl : b2 = bl.length) (hB : B ≤ w0.heap.size)
    (hin : into.length ≤ 4000000000) (ho2 : o2 ≤ 1000000000000) (hb2 : b2 ≤ 1000000000000) (hp : ∀ p ∈ ol, p.1.length ≤ 4000000000 ∧ p.2.length ≤ 4000000000) (hmx : HasMax w0)
    (hok : (!(into == []) && pathB into && beginP kind nm frm (ng : Int) ol ix ct dt ⟨sa, sb, sc, sd⟩ && okL bl && amt (na : Int) 0 && amt nx 0) = true) :
    Calls Tryd.prog 26 #[.agg #[.string ⟨into.toArray⟩, .int .i64 kind, .string ⟨nm.toArray⟩, .int .i64 frm, .int .i64 (ng : Int), .slice o1 o2 o3, .int .i64 ix, .int .i64 ct, .string ⟨dt.toArray⟩, .int .u64 sa, .int .u64 sb, .int .u64 sc, .int .u64 sd, .slice b1 b2 b3, .int .i64 (na : Int), .int .i64 nx, .int .u64 ua, .int .u64 ub, .int .u64 uc, .int .u64 ud, .bool done], .string ⟨t.toArray⟩] w0 fun e w' => e = .returned (.bool (tokL into na ng == t)) ∧ Below w0.heap.size w0 w' := by
  have hb1 := (Below.refl w0.heap.size w0).alloc (Nat.le_refl _) (.cells #[.string ⟨into.toArray⟩, .int .i64 kind, .string ⟨nm.toArray⟩, .int .i64 frm, .int .i64 (ng : Int), .slice o1 o2 o3, .int .i64 ix, .int .i64 ct, .string ⟨dt.toArray⟩, .int .u64 sa, .int .u64 sb, .int .u64 sc, .int .u64 sd, .slice b1 b2 b3, .int .i64 (na : Int), .int .i64 nx, .int .u64 ua, .int .u64 ub, .int .u64 uc, .int .u64 ud, .bool done] 60)
  have kT := Blk.new w0 60 #[.string ⟨into.toArray⟩, .int .i64 kind, .string ⟨nm.toArray⟩, .int .i64 frm, .int .i64 (ng : Int), .slice o1 o2 o3, .int .i64 ix, .int .i64 ct, .string ⟨dt.toArray⟩, .int .u64 sa, .int .u64 sb, .int .u64 sc, .int .u64 sd, .slice b1 b2 b3, .int .i64 (na : Int), .int .i64 nx, .int .u64 ua, .int .u64 ub, .int .u64 uc, .int .u64 ud, .bool done]
  obtain ⟨W1, hW1⟩ : ∃ W, W = w0.alloc (.cells #[.string ⟨into.toArray⟩, .int .i64 kind, .string ⟨nm.toArray⟩, .int .i64 frm, .int .i64 (ng : Int), .slice o1 o2 o3, .int .i64 ix, .int .i64 ct, .string ⟨dt.toArray⟩, .int .u64 sa, .int .u64 sb, .int .u64 sc, .int .u64 sd, .slice b1 b2 b3, .int .i64 (na : Int), .int .i64 nx, .int .u64 ua, .int .u64 ub, .int .u64 uc, .int .u64 ud, .bool done] 60) := ⟨_, rfl⟩
  have hsz1 : W1.heap.size = w0.heap.size + 1 := by rw [hW1]; simp
  rw [← hW1] at hb1 kT
  have hT1 := Lib.hid (fun (W' : World) (hB' : Below W1.heap.size W1 W') => kT.below hB' (by omega))
  have HLD : Hid (∀ (j : Nat) (v : Value), ([.string ⟨into.toArray⟩, .int .i64 kind, .string ⟨nm.toArray⟩, .int .i64 frm, .int .i64 (ng : Int), .slice o1 o2 o3, .int .i64 ix, .int .i64 ct, .string ⟨dt.toArray⟩, .int .u64 sa, .int .u64 sb, .int .u64 sc, .int .u64 sd, .slice b1 b2 b3, .int .i64 (na : Int), .int .i64 nx, .int .u64 ua, .int .u64 ub, .int .u64 uc, .int .u64 ud, .bool done] : List Value)[j]? = some v → (w0.alloc (.cells #[.string ⟨into.toArray⟩, .int .i64 kind, .string ⟨nm.toArray⟩, .int .i64 frm, .int .i64 (ng : Int), .slice o1 o2 o3, .int .i64 ix, .int .i64 ct, .string ⟨dt.toArray⟩, .int .u64 sa, .int .u64 sb, .int .u64 sc, .int .u64 sd, .slice b1 b2 b3, .int .i64 (na : Int), .int .i64 nx, .int .u64 ua, .int .u64 ub, .int .u64 uc, .int .u64 ud, .bool done] 60)).cell? ((⟨w0.heap.size, 0, none⟩ : Addr).add j) = some v) := by
    show ∀ j v, _ → _
    rw [← hW1]
    intro j v hj
    rw [addr_add0, kT.cell j, List.getElem?_toArray]
    exact hj
  have hpr := tprint_ok into kind nm frm o1 o2 o3 ol ix ct dt sa sb sc sd b1 b2 b3 bl nx ua ub uc ud done na ng hna hng W1 B (hro.below (hb1.mono hB)) hol (hrb.below (hb1.mono hB)) hbl (by omega) hin ho2 hb2 hp (hmx.below hb1) hok
  have HB1 := Lib.hid hb1
  have HSZ1 := Lib.hid hsz1
  clear hsz1 kT hro hol hrb hbl hp hmx hok hT1
  obtain ⟨tk, htk⟩ : ∃ x, x = tokL into na ng := ⟨_, rfl⟩
  rw [← htk] at hpr ⊢
  clear htk
  go_enter Tryd.func26, Tryd.ntmps26
  go_wp2_with (refine wpList_load_at rfl 60 (.tmp 2) rfl ⟨w0.heap.size, 0, none⟩ rfl [.string ⟨into.toArray⟩, .int .i64 kind, .string ⟨nm.toArray⟩, .int .i64 frm, .int .i64 (ng : Int), .slice o1 o2 o3, .int .i64 ix, .int .i64 ct, .string ⟨dt.toArray⟩, .int .u64 sa, .int .u64 sb, .int .u64 sc, .int .u64 sd, .slice b1 b2 b3, .int .i64 (na : Int), .int .i64 nx, .int .u64 ua, .int .u64 ub, .int .u64 uc, .int .u64 ud, .bool done] _ HLD.out Tryd.underlying60 rfl (by kernel_rfl) ?_)
  rw [← hW1]
  clear hW1
  refine hpr.mono ?_
  clear hpr
  rintro e w2 ⟨rfl, hb2'⟩
  have HB2 := Lib.hid (HB1.out.trans (hb2'.mono (by have := HSZ1.out; omega)))
  go_wp2_with fail
  go_ret
  exact ⟨rfl, HB2.out⟩
set_option maxRecDepth 100000 in
set_option maxHeartbeats 4000000 in
theorem fits_bad (into : BS) (kind : Int) (nm : BS) (frm gd : Int) (o1 : Option Addr) (o2 o3 : Nat) (ol : List (BS × BS)) (ix ct : Int) (dt : BS) (sa sb sc sd : Int) (b1 : Option Addr) (b2 b3 : Nat) (bl : List BlkT) (at_ nx ua ub uc ud : Int) (done : Bool) (t : BS) (w0 : World) (B : Nat) (hro : Reads w0 B 2 o1 o2 (pcells ol)) (hol : o2 = ol.length) (hrb : Reads w0 B 2 b1 b2 (bcells bl)) (hbl : b2 = bl.length) (hB : B ≤ w0.heap.size)
    (hin : into.length ≤ 4000000000) (ho2 : o2 ≤ 1000000000000) (hb2 : b2 ≤ 1000000000000) (hp : ∀ p ∈ ol, p.1.length ≤ 4000000000 ∧ p.2.length ≤ 4000000000) (hmx : HasMax w0)
    (hno : (!(into == []) && pathB into && beginP kind nm frm gd ol ix ct dt ⟨sa, sb, sc, sd⟩ && okL bl && amt at_ 0 && amt nx 0) = false) :
    Calls Tryd.prog 26 #[.agg #[.string ⟨into.toArray⟩, .int .i64 kind, .string ⟨nm.toArray⟩, .int .i64 frm, .int .i64 gd, .slice o1 o2 o3, .int .i64 ix, .int .i64 ct, .string ⟨dt.toArray⟩, .int .u64 sa, .int .u64 sb, .int .u64 sc, .int .u64 sd, .slice b1 b2 b3, .int .i64 at_, .int .i64 nx, .int .u64 ua, .int .u64 ub, .int .u64 uc, .int .u64 ud, .bool done], .string ⟨t.toArray⟩] w0 fun e w' => e = .returned (.bool (false)) ∧ Below w0.heap.size w0 w' := by
  have hb1 := (Below.refl w0.heap.size w0).alloc (Nat.le_refl _) (.cells #[.string ⟨into.toArray⟩, .int .i64 kind, .string ⟨nm.toArray⟩, .int .i64 frm, .int .i64 gd, .slice o1 o2 o3, .int .i64 ix, .int .i64 ct, .string ⟨dt.toArray⟩, .int .u64 sa, .int .u64 sb, .int .u64 sc, .int .u64 sd, .slice b1 b2 b3, .int .i64 at_, .int .i64 nx, .int .u64 ua, .int .u64 ub, .int .u64 uc, .int .u64 ud, .bool done] 60)
  have kT := Blk.new w0 60 #[.string ⟨into.toArray⟩, .int .i64 kind, .string ⟨nm.toArray⟩, .int .i64 frm, .int .i64 gd, .slice o1 o2 o3, .int .i64 ix, .int .i64 ct, .string ⟨dt.toArray⟩, .int .u64 sa, .int .u64 sb, .int .u64 sc, .int .u64 sd, .slice b1 b2 b3, .int .i64 at_, .int .i64 nx, .int .u64 ua, .int .u64 ub, .int .u64 uc, .int .u64 ud, .bool done]
  obtain ⟨W1, hW1⟩ : ∃ W, W = w0.alloc (.cells #[.string ⟨into.toArray⟩, .int .i64 kind, .string ⟨nm.toArray⟩, .int .i64 frm, .int .i64 gd, .slice o1 o2 o3, .int .i64 ix, .int .i64 ct, .string ⟨dt.toArray⟩, .int .u64 sa, .int .u64 sb, .int .u64 sc, .int .u64 sd, .slice b1 b2 b3, .int .i64 at_, .int .i64 nx, .int .u64 ua, .int .u64 ub, .int .u64 uc, .int .u64 ud, .bool done] 60) := ⟨_, rfl⟩
  have hsz1 : W1.heap.size = w0.heap.size + 1 := by rw [hW1]; simp
  rw [← hW1] at hb1 kT
  have hT1 := Lib.hid (fun (W' : World) (hB' : Below W1.heap.size W1 W') => kT.below hB' (by omega))
  have HLD : Hid (∀ (j : Nat) (v : Value), ([.string ⟨into.toArray⟩, .int .i64 kind, .string ⟨nm.toArray⟩, .int .i64 frm, .int .i64 gd, .slice o1 o2 o3, .int .i64 ix, .int .i64 ct, .string ⟨dt.toArray⟩, .int .u64 sa, .int .u64 sb, .int .u64 sc, .int .u64 sd, .slice b1 b2 b3, .int .i64 at_, .int .i64 nx, .int .u64 ua, .int .u64 ub, .int .u64 uc, .int .u64 ud, .bool done] : List Value)[j]? = some v → (w0.alloc (.cells #[.string ⟨into.toArray⟩, .int .i64 kind, .string ⟨nm.toArray⟩, .int .i64 frm, .int .i64 gd, .slice o1 o2 o3, .int .i64 ix, .int .i64 ct, .string ⟨dt.toArray⟩, .int .u64 sa, .int .u64 sb, .int .u64 sc, .int .u64 sd, .slice b1 b2 b3, .int .i64 at_, .int .i64 nx, .int .u64 ua, .int .u64 ub, .int .u64 uc, .int .u64 ud, .bool done] 60)).cell? ((⟨w0.heap.size, 0, none⟩ : Addr).add j) = some v) := by
    show ∀ j v, _ → _
    rw [← hW1]
    intro j v hj
    rw [addr_add0, kT.cell j, List.getElem?_toArray]
    exact hj
  have hpr := tprint_bad into kind nm frm gd o1 o2 o3 ol ix ct dt sa sb sc sd b1 b2 b3 bl at_ nx ua ub uc ud done W1 B (hro.below (hb1.mono hB)) hol (hrb.below (hb1.mono hB)) hbl (by omega) hin ho2 hb2 hp (hmx.below hb1) hno
  have HB1 := Lib.hid hb1
  have HSZ1 := Lib.hid hsz1
  clear hsz1 kT hro hol hrb hbl hp hmx hno hT1
  go_enter Tryd.func26, Tryd.ntmps26
  go_wp2_with (refine wpList_load_at rfl 60 (.tmp 2) rfl ⟨w0.heap.size, 0, none⟩ rfl [.string ⟨into.toArray⟩, .int .i64 kind, .string ⟨nm.toArray⟩, .int .i64 frm, .int .i64 gd, .slice o1 o2 o3, .int .i64 ix, .int .i64 ct, .string ⟨dt.toArray⟩, .int .u64 sa, .int .u64 sb, .int .u64 sc, .int .u64 sd, .slice b1 b2 b3, .int .i64 at_, .int .i64 nx, .int .u64 ua, .int .u64 ub, .int .u64 uc, .int .u64 ud, .bool done] _ HLD.out Tryd.underlying60 rfl (by kernel_rfl) ?_)
  rw [← hW1]
  clear hW1
  refine hpr.mono ?_
  clear hpr
  rintro e w2 ⟨rfl, hb2'⟩
  have HB2 := Lib.hid (HB1.out.trans (hb2'.mono (by have := HSZ1.out; omega)))
  go_wp2_with fail
  go_ret
  exact ⟨rfl, HB2.out⟩
theorem num23_any (n : Int) (w : World) : Calls Tryd.prog 25 #[.int .i64 n] w fun e w' => e = .returned (.int .i64 n) ∧ w' = w := by
  go_enter Tryd.func25, Tryd.ntmps25
  go_wp2_with fail
  go_ret
  exact ⟨rfl, rfl⟩
theorem tok_alive : tokL [97] 10 3 = [97, 58, 49, 48, 58, 51] := by
  unfold tokL
  rw [decL_big (by omega), decL_small (n := 10 / 10) (by omega), decL_small (n := 3) (by omega)]
  rfl
theorem reads_nil0 (w : World) (B k : Nat) : Reads w B k none 0 [] := by
  first | exact Reads.nil _ _ _ | exact ⟨by simp, fun h => absurd h (by omega)⟩
set_option maxRecDepth 100000 in
set_option maxHeartbeats 4000000 in
theorem alive23_any (w : World) (hmx : HasMax w) : Calls Tryd.prog 27 #[] w fun e w' => e = .returned (.bool true) ∧ Below w.heap.size w w' := by
  have hpr := tprint_ok [97] 1 [110] 0 none 0 0 [] 0 0 [] 0 0 0 0 none 0 0 [] 0 0 0 0 0 false 10 3 (by omega) (by omega) w w.heap.size (reads_nil0 _ _ _) rfl (reads_nil0 _ _ _) rfl (Nat.le_refl _) (by decide) (by omega) (by omega) (fun p hp => by cases hp) hmx (by kernel_rfl)
  rw [tok_alive] at hpr
  go_enter Tryd.func27, Tryd.ntmps27
  go_wp2_with fail
  refine hpr.mono ?_
  clear hpr
  rintro e w1 ⟨rfl, hb1⟩
  go_wp2_with fail
  refine (num23_any _ _).mono ?_
  rintro e w2 ⟨rfl, hw2⟩
  rw [hw2]
  go_wp2_with fail
  go_ret
  exact ⟨rfl, hb1⟩
end Go.Proofs.YtjdebhemoeojiaaDoor
