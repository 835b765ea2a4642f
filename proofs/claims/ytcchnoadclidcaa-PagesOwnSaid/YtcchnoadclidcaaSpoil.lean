/-
  godownplain.Spoil at a row of bytes of the call's own: nothing else turns.
-/
import Derived.Test.YtcchnoadclidcaaBase
import Derived.Test.YtcchnoadclidcaaRows
import Derived.Laws.BitsAllLaws
import Derived.Handy
namespace Go.Proofs.Ytcchnoadclidcaa
open Go.RowKit

theorem xorB (x y : UInt8) : bits .xor .u8 (x.toNat : Int) (y.toNat : Int) = ((x ^^^ y).toNat : Int) := by
  rw [u8_xor_nat _ _ x.toNat_lt y.toNat_lt, UInt8.toNat_xor]
theorem bts_setX (b : List UInt8) (i : Nat) (z : UInt8) : bts (b.set i z) = (bts b).set i (.int .u8 (z.toNat : Int)) := by simp [bts, List.map_set]

set_option maxRecDepth 100000 in
set_option maxHeartbeats 1000000 in
theorem spoil_row (b : List UInt8) (n : Nat) (hnb : n = b.length) (base : Nat) (v : Value) (w : World) (hown : w.ownsRow base 5 1 v n (bts b)) (hn : n ≤ 140737488351232) :
    Calls Try.prog 36 #[v] w fun e w' => e = .returned (.tuple #[]) ∧ w.grownBy w' v.ownBlock ∧ ∃ b' : List UInt8, n = b'.length ∧ w'.ownsRow base 5 1 v n (bts b') := by
  rcases hown.2 with ⟨rfl, h0⟩ | ⟨g, cap, cur, rfl, hg, _⟩
  · obtain rfl : n = 0 := h0
    clear hnb
    go_enter Try.func36, Try.ntmps36
    go_wp2_with fail
    refine wp_loop_rounds 1 ?_
    rw [rounds_succ]
    go_wp2_with fail
    go_end0
    exact ⟨rfl, World.grownBy.refl _ _, [], rfl, by simpa [bts] using World.ownsRow_nil _ _ _ _⟩
  · have HN := Lib.hid hnb
    clear hnb hg
    go_enter Try.func36, Try.ntmps36
    go_wp2_with fail
    go_loopw [2] (fun i wr => ∃ (k : Nat) (b' : List UInt8), k ≤ n ∧ i = .int .i64 (k : Int) ∧ Hid (n = b'.length) ∧ wr.ownsRow base 5 1 (.slice (some ⟨g, 0, none⟩) n cap) n (bts b') ∧ w.grownBy wr (some g)) (fun i _ => n - (intOf i).toNat)
    case atStart => exact ⟨0, b, Nat.zero_le _, rfl, HN, hown, World.grownBy.refl _ _⟩
    case round =>
      obtain ⟨k, b', hk, rfl, hnb, hO, hgr⟩ := hrel
      by_cases hlt : k < n
      · have hlb : k < b'.length := by rw [← hnb.out]; exact hlt
        have hki : (k : Int) < (n : Int) := by omega
        have hcell : wr.cell? ⟨g, k, none⟩ = some (.int .u8 ((b'[k]).toNat : Int)) := by
          rw [hO.cellAt k (by omega), bts_get, List.getElem?_eq_getElem hlb]; rfl
        have hfz : wr.frozen? ⟨g, k, none⟩ = false := hO.frozenAt k
        have hst := hO.stored k (.int .u8 ((b'[k] ^^^ 255).toNat : Int))
        rw [← bts_setX] at hst
        have hxy := xorB b'[k] 255
        have h255 : (((255 : UInt8).toNat : Nat) : Int) = 255 := rfl
        rw [h255] at hxy
        have hy := (b'[k]).toNat_lt
        obtain ⟨y, hyy⟩ : ∃ y, y = (b'[k]).toNat := ⟨_, rfl⟩
        rw [← hyy] at hcell hxy hy
        rw [← hxy] at hst
        have HST := Lib.hid hst
        clear hyy hxy h255 hst hO hown
        go_wp2_with fail
        exact ⟨⟨k + 1, _, by omega, by go_num, (show _ = _ by rw [List.length_set]; exact hnb.out), HST.out.1, hgr.trans HST.out.2⟩, by simp [intOf]; omega⟩
      · obtain rfl : k = n := by omega
        clear hown
        go_wp2_with fail
        go_end0
        exact ⟨rfl, hgr, b', hnb.out, hO⟩
theorem spoil_any (b : List UInt8) (n : Nat) (hnb : n = b.length) (base : Nat) (v : Value) (w : World) (hown : w.ownsRow base 5 1 v n (bts b)) (hn : n ≤ 140737488351232) :
    Calls Try.prog 36 #[v] w fun e w' => e = .returned (.tuple #[]) ∧ w.grownBy w' v.ownBlock :=
  (spoil_row b n hnb base v w hown hn).mono fun _ _ h => ⟨h.1, h.2.1⟩
end Go.Proofs.Ytcchnoadclidcaa
