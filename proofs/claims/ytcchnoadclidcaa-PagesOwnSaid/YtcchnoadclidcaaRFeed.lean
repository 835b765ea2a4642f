/-
  The page's Feed, by its contract.
-/
import Derived.Test.YtcchnoadclidcaaRWords
import Derived.BigRegion
namespace Go.Proofs.Ytcchnoadclidcaa
open Go.RowKit

set_option maxRecDepth 100000 in
set_option maxHeartbeats 400000 in
theorem rfeed_any (s : Sm) (b : List UInt8) (A : Option Addr) (c : Nat) (w : World) (B : Nat) (hr : Reads w B 1 A b.length (bts b)) (hB : B ≤ w.heap.size) (hn : b.length ≤ 140737488351232) :
    Calls Try.prog 30 #[s.val, .slice A b.length c] w fun e w' => e = .returned (feedL s (words b)).val ∧ Below w.heap.size w w' := by
  obtain ⟨sa, sb, sc, sd⟩ := s
  show Calls _ _ #[.agg #[.int .u64 sa, .int .u64 sb, .int .u64 sc, .int .u64 sd], _] _ _
  go_enter Try.func30, Try.ntmps30
  go_wp2_with fail
  refine (rwords_any b b.length rfl A c _ B (hr.below (by go_grown)) (by simp; omega) hn).mono ?_
  rintro e w1 ⟨v, rfl, hown, hb1⟩
  obtain ⟨A2, c2, rfl, hc2, hm2, hr2⟩ := own_form hown
  simp only []
  have hwl : (words b).length ≤ 140737488351232 := by simp [words, wordsN_length]; omega
  obtain ⟨l, hl⟩ : ∃ l, l = words b := ⟨_, rfl⟩
  rw [← hl] at hc2 hr2 hwl hown ⊢
  have HL := Lib.hid hl
  clear hl hr2 hr
  have hsz := hb1.size
  simp at hsz
  have hk1 : Blk w1 w.heap.size 24 #[.int .u64 sa, .int .u64 sb, .int .u64 sc, .int .u64 sd] := ((Blk.new w _ _).alloc _).below hb1 (by simp; omega)
  have hk2 : Blk w1 (w.heap.size + 1) 24 #[.int .u64 0, .int .u64 0, .int .u64 0, .int .u64 0] := by
    have := (Blk.new (w.alloc (Obj.cells #[.int .u64 sa, .int .u64 sb, .int .u64 sc, .int .u64 sd] 24)) 24 #[.int .u64 0, .int .u64 0, .int .u64 0, .int .u64 0]).below hb1 (by simp)
    simpa using this
  have hbel1 : Below w.heap.size w w1 := (((Below.refl _ _).alloc (Nat.le_refl _) _).alloc (by simp) _).trans (hb1.mono (by simp; omega))
  have hown1 : w1.ownsRow (w.heap.size + 2) 29 1 (.slice A2 l.length c2) l.length (u32s l) := own_mono hown (by simp)
  clear hown hb1
  go_wp2_with fail
  go_loopw [6] (fun i wr => ∃ k : Nat, k ≤ l.length ∧ i = .int .i64 (k : Int) ∧ FeedRel ⟨sa, sb, sc, sd⟩ l k w.heap.size 24 wr ∧ Blk wr (w.heap.size + 1) 24 #[.int .u64 0, .int .u64 0, .int .u64 0, .int .u64 0] ∧ wr.ownsRow (w.heap.size + 2) 29 1 (.slice A2 l.length c2) l.length (u32s l) ∧ Below w.heap.size w wr) (fun i _ => l.length - (intOf i).toNat)
  case atStart => exact ⟨0, Nat.zero_le _, rfl, hk1, hk2, hown1, hbel1⟩
  case round =>
    obtain ⟨k, hk, rfl, hF, hK2, hO, hB1⟩ := hrel
    unfold FeedRel at hF
    have hst := feedL_take ⟨sa, sb, sc, sd⟩ l k
    obtain ⟨st, est⟩ : ∃ st, st = feedL ⟨sa, sb, sc, sd⟩ (l.take k) := ⟨_, rfl⟩
    rw [← est] at hF hst
    have EST := Lib.hid est
    have HST := Lib.hid hst
    clear est hst
    obtain ⟨ya, yb, yc, yd⟩ := st
    obtain ⟨c0, c1, c3, c4, f0, f1, f3, f4⟩ := blk4 hF
    by_cases hlt : k < l.length
    · obtain ⟨_, _, hv, _, _, hR⟩ := own_form hO
      obtain ⟨rfl, rfl⟩ : _ = A2 ∧ _ = c2 := by injection hv with h1 _ h2; exact ⟨h1.symm, h2.symm⟩
      obtain ⟨ad, u, rfl, _, hu, hcu⟩ := hR.at_ hlt
      obtain ⟨x, hx⟩ : ∃ x, l[k]? = some x := ⟨_, List.getElem?_eq_getElem hlt⟩
      have hxl : x < 4294967296 := words_lt b x (by rw [← HL.out]; exact List.mem_of_getElem? hx)
      obtain rfl : u = .int .u32 (x : Int) := by simp [u32s, hx] at hu; exact hu.symm
      have HX := Lib.hid hx
      clear hv hR hu hx
      have hki : (k : Int) < (l.length : Int) := by omega
      go_wp2_with fail
      go_region
      go_wp2_with fail
      go_roundw
      case rel => exact ⟨k + 1, by omega, by go_num, Blk.drew (feed_rel hF (HST.out x HX.out)), ((((hK2.far (by simp) _).far (by simp) _).far (by simp) _).far (by simp) _).drew, own_drew (own_setCell_below (own_setCell_below (own_setCell_below (own_setCell_below hO (by simp) _) (by simp) _) (by simp) _) (by simp) _), ((((hB1.setCell (by simp) _).setCell (by simp) _).setCell (by simp) _).setCell (by simp) _).drew⟩
      case measure => simp [intOf]; omega
    · obtain ⟨d0, d1, d3, d4, g0, g1, g3, g4⟩ := blk4 hK2
      clear hF hK2 hO hown1 hk1 hk2 hbel1 hc2 hsz hwl
      go_wp2_with fail
      refine bodyPost_ret (v := .agg #[.int .u64 ya, .int .u64 yb, .int .u64 yc, .int .u64 yd]) (by simp [results, Try.results30, go_sem, d0, d1, d3, d4]) rfl ⟨?_, ?_⟩
      · have hk' : k = l.length := by omega
        have := EST.out
        rw [hk', List.take_length, HL.out] at this
        rw [← this]; rfl
      · exact (((hB1.setCell (by simp) _).setCell (by simp) _).setCell (by simp) _).setCell (by simp) _
end Go.Proofs.Ytcchnoadclidcaa
