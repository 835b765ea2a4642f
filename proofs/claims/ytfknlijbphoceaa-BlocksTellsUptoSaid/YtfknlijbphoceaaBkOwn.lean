/-
  The law BlocksOwn, walked.
-/
import Derived.Test.YtfknlijbphoceaaBkRef
import Derived.Test.YtfknlijbphoceaaFrame
namespace Go.Proofs.Ytfknlijbphoceaa
open Go.RowKit

def putR (l : BL) (i : Int) (d : List UInt8) : BL := if putE l i d = 0 then putL11 l i d else []
theorem PutPost.own {w w' : World} {l : BL} {i : Int} {d : List UInt8} {e : Ending} (h : PutPost w l i d e w') :
    ∃ v, e = .returned (.tuple #[v, .int .i64 (putE l i d)]) ∧ w'.ownsRow w.heap.size 30 2 v (putR l i d).length (bcells (putR l i d)) ∧ Below w.heap.size w w' := by
  obtain ⟨v, rfl, h1, h2⟩ := h
  refine ⟨v, rfl, ?_, h2⟩
  unfold putR
  by_cases hz : putE l i d = 0
  · rw [if_pos hz] at h1 ⊢
    exact h1
  · rw [if_neg hz] at h1 ⊢
    subst h1
    exact World.ownsRow_nil _ _ _ _
theorem okE_small (l : BL) (i : Int) (d : List UInt8) : (putR l i d).length ≤ 1025 := by
  unfold putR
  split
  · rename_i h
    have hok : okL l = true := by
      unfold putE at h
      split at h
      · assumption
      · omega
    have := okL_small l hok
    have hp := posF_le (cfB i) l
    unfold putL11
    simp only [List.length_append, List.length_take, List.length_drop, List.length_cons, List.length_nil]
    split <;> omega
  · simp

set_option maxRecDepth 100000 in
set_option maxHeartbeats 4000000 in
theorem blocksOwn_any (l : BL) (n : Nat) (hnl : n = l.length) (A : Option Addr) (c : Nat) (hnc : n ≤ c) (hcm : c ≤ 9223372036854775807) (i : Int) (d : List UInt8) (w : World) (hr : Reads w w.heap.size 2 A n (bcells l)) (hn : n ≤ 5000000000000) :
    LawCalls Try.prog 3 #[.slice A n c, .int .i64 i, .string ⟨d.toArray⟩] w := by
  obtain ⟨z, hz⟩ : ∃ z, z = putE l i d := ⟨_, rfl⟩
  obtain ⟨L, hL⟩ : ∃ L, L = putR l i d := ⟨_, rfl⟩
  obtain ⟨M, hM⟩ : ∃ M, M = L.length := ⟨_, rfl⟩
  have hMs : M ≤ 1025 := by rw [hM, hL]; exact okE_small l i d
  have hp1 := fun A1 c1 W (h1 : Reads W W.heap.size 2 A1 n (bcells l)) => (bkPut_any l n hnl A1 c1 i d W W.heap.size h1 (Nat.le_refl _) hn).mono (fun e w' h => PutPost.own h)
  have hp2 := fun W (hb : Below w.heap.size w W) => (rput_any l n hnl A c hnc hcm i d W w.heap.size (hr.below hb) hb.size hn).mono (fun e w' h => PutPost.own h)
  have hs1 := fun A1 c1 W (h1 : Reads W W.heap.size 2 A1 n (bcells l)) (hb : Below w.heap.size w W) => rsame_any l l n n hnl hnl A1 A c1 c W W.heap.size w.heap.size h1 (hr.below hb) (by omega)
  have hs2 := fun A1 c1 A2 c2 W (h1 : Reads W W.heap.size 2 A1 M (bcells L)) (h2 : Reads W W.heap.size 2 A2 M (bcells L)) => rsame_any L L M M hM hM A1 A2 c1 c2 W W.heap.size W.heap.size h1 h2 (by omega)
  have ho := fun W (hb : Below w.heap.size w W) => rown_any (bcells l) n A c W w.heap.size (hr.below hb) (bcells_one l) hn
  rw [← hz, ← hL, ← hM] at hp1 hp2
  rw [beq_self_eq_true] at hs1 hs2
  clear hz hL hM hnl hr
  go_enter Try.func3, Try.ntmps3
  go_wp2_with fail
  refine (alive11_any _).mono ?_
  rintro e w1 ⟨rfl, hb1⟩
  go_wp2_with fail
  refine (ho _ hb1).mono ?_
  clear ho
  rintro e w2 ⟨v2, rfl, hown2, hb2⟩
  obtain ⟨A2, c2, rfl, _, _, hr2⟩ := own_form hown2
  have hbb2 := hb1.trans (hb2.mono hb1.size)
  go_wp2_with fail
  refine (hp1 A2 c2 _ hr2).mono ?_
  clear hp1
  rintro e w3 ⟨v3, rfl, hown3, hb3⟩
  have hr3 := (hr2.below hb3).more hb3.size
  have hbb3 := hbb2.trans (hb3.mono hbb2.size)
  obtain ⟨A3, c3, rfl, _, _, _⟩ := own_form hown3
  have hown23 := own_below hown2 hb3
  have hlt2 := Lib.hid (fun k hk => (hown2.lt k hk))
  have hs1' := hs1 A2 c2 w3 hr3 hbb3
  have hz2 := hbb2.size
  have hz3 : w2.heap.size ≤ w3.heap.size := hb3.size
  have hz1 : w.heap.size ≤ w1.heap.size := hb1.size
  clear hs1 hr3 hr2 hown2 hb3 hb2 hb1 hbb2
  go_wp2_with fail
  refine hs1'.mono ?_
  clear hs1'
  rintro e w4 ⟨rfl, q, rfl⟩
  go_wp2_with fail
  have hbb4 := below_drewN hbb3 q
  have hown24 := own_drewN hown23 q
  have hown34 := own_drewN hown3 q
  have hz4 : w2.heap.size ≤ (w3.drewN q).heap.size := hz3
  clear hbb3 hown23 hown3 hz3
  generalize w3.drewN q = w4 at *
  go_loopw [11] (fun j wr => ∃ k : Nat, k ≤ n ∧ j = .int .i64 (k : Int) ∧ Hid (∃ ys, wr.ownsRow w1.heap.size 30 2 (.slice A2 n c2) n ys) ∧ wr.ownsRow w2.heap.size 30 2 (.slice A3 M c3) M (bcells L) ∧ Below w.heap.size w wr) (fun j _ => n - (intOf j).toNat)
  case atStart => exact ⟨0, Nat.zero_le _, rfl, ⟨_, hown24⟩, hown34, hbb4⟩
  case round =>
    obtain ⟨k, hk, rfl, ⟨ys, hown⟩, hownx, hbw⟩ := hrel
    clear hown24 hown34 hbb4
    by_cases hkn : k < n
    · have hki : (k : Int) < (n : Int) := by omega
      rcases hown.2 with ⟨_, h0⟩ | ⟨g, cap, cur, hs, hbg, _, _, _, _, _⟩
      · omega
      · injection hs with e1 _ e2
        subst e1 e2
        have hyl := hown.1
        have h0 := (hown.cellAt (k * 2) (by omega)).trans (List.getElem?_eq_getElem (by omega))
        have f0 := hown.frozenAt (k * 2)
        have h1 := (hown.cellAt (k * 2 + 1) (by omega)).trans (List.getElem?_eq_getElem (by omega))
        have f1 := hown.frozenAt (k * 2 + 1)
        generalize ys[k * 2]'(by omega) = y0 at h0
        generalize ys[k * 2 + 1]'(by omega) = y1 at h1
        have hgl := hlt2.out g rfl
        have hst := Lib.hid ((hown.stored (k * 2) (.int .i64 77)).1.stored (k * 2 + 1) (.string ByteArray.empty)).1
        have hsx := Lib.hid (fun a b => own_setCell_below (p := ⟨g, k * 2 + 1, none⟩) (own_setCell_below (p := ⟨g, k * 2, none⟩) hownx hgl.2 a) hgl.2 b)
        have hbx := Lib.hid (fun a b => (hbw.setCell (p := ⟨g, k * 2, none⟩) (show w.heap.size ≤ g by omega) a).setCell (p := ⟨g, k * 2 + 1, none⟩) (show w.heap.size ≤ g by omega) b)
        clear hown hownx hbw hyl
        go_wp2_with fail
        go_roundw
        case rel => exact ⟨k + 1, by omega, by go_num, ⟨_, hst.out⟩, hsx.out _ _, hbx.out _ _⟩
        case measure => simp [intOf]; omega
    · go_wp2_with fail
      refine (hp2 wr hbw).mono ?_
      clear hp2
      rintro e w5 ⟨v5, rfl, hown5, hb5⟩
      obtain ⟨A5, c5, rfl, _, _, hr5⟩ := own_form hown5
      have hr3 := ((Reads.of_own hownx).below hb5).more hb5.size
      have hbb5 := hbw.trans (hb5.mono hbw.size)
      have hs2' := hs2 A3 c3 A5 c5 w5 hr3 hr5
      clear hs2 hr3 hr5 hown5 hb5 hbw hown hownx
      go_wp2_with fail
      refine (num11 _ _).mono ?_
      rintro e w6 ⟨rfl, rfl⟩
      go_wp2_with fail
      refine hs2'.mono ?_
      clear hs2'
      rintro e w7 ⟨rfl, q7, rfl⟩
      go_wp2_with fail
      go_ret
      exact ⟨rfl, below_drewN hbb5 q7⟩
end Go.Proofs.Ytfknlijbphoceaa
