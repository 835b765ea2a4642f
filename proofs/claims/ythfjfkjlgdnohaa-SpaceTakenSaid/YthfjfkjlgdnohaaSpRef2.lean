/-
  The reference's Free; the law's alive: by their contracts.
-/
import Derived.Test.YthfjfkjlgdnohaaSpRef
namespace Go.Proofs.Ythfjfkjlgdnohaa
open Go.RowKit Go.Maps

def freeK (T : Int) (l : List Int) (k : Nat) : List Int := ((upTo T).take k).filter fun n => !l.contains n
theorem freeK_step (T : Int) (l : List Int) (k : Nat) (h : (k : Int) + 2 < T) : freeK T l (k + 1) = freeK T l k ++ (if l.contains ((k : Int) + 2) = true then [] else [(k : Int) + 2]) := by
  unfold freeK
  rw [upTo_take T k h, List.filter_append]
  congr 1
  rw [List.filter_cons, List.filter_nil]
  cases l.contains ((k : Int) + 2) <;> rfl
theorem freeK_len (T : Int) (l : List Int) (k : Nat) : (freeK T l k).length ≤ k := by
  unfold freeK
  refine Nat.le_trans (List.length_filter_le _ _) ?_
  rw [List.length_take]
  omega
theorem ints_append (a b : List Int) : ints (a ++ b) = ints a ++ ints b := by simp [ints]
theorem Try.infoI : (Try.prog.info? 3).map (fun i => (i.zero, i.size, i.bytes)) = some (some (.int .i64 0), 1, 8) := by kernel_rfl
set_option maxRecDepth 100000 in
set_option maxHeartbeats 1000000 in
theorem refFree_any (T : Int) (l : List Int) (n : Nat) (hnl : n = l.length) (A : Option Addr) (c : Nat) (hnc : n ≤ c) (w : World) (B : Nat) (hr : Reads w B 1 A n (ints l)) (hB : B ≤ w.heap.size) (hn : n ≤ 17592186044000) :
    Calls Try.prog 30 #[.int .i64 T, .slice A n c] w fun e w' => ∃ v, e = .returned (.tuple #[v, .int .i64 (usedE T l)]) ∧
      (if usedE T l = 0 then w'.ownsRow w.heap.size 3 1 v (freeL T l).length (ints (freeL T l)) else v = .slice none 0 0) ∧ Below w.heap.size w w' := by
  have hck := refCheck_any T l n hnl A c hnc w B hr hn
  obtain ⟨E, hE0⟩ : ∃ E, E = usedE T l := ⟨_, rfl⟩
  rw [← hE0] at hck ⊢
  by_cases hE : E = 0
  · have hT := (usedE_zero T l).1 (by rw [← hE0, hE])
    obtain ⟨⟨hT1, hT2⟩, _, _⟩ := hT
    obtain ⟨i0, hi0, hz0, hz1, hz2⟩ := info_parts Try.infoI
    have HN := Lib.hid hnl
    subst hE
    clear hnl hE0
    go_enter Try.func30, Try.ntmps30
    go_wp2_with fail
    refine hck.mono ?_
    clear hck
    rintro e w0 ⟨rfl, q, rfl⟩
    have hr0 : Reads (w.drewN q) B 1 A n (ints l) := hr
    obtain ⟨w0, hw0⟩ : ∃ W, W = w.drewN q := ⟨_, rfl⟩
    have hs0 : w0.heap.size = w.heap.size := by rw [hw0]; rfl
    have hb0 : Below w.heap.size w w0 := by rw [hw0]; exact below_drewN (Below.refl _ _) q
    rw [← hw0] at hr0
    clear hr
    go_wp2_with fail
    rw [← hw0]
    clear hw0
    go_loopw [7, 8] (fun o i wr => ∃ (k : Nat) (A1 : Option Addr) (c1 : Nat), (k : Int) + 2 ≤ T ∧ i = .int .i64 ((k : Int) + 2) ∧ o = .slice A1 (freeK T l k).length c1 ∧ wr.ownsRow w0.heap.size 3 1 (.slice A1 (freeK T l k).length c1) (freeK T l k).length (ints (freeK T l k)) ∧ Below w0.heap.size w0 wr)
      (fun _ i _ => (T - intOf i).toNat)
    case atStart => exact ⟨0, none, 0, by omega, rfl, rfl, ⟨rfl, .inl ⟨rfl, rfl⟩⟩, Below.refl _ _⟩
    case round =>
      obtain ⟨k, A1, c1, hk, rfl, rfl, hown, hbw⟩ := hrel
      by_cases hlt : (k : Int) + 2 < T
      · have hst := Lib.hid (freeK_step T l k hlt)
        have hfl := freeK_len T l k
        have hhas := has_any l ((k : Int) + 2) n HN.out A c wr B (hr0.below (hbw.mono (by omega))) (by omega)
        obtain ⟨b, hb⟩ : ∃ b, b = l.contains ((k : Int) + 2) := ⟨_, rfl⟩
        rw [← hb] at hhas hst
        obtain ⟨F, hF⟩ : ∃ F, F = freeK T l k := ⟨_, rfl⟩
        rw [← hF] at hst hfl hown ⊢
        obtain ⟨m, hm⟩ : ∃ m, m = F.length := ⟨_, rfl⟩
        rw [← hm] at hfl hown ⊢
        have HM := Lib.hid hm
        have hszw := hbw.size
        clear hb hF hm
        go_wp2_with fail
        refine hhas.mono ?_
        clear hhas
        rintro e w1 ⟨rfl, rfl⟩
        cases b with
        | true =>
          rw [if_pos rfl, List.append_nil] at hst
          go_wp2_with fail
          go_roundw
          case rel => exact ⟨k + 1, A1, c1, by omega, by go_num, by rw [hst.out, ← HM.out], by rw [hst.out, ← HM.out]; exact hown, hbw⟩
          case measure => simp [intOf]; omega
        | false =>
          rw [if_neg (by simp)] at hst
          go_wp2_with (at_builtin; (refine wpList_push _ rfl (.tmp 24) (.tmp 26) 54 rfl w0.heap.size 3 i0 (.int .i64 0) 1 8 Try.underlying54 hi0 hz0 hz1 hz2 rfl (by decide) (.slice A1 m c1) m (ints F) rfl hown 1 #[.int .i64 ((k : Int) + 2)] 3 rfl rfl (by simp [Value.oneCell']) (by unfold maxLen; omega) (by omega) hszw ?_); intro v2 w2 hown2 hb2 hg2)
          obtain ⟨A2, c2, rfl, _, _, _⟩ := own_form hown2
          have hbw3 := hbw.trans hb2
          have HO : Hid (w1.ownsRow w0.heap.size 3 1 (.slice A1 m c1) m (ints F) ∧ w2.ownsRow w0.heap.size 3 1 (.slice A2 (m + 1) c2) (m + 1) (ints (freeK T l (k + 1)))) := ⟨hown, by rw [hst.out, ints_append]; exact hown2⟩
          have HL : Hid ((freeK T l (k + 1)).length = m + 1) := by show _ = _; rw [hst.out, List.length_append, ← HM.out]; rfl
          clear hown hown2 hb2 hg2 hbw
          go_wp2_with fail
          go_roundw
          case rel => exact ⟨k + 1, A2, c2, by omega, by go_num, by rw [HL.out], by rw [HL.out]; exact HO.out.2, hbw3⟩
          case measure => simp [intOf]; omega
      · have hkT : (k : Int) + 2 = T := by omega
        have hF : freeK T l k = freeL T l := by
          unfold freeK freeL
          rw [List.take_of_length_le (by rw [length_upTo]; omega)]
        rw [hF] at hown ⊢
        have HO := Lib.hid (own_mono hown (Nat.le_of_eq hs0.symm))
        have hbb := hb0.trans (hbw.mono (Nat.le_of_eq hs0.symm))
        clear hown hbw hkT
        go_wp2_with fail
        go_ret2
        exact ⟨_, rfl, HO.out, hbb⟩
  · have HE : Hid (E ≠ 0) := hE
    have hd : (E != 0) = true := by simp [hE]
    have hd2 : (E == 0) = false := by simp [hE]
    clear hr hnl hE0 hE
    go_enter Try.func30, Try.ntmps30
    go_wp2_with fail
    refine hck.mono ?_
    clear hck
    rintro e w0 ⟨rfl, q, rfl⟩
    go_wp2_with fail
    go_ret2
    exact ⟨.slice none 0 0, rfl, rfl, below_drewN (Below.refl _ _) q⟩
end Go.Proofs.Ythfjfkjlgdnohaa
