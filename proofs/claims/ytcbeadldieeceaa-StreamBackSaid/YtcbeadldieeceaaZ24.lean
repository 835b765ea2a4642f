/-
  A stream is read back: the plain law.
-/
import Derived.Lib.AppendStr
import Derived.Deep.RegionLaw
import Derived.Deep.DeepCutAuto
import Derived.Test.YtcbeadldieeceaaZ2
import Derived.Test.YtcbeadldieeceaaZ3
import Derived.Test.YtcbeadldieeceaaZ4
import Derived.Test.YtcbeadldieeceaaZ7
import Derived.Test.YtcbeadldieeceaaZ8
import Derived.Test.YtcbeadldieeceaaZ16
import Derived.Test.YtcbeadldieeceaaZ17
import Derived.Test.YtcbeadldieeceaaZ22
import Derived.Test.YtcbeadldieeceaaZ23
namespace Go.Proofs.Ytcbeadldieeceaa
open Go.RowKit

/-- records that may stand behind one another, from an index on -/
def Follow : Int → List Rc → Prop
  | _, [] => True
  | n, r :: l => ((r.kind = 2 ∧ n ≤ r.ix ∧ Follow (r.ix + 1) l) ∨ (r.kind = 3 ∧ n ≤ r.ix ∧ Follow (r.ix + r.ct) l))
theorem step_at (pre : BS) (r : Rc) (hE : recE r = 0) (hs : r.sm.ok) (more : BS) (st : RSt) (hat : st.at_ = pre.length) (s n : Int) (ha : afterL st.seen st.next r = (s, n, true)) (h4 : (r.kind == 4 && !smB r.sm st.sm) = false) :
    stepR (pre ++ (encL r ++ more)) st = .ok ⟨st.at_ + (encL r).length, s, n, feedL st.sm (words (encL r)), st.out ++ [r]⟩ := by
  have hd : (pre ++ (encL r ++ more)).drop st.at_ = encL r ++ more := by rw [hat]; exact List.drop_left' rfl
  have hp := parse_enc r hE hs more
  have hl := (encL_len r hE).2
  unfold stepR
  rw [if_neg (by rw [hat]; simp; omega), hd, hp]
  simp only [ha, h4, List.take_left' rfl]
  simp
theorem rest_law (R : List Rc) : ∀ (pre : BS) (e : Rc) (st : RSt) (f : Nat), (∀ r ∈ R, recE r = 0 ∧ r.sm = Sm0) → recE e = 0 → e.kind = 4 → e.sm.ok → e.sm = sumS st.sm R → st.at_ = pre.length → st.seen = 1 → Follow st.next R → (encAll R ++ encL e).length + 1 ≤ f →
    recsGo (pre ++ (encAll R ++ encL e)) f st = (st.out ++ R ++ [e], (pre ++ (encAll R ++ encL e)).length, 0) := by
  induction R with
  | nil =>
    intro pre e st f _ hE hk hs hsum hat hseen _ hf
    have hl := (encL_len e hE).2
    simp only [encAll, List.flatMap_nil, List.nil_append] at hf ⊢
    obtain ⟨f, rfl⟩ : ∃ g, f = g + 2 := ⟨f - 2, by omega⟩
    have ha : afterL st.seen st.next e = (2, st.next, true) := by
      unfold afterL
      rw [if_neg (by omega), if_neg (by omega), if_neg (by omega), hseen]
      rfl
    have h4 : (e.kind == 4 && !smB e.sm st.sm) = false := by
      have : smB e.sm st.sm = true := (smB_iff _ _).2 hsum
      rw [this]; simp
    have h1 := step_at pre e hE hs [] st hat 2 st.next ha h4
    rw [List.append_nil] at h1
    rw [recsGo_ok _ _ _ _ (by omega) h1, recsGo_end _ _ _ (by simp only; omega), if_pos (by simp only [List.length_append]; omega)]
    simp [hat]
  | cons r R ih =>
    intro pre e st f hR hE hk hs hsum hat hseen hfo hf
    obtain ⟨hr, hrs⟩ := hR r (by simp)
    have hl := (encL_len r hr).2
    obtain ⟨f, rfl⟩ : ∃ g, f = g + 1 := ⟨f - 1, by omega⟩
    have ok0 : Sm0.ok := ⟨by decide, by decide, by decide, by decide⟩
    have hb : pre ++ (encAll (r :: R) ++ encL e) = pre ++ (encL r ++ (encAll R ++ encL e)) := by simp [encAll]
    obtain ⟨n, ha, hfo2, hk4⟩ : ∃ n, afterL st.seen st.next r = (1, n, true) ∧ Follow n R ∧ r.kind ≠ 4 := by
      unfold Follow at hfo
      rcases hfo with ⟨h1, h2, h3⟩ | ⟨h1, h2, h3⟩
      · refine ⟨_, ?_, h3, by omega⟩
        unfold afterL
        rw [if_neg (by omega), if_pos h1, hseen]
        simp [h2]
      · refine ⟨_, ?_, h3, by omega⟩
        unfold afterL
        rw [if_neg (by omega), if_neg (by omega), if_pos h1, hseen]
        simp [h2]
    have h4 : (r.kind == 4 && !smB r.sm st.sm) = false := by simp [hk4]
    have h1 := step_at pre r hr (by rw [hrs]; exact ok0) (encAll R ++ encL e) st hat 1 n ha h4
    rw [hb, recsGo_ok _ _ _ _ (by omega) h1, ← List.append_assoc pre]
    rw [ih (pre ++ encL r) e _ f (fun x hx => hR x (by simp [hx])) hE hk hs ?_ (by simp only [List.length_append]; omega) rfl hfo2 ?_]
    · simp [List.append_assoc]
    · rw [hsum]; rfl
    · rw [show encAll (r :: R) = encL r ++ encAll R from by simp [encAll]] at hf
      simp only [List.length_append] at hf ⊢
      omega
theorem follow_of (o : RL) : ∀ n : Int, o.Pairwise (fun r q => lastOf r < q.2.1) → (∀ r ∈ o, ValidR r) → (∀ r ∈ o.head?, n ≤ r.2.1) → Follow n (o.map rcOf) := by
  induction o with
  | nil => intro n _ _ _; trivial
  | cons r o ih =>
    intro n hp hv hh
    have h0 := hh r (by simp)
    have hr := hv r (by simp)
    rw [List.pairwise_cons] at hp
    have hnext : ∀ q ∈ o.head?, lastOf r + 1 ≤ q.2.1 := fun q hq => by have := hp.1 q (List.mem_of_mem_head? hq); omega
    have := ih (lastOf r + 1) hp.2 (fun q hq => hv q (by simp [hq])) hnext
    rw [List.map_cons]
    unfold Follow
    unfold lastOf at this
    rcases hr with ⟨h1, _⟩ | ⟨h1, _⟩
    · rw [if_pos h1] at this
      exact .inl ⟨h1, h0, this⟩
    · rw [if_neg (by omega)] at this
      refine .inr ⟨h1, h0, ?_⟩
      have e : r.2.1 + r.2.2.1 - 1 + 1 = r.2.1 + r.2.2.1 := by omega
      rw [e] at this
      exact this
theorem feedL_okS (s : Sm) (l : List Nat) (hs : s.ok) : (feedL s l).ok := by
  unfold feedL
  induction l generalizing s with
  | nil => exact hs
  | cons x l ih =>
    refine ih _ ?_
    have h : ∀ n : Int, 0 ≤ wu n ∧ wu n < 18446744073709551616 := by intro n; unfold wu; rw [IntKind.wrap_u64]; omega
    exact ⟨h _, h _, h _, h _⟩
theorem sumS_ok (s : Sm) (l : List Rc) (hs : s.ok) : (sumS s l).ok := by
  unfold sumS
  induction l generalizing s with
  | nil => exact hs
  | cons r l ih => exact ih _ (feedL_okS _ _ hs)
/-- THE STREAM IS READ BACK -/
theorem back_law (a b : BL) (r0 : Rc) (ok : Bool) (hk : r0.kind = 1) (hm : makeE a b r0 ok = 0) :
    recsL' (makeS a b r0) = (recsL a b r0 ++ [rcEnd (sumS Sm0 (recsL a b r0))], (makeS a b r0).length, 0) := by
  have ok0 : Sm0.ok := ⟨by decide, by decide, by decide, by decide⟩
  unfold makeE at hm
  split at hm
  · rename_i h; exact absurd hm h
  rename_i hd
  split at hm
  · rename_i h; exact absurd hm h
  rename_i hr
  split at hm
  · cases hm
  split at hm
  · cases hm
  rename_i hlen
  have hr0 : recE r0 = 0 := Classical.not_not.1 hr
  have hd0 : diffE a b = 0 := Classical.not_not.1 hd
  obtain ⟨ha, hb⟩ := (diffE_ok a b).1 hd0
  have hs0 : r0.sm = Sm0 := (mayB_1 r0 hk (recE_kind r0 hr0).2).2.2.2.2.2.2.2
  unfold recsL'
  rw [if_neg hlen]
  have hmk : makeS a b r0 = [] ++ (encL r0 ++ (encAll ((diffO a b).map rcOf) ++ encL (rcEnd (sumS Sm0 (recsL a b r0))))) := by
    unfold makeS recsL
    simp [encAll]
  have h1 := step_at [] r0 hr0 (by rw [hs0]; exact ok0) (encAll ((diffO a b).map rcOf) ++ encL (rcEnd (sumS Sm0 (recsL a b r0)))) RSt0 rfl 1 0 (by unfold afterL; rw [if_pos hk]; rfl) (by simp [hk])
  rw [hmk, recsGo_ok _ _ _ _ (by decide) h1]
  have hap := apply_law a b ha hb
  have ho : diffO a b = (diffGo a b ([], -2)).1 := by unfold diffO; rw [if_pos hd0]
  have hfo : Follow 0 ((diffO a b).map rcOf) := by
    refine follow_of _ 0 (by rw [ho]; exact hap.2.1) (by rw [ho]; exact hap.1) (fun r hr => ?_)
    have := hap.1 r (by rw [← ho]; exact List.mem_of_mem_head? hr)
    rcases this with h | h <;> omega
  have := rest_law ((diffO a b).map rcOf) (encL r0) (rcEnd (sumS Sm0 (recsL a b r0))) ⟨RSt0.at_ + (encL r0).length, 1, 0, feedL RSt0.sm (words (encL r0)), RSt0.out ++ [r0]⟩ ((makeS a b r0).length) ?_ (recE_end _) rfl (sumS_ok _ _ ok0) rfl (by simp [RSt0]) rfl hfo ?_
  · rw [List.nil_append] at hmk ⊢
    rw [← hmk] at this ⊢
    rw [this]
    rfl
  · intro r hr
    obtain ⟨x, hx, rfl⟩ := List.mem_map.1 hr
    exact ⟨diffO_ok a b x hx, rfl⟩
  · rw [hmk]
    have := (encL_len r0 hr0).2
    simp only [List.nil_append, List.length_append]
    omega
end Go.Proofs.Ytcbeadldieeceaa

/-
  The page's example: alive.
-/
namespace Go.Proofs.Ytcbeadldieeceaa
open Go.RowKit

set_option maxRecDepth 100000 in
theorem num_any (x : Int) (w : World) : Calls Try.prog 9 #[.int .i64 x] w fun e w' => e = .returned (.int .i64 x) ∧ w' = w := by
  go_enter Try.func9, Try.ntmps9
  go_wp2_with fail
  go_ret
  exact ⟨rfl, rfl⟩
def rcA : Rc := ⟨1, [97], 0, 1, [], 0, 0, [], Sm0⟩
theorem rcA_ok : recE rcA = 0 := by decide
theorem recsA : recsL [] [] rcA = [rcA] := by
  unfold recsL diffO
  rw [if_pos (by decide), diffGo]
  rfl
theorem makeE_A : makeE [] [] rcA true = 0 := by
  unfold makeE
  rw [if_neg (by decide), if_neg (by rw [rcA_ok]; simp), if_neg (by simp), if_neg]
  have h1 := encAll_len (recsL [] [] rcA) ((sumE_all _).2 (by
    intro y hy
    rcases List.mem_cons.1 hy with rfl | hy
    · exact rcA_ok
    · obtain ⟨z, hz, rfl⟩ := List.mem_map.1 hy
      exact diffO_ok _ _ z hz))
  have h2 := (encL_len _ (recE_end (sumS Sm0 (recsL [] [] rcA)))).1
  have h3 : (recsL [] [] rcA).length = 1 := by rw [recsA]; rfl
  unfold makeS
  rw [List.length_append]
  omega
set_option maxRecDepth 100000 in
set_option maxHeartbeats 2000000 in
theorem alive_any (w : World) : Calls Try.prog 10 #[] w fun e w' => e = .returned (.bool true) ∧ Below w.heap.size w w' := by
  have hbk := back_law [] [] rcA true rfl makeE_A
  have h3 : (recsL [] [] rcA).length = 1 := by rw [recsA]; rfl
  have hmk := make_full [] [97] 0 1 [] [] [] (.slice none 0 0) (.slice none 0 0) 0 0 0 0 0 0 0 0 none none none none rfl rfl rfl (Nat.le_refl _) (by omega) (by omega) (by intro x hx; cases hx) w Reads.none_ Reads.none_ Reads.none_
  have HM : Hid (Calls Try.prog 7 #[.agg #[.string ⟨#[]⟩, .int .i64 0, .slice none 0 0, .slice none 0 0, .slice none 0 0], .agg #[.string ⟨#[97]⟩, .int .i64 1, .slice none 0 0, .slice none 0 0, .slice none 0 0], .bool true] w (MakePost w [] [] rcA true)) := hmk
  obtain ⟨S, hS⟩ : ∃ S, S = makeS [] [] rcA := ⟨_, rfl⟩
  obtain ⟨n, hn⟩ : ∃ n, n = S.length := ⟨_, rfl⟩
  have hlen : n ≤ 32768 := by
    have := makeE_A
    unfold makeE at this
    rw [if_neg (by decide), if_neg (by rw [rcA_ok]; simp), if_neg (by simp)] at this
    split at this
    · cases this
    · rw [hn, hS]; omega
  rw [← hS, ← hn] at hbk
  have HBK := Lib.hid hbk
  have HS := Lib.hid hS
  have HN := Lib.hid hn
  have H3 := Lib.hid h3
  clear hbk hS hn h3 hmk
  go_enter Try.func10, Try.ntmps10
  go_wp2_with fail
  refine HM.out.mono ?_
  clear HM
  rintro e w1 ⟨v, rfl, hown, hb1⟩
  rw [if_pos makeE_A, ← HS.out, ← HN.out] at hown
  rw [makeE_A]
  obtain ⟨A, c, rfl, hc, hcm, hr⟩ := own_form hown
  have HR := Lib.hid (recs_any S n HN.out A c w1 hr hc hcm)
  have HB1 := Lib.hid hb1
  clear hown hb1 hr
  go_wp2_with fail
  refine HR.out.mono ?_
  clear HR
  rintro e w2 ⟨ys, A2, k, c2, rfl, hys, hk, _, _, hb2⟩
  rw [HBK.out] at hys ⊢
  have hk2 : k = 2 := by
    have := congrArg List.length hys
    rw [List.length_map, List.length_append, H3.out] at this
    rw [hk, this]; rfl
  subst hk2
  have HB2 := Lib.hid (HB1.out.trans (hb2.mono HB1.out.size))
  clear hys hk hb2
  go_wp2_with fail
  refine (num_any 0 w2).mono ?_
  rintro e w3 ⟨rfl, hw3⟩
  rw [hw3]
  clear hw3 w3
  go_wp2_with fail
  refine (num_any 0 w2).mono ?_
  rintro e w3 ⟨rfl, hw3⟩
  rw [hw3]
  clear hw3 w3
  go_wp2_with fail
  go_ret
  exact ⟨rfl, HB2.out⟩
end Go.Proofs.Ytcbeadldieeceaa

/-
  The page's Put (at 2, 3, 8 octets), Num, Number, Of: by their contracts. (mkrf1.py)
-/
namespace Go.Proofs.Ytcbeadldieeceaa
open Go.RowKit

set_option maxRecDepth 100000 in
set_option maxHeartbeats 1000000 in
theorem pput2_any (n : Int) (w : World) :
    Calls Try.prog 34 #[.int .i64 n, .int .i64 2] w fun e w' => ∃ v, e = .returned v ∧ w'.ownsRow w.heap.size 5 1 v 2 (bts (putL n 2)) ∧ Below w.heap.size w w' := by
  obtain ⟨i0, hi0, hz0, hz1, hz2⟩ := info_parts Try.infoU8c
  have hown0 : w.ownsRow w.heap.size 5 1 (.slice none 0 0) 0 [] := World.ownsRow_nil _ _ _ _
  have hb0 := Below.refl w.heap.size w
  go_enter Try.func34, Try.ntmps34
  go_wp2_with fail
  refine wp_loop_rounds 3 ?_
  rw [rounds_succ]
  go_wp2_with (at_builtin; (refine wpList_push w rfl (.tmp 14) (.tmp 20) _ rfl w.heap.size 5 i0 _ 1 1 Try.underlying27 hi0 hz0 hz1 hz2 rfl (by omega) (.slice none 0 0) 0 _ rfl hown0 1 _ _ rfl rfl (by simp [Value.oneCell']) (by unfold maxLen; omega) (by omega) hb0.size ?_); intro v1 w1 hown1 hq1 _)
  have hb1 := hb0.trans hq1
  clear hown0 hb0 hq1
  rw [rounds_succ]
  go_wp2_with (at_builtin; (refine wpList_push w1 rfl (.tmp 14) (.tmp 20) _ rfl w.heap.size 5 i0 _ 1 1 Try.underlying27 hi0 hz0 hz1 hz2 rfl (by omega) v1 1 _ rfl hown1 1 _ _ rfl rfl (by simp [Value.oneCell']) (by unfold maxLen; omega) (by omega) hb1.size ?_); intro v2 w2 hown2 hq2 _)
  have hb2 := hb1.trans hq2
  clear hown1 hb1 hq2
  rw [rounds_succ]
  go_wp2_with fail
  go_ret
  refine ⟨v2, rfl, ?_, hb2⟩
  have hl : bts (putL n 2) = [.int .u8 (n / 256 % 256), .int .u8 (n % 256)] := by
    rw [putL2r]; simp only [bts, List.map_cons, List.map_nil, toByte_int]
  rw [hl]
  first | exact hown2 | (rw [show (min (2 : Int) 8) = 2 from by decide] at hown2; simpa using hown2)

set_option maxRecDepth 100000 in
set_option maxHeartbeats 1000000 in
theorem pput3_any (n : Int) (w : World) :
    Calls Try.prog 34 #[.int .i64 n, .int .i64 3] w fun e w' => ∃ v, e = .returned v ∧ w'.ownsRow w.heap.size 5 1 v 3 (bts (putL n 3)) ∧ Below w.heap.size w w' := by
  obtain ⟨i0, hi0, hz0, hz1, hz2⟩ := info_parts Try.infoU8c
  have hown0 : w.ownsRow w.heap.size 5 1 (.slice none 0 0) 0 [] := World.ownsRow_nil _ _ _ _
  have hb0 := Below.refl w.heap.size w
  go_enter Try.func34, Try.ntmps34
  go_wp2_with fail
  refine wp_loop_rounds 4 ?_
  rw [rounds_succ]
  go_wp2_with (at_builtin; (refine wpList_push w rfl (.tmp 14) (.tmp 20) _ rfl w.heap.size 5 i0 _ 1 1 Try.underlying27 hi0 hz0 hz1 hz2 rfl (by omega) (.slice none 0 0) 0 _ rfl hown0 1 _ _ rfl rfl (by simp [Value.oneCell']) (by unfold maxLen; omega) (by omega) hb0.size ?_); intro v1 w1 hown1 hq1 _)
  have hb1 := hb0.trans hq1
  clear hown0 hb0 hq1
  rw [rounds_succ]
  go_wp2_with (at_builtin; (refine wpList_push w1 rfl (.tmp 14) (.tmp 20) _ rfl w.heap.size 5 i0 _ 1 1 Try.underlying27 hi0 hz0 hz1 hz2 rfl (by omega) v1 1 _ rfl hown1 1 _ _ rfl rfl (by simp [Value.oneCell']) (by unfold maxLen; omega) (by omega) hb1.size ?_); intro v2 w2 hown2 hq2 _)
  have hb2 := hb1.trans hq2
  clear hown1 hb1 hq2
  rw [rounds_succ]
  go_wp2_with (at_builtin; (refine wpList_push w2 rfl (.tmp 14) (.tmp 20) _ rfl w.heap.size 5 i0 _ 1 1 Try.underlying27 hi0 hz0 hz1 hz2 rfl (by omega) v2 2 _ rfl hown2 1 _ _ rfl rfl (by simp [Value.oneCell']) (by unfold maxLen; omega) (by omega) hb2.size ?_); intro v3 w3 hown3 hq3 _)
  have hb3 := hb2.trans hq3
  clear hown2 hb2 hq3
  rw [rounds_succ]
  go_wp2_with fail
  go_ret
  refine ⟨v3, rfl, ?_, hb3⟩
  have hl : bts (putL n 3) = [.int .u8 (n / 65536 % 256), .int .u8 (n / 256 % 256), .int .u8 (n % 256)] := by
    have h2 : n / 256 / 256 % 256 = n / 65536 % 256 := by omega
    rw [putL3r]; simp only [bts, List.map_cons, List.map_nil, toByte_int, h2]
  rw [hl]
  first | exact hown3 | (rw [show (min (3 : Int) 8) = 3 from by decide] at hown3; simpa using hown3)

set_option maxRecDepth 100000 in
set_option maxHeartbeats 1000000 in
theorem pput8_any (n : Int) (w : World) :
    Calls Try.prog 34 #[.int .i64 n, .int .i64 8] w fun e w' => ∃ v, e = .returned v ∧ w'.ownsRow w.heap.size 5 1 v 8 (bts (putL n 8)) ∧ Below w.heap.size w w' := by
  obtain ⟨i0, hi0, hz0, hz1, hz2⟩ := info_parts Try.infoU8c
  have hown0 : w.ownsRow w.heap.size 5 1 (.slice none 0 0) 0 [] := World.ownsRow_nil _ _ _ _
  have hb0 := Below.refl w.heap.size w
  go_enter Try.func34, Try.ntmps34
  go_wp2_with fail
  refine wp_loop_rounds 9 ?_
  rw [rounds_succ]
  go_wp2_with (at_builtin; (refine wpList_push w rfl (.tmp 14) (.tmp 20) _ rfl w.heap.size 5 i0 _ 1 1 Try.underlying27 hi0 hz0 hz1 hz2 rfl (by omega) (.slice none 0 0) 0 _ rfl hown0 1 _ _ rfl rfl (by simp [Value.oneCell']) (by unfold maxLen; omega) (by omega) hb0.size ?_); intro v1 w1 hown1 hq1 _)
  have hb1 := hb0.trans hq1
  clear hown0 hb0 hq1
  rw [rounds_succ]
  go_wp2_with (at_builtin; (refine wpList_push w1 rfl (.tmp 14) (.tmp 20) _ rfl w.heap.size 5 i0 _ 1 1 Try.underlying27 hi0 hz0 hz1 hz2 rfl (by omega) v1 1 _ rfl hown1 1 _ _ rfl rfl (by simp [Value.oneCell']) (by unfold maxLen; omega) (by omega) hb1.size ?_); intro v2 w2 hown2 hq2 _)
  have hb2 := hb1.trans hq2
  clear hown1 hb1 hq2
  rw [rounds_succ]
  go_wp2_with (at_builtin; (refine wpList_push w2 rfl (.tmp 14) (.tmp 20) _ rfl w.heap.size 5 i0 _ 1 1 Try.underlying27 hi0 hz0 hz1 hz2 rfl (by omega) v2 2 _ rfl hown2 1 _ _ rfl rfl (by simp [Value.oneCell']) (by unfold maxLen; omega) (by omega) hb2.size ?_); intro v3 w3 hown3 hq3 _)
  have hb3 := hb2.trans hq3
  clear hown2 hb2 hq3
  rw [rounds_succ]
  go_wp2_with (at_builtin; (refine wpList_push w3 rfl (.tmp 14) (.tmp 20) _ rfl w.heap.size 5 i0 _ 1 1 Try.underlying27 hi0 hz0 hz1 hz2 rfl (by omega) v3 3 _ rfl hown3 1 _ _ rfl rfl (by simp [Value.oneCell']) (by unfold maxLen; omega) (by omega) hb3.size ?_); intro v4 w4 hown4 hq4 _)
  have hb4 := hb3.trans hq4
  clear hown3 hb3 hq4
  rw [rounds_succ]
  go_wp2_with (at_builtin; (refine wpList_push w4 rfl (.tmp 14) (.tmp 20) _ rfl w.heap.size 5 i0 _ 1 1 Try.underlying27 hi0 hz0 hz1 hz2 rfl (by omega) v4 4 _ rfl hown4 1 _ _ rfl rfl (by simp [Value.oneCell']) (by unfold maxLen; omega) (by omega) hb4.size ?_); intro v5 w5 hown5 hq5 _)
  have hb5 := hb4.trans hq5
  clear hown4 hb4 hq5
  rw [rounds_succ]
  go_wp2_with (at_builtin; (refine wpList_push w5 rfl (.tmp 14) (.tmp 20) _ rfl w.heap.size 5 i0 _ 1 1 Try.underlying27 hi0 hz0 hz1 hz2 rfl (by omega) v5 5 _ rfl hown5 1 _ _ rfl rfl (by simp [Value.oneCell']) (by unfold maxLen; omega) (by omega) hb5.size ?_); intro v6 w6 hown6 hq6 _)
  have hb6 := hb5.trans hq6
  clear hown5 hb5 hq6
  rw [rounds_succ]
  go_wp2_with (at_builtin; (refine wpList_push w6 rfl (.tmp 14) (.tmp 20) _ rfl w.heap.size 5 i0 _ 1 1 Try.underlying27 hi0 hz0 hz1 hz2 rfl (by omega) v6 6 _ rfl hown6 1 _ _ rfl rfl (by simp [Value.oneCell']) (by unfold maxLen; omega) (by omega) hb6.size ?_); intro v7 w7 hown7 hq7 _)
  have hb7 := hb6.trans hq7
  clear hown6 hb6 hq7
  rw [rounds_succ]
  go_wp2_with (at_builtin; (refine wpList_push w7 rfl (.tmp 14) (.tmp 20) _ rfl w.heap.size 5 i0 _ 1 1 Try.underlying27 hi0 hz0 hz1 hz2 rfl (by omega) v7 7 _ rfl hown7 1 _ _ rfl rfl (by simp [Value.oneCell']) (by unfold maxLen; omega) (by omega) hb7.size ?_); intro v8 w8 hown8 hq8 _)
  have hb8 := hb7.trans hq8
  clear hown7 hb7 hq8
  rw [rounds_succ]
  go_wp2_with fail
  go_ret
  refine ⟨v8, rfl, ?_, hb8⟩
  have hl : bts (putL n 8) = [.int .u8 (n / 72057594037927936 % 256), .int .u8 (n / 281474976710656 % 256), .int .u8 (n / 1099511627776 % 256), .int .u8 (n / 4294967296 % 256), .int .u8 (n / 16777216 % 256), .int .u8 (n / 65536 % 256), .int .u8 (n / 256 % 256), .int .u8 (n % 256)] := by
    have h7 : n / 256 / 256 / 256 / 256 / 256 / 256 / 256 % 256 = n / 72057594037927936 % 256 := by omega
    have h6 : n / 256 / 256 / 256 / 256 / 256 / 256 % 256 = n / 281474976710656 % 256 := by omega
    have h5 : n / 256 / 256 / 256 / 256 / 256 % 256 = n / 1099511627776 % 256 := by omega
    have h4 : n / 256 / 256 / 256 / 256 % 256 = n / 4294967296 % 256 := by omega
    have h3 : n / 256 / 256 / 256 % 256 = n / 16777216 % 256 := by omega
    have h2 : n / 256 / 256 % 256 = n / 65536 % 256 := by omega
    rw [putL8r]; simp only [bts, List.map_cons, List.map_nil, toByte_int, h7, h6, h5, h4, h3, h2]
  rw [hl]
  first | exact hown8 | (rw [show (min (8 : Int) 8) = 8 from by decide] at hown8; simpa using hown8)


theorem numN_mono (b : List UInt8) (k j : Nat) (hkj : k ≤ j) (hj : j ≤ b.length) : numN (b.take k) ≤ numN (b.take j) := by
  induction j with
  | zero => obtain rfl : k = 0 := by omega
            exact Nat.le_refl _
  | succ j ih =>
    by_cases h : k = j + 1
    · subst h; exact Nat.le_refl _
    · have h1 := ih (by omega) (by omega)
      rw [numN_take b j (by omega)]
      omega

set_option maxRecDepth 100000 in
theorem pnum_any (n : Int) (w : World) : Calls Try.prog 30 #[.int .i64 n] w fun e w' => e = .returned (.string ⟨(n8 n).toArray⟩) ∧ Below w.heap.size w w' := by
  go_enter Try.func30, Try.ntmps30
  go_wp2_with fail
  refine (pput8_any n w).mono ?_
  rintro e w1 ⟨v, rfl, hown, hb⟩
  obtain ⟨A2, c2, rfl, _, _, hr2⟩ := own_form hown
  have hst := str_of (P := Try.prog) (c := c2) hr2 (putL_length n 8).symm Try.underlying27 Try.underlying5 Try.underlying9
  clear hown hr2
  go_wp2_with fail
  go_ret
  exact ⟨rfl, hb⟩
end Go.Proofs.Ytcbeadldieeceaa

/-
  The page's Write, by its contract. (mkrf1.py)
-/
namespace Go.Proofs.Ytcbeadldieeceaa
open Go.RowKit

section
variable {P : Program}
theorem step_append_string {ops : Array Oper} {o : Oper} {a : Act} {w : World} {K : Act → World → Prop} {Q : Exit → Act → World → Prop} {E : Prop} (hgd : o.guard = none) (sl x : Operand) (t u : TypeId)
    (ho : o.op = .call { callee := .builtin .append, args := #[sl, x], argTypes := #[t, u] })
    (base : Nat) (e : TypeId) (i : TypeInfo) (ht : P.underlying t = some (.slice e)) (hu : P.underlying u = some .string) (hi : P.info? e = some i) (hz : i.zero = some (.int .u8 0))
    (hsize : i.size = 1) (hby : i.bytes = 1)
    (v : Value) (n : Nat) (xs : List Value) (hs : a.eval sl = v) (hown : w.ownsRow base e 1 v n xs) (s : ByteArray) (hx : a.eval x = .string s)
    (h63 : n + s.size ≤ maxLen) (hbytes : n + s.size ≤ 140737488355328) (hbase : base ≤ w.heap.size)
    (h : ∀ v' w', w'.ownsRow base e 1 v' (n + s.size) (xs ++ Lib.strCells s) → w.grownBy w' v.ownBlock → K (a.put o.dst v') w') :
    if Region.wanted o (yielded ops a.tmps) = true then Oper.wp P o a w K Q else E := by
  have hw : Region.wanted o (yielded ops a.tmps) = true := by simp [Region.wanted, hgd]
  rw [if_pos hw]
  obtain ⟨v', w', hr, h2, h3, h4⟩ := Lib.run_append_own_string (P := P) w base t u o.type e i ht hu hi hz hsize hby v n xs hown s h63 hbytes hbase
  unfold Oper.wp execOp
  simp only [ho, resolve, invoke, builtin, Sem.run_bind, Sem.run_pure, Result.andThen_ok, List.map_toArray, List.map_cons, List.map_nil, hs, hx, hr]
  exact h v' w' h2 h3
end
theorem below_d (W : World) : Below W.heap.size W W.drew := (Below.refl _ W).drew
set_option maxRecDepth 100000 in
set_option maxHeartbeats 2000000 in
theorem pwrite_any (l : List BS) (hl : ∀ s ∈ l, s.length ≤ 1000) (n : Nat) (hnl : n = l.length) (A : Option Addr) (c : Nat) (w : World) (B : Nat) (hr : Reads w B 1 A n (scells l)) (hB : B ≤ w.heap.size) (hn : n ≤ 100) :
    Calls Try.prog 33 #[.slice A n c] w fun e w' => ∃ v, e = .returned (.tuple #[v, .int .i64 0]) ∧ w'.ownsRow w.heap.size 5 1 v (fwrite l).length (bts (fwrite l)) ∧ Below w.heap.size w w' := by
  obtain ⟨i0, hi0, hz0, hz1, hz2⟩ := info_parts Try.infoU8c
  have HN := Lib.hid hnl
  have HL := Lib.hid hl
  have HW : Hid (fwrite l = putL (n : Int) 2 ++ l.flatMap fone) := by show _ = _; rw [hnl]; rfl
  have hn1 : ¬ (1024 : Int) < (n : Int) := by omega
  clear hnl hl
  go_enter Try.func33, Try.ntmps33
  go_wp2_with fail
  go_loopw [4] (fun i wr => ∃ k : Nat, k ≤ n ∧ i = .int .i64 (k : Int) ∧ wr = w) (fun i _ => n - (intOf i).toNat)
  case atStart => exact ⟨0, Nat.zero_le _, rfl, rfl⟩
  case round =>
    obtain ⟨k, hk, rfl, hw⟩ := hrel
    rw [hw]
    clear hw wr
    by_cases hlt : k < n
    · have hki : (k : Int) < (n : Int) := by omega
      have hkl : k < l.length := by have := HN.out; omega
      obtain ⟨ad, rfl, hadB, hcell⟩ := strs_at hr HN.out hlt
      obtain ⟨x, hx⟩ : ∃ x, x = l[k]'hkl := ⟨_, rfl⟩
      rw [← hx] at hcell
      have hxl := HL.out x (by rw [hx]; exact List.getElem_mem _)
      simp only [strV] at hcell
      have hx6 : ¬ (65536 : Int) < (x.length : Int) := by omega
      have hx8 : ¬ 65536 < x.length := by omega
      clear hx hr
      go_wp2_with fail
      go_roundw
      case rel => exact ⟨k + 1, by omega, by go_num, by trivial⟩
      case measure => simp [intOf]; omega
    · have hkn : ¬ (k : Int) < (n : Int) := by omega
      clear hk hlt
      go_wp2_with fail
      refine (pput2_any (n : Int) w).mono ?_
      rintro e w1 ⟨v1, rfl, hown1, hb1⟩
      have HO1 := Lib.hid hown1
      clear hown1 hkn
      go_wp2_with fail
      go_loopw [5, 6] (fun v i wr => ∃ k q : Nat, k ≤ n ∧ i = .int .i64 (k : Int) ∧ Hid (q = (putL (n : Int) 2 ++ (l.take k).flatMap fone).length) ∧ q ≤ 2 + 1003 * k ∧ wr.ownsRow w.heap.size 5 1 v q (bts (putL (n : Int) 2 ++ (l.take k).flatMap fone)) ∧ Below w.heap.size w wr) (fun _ i _ => n - (intOf i).toNat)
      case atStart => exact ⟨0, 2, Nat.zero_le _, rfl, (show 2 = _ by simp [putL_length]), by omega, by simpa using HO1.out, hb1⟩
      case round =>
        obtain ⟨k, q, hk, rfl, hq, hqb, hown, hbw⟩ := hrel
        obtain ⟨A1, c1, rfl, _, _, _⟩ := own_form hown
        clear hb1 HO1
        by_cases hlt : k < n
        · have hki : (k : Int) < (n : Int) := by omega
          have hkl : k < l.length := by have := HN.out; omega
          obtain ⟨ad, rfl, hadB, hcell⟩ := strs_at (hr.below (hbw.mono hB)) HN.out hlt
          obtain ⟨x, hx⟩ : ∃ x, x = l[k]'hkl := ⟨_, rfl⟩
          rw [← hx] at hcell
          have hxl := HL.out x (by rw [hx]; exact List.getElem_mem _)
          have htk := List.take_succ_eq_append_getElem hkl
          rw [← hx] at htk
          simp only [strV] at hcell
          have HT : Hid (bts (putL (n : Int) 2 ++ (l.take (k + 1)).flatMap fone) = bts (putL (n : Int) 2 ++ (l.take k).flatMap fone) ++ bts (putL (x.length : Int) 3) ++ bts x) := by
            show _ = _
            rw [htk, List.flatMap_append]
            simp [fone, bts_append]
          have HQ : Hid (q + 3 + x.length = (putL (n : Int) 2 ++ (l.take (k + 1)).flatMap fone).length) := by
            show _ = _
            rw [htk, List.flatMap_append, ← List.append_assoc, List.length_append, ← hq.out]
            simp [fone_len]
            omega
          have HXL := Lib.hid hxl
          have HOWN := Lib.hid hown
          have HBW := Lib.hid hbw
          generalize bts (putL (n : Int) 2 ++ (l.take k).flatMap fone) = ob at HT HOWN
          have hadw : (ad.add k).block < w.heap.size := by rw [block_of_add]; omega
          have HE0 := Lib.hid ((hbw.cell (p := ad.add k) hadw).symm.trans hcell)
          have hxs : (⟨x.toArray⟩ : ByteArray).size = x.length := by show x.toArray.size = _; simp
          have HXS := Lib.hid hxs
          have hq3 := Lib.hid (show q + 3 + (⟨x.toArray⟩ : ByteArray).size ≤ maxLen by unfold maxLen; omega)
          have hq4 := Lib.hid (show q + 3 + (⟨x.toArray⟩ : ByteArray).size ≤ 140737488355328 by omega)
          have h01 : 0 < 1 := by omega
          have hq1 : q + 3 ≤ maxLen := by unfold maxLen; omega
          have hq2 : (q + 3) * 1 ≤ 140737488355328 := by omega
          clear hx htk hr hown hbw hxl hq hxs
          go_wp2_with fail
          go_region_law (first
            | (refine step_append_string rfl (.tmp 38) (.tmp 42) 27 9 rfl w.heap.size 5 i0 Try.underlying27 Try.underlying9 hi0 hz0 hz1 hz2 v6 (q + 3) _ ?hs HO6.out ⟨x.toArray⟩ ?hx ?h63 ?hby hz6 ?_; (case hs => first | rfl | simp [Act.eval] | simp [Act.eval, Act.put]); (case hx => first | rfl | simp [Act.eval] | simp [Act.eval, Act.put]); (case h63 => exact hq3.out); (case hby => exact hq4.out); intro v7 w7 hown7 hg7; have HO7 := Lib.hid hown7; have HB7 := Lib.hid (HB6.out.grown hg7 hz6 (fun r hr => (HO6.out.lt r hr).1)); obtain ⟨A7, c7, rfl, _, _, _⟩ := own_form hown7; clear hown7 hg7)
            | (go_simp; refine (pput3_any (x.length : Int) _).mono ?_; rintro e w5 ⟨v5, rfl, hown5, hb5⟩; obtain ⟨A5, c5, rfl, _, _, hr5⟩ := own_form hown5; have HR5 := Lib.hid hr5; have HO5 := Lib.hid (own_below HOWN.out ((below_d wr).trans hb5)); have HB5 := Lib.hid ((below_step HBW.out ((below_d wr).trans hb5))); have e1b := ((HB5.out.cell (p := ad.add k) hadw).trans HE0.out); have hz5 := HB5.out.size; clear hown5 hr5 hb5)
            | (refine step_append_any _ rfl (.tmp 31) (.tmp 37) 27 rfl w.heap.size 5 i0 _ 1 1 Try.underlying27 hi0 hz0 hz1 hz2 rfl h01 (.slice A1 q c1) q ob ?hs HO5.out _ A5 3 c5 _ ?hx HR5.out (bts_one _) hq1 hq2 hz5 ?_; (case hs => first | rfl | simp [Act.eval] | simp [Act.eval, Act.put]); (case hx => first | rfl | simp [Act.eval] | simp [Act.eval, Act.put]); intro v6 w6 hown6 hg6 _; have HO6 := Lib.hid hown6; have HB6 := Lib.hid (HB5.out.grown hg6 hz5 (fun r hr => (HO5.out.lt r hr).1)); have e1c := (HB6.out.cell (p := ad.add k) hadw).trans HE0.out; have hz6 := HB6.out.size; clear hown6 hg6))
          all_goals
            go_wp2_with fail
            go_roundw
            case rel =>
              refine ⟨k + 1, q + 3 + x.length, by omega, by go_num, HQ.out, by have := HXL.out; omega, ?_, HB7.out⟩
              rw [HT.out, ← strCells_bts x, ← HXS.out]
              exact HO7.out
            case measure => simp [intOf]; omega
        · have HO : Hid (wr.ownsRow w.heap.size 5 1 (.slice A1 q c1) (fwrite l).length (bts (fwrite l))) := by
            show World.ownsRow _ _ _ _ _ _ _
            have hq2 := hq.out
            rw [List.take_of_length_le (by have := HN.out; omega), ← HW.out] at hown hq2
            rw [← hq2]
            exact hown
          clear hr hown hq
          go_wp2_with fail
          go_ret2
          exact ⟨_, rfl, HO.out, hbw⟩
end Go.Proofs.Ytcbeadldieeceaa

/-
  The page's Begin and Check of records, by their contracts. (mkrf5.py)
-/
namespace Go.Proofs.Ytcbeadldieeceaa
open Go.RowKit

theorem amount14_any (x l : Int) (w : World) : Calls Try.prog 70 #[.int .i64 x, .int .i64 l] w fun e w' => e = .returned (.bool (amt x l)) ∧ w' = w := by
  by_cases h1 : l ≤ x
  · by_cases h2 : x ≤ 1099511627776
    · have hE : Hid (amt x l = true) := by show _ = _; unfold amt; simp [h1, h2]
      go_enter Try.func70, Try.ntmps70
      go_wp2_with fail
      go_ret
      exact ⟨by rw [hE.out]; rfl, rfl⟩
    · have hE : Hid (amt x l = false) := by show _ = _; unfold amt; simp [h2]
      go_enter Try.func70, Try.ntmps70
      go_wp2_with fail
      go_ret
      exact ⟨by rw [hE.out]; rfl, rfl⟩
  · have hE : Hid (amt x l = false) := by show _ = _; unfold amt; simp [h1]
    go_enter Try.func70, Try.ntmps70
    go_wp2_with fail
    go_ret
    exact ⟨by rw [hE.out]; rfl, rfl⟩
set_option maxRecDepth 100000 in
set_option maxHeartbeats 4000000 in
theorem pbegin_any (rn : BS) (rf rg : Int) (ro : PL) (ri rc : Int) (rd : BS) (ra rb rx ry : Int) (n : Nat) (hn : n = ro.length) (A1 : Option Addr) (c1 : Nat) (w : World) (B1 : Nat) (hB1 : B1 ≤ w.heap.size) (hr1 : Reads w B1 2 A1 n (pcells ro)) (hn5 : n ≤ 5000000000000) (hv : strOk ro) (hnl : rn.length ≤ 140737488351232) :
    Calls Try.prog 51 #[.agg #[.int .i64 1, .string ⟨rn.toArray⟩, .int .i64 rf, .int .i64 rg, .slice A1 n c1, .int .i64 ri, .int .i64 rc, .string ⟨rd.toArray⟩, .int .u64 ra, .int .u64 rb, .int .u64 rx, .int .u64 ry]] w fun e w' => e = .returned (.bool (mayB ⟨1, rn, rf, rg, ro, ri, rc, rd, ⟨ra, rb, rx, ry⟩⟩)) ∧ Below w.heap.size w w' := by
  obtain ⟨M, hM⟩ : ∃ M, M = mayB ⟨1, rn, rf, rg, ro, ri, rc, rd, ⟨ra, rb, rx, ry⟩⟩ := ⟨_, rfl⟩
  rw [← hM]
  obtain ⟨bn, hbn⟩ : ∃ b, b = nameB rn := ⟨_, rfl⟩
  obtain ⟨b1, hb1⟩ : ∃ b, b = amt rf 0 := ⟨_, rfl⟩
  obtain ⟨b2, hb2⟩ : ∃ b, b = amt rg 1 := ⟨_, rfl⟩
  obtain ⟨E, hE⟩ : ∃ E, E = propsE ro := ⟨_, rfl⟩
  have HR : Hid (M = (bn && b1 && b2 && (E == 0) && decide (ri = 0) && decide (rc = 0) && decide (rd = []) && smZ ⟨ra, rb, rx, ry⟩)) := by
    show _ = _
    rw [hM, hbn, hb1, hb2, hE]
    unfold mayB propsE
    simp only [if_true]
    cases propsB ro <;> simp
  obtain ⟨W0, hW0⟩ : ∃ W0, W0 = w.alloc (.cells #[.int .i64 1, .string ⟨rn.toArray⟩, .int .i64 rf, .int .i64 rg, .slice A1 n c1, .int .i64 ri, .int .i64 rc, .string ⟨rd.toArray⟩, .int .u64 ra, .int .u64 rb, .int .u64 rx, .int .u64 ry] 47) := ⟨_, rfl⟩
  have hb0 : Below w.heap.size w W0 := by rw [hW0]; exact (Below.refl _ w).alloc (Nat.le_refl _) _
  have kb : Blk W0 w.heap.size 47 #[.int .i64 1, .string ⟨rn.toArray⟩, .int .i64 rf, .int .i64 rg, .slice A1 n c1, .int .i64 ri, .int .i64 rc, .string ⟨rd.toArray⟩, .int .u64 ra, .int .u64 rb, .int .u64 rx, .int .u64 ry] := by rw [hW0]; exact Blk.new _ _ _
  obtain ⟨a0, a1, a2, a3, a4, a5, a6, a7, a8, a9, a10, a11⟩ := blk12 kb
  have HW0 := Lib.hid hW0
  have hN := fun W => refName_any rn W hnl
  rw [← hbn] at hN
  have h1 := fun W => amount14_any rf 0 W
  rw [← hb1] at h1
  have h2 := fun W => amount14_any rg 1 W
  rw [← hb2] at h2
  have hP := fun W (hb : Below w.heap.size w W) => refProps_any ro n hn A1 c1 W B1 (hr1.below (hb.mono hB1)) hn5 hv
  rw [← hE] at hP
  have HN := Lib.hid hN
  have H1 := Lib.hid h1
  have H2 := Lib.hid h2
  have HP := Lib.hid (hP _ hb0)
  have HB := Lib.hid hb0
  clear hM hbn hb1 hb2 hE hn hr1 hv hN h1 h2 hP hb0 kb hW0
  go_enter Try.func51, Try.ntmps51
  go_wp2_with fail
  rw [← HW0.out]
  refine (HN.out _).mono ?_
  clear HN
  rintro e w1 ⟨rfl, hw⟩
  rw [hw]
  clear hw w1
  cases bn with
  | false =>
    have HF : Hid (M = false) := by show _ = _; rw [HR.out]; simp
    go_wp2_with fail
    go_ret
    exact ⟨by rw [HF.out]; rfl, HB.out⟩
  | true =>
    go_wp2_with fail
    refine (H1.out _).mono ?_
    clear H1
    rintro e w1 ⟨rfl, hw⟩
    rw [hw]
    clear hw w1
    cases b1 with
    | false =>
      have HF : Hid (M = false) := by show _ = _; rw [HR.out]; simp
      go_wp2_with fail
      go_ret
      exact ⟨by rw [HF.out]; rfl, HB.out⟩
    | true =>
      go_wp2_with fail
      refine (H2.out _).mono ?_
      clear H2
      rintro e w1 ⟨rfl, hw⟩
      rw [hw]
      clear hw w1
      cases b2 with
      | false =>
        have HF : Hid (M = false) := by show _ = _; rw [HR.out]; simp
        go_wp2_with fail
        go_ret
        exact ⟨by rw [HF.out]; rfl, HB.out⟩
      | true =>
        go_wp2_with fail
        refine HP.out.mono ?_
        clear HP
        rintro e w1 ⟨rfl, q, rfl⟩
        have HBQ := Lib.hid (below_drewN HB.out q)
        by_cases h0 : E = 0
        · subst h0
          have HF : Hid (M = (decide (ri = 0) && decide (rc = 0) && decide (rd = []) && smZ ⟨ra, rb, rx, ry⟩)) := by show _ = _; rw [HR.out]; simp
          clear HR
          go_wp2_with fail
          all_goals
            go_ret
            refine ⟨?_, HBQ.out⟩
            rw [HF.out]
            unfold smZ
            simp_all
        · have hd : (E == 0) = false := by simp [h0]
          have HF : Hid (M = false) := by show _ = _; rw [HR.out, hd]; simp
          go_wp2_with fail
          go_ret
          exact ⟨by rw [HF.out]; rfl, HBQ.out⟩
set_option maxRecDepth 100000 in
set_option maxHeartbeats 4000000 in
theorem pcheck_any (rk : Int) (rn : BS) (rf rg : Int) (ro : PL) (ri rc : Int) (rd : BS) (ra rb rx ry : Int) (n : Nat) (hn : n = ro.length) (A1 : Option Addr) (c1 : Nat) (w : World) (B1 : Nat) (hB1 : B1 ≤ w.heap.size) (hr1 : Reads w B1 2 A1 n (pcells ro)) (hn5 : n ≤ 5000000000000) (hv : strOk ro) (hnl : rn.length ≤ 140737488351232) :
    Calls Try.prog 29 #[.agg #[.int .i64 rk, .string ⟨rn.toArray⟩, .int .i64 rf, .int .i64 rg, .slice A1 n c1, .int .i64 ri, .int .i64 rc, .string ⟨rd.toArray⟩, .int .u64 ra, .int .u64 rb, .int .u64 rx, .int .u64 ry]] w fun e w' => e = .returned (.int .i64 (recE ⟨rk, rn, rf, rg, ro, ri, rc, rd, ⟨ra, rb, rx, ry⟩⟩)) ∧ Below w.heap.size w w' := by
  obtain ⟨E, hE⟩ : ∃ E, E = recE ⟨rk, rn, rf, rg, ro, ri, rc, rd, ⟨ra, rb, rx, ry⟩⟩ := ⟨_, rfl⟩
  rw [← hE]
  have HE := Lib.hid hE
  obtain ⟨W0, hW0⟩ : ∃ W0, W0 = w.alloc (.cells #[.int .i64 rk, .string ⟨rn.toArray⟩, .int .i64 rf, .int .i64 rg, .slice A1 n c1, .int .i64 ri, .int .i64 rc, .string ⟨rd.toArray⟩, .int .u64 ra, .int .u64 rb, .int .u64 rx, .int .u64 ry] 47) := ⟨_, rfl⟩
  have hb0 : Below w.heap.size w W0 := by rw [hW0]; exact (Below.refl _ w).alloc (Nat.le_refl _) _
  have kb : Blk W0 w.heap.size 47 #[.int .i64 rk, .string ⟨rn.toArray⟩, .int .i64 rf, .int .i64 rg, .slice A1 n c1, .int .i64 ri, .int .i64 rc, .string ⟨rd.toArray⟩, .int .u64 ra, .int .u64 rb, .int .u64 rx, .int .u64 ry] := by rw [hW0]; exact Blk.new _ _ _
  have hbg := fun W (hb : Below w.heap.size w W) => pbegin_any rn rf rg ro ri rc rd ra rb rx ry n hn A1 c1 W B1 (Nat.le_trans hB1 hb.size) (hr1.below (hb.mono hB1)) hn5 hv hnl
  have HBG := Lib.hid hbg
  have HB := Lib.hid hb0
  have HON : Hid (decide (ro = []) = decide (n = 0)) := by
    show _ = _
    rw [hn]
    cases ro <;> simp
  obtain ⟨a0, a1, a2, a3, a4, a5, a6, a7, a8, a9, a10, a11⟩ := blk12 kb
  have HW0 := Lib.hid hW0
  clear hE hb0 hbg hn hr1 hv hW0 kb
  by_cases hk : rk < 1 ∨ 4 < rk
  · have HF : Hid (E = 23) := by show _ = _; rw [HE.out]; unfold recE; rw [if_pos hk]
    clear HE
    rcases hk with hk | hk
    all_goals
      go_enter Try.func29, Try.ntmps29
      go_wp2_with fail
      go_ret
      rw [← HW0.out]
      exact ⟨by rw [HF.out]; rfl, HB.out⟩
  · have HF : Hid (E = if mayB ⟨rk, rn, rf, rg, ro, ri, rc, rd, ⟨ra, rb, rx, ry⟩⟩ = true then 0 else 9) := by show _ = _; rw [HE.out]; unfold recE; rw [if_neg hk]
    have hk4 : rk = 1 ∨ rk = 2 ∨ rk = 3 ∨ rk = 4 := by omega
    have hk1 : ¬ rk < 1 := by omega
    have hk5 : ¬ 4 < rk := by omega
    obtain ⟨Zb, hZ⟩ : ∃ b, b = (decide (rn = []) && decide (rf = 0) && decide (rg = 0) && decide (n = 0)) := ⟨_, rfl⟩
    obtain ⟨Ib, hI⟩ : ∃ b, b = (decide (0 ≤ ri) && decide (ri < 1024)) := ⟨_, rfl⟩
    obtain ⟨Sb, hSb⟩ : ∃ b, b = smZ ⟨ra, rb, rx, ry⟩ := ⟨_, rfl⟩
    have HZ := Lib.hid hZ
    have HI := Lib.hid hI
    have HS := Lib.hid hSb
    clear HE hk hZ hI hSb
    go_enter Try.func29, Try.ntmps29
    go_upto_region 3 with (fail)
    rw [← HW0.out]
    go_cut [1, 2, 3] from 0 to 33 (fun s1 s2 s wx => s1 = .pointer (some ⟨w.heap.size, 0, none⟩) ∧ s2 = .int .i64 0 ∧ s = .bool Zb ∧ wx = W0)
    case first =>
      go_wp2_with fail
      all_goals
        go_meet
        refine ⟨rfl, rfl, ?_, by trivial⟩
        rw [HZ.out]
        have hn0 : ((n : Int) == 0) = decide (n = 0) := by rw [Bool.eq_iff_iff]; simp
        simp_all
    case rest =>
    obtain ⟨rfl, rfl, rfl, hwx⟩ := hcut
    rw [hwx]
    clear hwx
    go_upto_region 4 with (fail)
    go_cut [1, 2, 3, 4] from 0 to 41 (fun s1 s2 s3 s wx => s1 = .pointer (some ⟨w.heap.size, 0, none⟩) ∧ s2 = .int .i64 0 ∧ s3 = .bool Zb ∧ s = .bool Ib ∧ wx = W0)
    case first =>
      go_wp2_with fail
      all_goals
        go_meet
        refine ⟨rfl, rfl, rfl, ?_, by trivial⟩
        rw [HI.out]
        (try simp_all) <;> (intros; omega)
    case rest =>
    obtain ⟨rfl, rfl, rfl, rfl, hwx⟩ := hcut
    rw [hwx]
    clear hwx
    go_upto_region 5 with (fail)
    go_cut [1, 2, 3, 4, 5] from 0 to 45 (fun s1 s2 s3 s4 s wx => s1 = .pointer (some ⟨w.heap.size, 0, none⟩) ∧ s2 = .int .i64 0 ∧ s3 = .bool Zb ∧ s4 = .bool Ib ∧ s = .bool Sb ∧ wx = W0)
    case first =>
      go_wp2_with fail
      all_goals
        go_meet
        refine ⟨rfl, rfl, rfl, rfl, ?_, by trivial⟩
        rw [HS.out]
        unfold smZ
        simp_all
    case rest =>
    obtain ⟨rfl, rfl, rfl, rfl, rfl, hwx⟩ := hcut
    rw [hwx]
    clear hwx
    rcases hk4 with rfl | rfl | rfl | rfl
    · have HBG := Lib.hid (HBG.out _ HB.out)
      obtain ⟨m, hm⟩ : ∃ m, m = mayB ⟨1, rn, rf, rg, ro, ri, rc, rd, ⟨ra, rb, rx, ry⟩⟩ := ⟨_, rfl⟩
      rw [← hm] at HF HBG
      clear hm
      go_wp2_with fail
      refine HBG.out.mono ?_
      clear HBG
      rintro e w1 ⟨rfl, hb1⟩
      cases m with
      | true =>
        go_wp2_with fail
        go_ret
        exact ⟨by rw [HF.out]; rfl, HB.out.trans (hb1.mono HB.out.size)⟩
      | false =>
        go_wp2_with fail
        go_ret
        exact ⟨by rw [HF.out]; rfl, HB.out.trans (hb1.mono HB.out.size)⟩
    · have HF2 : Hid (E = if (Zb && Ib && decide (rc = 0) && decide (rd.length = 16) && Sb) = true then 0 else 9) := by
        show _ = _
        rw [HF.out, HZ.out, HI.out, HS.out]
        congr 1
        unfold mayB
        rw [if_neg (show ¬ (2 : Int) = 1 by decide), if_pos rfl, HON.out]
        simp only [Bool.and_eq_true, decide_eq_true_eq, eq_iff_iff]
        constructor <;> (intro h; simp_all)
      clear HF HZ HI HS HON HBG
      cases Zb <;> cases Ib <;> cases Sb
      all_goals
        go_wp2_with fail
      all_goals
        go_ret
        refine ⟨?_, HB.out⟩
        rw [HF2.out]
        (try simp_all) <;> (intros; omega)
    · have HF2 : Hid (E = if (Zb && Ib && decide (1 ≤ rc) && decide (rc ≤ 1024 - ri) && decide (rd = []) && Sb) = true then 0 else 9) := by
        show _ = _
        rw [HF.out, HZ.out, HI.out, HS.out]
        congr 1
        unfold mayB
        rw [if_neg (show ¬ (3 : Int) = 1 by decide), if_neg (show ¬ (3 : Int) = 2 by decide), if_pos rfl, HON.out]
        simp only [Bool.and_eq_true, decide_eq_true_eq, eq_iff_iff]
        constructor <;> (intro h; simp_all)
      have hib : Ib = true → 0 ≤ ri ∧ ri < 1024 := by
        rw [HI.out]
        simp
      have HIB := Lib.hid hib
      clear HF HZ HI HS HON HBG hib
      cases Ib with
      | false =>
        cases Zb <;> cases Sb
        all_goals
          go_wp2_with fail
        all_goals
          go_ret
          refine ⟨?_, HB.out⟩
          rw [HF2.out]
          (try simp_all) <;> (intros; omega)
      | true =>
        obtain ⟨hi0, hi1⟩ := HIB.out rfl
        cases Zb <;> cases Sb
        all_goals
          go_wp2_with fail
        all_goals
          go_ret
          refine ⟨?_, HB.out⟩
          rw [HF2.out]
          (try simp_all) <;> (intros; omega)
    · have HF2 : Hid (E = if (Zb && decide (ri = 0) && decide (rc = 0) && decide (rd = [])) = true then 0 else 9) := by
        show _ = _
        rw [HF.out, HZ.out]
        congr 1
        unfold mayB
        rw [if_neg (show ¬ (4 : Int) = 1 by decide), if_neg (show ¬ (4 : Int) = 2 by decide), if_neg (show ¬ (4 : Int) = 3 by decide), HON.out]
      clear HF HZ HI HS HON HBG
      cases Zb
      all_goals
        go_wp2_with fail
      all_goals
        go_ret
        refine ⟨?_, HB.out⟩
        rw [HF2.out]
        (try simp_all) <;> (intros; omega)
end Go.Proofs.Ytcbeadldieeceaa

/-
  A region that draws its order, with calls that make rows of bytes and appends that may write in them.
-/
namespace Go.Proofs.Ytcbeadldieeceaa
open Go.RowKit

def Live (user : Nat → Option Nat) (m : Nat → Option Value) (j : Nat) : Prop := ∀ u, user j = some u → m u = none
structure RowsJ (w : World) (val : Nat → Option Value) (row : Nat → Option (Nat × List UInt8)) (user : Nat → Option Nat) (m : Nat → Option Value) (W : World) : Prop where
  bel : Below w.heap.size w W
  det : Det val m
  own : ∀ i v r, m i = some v → row i = some r → Live user m i → W.ownsRow w.heap.size 5 1 v r.1 (bts r.2)
  sep : ∀ i j vi vj ri rj, i ≠ j → m i = some vi → m j = some vj → row i = some ri → row j = some rj → Live user m i → Live user m j → ∀ k, vi.ownBlock = some k → vj.ownBlock ≠ some k
section
variable {w W W' : World} {val : Nat → Option Value} {row : Nat → Option (Nat × List UInt8)} {user : Nat → Option Nat} {m : Nat → Option Value}
theorem Live.of_upd {i j : Nat} {v : Value} (h : Live user (upd m i v) j) : Live user m j ∧ user j ≠ some i := by
  refine ⟨fun u hu => ?_, fun hu => ?_⟩
  · have := h u hu
    by_cases he : u = i
    · subst he; rw [upd_self] at this; cases this
    · rwa [upd_ne m v he] at this
  · have := h i hu
    rw [upd_self] at this
    cases this
theorem RowsJ.start : RowsJ w val row user (fun _ => none) w.drew := ⟨(Below.refl _ _).drew, Det.start _, fun _ _ _ h => (by cases h), fun _ _ _ _ _ _ _ h => (by cases h)⟩
theorem RowsJ.pure (h : RowsJ w val row user m W) (hb : Below W.heap.size W W') {i : Nat} {v : Value} (hi : row i = none) (hv : ∀ x, val i = some x → v = x) : RowsJ w val row user (upd m i v) W' := by
  refine ⟨below_step h.bel hb, h.det.up hv, ?_, ?_⟩
  · intro j u r hm hr hl
    have hj : j ≠ i := by rintro rfl; rw [hi] at hr; cases hr
    rw [upd_ne m v hj] at hm
    exact own_below (h.own j u r hm hr hl.of_upd.1) hb
  · intro j k vj vk rj rk hne hmj hmk hrj hrk hlj hlk
    have h1 : j ≠ i := by rintro rfl; rw [hi] at hrj; cases hrj
    have h2 : k ≠ i := by rintro rfl; rw [hi] at hrk; cases hrk
    rw [upd_ne m v h1] at hmj
    rw [upd_ne m v h2] at hmk
    exact h.sep j k vj vk rj rk hne hmj hmk hrj hrk hlj.of_upd.1 hlk.of_upd.1
theorem RowsJ.new (h : RowsJ w val row user m W) (hb : Below W.heap.size W W') {i : Nat} {v : Value} {r : Nat × List UInt8} (hi : row i = some r) (hv : val i = none) (ho : W'.ownsRow W.heap.size 5 1 v r.1 (bts r.2)) : RowsJ w val row user (upd m i v) W' := by
  have hfar : ∀ j vj rj, m j = some vj → row j = some rj → Live user m j → ∀ k, vj.ownBlock = some k → k < W.heap.size := fun j vj rj h1 h2 h3 k hk => ((h.own j vj rj h1 h2 h3).lt k hk).2
  refine ⟨below_step h.bel hb, h.det.up (fun x hx => by rw [hv] at hx; cases hx), ?_, ?_⟩
  · intro j u rj hm hr hl
    by_cases hj : j = i
    · subst hj
      rw [upd_self] at hm
      cases hm
      rw [hi] at hr
      cases hr
      exact own_mono ho h.bel.size
    · rw [upd_ne m v hj] at hm
      exact own_below (h.own j u rj hm hr hl.of_upd.1) hb
  · intro j k vj vk rj rk hne hmj hmk hrj hrk hlj hlk x hx hx2
    by_cases hj : j = i
    · subst hj
      rw [upd_self] at hmj
      cases hmj
      rw [upd_ne m _ (fun e => hne e.symm)] at hmk
      have h1 := (ho.lt x hx).1
      have h2 := hfar k vk rk hmk hrk hlk.of_upd.1 x hx2
      omega
    · rw [upd_ne m v hj] at hmj
      by_cases hk : k = i
      · subst hk
        rw [upd_self] at hmk
        cases hmk
        have h1 := (ho.lt x hx2).1
        have h2 := hfar j vj rj hmj hrj hlj.of_upd.1 x hx
        omega
      · rw [upd_ne m v hk] at hmk
        exact h.sep j k vj vk rj rk hne hmj hmk hrj hrk hlj.of_upd.1 hlk.of_upd.1 x hx hx2
theorem Live.of {p i : Nat} (hu : user p = some i) (hmi : m i = none) : Live user m p := by
  intro u hp
  rw [hu] at hp
  cases hp
  exact hmi
theorem RowsJ.take (h : RowsJ w val row user m W) {p i : Nat} {vp v : Value} {rp r : Nat × List UInt8} (hu : user p = some i) (hrp : row p = some rp) (hri : row i = some r) (hmp : m p = some vp) (hmi : m i = none) (hv : val i = none)
    (hg : W.grownBy W' vp.ownBlock) (ho : W'.ownsRow w.heap.size 5 1 v r.1 (bts r.2)) (hat : v.ownBlock = vp.ownBlock ∨ v.ownBlock = some W.heap.size) : RowsJ w val row user (upd m i v) W' := by
  have hlp := Live.of hu hmi
  have hop := h.own p vp rp hmp hrp hlp
  have hfar : ∀ j vj rj, m j = some vj → row j = some rj → Live user m j → ∀ k, vj.ownBlock = some k → k < W.heap.size := fun j vj rj h1 h2 h3 k hk => ((h.own j vj rj h1 h2 h3).lt k hk).2
  have hap : ∀ j vj rj, j ≠ i → m j = some vj → row j = some rj → Live user (upd m i v) j → ∀ x, vj.ownBlock = some x → v.ownBlock ≠ some x := by
    intro j vj rj hj hm hr hl x hx hx2
    have hjp : j ≠ p := by rintro rfl; exact hl.of_upd.2 hu
    rcases hat with e | e
    · rw [e] at hx2
      exact h.sep j p vj vp rj rp hjp hm hmp hr hrp hl.of_upd.1 hlp x hx hx2
    · rw [e] at hx2
      cases hx2
      have := hfar j vj rj hm hr hl.of_upd.1 _ hx
      omega
  refine ⟨h.bel.grown hg h.bel.size (fun k hk => (hop.lt k hk).1), h.det.up (fun x hx => by rw [hv] at hx; cases hx), ?_, ?_⟩
  · intro j u rj hm hr hl
    by_cases hj : j = i
    · subst hj
      rw [upd_self] at hm
      cases hm
      rw [hri] at hr
      cases hr
      exact ho
    · rw [upd_ne m v hj] at hm
      have hjp : j ≠ p := by rintro rfl; exact hl.of_upd.2 hu
      refine (h.own j u rj hm hr hl.of_upd.1).kept hg ?_
      cases hub : u.ownBlock with
      | none => exact .inl rfl
      | some x =>
        refine .inr fun e => ?_
        exact h.sep j p u vp rj rp hjp hm hmp hr hrp hl.of_upd.1 hlp x hub e.symm
  · intro j k vj vk rj rk hne hmj hmk hrj hrk hlj hlk x hx hx2
    by_cases hj : j = i
    · subst hj
      rw [upd_self] at hmj
      cases hmj
      rw [upd_ne m _ (fun e => hne e.symm)] at hmk
      exact hap k vk rk (fun e => hne e.symm) hmk hrk hlk x hx2 hx
    · rw [upd_ne m v hj] at hmj
      by_cases hk : k = i
      · subst hk
        rw [upd_self] at hmk
        cases hmk
        exact hap j vj rj hj hmj hrj hlj x hx hx2
      · rw [upd_ne m v hk] at hmk
        exact h.sep j k vj vk rj rk hne hmj hmk hrj hrk hlj.of_upd.1 hlk.of_upd.1 x hx hx2
end
end Go.Proofs.Ytcbeadldieeceaa

/-
  The page's eight octets of a number, by their contract.
-/
namespace Go.Proofs.Ytcbeadldieeceaa
open Go.RowKit

set_option maxRecDepth 100000 in
set_option maxHeartbeats 1000000 in
theorem eight_any (n : Int) (hn : 0 ≤ n ∧ n < 18446744073709551616) (w : World) :
    Calls Try.prog 52 #[.int .u64 n] w fun e w' => ∃ v, e = .returned v ∧ w'.ownsRow w.heap.size 5 1 v 8 (bts (putL n 8)) ∧ Below w.heap.size w w' := by
  obtain ⟨i0, hi0, hz0, hz1, hz2⟩ := info_parts Try.infoU8c
  have hown0 : w.ownsRow w.heap.size 5 1 (.slice none 0 0) 0 [] := World.ownsRow_nil _ _ _ _
  have hb0 := Below.refl w.heap.size w
  go_enter Try.func52, Try.ntmps52
  go_wp2_with fail
  refine wp_loop_rounds 9 ?_
  rw [rounds_succ]
  go_wp2_with (at_builtin; (refine wpList_push w rfl (.tmp 9) (.tmp 15) _ rfl w.heap.size 5 i0 _ 1 1 Try.underlying27 hi0 hz0 hz1 hz2 rfl (by omega) (.slice none 0 0) 0 _ rfl hown0 1 _ _ rfl rfl (by simp [Value.oneCell']) (by unfold maxLen; omega) (by omega) hb0.size ?_); intro v1 w1 hown1 hq1 _)
  have hb1 := hb0.trans hq1
  clear hown0 hb0 hq1
  rw [rounds_succ]
  go_wp2_with (at_builtin; (refine wpList_push w1 rfl (.tmp 9) (.tmp 15) _ rfl w.heap.size 5 i0 _ 1 1 Try.underlying27 hi0 hz0 hz1 hz2 rfl (by omega) v1 1 _ rfl hown1 1 _ _ rfl rfl (by simp [Value.oneCell']) (by unfold maxLen; omega) (by omega) hb1.size ?_); intro v2 w2 hown2 hq2 _)
  have hb2 := hb1.trans hq2
  clear hown1 hb1 hq2
  rw [rounds_succ]
  go_wp2_with (at_builtin; (refine wpList_push w2 rfl (.tmp 9) (.tmp 15) _ rfl w.heap.size 5 i0 _ 1 1 Try.underlying27 hi0 hz0 hz1 hz2 rfl (by omega) v2 2 _ rfl hown2 1 _ _ rfl rfl (by simp [Value.oneCell']) (by unfold maxLen; omega) (by omega) hb2.size ?_); intro v3 w3 hown3 hq3 _)
  have hb3 := hb2.trans hq3
  clear hown2 hb2 hq3
  rw [rounds_succ]
  go_wp2_with (at_builtin; (refine wpList_push w3 rfl (.tmp 9) (.tmp 15) _ rfl w.heap.size 5 i0 _ 1 1 Try.underlying27 hi0 hz0 hz1 hz2 rfl (by omega) v3 3 _ rfl hown3 1 _ _ rfl rfl (by simp [Value.oneCell']) (by unfold maxLen; omega) (by omega) hb3.size ?_); intro v4 w4 hown4 hq4 _)
  have hb4 := hb3.trans hq4
  clear hown3 hb3 hq4
  rw [rounds_succ]
  go_wp2_with (at_builtin; (refine wpList_push w4 rfl (.tmp 9) (.tmp 15) _ rfl w.heap.size 5 i0 _ 1 1 Try.underlying27 hi0 hz0 hz1 hz2 rfl (by omega) v4 4 _ rfl hown4 1 _ _ rfl rfl (by simp [Value.oneCell']) (by unfold maxLen; omega) (by omega) hb4.size ?_); intro v5 w5 hown5 hq5 _)
  have hb5 := hb4.trans hq5
  clear hown4 hb4 hq5
  rw [rounds_succ]
  go_wp2_with (at_builtin; (refine wpList_push w5 rfl (.tmp 9) (.tmp 15) _ rfl w.heap.size 5 i0 _ 1 1 Try.underlying27 hi0 hz0 hz1 hz2 rfl (by omega) v5 5 _ rfl hown5 1 _ _ rfl rfl (by simp [Value.oneCell']) (by unfold maxLen; omega) (by omega) hb5.size ?_); intro v6 w6 hown6 hq6 _)
  have hb6 := hb5.trans hq6
  clear hown5 hb5 hq6
  rw [rounds_succ]
  go_wp2_with (at_builtin; (refine wpList_push w6 rfl (.tmp 9) (.tmp 15) _ rfl w.heap.size 5 i0 _ 1 1 Try.underlying27 hi0 hz0 hz1 hz2 rfl (by omega) v6 6 _ rfl hown6 1 _ _ rfl rfl (by simp [Value.oneCell']) (by unfold maxLen; omega) (by omega) hb6.size ?_); intro v7 w7 hown7 hq7 _)
  have hb7 := hb6.trans hq7
  clear hown6 hb6 hq7
  rw [rounds_succ]
  go_wp2_with (at_builtin; (refine wpList_push w7 rfl (.tmp 9) (.tmp 15) _ rfl w.heap.size 5 i0 _ 1 1 Try.underlying27 hi0 hz0 hz1 hz2 rfl (by omega) v7 7 _ rfl hown7 1 _ _ rfl rfl (by simp [Value.oneCell']) (by unfold maxLen; omega) (by omega) hb7.size ?_); intro v8 w8 hown8 hq8 _)
  have hb8 := hb7.trans hq8
  clear hown7 hb7 hq8
  rw [rounds_succ]
  go_wp2_with fail
  go_ret
  refine ⟨v8, rfl, ?_, hb8⟩
  have h7 : n / 256 / 256 / 256 / 256 / 256 / 256 / 256 % 256 = n / 72057594037927936 := by omega
  have h6 : n / 256 / 256 / 256 / 256 / 256 / 256 % 256 = n / 281474976710656 % 256 := by omega
  have h5 : n / 256 / 256 / 256 / 256 / 256 % 256 = n / 1099511627776 % 256 := by omega
  have h4 : n / 256 / 256 / 256 / 256 % 256 = n / 4294967296 % 256 := by omega
  have h3 : n / 256 / 256 / 256 % 256 = n / 16777216 % 256 := by omega
  have h2 : n / 256 / 256 % 256 = n / 65536 % 256 := by omega
  have h1 : n / 256 % 256 = n / 256 % 256 := by omega
  have hl : bts (putL n 8) = [.int .u8 (n / 72057594037927936), .int .u8 (n / 281474976710656 % 256), .int .u8 (n / 1099511627776 % 256), .int .u8 (n / 4294967296 % 256), .int .u8 (n / 16777216 % 256), .int .u8 (n / 65536 % 256), .int .u8 (n / 256 % 256), .int .u8 (n % 256)] := by
    rw [putL8r]; simp only [bts, List.map_cons, List.map_nil, toByte_int, h2, h3, h4, h5, h6, h7]
  rw [hl]
  exact hown8
end Go.Proofs.Ytcbeadldieeceaa
