/-
  The page's made at kind 1. (mkrf7.py)
-/
import Derived.Test.YthfjfkjlgdnohaaRf7y
namespace Go.Proofs.Ythfjfkjlgdnohaa
open Go.RowKit

set_option maxRecDepth 100000 in
set_option maxHeartbeats 4000000 in
theorem pmade1_any (l : List BS) (hsl : ∀ s ∈ l, s.length ≤ 140737488351232) (n : Nat) (hnl : n = l.length) (A : Option Addr) (c : Nat) (w : World) (B : Nat) (hr : Reads w B 1 A n (scells l)) (hB : B ≤ w.heap.size) (hn : n ≤ 100000) :
    Calls Try.prog 63 #[.int .i64 1, .slice A n c] w (RdPost2 w (madeL 1 l)) := by
  obtain ⟨i0, hi0, hz0, hz1, hz2⟩ := info_parts Try.infoP
  have h2 := two_boxes w #[.int .i64 0, .string ⟨#[]⟩, .int .i64 0, .int .i64 0, .slice none 0 0, .int .i64 0, .int .i64 0, .string ⟨#[]⟩, .int .u64 0, .int .u64 0, .int .u64 0, .int .u64 0] #[.int .i64 1, .string ⟨#[]⟩, .int .i64 0, .int .i64 0, .slice none 0 0, .int .i64 0, .int .i64 0, .string ⟨#[]⟩, .int .u64 0, .int .u64 0, .int .u64 0, .int .u64 0] 27
  obtain ⟨W2, hW2⟩ : ∃ W2, W2 = (w.alloc (.cells #[.int .i64 0, .string ⟨#[]⟩, .int .i64 0, .int .i64 0, .slice none 0 0, .int .i64 0, .int .i64 0, .string ⟨#[]⟩, .int .u64 0, .int .u64 0, .int .u64 0, .int .u64 0] 27)).alloc (.cells #[.int .i64 1, .string ⟨#[]⟩, .int .i64 0, .int .i64 0, .slice none 0 0, .int .i64 0, .int .i64 0, .string ⟨#[]⟩, .int .u64 0, .int .u64 0, .int .u64 0, .int .u64 0] 27) := ⟨_, rfl⟩
  rw [← hW2] at h2
  obtain ⟨k1, k2, hb2⟩ := h2
  have HW2 := Lib.hid hW2
  have HB2 := Lib.hid hb2
  have K1 := Lib.hid k1
  have K2 := Lib.hid k2
  obtain ⟨a0, a1, a2, a3, a4, a5, a6, a7, a8, a9, a10, a11⟩ := blk12 k1
  obtain ⟨g0, g1, g2, g3, g4, g5, g6, g7, g8, g9, g10, g11⟩ := frozen12 k1
  obtain ⟨b0, b1, b2, b3, b4, b5, b6, b7, b8, b9, b10, b11⟩ := blk12 k2
  obtain ⟨f0, f1, f2, f3, f4, f5, f6, f7, f8, f9, f10, f11⟩ := frozen12 k2
  by_cases h3n : n < 3
  · have HMD : Hid (madeL 1 l = none) := made_bad1 l (by rw [← hnl]; exact .inl h3n)
    have hd : (n : Int) < 3 := by omega
    clear hW2 k1 k2 hb2 hr hnl
    go_enter Try.func63, Try.ntmps63
    go_upto_region 2 with (fail)
    rw [← HW2.out]
    go_wp2_with fail
    refine bodyPost_ret (v := .tuple #[.agg #[.int .i64 1, .string ⟨#[]⟩, .int .i64 0, .int .i64 0, .slice none 0 0, .int .i64 0, .int .i64 0, .string ⟨#[]⟩, .int .u64 0, .int .u64 0, .int .u64 0, .int .u64 0], .bool false]) (by simp [results, Try.results63, go_sem, a0, a1, a2, a3, a4, a5, a6, a7, a8, a9, a10, a11]) rfl ?_
    refine ⟨.slice none 0 0, { Rc0 with kind := 1 }, false, rfl, HMD.out, World.ownsRow_nil _ _ _ _, Nat.zero_le _, ⟨(fun x hx => by cases hx), Nat.zero_le _⟩, ?_⟩
    repeat (with_reducible refine Below.setCell ?_ (by dsimp only; omega) _)
    with_reducible exact HB2.out
  by_cases hev : n % 2 = 0
  · have HMD : Hid (madeL 1 l = none) := made_bad1 l (by rw [← hnl]; exact .inr hev)
    have hd : ¬ (n : Int) < 3 := by omega
    have hd2 : ((n : Int) % 2 == 0) = true := by simp; omega
    clear hW2 k1 k2 hb2 hr hnl
    go_enter Try.func63, Try.ntmps63
    go_upto_region 2 with (fail)
    rw [← HW2.out]
    go_wp2_with fail
    refine bodyPost_ret (v := .tuple #[.agg #[.int .i64 1, .string ⟨#[]⟩, .int .i64 0, .int .i64 0, .slice none 0 0, .int .i64 0, .int .i64 0, .string ⟨#[]⟩, .int .u64 0, .int .u64 0, .int .u64 0, .int .u64 0], .bool false]) (by simp [results, Try.results63, go_sem, a0, a1, a2, a3, a4, a5, a6, a7, a8, a9, a10, a11]) rfl ?_
    refine ⟨.slice none 0 0, { Rc0 with kind := 1 }, false, rfl, HMD.out, World.ownsRow_nil _ _ _ _, Nat.zero_le _, ⟨(fun x hx => by cases hx), Nat.zero_le _⟩, ?_⟩
    repeat (with_reducible refine Below.setCell ?_ (by dsimp only; omega) _)
    with_reducible exact HB2.out
  obtain ⟨nm, a, b, rest, rfl⟩ : ∃ nm a b rest, l = nm :: a :: b :: rest := by
    match l, hnl with
    | [], h => simp at h; omega
    | [_], h => simp at h; omega
    | [_, _], h => simp at h; omega
    | nm :: a :: b :: rest, _ => exact ⟨nm, a, b, rest, rfl⟩
  obtain ⟨P, hP⟩ := pairs_even rest (by simp at hnl; omega)
  have hPT := texts_pairs rest P hP
  obtain ⟨ad, rfl, hadB, t0⟩ := strs_at hr hnl (k := 0) (by omega)
  obtain ⟨_, he, _, t1⟩ := strs_at hr hnl (k := 1) (by omega)
  injection he with he
  subst he
  obtain ⟨_, he, _, t2⟩ := strs_at hr hnl (k := 2) (by omega)
  injection he with he
  subst he
  have hadw : ad.block < w.heap.size := by omega
  have e0 : w.cell? ad = some (.string ⟨nm.toArray⟩) := by rw [add_zero] at t0; exact t0
  have e1 : w.cell? ⟨ad.block, ad.off + 1, none⟩ = some (.string ⟨a.toArray⟩) := t1
  have e2 : w.cell? ⟨ad.block, ad.off + 2, none⟩ = some (.string ⟨b.toArray⟩) := t2
  have HE0 := Lib.hid e0
  have HE2 := Lib.hid e2
  have c1' := (hb2.cell (p := ⟨ad.block, ad.off + 1, none⟩) hadw).trans e1
  have hPl : n = 3 + 2 * P.length := by rw [hnl, ← hPT]; simp [ptexts_len]; omega
  have HPAIR : Hid (∀ k (h : k < P.length), w.cell? (ad.add (3 + 2 * k)) = some (.string ⟨(P[k]).1.toArray⟩) ∧ w.cell? (ad.add (3 + 2 * k + 1)) = some (.string ⟨(P[k]).2.toArray⟩)) := by
    show ∀ k h, _
    intro k h
    obtain ⟨p1, p2⟩ := ptexts_at P k h
    rw [hPT] at p1 p2
    obtain ⟨_, hx, _, q1⟩ := strs_at hr hnl (k := 3 + 2 * k) (by omega)
    injection hx with hx
    subst hx
    obtain ⟨_, hx, _, q2⟩ := strs_at hr hnl (k := 3 + 2 * k + 1) (by omega)
    injection hx with hx
    subst hx
    have g1 : ((nm :: a :: b :: rest)[3 + 2 * k]'(by rw [← hnl]; omega)) = (P[k]).1 := by
      have : (nm :: a :: b :: rest)[3 + 2 * k]? = some (P[k]).1 := by rw [show 3 + 2 * k = 2 * k + 1 + 1 + 1 by omega]; simpa using p1
      exact (List.getElem?_eq_some_iff.1 this).2
    have g2 : ((nm :: a :: b :: rest)[3 + 2 * k + 1]'(by rw [← hnl]; omega)) = (P[k]).2 := by
      have : (nm :: a :: b :: rest)[3 + 2 * k + 1]? = some (P[k]).2 := by rw [show 3 + 2 * k + 1 = (2 * k + 1) + 1 + 1 + 1 by omega]; simpa using p2
      exact (List.getElem?_eq_some_iff.1 this).2
    rw [g1] at q1
    rw [g2] at q2
    exact ⟨q1, q2⟩
  have HPV : Hid (strOk P ∧ nm.length ≤ 140737488351232) := by
    refine ⟨fun x hx => ?_, hsl nm (List.mem_cons_self ..)⟩
    have hmem : ∀ y, y ∈ [x.1, x.2] → y.length ≤ 140737488351232 := by
      intro y hy
      refine hsl y ?_
      rw [← hPT]
      exact List.mem_cons_of_mem _ (List.mem_cons_of_mem _ (List.mem_cons_of_mem _ (List.mem_flatMap.2 ⟨x, hx, hy⟩)))
    exact ⟨hmem _ (by simp), hmem _ (by simp)⟩
  obtain ⟨E, hE⟩ : ∃ E, E = fnE a := ⟨_, rfl⟩
  obtain ⟨V, hV⟩ : ∃ V, V = fnV a := ⟨_, rfl⟩
  obtain ⟨E2, hE2⟩ : ∃ E, E = fnE b := ⟨_, rfl⟩
  obtain ⟨V2, hV2⟩ : ∃ V, V = fnV b := ⟨_, rfl⟩
  have hof := fun W => pof_any a W
  rw [← hE, ← hV] at hof
  have hof2 := fun W => pof_any b W
  rw [← hE2, ← hV2] at hof2
  obtain ⟨M, hM⟩ : ∃ M, M = madeL 1 (nm :: a :: b :: rest) := ⟨_, rfl⟩
  rw [← hM]
  have HMD0 : Hid (M = if (E == 0 && E2 == 0) = true then some { Rc0 with kind := 1, nm := nm, frm := V, gd := V2, own := P } else none) := by show _ = _; rw [hM, hE, hV, hE2, hV2]; exact made_ok1 nm a b rest P hP
  have HOF := Lib.hid hof
  have HOF2 := Lib.hid hof2
  have hd : ¬ (n : Int) < 3 := by omega
  have hd2 : ((n : Int) % 2 == 0) = false := by simp; omega
  have HPL := Lib.hid hPl
  have hn3 : 3 ≤ n := by omega
  clear t0 t1 t2
  clear hW2 k1 k2 hb2 hr hnl e0 e1 e2 hE hV hof hE2 hV2 hof2 hM hP hPT hPl hsl hev h3n
  go_enter Try.func63, Try.ntmps63
  go_upto_region 2 with (fail)
  rw [← HW2.out]
  go_wp2_with fail
  refine (HOF.out _).mono ?_
  clear HOF
  rintro e w3 ⟨rfl, hb3⟩
  have hz2 : w.heap.size + 1 < W2.heap.size := K2.out.lt
  have K1 := Lib.hid (K1.out.below hb3 K1.out.lt)
  have K2 := Lib.hid (K2.out.below hb3 hz2)
  have HB3 := Lib.hid (HB2.out.trans (hb3.mono HB2.out.size))
  have c2' := (HB3.out.cell (p := ⟨ad.block, ad.off + 2, none⟩) hadw).trans HE2.out
  clear a0 a1 a2 a3 a4 a5 a6 a7 a8 a9 a10 a11 g0 g1 g2 g3 g4 g5 g6 g7 g8 g9 g10 g11 b0 b1 b2 b3 b4 b5 b6 b7 b8 b9 b10 b11 f0 f1 f2 f3 f4 f5 f6 f7 f8 f9 f10 f11 hb3 HB2 HW2 c1' hz2
  go_wp2_with fail
  refine (HOF2.out _).mono ?_
  clear HOF2
  rintro e w4 ⟨rfl, hb4⟩
  have hz3 : w.heap.size + 1 < w3.heap.size := K2.out.lt
  have k1 := K1.out.below hb4 K1.out.lt
  have k2 := K2.out.below hb4 hz3
  have HB4 := Lib.hid (HB3.out.trans (hb4.mono HB3.out.size))
  have c0' := (HB4.out.cell (p := ad) hadw).trans HE0.out
  clear hb4 HB3 K1 K2 c2' hz3
  obtain ⟨W5, hW5⟩ : ∃ W5, W5 = ((w4.setCell ⟨w.heap.size + 1, 1, none⟩ (.string ⟨nm.toArray⟩)).setCell ⟨w.heap.size + 1, 2, none⟩ (.int .i64 V)).setCell ⟨w.heap.size + 1, 3, none⟩ (.int .i64 V2) := ⟨_, rfl⟩
  have k2' : Blk W5 (w.heap.size + 1) 27 #[.int .i64 1, .string ⟨nm.toArray⟩, .int .i64 V, .int .i64 V2, .slice none 0 0, .int .i64 0, .int .i64 0, .string ⟨#[]⟩, .int .u64 0, .int .u64 0, .int .u64 0, .int .u64 0] := by
    have := ((k2.set_ 1 (.string ⟨nm.toArray⟩)).set_ 2 (.int .i64 V)).set_ 3 (.int .i64 V2)
    rw [← hW5] at this
    simpa using this
  have k1' : Blk W5 w.heap.size 27 #[.int .i64 0, .string ⟨#[]⟩, .int .i64 0, .int .i64 0, .slice none 0 0, .int .i64 0, .int .i64 0, .string ⟨#[]⟩, .int .u64 0, .int .u64 0, .int .u64 0, .int .u64 0] := by
    have := ((k1.far (p := ⟨w.heap.size + 1, 1, none⟩) (by dsimp only; omega) (.string ⟨nm.toArray⟩)).far (p := ⟨w.heap.size + 1, 2, none⟩) (by dsimp only; omega) (.int .i64 V)).far (p := ⟨w.heap.size + 1, 3, none⟩) (by dsimp only; omega) (.int .i64 V2)
    rw [← hW5] at this
    exact this
  have hb5 : Below w.heap.size w W5 := by
    rw [hW5]
    exact ((HB4.out.setCell (by dsimp only; omega) _).setCell (by dsimp only; omega) _).setCell (by dsimp only; omega) _
  have K1 := Lib.hid k1'
  have K2 := Lib.hid k2'
  have HB5 := Lib.hid hb5
  have HW5 := Lib.hid hW5
  obtain ⟨b0, b1, b2, b3, b4, b5, b6, b7, b8, b9, b10, b11⟩ := blk12 k2
  obtain ⟨f0, f1, f2, f3, f4, f5, f6, f7, f8, f9, f10, f11⟩ := frozen12 k2
  clear k1 k2 k1' k2' hb5 hW5 HB4
  go_wp2_with fail
  rw [← HW5.out]
  clear b0 b1 b2 b3 b4 b5 b6 b7 b8 b9 b10 b11 f0 f1 f2 f3 f4 f5 f6 f7 f8 f9 f10 f11 c0'
  go_loopw [11] (fun iv wr => ∃ (k i_ : Nat) (A' : Option Addr) (c' : Nat), k ≤ P.length ∧ Hid (i_ = 3 + 2 * k) ∧ iv = .int .i64 (i_ : Int) ∧ i_ ≤ n ∧ Hid (Blk wr w.heap.size 27 #[.int .i64 0, .string ⟨#[]⟩, .int .i64 0, .int .i64 0, .slice none 0 0, .int .i64 0, .int .i64 0, .string ⟨#[]⟩, .int .u64 0, .int .u64 0, .int .u64 0, .int .u64 0]) ∧ Hid (Blk wr (w.heap.size + 1) 27 #[.int .i64 1, .string ⟨nm.toArray⟩, .int .i64 V, .int .i64 V2, .slice A' k c', .int .i64 0, .int .i64 0, .string ⟨#[]⟩, .int .u64 0, .int .u64 0, .int .u64 0, .int .u64 0]) ∧
    Hid (wr.ownsRow (w.heap.size + 1 + 1) 99 2 (.slice A' k c') k (pcells (P.take k))) ∧ Hid (Below w.heap.size w wr)) (fun iv wr => n - (intOf iv).toNat)
  case atStart => exact ⟨0, 3, none, 0, Nat.zero_le _, rfl, rfl, hn3, K1, K2, ⟨rfl, .inl ⟨rfl, rfl⟩⟩, HB5⟩
  case round =>
    obtain ⟨k, i_, A', c', hk, HI, rfl, hin, K1, K2, HO, HB⟩ := hrel
    clear HB5 HW5
    obtain ⟨a0, a1, a2, a3, a4, a5, a6, a7, a8, a9, a10, a11⟩ := blk12 K1.out
    obtain ⟨g0, g1, g2, g3, g4, g5, g6, g7, g8, g9, g10, g11⟩ := frozen12 K1.out
    obtain ⟨b0, b1, b2, b3, b4, b5, b6, b7, b8, b9, b10, b11⟩ := blk12 K2.out
    obtain ⟨f0, f1, f2, f3, f4, f5, f6, f7, f8, f9, f10, f11⟩ := frozen12 K2.out
    by_cases hlt : i_ < n
    · have hki : (i_ : Int) < (n : Int) := by omega
      have hkP : k < P.length := by have := HI.out; have := HPL.out; omega
      obtain ⟨p1, p2⟩ := HPAIR.out k hkP
      rw [← HI.out] at p1 p2
      obtain ⟨x, hx⟩ : ∃ x, x = P[k]'hkP := ⟨_, rfl⟩
      have htk := List.take_succ_eq_append_getElem hkP
      rw [← hx] at p1 p2 htk
      obtain ⟨xn, xv⟩ := x
      simp only at p1 p2
      have hadi : (ad.add i_).block < w.heap.size := by rw [block_of_add]; exact hadw
      have hadi1 : (ad.add (i_ + 1)).block < w.heap.size := by rw [block_of_add]; exact hadw
      have q1 := (HB.out.cell (p := ad.add i_) hadi).trans p1
      have q2 := (HB.out.cell (p := ad.add (i_ + 1)) hadi1).trans p2
      have q2' : wr.cell? ⟨ad.block, ad.off + (i_ + 1), none⟩ = some (.string ⟨xv.toArray⟩) := q2
      have HTK : Hid (pcells (P.take (k + 1)) = pcells (P.take k) ++ [.string ⟨xn.toArray⟩, .string ⟨xv.toArray⟩]) := by show _ = _; rw [htk, pcells_append]; rfl
      have hadr : ad.block < wr.heap.size := Nat.lt_of_lt_of_le hadw HB.out.size
      have hzr : w.heap.size + 1 < wr.heap.size := K2.out.lt
      have h1c : ∀ u ∈ (#[.string ⟨xn.toArray⟩, .string ⟨xv.toArray⟩] : Array Value).toList, u.oneCell' = true := by simp [Value.oneCell']
      have hkn : k ≤ 100000 := by have := HI.out; omega
      have hq1 : k + 1 ≤ maxLen := by unfold maxLen; omega
      have hq2 : (k + 1) * 32 ≤ 140737488355328 := by omega
      have hii : IntKind.i64.wrap ((i_ : Int) + 1) = (i_ : Int) + 1 := IntWalk.i64_in _ (by omega)
      have K1 := Lib.hid K1.out.drew
      have K2 := Lib.hid K2.out.drew
      have HO := Lib.hid (own_drew HO.out)
      have HB := Lib.hid HB.out.drew
      have HI2 : Hid (i_ + 2 = 3 + 2 * (k + 1)) := by show _ = _; rw [HI.out]; omega
      have hjj0 : (0 : Int) ≤ (i_ : Int) + 1 := by omega
      have hjj1 : (i_ : Int) + 1 < (n : Int) := by have := HI.out; have := HPL.out; omega
      have hit : ((i_ : Int) + 1).toNat = i_ + 1 := by omega
      clear hx htk p1 p2
      go_wp2_with fail
      go_region_law (refine step_append_any _ rfl (.tmp 62) (.tmp 73) 22 rfl (w.heap.size + 1 + 1) 99 i0 _ 2 32 Try.underlying22 hi0 hz0 hz1 hz2 rfl (by decide) (.slice A' k c') k (pcells (P.take k)) ?hs (HO.out.alloc _) _ (some ⟨_, 0, none⟩) 1 1 _ ?hx (Reads.lit _ #[.string ⟨xn.toArray⟩, .string ⟨xv.toArray⟩] 99 rfl) h1c hq1 hq2 (by have := HB.out.size; have := K2.out.lt; simp; omega) ?_; (case hs => first | rfl | simp [Act.eval] | simp [Act.eval, Act.put]); (case hx => first | rfl | simp [Act.eval] | simp [Act.eval, Act.put]); intro v5 w5 hown5 hg5 _; have K1 := Lib.hid ((K1.out.alloc _).grown hg5 (fun e => by have := (HO.out.lt _ e.symm).1; omega)); have K2 := Lib.hid ((K2.out.alloc _).grown hg5 (fun e => by have := (HO.out.lt _ e.symm).1; omega)); have z4 := (blk12 K2.out).2.2.2.2.1; have z5 := K2.out.frozen 4; have HB := Lib.hid ((HB.out.alloc HB.out.size _).grown hg5 (by have := HB.out.size; simp; omega) (fun r hr => by have := (HO.out.lt _ hr).1; omega)); obtain ⟨A5, c5, rfl, _, _, _⟩ := own_form hown5; have hg5 := Lib.hid hg5; have hown5 := Lib.hid hown5)
      all_goals
        clear hii hit
        go_wp2_with fail
        go_roundw
        case rel =>
          refine ⟨k + 1, i_ + 2, A5, c5, by omega, HI2.out, by go_num, by have := HI2.out; have := HPL.out; omega, ?_, ?_, ?_, ?_⟩
          · exact K1.out.far (by dsimp only; omega) _
          · have := K2.out.set_ 4 (.slice A5 (k + 1) c5)
            show Blk _ _ _ _
            simpa using this
          · show World.ownsRow _ _ _ _ _ _ _
            rw [HTK.out]
            exact own_setCell_below hown5.out (by dsimp only; omega) _
          · exact HB.out.setCell (by dsimp only; omega) _
        case measure => simp [intOf]; omega
    · have hkP : k = P.length := by have := HI.out; have := HPL.out; omega
      have hki : ¬ (i_ : Int) < (n : Int) := by omega
      have hO2 := HO.out
      rw [List.take_of_length_le (by omega)] at hO2
      have HO := Lib.hid hO2
      have HKP := Lib.hid hkP
      have hP5 : k ≤ 100000 := by have := HI.out; omega
      have hP6 : P.length ≤ 100000 := by omega
      clear hO2 hkP
      by_cases h0 : E = 0
      · by_cases h1 : E2 = 0
        · have HMD : Hid (M = some { Rc0 with kind := 1, nm := nm, frm := V, gd := V2, own := P }) := by show _ = _; rw [HMD0.out, h0, h1]; rfl
          clear HMD0
          subst h0 h1
          go_wp2_with fail
          refine bodyPost_ret (v := .tuple #[.agg #[.int .i64 1, .string ⟨nm.toArray⟩, .int .i64 V, .int .i64 V2, .slice A' k c', .int .i64 0, .int .i64 0, .string ⟨#[]⟩, .int .u64 0, .int .u64 0, .int .u64 0, .int .u64 0], .bool true]) (by simp [results, Try.results63, go_sem, a0, a1, a2, a3, a4, a5, a6, a7, a8, a9, a10, a11]) rfl ?_
          refine ⟨.slice A' k c', { Rc0 with kind := 1, nm := nm, frm := V, gd := V2, own := P }, true, rfl, HMD.out, ?_, (by show P.length ≤ 100000; omega), HPV.out, ?_⟩
          · show World.ownsRow _ _ _ _ _ P.length (pcells P)
            rw [← HKP.out]
            refine own_mono (base := w.heap.size + 1 + 1) ?_ (by omega)
            repeat (with_reducible refine own_setCell_below ?_ (by dsimp only; omega) _)
            with_reducible exact HO.out
          · repeat (with_reducible refine Below.setCell ?_ (by dsimp only; omega) _)
            with_reducible exact HB.out
        · have hd1 : (E2 == 0) = false := by simp [h1]
          have HMD : Hid (M = none) := by show _ = _; rw [HMD0.out, hd1, Bool.and_false]; rfl
          clear HMD0
          subst h0
          go_wp2_with fail
          refine bodyPost_ret (v := .tuple #[.agg #[.int .i64 1, .string ⟨nm.toArray⟩, .int .i64 V, .int .i64 V2, .slice A' k c', .int .i64 0, .int .i64 0, .string ⟨#[]⟩, .int .u64 0, .int .u64 0, .int .u64 0, .int .u64 0], .bool false]) (by simp [results, Try.results63, go_sem, a0, a1, a2, a3, a4, a5, a6, a7, a8, a9, a10, a11]) rfl ?_
          refine ⟨.slice A' k c', { Rc0 with kind := 1, nm := nm, frm := V, gd := V2, own := P }, false, rfl, HMD.out, ?_, (by show P.length ≤ 100000; omega), HPV.out, ?_⟩
          · show World.ownsRow _ _ _ _ _ P.length (pcells P)
            rw [← HKP.out]
            refine own_mono (base := w.heap.size + 1 + 1) ?_ (by omega)
            repeat (with_reducible refine own_setCell_below ?_ (by dsimp only; omega) _)
            with_reducible exact HO.out
          · repeat (with_reducible refine Below.setCell ?_ (by dsimp only; omega) _)
            with_reducible exact HB.out
      · have hd0 : (E == 0) = false := by simp [h0]
        have HMD : Hid (M = none) := by show _ = _; rw [HMD0.out, hd0, Bool.false_and]; rfl
        clear HMD0
        go_wp2_with fail
        refine bodyPost_ret (v := .tuple #[.agg #[.int .i64 1, .string ⟨nm.toArray⟩, .int .i64 V, .int .i64 V2, .slice A' k c', .int .i64 0, .int .i64 0, .string ⟨#[]⟩, .int .u64 0, .int .u64 0, .int .u64 0, .int .u64 0], .bool false]) (by simp [results, Try.results63, go_sem, a0, a1, a2, a3, a4, a5, a6, a7, a8, a9, a10, a11]) rfl ?_
        refine ⟨.slice A' k c', { Rc0 with kind := 1, nm := nm, frm := V, gd := V2, own := P }, false, rfl, HMD.out, ?_, (by show P.length ≤ 100000; omega), HPV.out, ?_⟩
        · show World.ownsRow _ _ _ _ _ P.length (pcells P)
          rw [← HKP.out]
          refine own_mono (base := w.heap.size + 1 + 1) ?_ (by omega)
          repeat (with_reducible refine own_setCell_below ?_ (by dsimp only; omega) _)
          with_reducible exact HO.out
        · repeat (with_reducible refine Below.setCell ?_ (by dsimp only; omega) _)
          with_reducible exact HB.out
end Go.Proofs.Ythfjfkjlgdnohaa
