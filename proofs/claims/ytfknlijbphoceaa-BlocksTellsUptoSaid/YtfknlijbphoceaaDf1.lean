/-
  Lists of records in memory; the two steps of blocks.Diff, by their contracts.
-/
import Derived.Test.YtfknlijbphoceaaDfLaw
import Derived.Deep.RegionLaw
namespace Go.Proofs.Ytfknlijbphoceaa
open Go.RowKit

def encR (r : Int × Int × Int × List UInt8) : List Value := [.int .i64 r.1, .string ByteArray.empty, .int .i64 0, .int .i64 0, .slice none 0 0, .int .i64 r.2.1, .int .i64 r.2.2.1, .string ⟨r.2.2.2.toArray⟩, .int .u64 0, .int .u64 0, .int .u64 0, .int .u64 0]
abbrev rcells (o : RL) : List Value := cellsK encR o
theorem rcells_one (o : RL) : ∀ u ∈ rcells o, u.oneCell' = true := by
  intro u hu
  simp only [cellsK, List.mem_flatMap, encR, List.mem_cons, List.not_mem_nil, or_false] at hu
  obtain ⟨x, _, hx⟩ := hu
  rcases hx with rfl | rfl | rfl | rfl | rfl | rfl | rfl | rfl | rfl | rfl | rfl | rfl <;> rfl
theorem encR_len (r : Int × Int × Int × List UInt8) : (encR r).length = 12 := rfl
theorem Try.infoR : (Try.prog.info? 45).map (fun i => (i.zero, i.size, i.bytes)) = some (some (.agg #[.int .i64 0, .string ByteArray.empty, .int .i64 0, .int .i64 0, .slice none 0 0, .int .i64 0, .int .i64 0, .string ByteArray.empty, .int .u64 0, .int .u64 0, .int .u64 0, .int .u64 0]), 12, 128) := by kernel_rfl
theorem bump_set (o : RL) (r : Int × Int × Int × List UInt8) (p : Nat) (hp : p = o.length) : (rcells (o ++ [r])).set (p * 12 + 6) (.int .i64 (r.2.2.1 + 1)) = rcells (o ++ [(r.1, r.2.1, r.2.2.1 + 1, r.2.2.2)]) := by
  subst hp
  unfold rcells
  rw [cellsK_append, cellsK_append, List.set_append_right _ _ (by rw [cellsK_length encR_len]; omega), cellsK_length encR_len, show o.length * 12 + 6 - o.length * 12 = 6 by omega, cellsK_one, cellsK_one]
  rfl
def DifPost (w : World) (g base : Nat) (s : RL × Int) (e : Ending) (w' : World) : Prop :=
  e = .returned (.tuple #[]) ∧ ∃ v', Blk w' g 67 #[v', .int .i64 s.2] ∧ w'.ownsRow base 45 12 v' s.1.length (rcells s.1) ∧ Below g w w'

set_option maxRecDepth 100000 in
set_option maxHeartbeats 2000000 in
theorem gone_any (o : RL) (last i : Int) (hi : 0 ≤ i ∧ i < 1024) (hl : -3 ≤ last ∧ last < 1024) (hc : ∀ r ∈ o, 0 ≤ r.2.2.1 ∧ r.2.2.1 ≤ 100000) (hon : o.length ≤ 100000) (g base : Nat) (v : Value) (w : World) (hblk : Blk w g 67 #[v, .int .i64 last]) (hown : w.ownsRow base 45 12 v o.length (rcells o)) (hb : g < base) (hbw : base ≤ w.heap.size) :
    Calls Try.prog 32 #[.pointer (some ⟨g, 0, none⟩), .int .i64 i] w (DifPost w g base (goneS (o, last) i)) := by
  obtain ⟨i0, hi0, hz0, hz1, hz2⟩ := info_parts Try.infoR
  obtain ⟨c0, c1, f0, f1⟩ := blk2 hblk
  have hw1 : IntKind.i64.wrap (i - 1) = i - 1 := IntWalk.i64_in _ (by omega)
  have hbl := hblk.lt
  obtain ⟨S, hS⟩ : ∃ S, S = goneS (o, last) i := ⟨_, rfl⟩
  rw [← hS]
  have HBLK := Lib.hid hblk
  by_cases hcond : lastIs3 o = true ∧ last = i - 1
  · obtain ⟨h3, hla⟩ := hcond
    rcases List.eq_nil_or_concat o with rfl | ⟨o', r, ho⟩
    · cases h3
    · rw [List.concat_eq_append] at ho
      subst ho
      rw [lastIs3_push] at h3
      have h3 : r.1 = 3 := by simpa using h3
      have hgs : S = (o' ++ [(r.1, r.2.1, r.2.2.1 + 1, r.2.2.2)], i) := by
        rw [hS]
        unfold goneS
        rw [if_pos ⟨by rw [lastIs3_push, h3]; rfl, hla⟩]
        unfold bumpR
        simp
      have hcr := hc r (by simp)
      obtain ⟨p, hp⟩ : ∃ p, p = o'.length := ⟨_, rfl⟩
      have hlen : (o' ++ [r]).length = p + 1 := by simp [hp]
      have hlen2 : (o' ++ [(r.1, r.2.1, r.2.2.1 + 1, r.2.2.2)]).length = p + 1 := by simp [hp]
      simp only [hlen] at hown hon
      rcases hown.2 with ⟨_, h0⟩ | ⟨rb, cap, cur, rfl, hbr, _, _, _, _, _⟩
      · omega
      · have hk := hown.cellAt (p * 12) (by omega)
        have hk6 := hown.cellAt (p * 12 + 6) (by omega)
        rw [show p * 12 = p * 12 + 0 by omega, cellsK_get encR_len (o' ++ [r]) p (by omega) 0 (by omega)] at hk
        rw [cellsK_get encR_len (o' ++ [r]) p (by omega) 6 (by omega)] at hk6
        simp only [hp, List.getElem_concat_length, encR, List.getElem?_cons_zero, List.getElem?_cons_succ, Nat.add_zero] at hk hk6
        rw [h3] at hk
        rw [← hp] at hk hk6
        have hf6 := hown.frozenAt (p * 12 + 6)
        have hst := Lib.hid (hown.stored (p * 12 + 6) (.int .i64 (r.2.2.1 + 1)))
        have hbs := Lib.hid (bump_set o' r p hp)
        have hrb : rb ≠ g := by omega
        obtain ⟨cn, hcn⟩ : ∃ cn, cn = r.2.2.1 := ⟨_, rfl⟩
        rw [← hcn] at hk6 hcr
        have hw2 : IntKind.i64.wrap (cn + 1) = cn + 1 := IntWalk.i64_in _ (by omega)
        have HCN := Lib.hid hcn
        have HGS := Lib.hid hgs
        have HL2 := Lib.hid hlen2
        obtain rfl : i - 1 = last := hla.symm
        clear hcn hp hlen hlen2 hgs hc hown hblk hS h3
        go_enter Try.func32, Try.ntmps32
        go_wp2_with fail
        go_end0
        rw [HGS.out]
        refine ⟨rfl, _, (HBLK.out.far (p := ⟨rb, p * 12 + 6, none⟩) (Ne.symm hrb) _).set_ 1 _, ?_, ((Below.refl g w).setCell (by show g ≤ rb; omega) _).setCell (Nat.le_refl _) _⟩
        rw [HL2.out, ← hbs.out, HCN.out]
        exact own_setCell_below (p := ⟨g, 1, none⟩) hst.out.1 hb _
  · have hgs : S = (o ++ [(3, i, 1, [])], i) := by
      rw [hS]
      unfold goneS
      rw [if_neg hcond]
    have HGS := Lib.hid hgs
    rcases List.eq_nil_or_concat o with rfl | ⟨o', r, ho⟩
    · obtain ⟨A, c, rfl, _, _, _⟩ := own_form hown
      have hown := Lib.hid hown
      clear hgs hS hcond hblk hc hon
      go_enter Try.func32, Try.ntmps32
      go_wp2_with (at_builtin; (refine wpList_push _ rfl (.tmp 48) (.tmp 51) 35 rfl base 45 i0 (.agg #[.int .i64 0, .string ByteArray.empty, .int .i64 0, .int .i64 0, .slice none 0 0, .int .i64 0, .int .i64 0, .string ByteArray.empty, .int .u64 0, .int .u64 0, .int .u64 0, .int .u64 0]) 12 128 Try.underlying35 hi0 hz0 hz1 hz2 rfl (by decide) (.slice A 0 c) 0 _ rfl hown.out 1 #[.int .i64 3, .string ByteArray.empty, .int .i64 0, .int .i64 0, .slice none 0 0, .int .i64 i, .int .i64 1, .string ByteArray.empty, .int .u64 0, .int .u64 0, .int .u64 0, .int .u64 0] 45 rfl rfl (by simp [Value.oneCell']) (by unfold maxLen; omega) (by omega) hbw ?_); intro v2 w2 hown2 hb2 hg2; obtain ⟨A2, cc2, rfl, _, _, _⟩ := own_form hown2; have hblk2 := Lib.hid (HBLK.out.below hb2 hb); obtain ⟨d0, d1, e0, e1⟩ := blk2 hblk2.out; have hown2' := Lib.hid hown2; clear hown2 c0 c1 f0 f1)
      go_end0
      rw [HGS.out]
      refine ⟨rfl, _, (hblk2.out.set_ 0 _).set_ 1 _, ?_, ((hb2.mono (Nat.le_of_lt hb)).setCell (Nat.le_refl _) _).setCell (Nat.le_refl _) _⟩
      have h1 := own_setCell_below (p := ⟨g, 1, none⟩) (own_setCell_below (p := ⟨g, 0, none⟩) hown2'.out hb (.slice A2 (0 + 1) cc2)) hb (.int .i64 i)
      exact h1
    · rw [List.concat_eq_append] at ho
      subst ho
      obtain ⟨p, hp⟩ : ∃ p, p = o'.length := ⟨_, rfl⟩
      have hlen : (o' ++ [r]).length = p + 1 := by simp [hp]
      simp only [hlen] at hown hon
      obtain ⟨A, c, rfl, hc1, hc2, _⟩ := own_form hown
      rcases hown.2 with ⟨_, h0⟩ | ⟨rb, cap, cur, hv, hbr, _, _, _, _, _⟩
      · omega
      · injection hv with e1 _ e2
        subst e1 e2
        have hk := hown.cellAt (p * 12) (by omega)
        rw [show p * 12 = p * 12 + 0 by omega, cellsK_get encR_len (o' ++ [r]) p (by omega) 0 (by omega)] at hk
        simp only [hp, List.getElem_concat_length, encR, List.getElem?_cons_zero, Nat.add_zero] at hk
        rw [← hp] at hk
        obtain ⟨kd, hkd⟩ : ∃ kd, kd = r.1 := ⟨_, rfl⟩
        rw [← hkd] at hk
        rw [lastIs3_push, ← hkd] at hcond
        have hl3 : (o' ++ [r] ++ [(3, i, 1, [])]).length = p + 1 + 1 := by simp [hp]
        have HL3 := Lib.hid hl3
        have hown := Lib.hid hown
        have hrb : rb ≠ g := by omega
        by_cases hk3 : kd = 3
        · have hne : ¬ last = i - 1 := fun e => hcond ⟨by simp [hk3], e⟩
          have hneb : (last == i - 1) = false := by simp [hne]
          subst hk3
          clear hgs hS hcond hblk hc hlen hp hkd hl3 hne
          go_enter Try.func32, Try.ntmps32
          go_wp2_with (at_builtin; (refine wpList_push _ rfl (.tmp 48) (.tmp 51) 35 rfl base 45 i0 (.agg #[.int .i64 0, .string ByteArray.empty, .int .i64 0, .int .i64 0, .slice none 0 0, .int .i64 0, .int .i64 0, .string ByteArray.empty, .int .u64 0, .int .u64 0, .int .u64 0, .int .u64 0]) 12 128 Try.underlying35 hi0 hz0 hz1 hz2 rfl (by decide) (.slice (some ⟨rb, 0, none⟩) (p + 1) c) (p + 1) _ rfl hown.out 1 #[.int .i64 3, .string ByteArray.empty, .int .i64 0, .int .i64 0, .slice none 0 0, .int .i64 i, .int .i64 1, .string ByteArray.empty, .int .u64 0, .int .u64 0, .int .u64 0, .int .u64 0] 45 rfl rfl (by simp [Value.oneCell']) (by unfold maxLen; omega) (by omega) hbw ?_); intro v2 w2 hown2 hb2 hg2; obtain ⟨A2, cc2, rfl, _, _, _⟩ := own_form hown2; have hblk2 := Lib.hid (HBLK.out.below hb2 hb); obtain ⟨d0, d1, e0, e1⟩ := blk2 hblk2.out; have hown2' := Lib.hid hown2; clear hown2 c0 c1 f0 f1)
          go_end0
          rw [HGS.out]
          refine ⟨rfl, _, (hblk2.out.set_ 0 _).set_ 1 _, ?_, ((hb2.mono (Nat.le_of_lt hb)).setCell (Nat.le_refl _) _).setCell (Nat.le_refl _) _⟩
          have h1 := own_setCell_below (p := ⟨g, 1, none⟩) (own_setCell_below (p := ⟨g, 0, none⟩) hown2'.out hb (.slice A2 ((p + 1) + 1) cc2)) hb (.int .i64 i)
          rw [HL3.out, show rcells (o' ++ [r] ++ [(3, i, 1, [])]) = rcells (o' ++ [r]) ++ rcells [(3, i, 1, [])] from cellsK_append _ _ _]
          exact h1
        · have hkb : (kd == 3) = false := by simp [hk3]
          clear hgs hS hcond hblk hc hlen hp hkd hl3
          go_enter Try.func32, Try.ntmps32
          go_wp2_with (at_builtin; (refine wpList_push _ rfl (.tmp 48) (.tmp 51) 35 rfl base 45 i0 (.agg #[.int .i64 0, .string ByteArray.empty, .int .i64 0, .int .i64 0, .slice none 0 0, .int .i64 0, .int .i64 0, .string ByteArray.empty, .int .u64 0, .int .u64 0, .int .u64 0, .int .u64 0]) 12 128 Try.underlying35 hi0 hz0 hz1 hz2 rfl (by decide) (.slice (some ⟨rb, 0, none⟩) (p + 1) c) (p + 1) _ rfl hown.out 1 #[.int .i64 3, .string ByteArray.empty, .int .i64 0, .int .i64 0, .slice none 0 0, .int .i64 i, .int .i64 1, .string ByteArray.empty, .int .u64 0, .int .u64 0, .int .u64 0, .int .u64 0] 45 rfl rfl (by simp [Value.oneCell']) (by unfold maxLen; omega) (by omega) hbw ?_); intro v2 w2 hown2 hb2 hg2; obtain ⟨A2, cc2, rfl, _, _, _⟩ := own_form hown2; have hblk2 := Lib.hid (HBLK.out.below hb2 hb); obtain ⟨d0, d1, e0, e1⟩ := blk2 hblk2.out; have hown2' := Lib.hid hown2; clear hown2 c0 c1 f0 f1)
          go_end0
          rw [HGS.out]
          refine ⟨rfl, _, (hblk2.out.set_ 0 _).set_ 1 _, ?_, ((hb2.mono (Nat.le_of_lt hb)).setCell (Nat.le_refl _) _).setCell (Nat.le_refl _) _⟩
          have h1 := own_setCell_below (p := ⟨g, 1, none⟩) (own_setCell_below (p := ⟨g, 0, none⟩) hown2'.out hb (.slice A2 ((p + 1) + 1) cc2)) hb (.int .i64 i)
          rw [HL3.out, show rcells (o' ++ [r] ++ [(3, i, 1, [])]) = rcells (o' ++ [r]) ++ rcells [(3, i, 1, [])] from cellsK_append _ _ _]
          exact h1

set_option maxRecDepth 100000 in
set_option maxHeartbeats 2000000 in
theorem dput_any (o : RL) (last i : Int) (xs : List UInt8) (hon : o.length ≤ 100000) (g base : Nat) (v : Value) (w : World) (hblk : Blk w g 67 #[v, .int .i64 last]) (hown : w.ownsRow base 45 12 v o.length (rcells o)) (hb : g < base) (hbw : base ≤ w.heap.size) :
    Calls Try.prog 33 #[.pointer (some ⟨g, 0, none⟩), .agg #[.int .i64 i, .string ⟨xs.toArray⟩]] w (DifPost w g base (putS (o, last) (i, xs))) := by
  obtain ⟨i0, hi0, hz0, hz1, hz2⟩ := info_parts Try.infoR
  obtain ⟨A, c, rfl, _, _, _⟩ := own_form hown
  obtain ⟨S, hS⟩ : ∃ S, S = putS (o, last) (i, xs) := ⟨_, rfl⟩
  rw [← hS]
  have hgs : S = (o ++ [(2, i, 0, xs)], last) := hS
  have HGS := Lib.hid hgs
  obtain ⟨n, hn⟩ : ∃ n, n = o.length := ⟨_, rfl⟩
  rw [← hn] at hown hblk hon
  have HN := Lib.hid hn
  have hnew := (Blk.new w 30 #[.int .i64 i, .string ⟨xs.toArray⟩]).cell
  obtain ⟨W0, hW0⟩ : ∃ W0, W0 = w.alloc (.cells #[.int .i64 i, .string ⟨xs.toArray⟩] 30) := ⟨_, rfl⟩
  have hs0 : W0.heap.size = w.heap.size + 1 := by rw [hW0]; simp
  have b0 : W0.cell? ⟨w.heap.size, 0, none⟩ = some (.int .i64 i) := by rw [hW0]; exact hnew 0
  have b1 : W0.cell? ⟨w.heap.size, 1, none⟩ = some (.string ⟨xs.toArray⟩) := by rw [hW0]; exact hnew 1
  have hblk0 : Blk W0 g 67 #[.slice A n c, .int .i64 last] := by rw [hW0]; exact hblk.alloc _
  have hown0 : W0.ownsRow base 45 12 (.slice A n c) n (rcells o) := by rw [hW0]; exact hown.alloc _
  have hbe0 : Below g w W0 := by rw [hW0]; exact (Below.refl _ _).alloc (by omega) _
  obtain ⟨c0, c1, f0, f1⟩ := blk2 hblk0
  obtain ⟨REC, hREC⟩ : ∃ REC : Array Value, REC = #[.int .i64 2, .string ⟨#[]⟩, .int .i64 0, .int .i64 0, .slice none 0 0, .int .i64 i, .int .i64 0, .string ⟨xs.toArray⟩, .int .u64 0, .int .u64 0, .int .u64 0, .int .u64 0] := ⟨_, rfl⟩
  obtain ⟨W1, hW1⟩ : ∃ W1, W1 = W0.alloc (.cells REC 45) := ⟨_, rfl⟩
  have hlt : g < W0.heap.size := by omega
  have d0 : W1.cell? ⟨g, 0, none⟩ = some (.slice A n c) := by rw [hW1]; exact (World.cell?_alloc_lt _ _ _ hlt).trans c0
  have hbw0 : w.heap.size < W0.heap.size := by omega
  have e0 : W1.cell? ⟨w.heap.size, 0, none⟩ = some (.int .i64 i) := by rw [hW1]; exact (World.cell?_alloc_lt _ _ _ hbw0).trans b0
  have e1 : W1.cell? ⟨w.heap.size, 1, none⟩ = some (.string ⟨xs.toArray⟩) := by rw [hW1]; exact (World.cell?_alloc_lt _ _ _ hbw0).trans b1
  have hown1 : W1.ownsRow base 45 12 (.slice A n c) n (rcells o) := by rw [hW1]; exact hown0.alloc _
  have hblk1 : Blk W1 g 67 #[.slice A n c, .int .i64 last] := by rw [hW1]; exact hblk0.alloc _
  have hr1 : Reads W1 (W0.heap.size + 1) 12 (some ⟨W0.heap.size, 0, none⟩) 1 REC.toList := by rw [hW1]; exact Reads.lit W0 REC _ (by rw [hREC]; rfl)
  have hbe1 : Below g w W1 := by rw [hW1]; exact hbe0.alloc (by omega) _
  have hs1 : base ≤ W1.drew.heap.size := by show base ≤ W1.heap.size; rw [hW1]; simp; omega
  have HW1 := Lib.hid hW1
  have HW0 := Lib.hid hW0
  have HREC := Lib.hid hREC
  have hs0i : w.heap.size < W0.heap.size := by omega
  have hr1 := hr1.drew
  have HOWN := Lib.hid (own_drew hown1)
  have HBLK := Lib.hid hblk1.drew
  have HBE := Lib.hid hbe1.drew
  have h1c : ∀ u ∈ REC.toList, u.oneCell' = true := by rw [hREC]; simp [Value.oneCell']
  have hq1 : n + 1 ≤ maxLen := by unfold maxLen; omega
  have hq2 : (n + 1) * 128 ≤ 140737488355328 := by omega
  subst hREC
  subst hW1
  clear HW1 HREC hs0
  clear hS hgs hn hW0 hown hblk hown0 hblk0 hbe0 hown1 hblk1 hbe1 hnew hlt hbw0
  go_enter Try.func33, Try.ntmps33
  go_wp2_with fail
  rw [← HW0.out]
  go_region_law (refine step_append_any _ rfl (.tmp 8) (.tmp 14) 35 rfl base 45 i0 _ 12 128 Try.underlying35 hi0 hz0 hz1 hz2 rfl (by omega) (.slice A n c) n (rcells o) ?hs HOWN.out _ (some ⟨W0.heap.size, 0, none⟩) 1 1 _ ?hx hr1 h1c hq1 hq2 hs1 ?_; (case hs => first | rfl | simp [Act.eval] | simp [Act.eval, Act.put]); (case hx => first | rfl | simp [Act.eval] | simp [Act.eval, Act.put]); intro v2 w2 hown2 hg2 _; have hne : some g ≠ (Value.slice A n c).ownBlock := (fun e => by have := (HOWN.out.lt _ e.symm).1; omega); have hblk2 := Lib.hid (HBLK.out.grown hg2 hne); have hbe2 := Lib.hid (HBE.out.grown hg2 (by have := HBE.out.size; omega) (fun k hk => by have := (HOWN.out.lt k hk).1; omega)); obtain ⟨A2, cc2, rfl, _, _, _⟩ := own_form hown2; obtain ⟨p0, p1, q0, q1⟩ := blk2 hblk2.out; have hown2' := Lib.hid hown2; clear hown2 hg2 hne d0 e0 e1 hr1 h1c)
  all_goals
    go_end0
    rw [HGS.out]
    refine ⟨rfl, _, hblk2.out.set_ 0 _, ?_, hbe2.out.setCell (Nat.le_refl _) _⟩
    have h1 := own_setCell_below (p := ⟨g, 0, none⟩) hown2'.out hb (.slice A2 (n + 1) cc2)
    have e1 : (o ++ [(2, i, 0, xs)]).length = n + 1 := by simp [HN.out]
    rw [e1, show rcells (o ++ [(2, i, 0, xs)]) = rcells o ++ rcells [(2, i, 0, xs)] from cellsK_append _ _ _]
    exact h1
end Go.Proofs.Ytfknlijbphoceaa
