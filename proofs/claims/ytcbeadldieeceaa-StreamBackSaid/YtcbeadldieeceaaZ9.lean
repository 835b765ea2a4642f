/-
  record.texts, by its contract. (mkrctexts.py)
-/
import Derived.Test.YtcbeadldieeceaaZ7
import Derived.Test.YtcbeadldieeceaaZ8
namespace Go.Proofs.Ytcbeadldieeceaa
open Go.RowKit

def TextsPost (w : World) (l : List BS) (e : Ending) (w' : World) : Prop := ∃ v, e = .returned v ∧ w'.ownsRow w.heap.size 9 1 v l.length (scells l) ∧ Below w.heap.size w w'
theorem own_cast {w : World} {base : Nat} {e : TypeId} {v : Value} {n m : Nat} {xs ys : List Value} (h : w.ownsRow base e 1 v n xs) (hn : n = m) (hx : xs = ys) : w.ownsRow base e 1 v m ys := by subst hn hx; exact h

set_option maxRecDepth 100000 in
set_option maxHeartbeats 4000000 in
theorem texts1_any (rn : BS) (rf rg : Int) (ro : PL) (ri rc : Int) (rd : BS) (ra rb rx ry : Int) (n : Nat) (hn : n = ro.length) (A1 : Option Addr) (c1 : Nat) (w0 : World) (B1 : Nat) (hB1 : B1 ≤ w0.heap.size) (hr1 : Reads w0 B1 2 A1 n (pcells ro)) (hn5 : n ≤ 8) :
    Calls Try.prog 60 #[.agg #[.int .i64 1, .string ⟨rn.toArray⟩, .int .i64 rf, .int .i64 rg, .slice A1 n c1, .int .i64 ri, .int .i64 rc, .string ⟨rd.toArray⟩, .int .u64 ra, .int .u64 rb, .int .u64 rx, .int .u64 ry]] w0 (TextsPost w0 (rtexts ⟨1, rn, rf, rg, ro, ri, rc, rd, ⟨ra, rb, rx, ry⟩⟩)) := by
  obtain ⟨i0, hi0, hz0, hz1, hz2⟩ := info_parts Try.infoS
  obtain ⟨L, hL⟩ : ∃ L, L = rtexts ⟨1, rn, rf, rg, ro, ri, rc, rd, ⟨ra, rb, rx, ry⟩⟩ := ⟨_, rfl⟩
  rw [← hL]
  have HL := Lib.hid hL
  have hTX := fun W (hb : Below w0.heap.size w0 W) => text_any ro n hn A1 c1 W B1 (hr1.below (hb.mono hB1)) (Nat.le_trans hB1 hb.size) (by omega)
  have HN := Lib.hid hn
  clear hL hn hr1
  have hk := Blk.new w0 47 #[.int .i64 1, .string ⟨rn.toArray⟩, .int .i64 rf, .int .i64 rg, .slice A1 n c1, .int .i64 ri, .int .i64 rc, .string ⟨rd.toArray⟩, .int .u64 ra, .int .u64 rb, .int .u64 rx, .int .u64 ry]
  have hbel := (Below.refl w0.heap.size w0).alloc (Nat.le_refl _) (.cells #[.int .i64 1, .string ⟨rn.toArray⟩, .int .i64 rf, .int .i64 rg, .slice A1 n c1, .int .i64 ri, .int .i64 rc, .string ⟨rd.toArray⟩, .int .u64 ra, .int .u64 rb, .int .u64 rx, .int .u64 ry] 47)
  go_enter Try.func60, Try.ntmps60
  go_wp2_with fail
  generalize w0.alloc (.cells #[.int .i64 1, .string ⟨rn.toArray⟩, .int .i64 rf, .int .i64 rg, .slice A1 n c1, .int .i64 ri, .int .i64 rc, .string ⟨rd.toArray⟩, .int .u64 ra, .int .u64 rb, .int .u64 rx, .int .u64 ry] 47) = w1 at hk hbel ⊢
  have hB0 : w0.heap.size ≤ w1.heap.size := hbel.size
  have HTX := Lib.hid (fun W (hb : Below w1.heap.size w1 W) => hTX W (hbel.trans (hb.mono hB0)))
  have hS := Lib.hid (fun (W' : World) (hB : Below w1.heap.size w1 W') => (blk12 (hk.below hB hk.lt) :
    W'.cell? ⟨w0.heap.size, 0, none⟩ = some (.int .i64 1) ∧ W'.cell? ⟨w0.heap.size, 1, none⟩ = some (.string ⟨rn.toArray⟩) ∧ W'.cell? ⟨w0.heap.size, 2, none⟩ = some (.int .i64 rf) ∧ W'.cell? ⟨w0.heap.size, 3, none⟩ = some (.int .i64 rg) ∧ W'.cell? ⟨w0.heap.size, 4, none⟩ = some (.slice A1 n c1) ∧ W'.cell? ⟨w0.heap.size, 5, none⟩ = some (.int .i64 ri) ∧ W'.cell? ⟨w0.heap.size, 6, none⟩ = some (.int .i64 rc) ∧ W'.cell? ⟨w0.heap.size, 7, none⟩ = some (.string ⟨rd.toArray⟩) ∧ W'.cell? ⟨w0.heap.size, 8, none⟩ = some (.int .u64 ra) ∧ W'.cell? ⟨w0.heap.size, 9, none⟩ = some (.int .u64 rb) ∧ W'.cell? ⟨w0.heap.size, 10, none⟩ = some (.int .u64 rx) ∧ W'.cell? ⟨w0.heap.size, 11, none⟩ = some (.int .u64 ry)))
  clear hk hTX
  obtain ⟨val, hval⟩ : ∃ val : Nat → Option Value, val = fun i => [some (.pointer (some ⟨w0.heap.size, 1, none⟩)), some (.string ⟨rn.toArray⟩), none, some (.pointer (some ⟨w0.heap.size, 2, none⟩)), some (.int .i64 rf), some (.pointer (some ⟨w0.heap.size, 3, none⟩)), some (.int .i64 rg), none, none, none, some (.pointer (some ⟨w0.heap.size, 4, none⟩)), some (.slice A1 n c1), none, none, none][i]?.join := ⟨_, rfl⟩
  obtain ⟨row, hrow⟩ : ∃ row : Nat → Option (TypeId × Nat × List Value), row = fun i => [none, none, some (9, 1, scells [rn]), none, none, none, none, some (3, 2, icells [rf, rg]), some (9, 2, scells ([rf, rg].map n8)), some (9, 1 + 2, scells [rn] ++ scells ([rf, rg].map n8)), none, none, some (9, (2 * n), scells (ptexts ro)), some (9, 1 + 2 + (2 * n), scells [rn] ++ scells ([rf, rg].map n8) ++ scells (ptexts ro)), some (9, 1 + 2 + (2 * n), scells [rn] ++ scells ([rf, rg].map n8) ++ scells (ptexts ro))][i]?.join := ⟨_, rfl⟩
  obtain ⟨user, husr⟩ : ∃ user : Nat → Option Nat, user = fun i => [none, none, some 9, none, none, none, none, none, none, some 13, none, none, none, some 14, none][i]?.join := ⟨_, rfl⟩
  have v0 : val 0 = some (.pointer (some ⟨w0.heap.size, 1, none⟩)) := by rw [hval]; rfl
  have r0 : row 0 = none := by rw [hrow]; rfl
  have u0 : user 0 = none := by rw [husr]; rfl
  have v1 : val 1 = some (.string ⟨rn.toArray⟩) := by rw [hval]; rfl
  have r1 : row 1 = none := by rw [hrow]; rfl
  have u1 : user 1 = none := by rw [husr]; rfl
  have v2 : val 2 = none := by rw [hval]; rfl
  have r2 : row 2 = some (9, 1, scells [rn]) := by rw [hrow]; rfl
  have u2 : user 2 = some 9 := by rw [husr]; rfl
  have v3 : val 3 = some (.pointer (some ⟨w0.heap.size, 2, none⟩)) := by rw [hval]; rfl
  have r3 : row 3 = none := by rw [hrow]; rfl
  have u3 : user 3 = none := by rw [husr]; rfl
  have v4 : val 4 = some (.int .i64 rf) := by rw [hval]; rfl
  have r4 : row 4 = none := by rw [hrow]; rfl
  have u4 : user 4 = none := by rw [husr]; rfl
  have v5 : val 5 = some (.pointer (some ⟨w0.heap.size, 3, none⟩)) := by rw [hval]; rfl
  have r5 : row 5 = none := by rw [hrow]; rfl
  have u5 : user 5 = none := by rw [husr]; rfl
  have v6 : val 6 = some (.int .i64 rg) := by rw [hval]; rfl
  have r6 : row 6 = none := by rw [hrow]; rfl
  have u6 : user 6 = none := by rw [husr]; rfl
  have v7 : val 7 = none := by rw [hval]; rfl
  have r7 : row 7 = some (3, 2, icells [rf, rg]) := by rw [hrow]; rfl
  have u7 : user 7 = none := by rw [husr]; rfl
  have v8 : val 8 = none := by rw [hval]; rfl
  have r8 : row 8 = some (9, 2, scells ([rf, rg].map n8)) := by rw [hrow]; rfl
  have u8 : user 8 = none := by rw [husr]; rfl
  have v9 : val 9 = none := by rw [hval]; rfl
  have r9 : row 9 = some (9, 1 + 2, scells [rn] ++ scells ([rf, rg].map n8)) := by rw [hrow]; rfl
  have u9 : user 9 = some 13 := by rw [husr]; rfl
  have v10 : val 10 = some (.pointer (some ⟨w0.heap.size, 4, none⟩)) := by rw [hval]; rfl
  have r10 : row 10 = none := by rw [hrow]; rfl
  have u10 : user 10 = none := by rw [husr]; rfl
  have v11 : val 11 = some (.slice A1 n c1) := by rw [hval]; rfl
  have r11 : row 11 = none := by rw [hrow]; rfl
  have u11 : user 11 = none := by rw [husr]; rfl
  have v12 : val 12 = none := by rw [hval]; rfl
  have r12 : row 12 = some (9, (2 * n), scells (ptexts ro)) := by rw [hrow]; rfl
  have u12 : user 12 = none := by rw [husr]; rfl
  have v13 : val 13 = none := by rw [hval]; rfl
  have r13 : row 13 = some (9, 1 + 2 + (2 * n), scells [rn] ++ scells ([rf, rg].map n8) ++ scells (ptexts ro)) := by rw [hrow]; rfl
  have u13 : user 13 = some 14 := by rw [husr]; rfl
  have v14 : val 14 = none := by rw [hval]; rfl
  have r14 : row 14 = some (9, 1 + 2 + (2 * n), scells [rn] ++ scells ([rf, rg].map n8) ++ scells (ptexts ro)) := by rw [hrow]; rfl
  have u14 : user 14 = none := by rw [husr]; rfl
  clear hval hrow husr
  refine wp_region_inv (by kernel_rfl) (by kernel_rfl) (RowsK w1 val row user) RowsK.start ?_ ?_
  · intro i o ho m W hJ hmi hdeps AA KK hA hK
    rcases i with _ | _ | _ | _ | _ | _ | _ | _ | _ | _ | _ | _ | _ | _ | _ | i
    · injection ho with ho
      subst ho
      have e4 : AA.tmps[1]?.getD undef = .pointer (some ⟨w0.heap.size, 0, none⟩) := by rw [hA]; exact tmps_free (by kernel_rfl)
      have hK0 : KK (AA.put (some 7) _) _ := hK _ _ (hJ.pure (Below.refl _ _) r0 (fun x hx => by rw [v0] at hx; exact Option.some.inj hx))
      clear hA hdeps hK v0 v1 v2 v3 v4 v5 v6 v7 v8 v9 v10 v11 v12 v13 v14 r0 r1 r2 r3 r4 r5 r6 r7 r8 r9 r10 r11 r12 r13 r14 u0 u1 u2 u3 u4 u5 u6 u7 u8 u9 u10 u11 u12 u13 u14
      go_simp
      exact hK0
    · injection ho with ho
      subst ho
      have hx0 := hJ.det.get v0 (hdeps ⟨0, .data⟩ (by simp) rfl)
      have e0 : AA.tmps[7]?.getD undef = .pointer (some ⟨w0.heap.size, 1, none⟩) := by rw [hA]; exact tmps_own (by kernel_rfl) hx0 (of_decide_eq_true (by kernel_rfl))
      obtain ⟨c0_, c1_, c2_, c3_, c4_, c5_, c6_, c7_, c8_, c9_, c10_, c11_⟩ := hS.out W hJ.bel
      have hK0 : KK (AA.put (some 8) _) _ := hK _ _ (hJ.pure (Below.refl _ _) r1 (fun x hx => by rw [v1] at hx; exact Option.some.inj hx))
      clear hA hdeps hK v0 v1 v2 v3 v4 v5 v6 v7 v8 v9 v10 v11 v12 v13 v14 r0 r1 r2 r3 r4 r5 r6 r7 r8 r9 r10 r11 r12 r13 r14 u0 u1 u2 u3 u4 u5 u6 u7 u8 u9 u10 u11 u12 u13 u14
      go_simp
      exact hK0
    · injection ho with ho
      subst ho
      have hx1 := hJ.det.get v1 (hdeps ⟨1, .data⟩ (by simp) rfl)
      have e1 : AA.tmps[8]?.getD undef = .string ⟨rn.toArray⟩ := by rw [hA]; exact tmps_own (by kernel_rfl) hx1 (of_decide_eq_true (by kernel_rfl))
      have hK0 : KK (AA.put (some 9) _) _ := hK _ _ (hJ.new (W' := W.alloc (.cells #[.string ⟨rn.toArray⟩] 9)) ((Below.refl _ _).alloc (Nat.le_refl _) _) r2 v2 (own_lit W #[.string ⟨rn.toArray⟩] 9 1 rfl (by decide)))
      clear hA hdeps hK v0 v1 v2 v3 v4 v5 v6 v7 v8 v9 v10 v11 v12 v13 v14 r0 r1 r2 r3 r4 r5 r6 r7 r8 r9 r10 r11 r12 r13 r14 u0 u1 u2 u3 u4 u5 u6 u7 u8 u9 u10 u11 u12 u13 u14
      go_simp
      exact hK0
    · injection ho with ho
      subst ho
      have e4 : AA.tmps[1]?.getD undef = .pointer (some ⟨w0.heap.size, 0, none⟩) := by rw [hA]; exact tmps_free (by kernel_rfl)
      have hK0 : KK (AA.put (some 10) _) _ := hK _ _ (hJ.pure (Below.refl _ _) r3 (fun x hx => by rw [v3] at hx; exact Option.some.inj hx))
      clear hA hdeps hK v0 v1 v2 v3 v4 v5 v6 v7 v8 v9 v10 v11 v12 v13 v14 r0 r1 r2 r3 r4 r5 r6 r7 r8 r9 r10 r11 r12 r13 r14 u0 u1 u2 u3 u4 u5 u6 u7 u8 u9 u10 u11 u12 u13 u14
      go_simp
      exact hK0
    · injection ho with ho
      subst ho
      have hx3 := hJ.det.get v3 (hdeps ⟨3, .data⟩ (by simp) rfl)
      have e3 : AA.tmps[10]?.getD undef = .pointer (some ⟨w0.heap.size, 2, none⟩) := by rw [hA]; exact tmps_own (by kernel_rfl) hx3 (of_decide_eq_true (by kernel_rfl))
      obtain ⟨c0_, c1_, c2_, c3_, c4_, c5_, c6_, c7_, c8_, c9_, c10_, c11_⟩ := hS.out W hJ.bel
      have hK0 : KK (AA.put (some 11) _) _ := hK _ _ (hJ.pure (Below.refl _ _) r4 (fun x hx => by rw [v4] at hx; exact Option.some.inj hx))
      clear hA hdeps hK v0 v1 v2 v3 v4 v5 v6 v7 v8 v9 v10 v11 v12 v13 v14 r0 r1 r2 r3 r4 r5 r6 r7 r8 r9 r10 r11 r12 r13 r14 u0 u1 u2 u3 u4 u5 u6 u7 u8 u9 u10 u11 u12 u13 u14
      go_simp
      exact hK0
    · injection ho with ho
      subst ho
      have e4 : AA.tmps[1]?.getD undef = .pointer (some ⟨w0.heap.size, 0, none⟩) := by rw [hA]; exact tmps_free (by kernel_rfl)
      have hK0 : KK (AA.put (some 12) _) _ := hK _ _ (hJ.pure (Below.refl _ _) r5 (fun x hx => by rw [v5] at hx; exact Option.some.inj hx))
      clear hA hdeps hK v0 v1 v2 v3 v4 v5 v6 v7 v8 v9 v10 v11 v12 v13 v14 r0 r1 r2 r3 r4 r5 r6 r7 r8 r9 r10 r11 r12 r13 r14 u0 u1 u2 u3 u4 u5 u6 u7 u8 u9 u10 u11 u12 u13 u14
      go_simp
      exact hK0
    · injection ho with ho
      subst ho
      have hx5 := hJ.det.get v5 (hdeps ⟨5, .data⟩ (by simp) rfl)
      have e5 : AA.tmps[12]?.getD undef = .pointer (some ⟨w0.heap.size, 3, none⟩) := by rw [hA]; exact tmps_own (by kernel_rfl) hx5 (of_decide_eq_true (by kernel_rfl))
      obtain ⟨c0_, c1_, c2_, c3_, c4_, c5_, c6_, c7_, c8_, c9_, c10_, c11_⟩ := hS.out W hJ.bel
      have hK0 : KK (AA.put (some 13) _) _ := hK _ _ (hJ.pure (Below.refl _ _) r6 (fun x hx => by rw [v6] at hx; exact Option.some.inj hx))
      clear hA hdeps hK v0 v1 v2 v3 v4 v5 v6 v7 v8 v9 v10 v11 v12 v13 v14 r0 r1 r2 r3 r4 r5 r6 r7 r8 r9 r10 r11 r12 r13 r14 u0 u1 u2 u3 u4 u5 u6 u7 u8 u9 u10 u11 u12 u13 u14
      go_simp
      exact hK0
    · injection ho with ho
      subst ho
      have hx4 := hJ.det.get v4 (hdeps ⟨4, .data⟩ (by simp) rfl)
      have e4 : AA.tmps[11]?.getD undef = .int .i64 rf := by rw [hA]; exact tmps_own (by kernel_rfl) hx4 (of_decide_eq_true (by kernel_rfl))
      have hx6 := hJ.det.get v6 (hdeps ⟨6, .data⟩ (by simp) rfl)
      have e6 : AA.tmps[13]?.getD undef = .int .i64 rg := by rw [hA]; exact tmps_own (by kernel_rfl) hx6 (of_decide_eq_true (by kernel_rfl))
      have hK0 : KK (AA.put (some 14) _) _ := hK _ _ (hJ.new (W' := W.alloc (.cells #[.int .i64 rf, .int .i64 rg] 3)) ((Below.refl _ _).alloc (Nat.le_refl _) _) r7 v7 (own_lit W #[.int .i64 rf, .int .i64 rg] 3 2 rfl (by decide)))
      clear hA hdeps hK v0 v1 v2 v3 v4 v5 v6 v7 v8 v9 v10 v11 v12 v13 v14 r0 r1 r2 r3 r4 r5 r6 r7 r8 r9 r10 r11 r12 r13 r14 u0 u1 u2 u3 u4 u5 u6 u7 u8 u9 u10 u11 u12 u13 u14
      go_simp
      exact hK0
    · injection ho with ho
      subst ho
      obtain ⟨xq, hxq⟩ := Option.isSome_iff_exists.1 (hdeps ⟨7, .data⟩ (by simp) rfl)
      have eq : AA.tmps[14]?.getD undef = xq := by rw [hA]; exact tmps_own (by kernel_rfl) hxq (of_decide_eq_true (by kernel_rfl))
      have hoq := hJ.own 7 xq _ hxq r7 (fun u hu => by rw [u7] at hu; cases hu)
      obtain ⟨Aq, cq, rfl, _, _, hrq⟩ := own_form hoq
      have hKK := Lib.hid hK
      have HV := Lib.hid v8
      have HR := Lib.hid r8
      clear hA hdeps hK v0 v1 v2 v3 v4 v5 v6 v7 v8 v9 v10 v11 v12 v13 v14 r0 r1 r2 r3 r4 r5 r6 r7 r8 r9 r10 r11 r12 r13 r14 u0 u1 u2 u3 u4 u5 u6 u7 u8 u9 u10 u11 u12 u13 u14
      go_simp
      refine (numbers_any [rf, rg] 2 rfl Aq cq W _ hrq (Nat.le_refl _) (by omega)).mono ?_
      rintro e w5 ⟨v, rfl, hown, hbn⟩
      exact hKK.out _ _ (hJ.new hbn HR.out HV.out hown)
    · injection ho with ho
      subst ho
      obtain ⟨xp, hxp⟩ := Option.isSome_iff_exists.1 (hdeps ⟨2, .data⟩ (by simp) rfl)
      have ep : AA.tmps[9]?.getD undef = xp := by rw [hA]; exact tmps_own (by kernel_rfl) hxp (of_decide_eq_true (by kernel_rfl))
      obtain ⟨xq, hxq⟩ := Option.isSome_iff_exists.1 (hdeps ⟨8, .data⟩ (by simp) rfl)
      have eq : AA.tmps[15]?.getD undef = xq := by rw [hA]; exact tmps_own (by kernel_rfl) hxq (of_decide_eq_true (by kernel_rfl))
      have hop := hJ.own 2 xp _ hxp r2 (LiveK.of u2 hmi)
      have hoq := hJ.own 8 xq _ hxq r8 (fun u hu => by rw [u8] at hu; cases hu)
      obtain ⟨Aq, cq, rfl, _, _, hrq⟩ := own_form hoq
      have htk := fun (v : Value) (W' : World) => hJ.take (W' := W') (v := v) u2 r2 r9 hxp hmi v9
      have hKK := Lib.hid hK
      clear hA hdeps hK v0 v1 v2 v3 v4 v5 v6 v7 v8 v9 v10 v11 v12 v13 v14 r0 r1 r2 r3 r4 r5 r6 r7 r8 r9 r10 r11 r12 r13 r14 u0 u1 u2 u3 u4 u5 u6 u7 u8 u9 u10 u11 u12 u13 u14
      refine step_append_any W rfl (.tmp 9) (.tmp 15) _ rfl w1.heap.size 9 i0 (.string ByteArray.empty) 1 16 Try.underlying23 hi0 hz0 hz1 hz2 rfl (by decide) xp (1) _ ?_ hop W.heap.size Aq (2) cq _ ?_ hrq (by intro u hu; first | exact scells_one _ u hu | exact bts_one _ u hu) (by unfold maxLen; omega) (by omega) hJ.bel.size ?_
      · simpa [Act.eval] using ep
      · simpa [Act.eval] using eq
      · intro v' w' h1 h2 h3
        exact hKK.out _ _ (htk v' w' h2 h1 h3)
    · injection ho with ho
      subst ho
      have e4 : AA.tmps[1]?.getD undef = .pointer (some ⟨w0.heap.size, 0, none⟩) := by rw [hA]; exact tmps_free (by kernel_rfl)
      have hK0 : KK (AA.put (some 17) _) _ := hK _ _ (hJ.pure (Below.refl _ _) r10 (fun x hx => by rw [v10] at hx; exact Option.some.inj hx))
      clear hA hdeps hK v0 v1 v2 v3 v4 v5 v6 v7 v8 v9 v10 v11 v12 v13 v14 r0 r1 r2 r3 r4 r5 r6 r7 r8 r9 r10 r11 r12 r13 r14 u0 u1 u2 u3 u4 u5 u6 u7 u8 u9 u10 u11 u12 u13 u14
      go_simp
      exact hK0
    · injection ho with ho
      subst ho
      have hx10 := hJ.det.get v10 (hdeps ⟨10, .data⟩ (by simp) rfl)
      have e10 : AA.tmps[17]?.getD undef = .pointer (some ⟨w0.heap.size, 4, none⟩) := by rw [hA]; exact tmps_own (by kernel_rfl) hx10 (of_decide_eq_true (by kernel_rfl))
      obtain ⟨c0_, c1_, c2_, c3_, c4_, c5_, c6_, c7_, c8_, c9_, c10_, c11_⟩ := hS.out W hJ.bel
      have hK0 : KK (AA.put (some 18) _) _ := hK _ _ (hJ.pure (Below.refl _ _) r11 (fun x hx => by rw [v11] at hx; exact Option.some.inj hx))
      clear hA hdeps hK v0 v1 v2 v3 v4 v5 v6 v7 v8 v9 v10 v11 v12 v13 v14 r0 r1 r2 r3 r4 r5 r6 r7 r8 r9 r10 r11 r12 r13 r14 u0 u1 u2 u3 u4 u5 u6 u7 u8 u9 u10 u11 u12 u13 u14
      go_simp
      exact hK0
    · injection ho with ho
      subst ho
      have hx11 := hJ.det.get v11 (hdeps ⟨11, .data⟩ (by simp) rfl)
      have e11 : AA.tmps[18]?.getD undef = .slice A1 n c1 := by rw [hA]; exact tmps_own (by kernel_rfl) hx11 (of_decide_eq_true (by kernel_rfl))
      have hKK := Lib.hid hK
      have HV := Lib.hid v12
      have HR := Lib.hid r12
      clear hA hdeps hK v0 v1 v2 v3 v4 v5 v6 v7 v8 v9 v10 v11 v12 v13 v14 r0 r1 r2 r3 r4 r5 r6 r7 r8 r9 r10 r11 r12 r13 r14 u0 u1 u2 u3 u4 u5 u6 u7 u8 u9 u10 u11 u12 u13 u14
      go_simp
      refine (HTX.out W hJ.bel).mono ?_
      rintro e w5 ⟨v, rfl, hown, hbn⟩
      exact hKK.out _ _ (hJ.new hbn HR.out HV.out hown)
    · injection ho with ho
      subst ho
      obtain ⟨xp, hxp⟩ := Option.isSome_iff_exists.1 (hdeps ⟨9, .data⟩ (by simp) rfl)
      have ep : AA.tmps[16]?.getD undef = xp := by rw [hA]; exact tmps_own (by kernel_rfl) hxp (of_decide_eq_true (by kernel_rfl))
      obtain ⟨xq, hxq⟩ := Option.isSome_iff_exists.1 (hdeps ⟨12, .data⟩ (by simp) rfl)
      have eq : AA.tmps[19]?.getD undef = xq := by rw [hA]; exact tmps_own (by kernel_rfl) hxq (of_decide_eq_true (by kernel_rfl))
      have hop := hJ.own 9 xp _ hxp r9 (LiveK.of u9 hmi)
      have hoq := hJ.own 12 xq _ hxq r12 (fun u hu => by rw [u12] at hu; cases hu)
      obtain ⟨Aq, cq, rfl, _, _, hrq⟩ := own_form hoq
      have htk := fun (v : Value) (W' : World) => hJ.take (W' := W') (v := v) u9 r9 r13 hxp hmi v13
      have hKK := Lib.hid hK
      clear hA hdeps hK v0 v1 v2 v3 v4 v5 v6 v7 v8 v9 v10 v11 v12 v13 v14 r0 r1 r2 r3 r4 r5 r6 r7 r8 r9 r10 r11 r12 r13 r14 u0 u1 u2 u3 u4 u5 u6 u7 u8 u9 u10 u11 u12 u13 u14
      refine step_append_any W rfl (.tmp 16) (.tmp 19) _ rfl w1.heap.size 9 i0 (.string ByteArray.empty) 1 16 Try.underlying23 hi0 hz0 hz1 hz2 rfl (by decide) xp (1 + 2) _ ?_ hop W.heap.size Aq ((2 * n)) cq _ ?_ hrq (by intro u hu; first | exact scells_one _ u hu | exact bts_one _ u hu) (by unfold maxLen; omega) (by omega) hJ.bel.size ?_
      · simpa [Act.eval] using ep
      · simpa [Act.eval] using eq
      · intro v' w' h1 h2 h3
        exact hKK.out _ _ (htk v' w' h2 h1 h3)
    · injection ho with ho
      subst ho
      obtain ⟨xp, hxp⟩ := Option.isSome_iff_exists.1 (hdeps ⟨13, .data⟩ (by simp) rfl)
      have ep : AA.tmps[20]?.getD undef = xp := by rw [hA]; exact tmps_own (by kernel_rfl) hxp (of_decide_eq_true (by kernel_rfl))
      have hop := hJ.own 13 xp _ hxp r13 (LiveK.of u13 hmi)
      have hK0 : KK (AA.put (some 2) _) _ := hK xp W (hJ.take u13 r13 r14 hxp hmi v14 (World.grownBy.refl _ _) hop (.inl rfl))
      clear hA hdeps hK v0 v1 v2 v3 v4 v5 v6 v7 v8 v9 v10 v11 v12 v13 v14 r0 r1 r2 r3 r4 r5 r6 r7 r8 r9 r10 r11 r12 r13 r14 u0 u1 u2 u3 u4 u5 u6 u7 u8 u9 u10 u11 u12 u13 u14
      go_simp
      exact hK0
    · simp at ho
  · intro m W hJ hall
    have m0 := hJ.det.get v0 (hall 0 (by simp))
    have m1 := hJ.det.get v1 (hall 1 (by simp))
    obtain ⟨x2, m2⟩ := Option.isSome_iff_exists.1 (hall 2 (by simp))
    have m3 := hJ.det.get v3 (hall 3 (by simp))
    have m4 := hJ.det.get v4 (hall 4 (by simp))
    have m5 := hJ.det.get v5 (hall 5 (by simp))
    have m6 := hJ.det.get v6 (hall 6 (by simp))
    obtain ⟨x7, m7⟩ := Option.isSome_iff_exists.1 (hall 7 (by simp))
    obtain ⟨x8, m8⟩ := Option.isSome_iff_exists.1 (hall 8 (by simp))
    obtain ⟨x9, m9⟩ := Option.isSome_iff_exists.1 (hall 9 (by simp))
    have m10 := hJ.det.get v10 (hall 10 (by simp))
    have m11 := hJ.det.get v11 (hall 11 (by simp))
    obtain ⟨x12, m12⟩ := Option.isSome_iff_exists.1 (hall 12 (by simp))
    obtain ⟨x13, m13⟩ := Option.isSome_iff_exists.1 (hall 13 (by simp))
    obtain ⟨x14, m14⟩ := Option.isSome_iff_exists.1 (hall 14 (by simp))
    have hown := hJ.own 14 x14 _ m14 r14 (fun u hu => by rw [u14] at hu; cases hu)
    have hbx := hJ.bel
    rw [frameM_all (by kernel_rfl) [.pointer (some ⟨w0.heap.size, 1, none⟩), .string ⟨rn.toArray⟩, x2, .pointer (some ⟨w0.heap.size, 2, none⟩), .int .i64 rf, .pointer (some ⟨w0.heap.size, 3, none⟩), .int .i64 rg, x7, x8, x9, .pointer (some ⟨w0.heap.size, 4, none⟩), .slice A1 n c1, x12, x13, x14] rfl (fun i hi => by
        rcases i with _ | _ | _ | _ | _ | _ | _ | _ | _ | _ | _ | _ | _ | _ | _ | i
        · exact m0
        · exact m1
        · exact m2
        · exact m3
        · exact m4
        · exact m5
        · exact m6
        · exact m7
        · exact m8
        · exact m9
        · exact m10
        · exact m11
        · exact m12
        · exact m13
        · exact m14
        · simp at hi; omega)]
    clear hJ hall m0 m1 m2 m3 m4 m5 m6 m7 m8 m9 m10 m11 m12 m13 m14 v0 v1 v2 v3 v4 v5 v6 v7 v8 v9 v10 v11 v12 v13 v14 r0 r1 r2 r3 r4 r5 r6 r7 r8 r9 r10 r11 r12 r13 r14 u0 u1 u2 u3 u4 u5 u6 u7 u8 u9 u10 u11 u12 u13 u14
    simp only [putAll, Act.put, List.setIfInBounds_toArray, List.set_cons_succ, List.set_cons_zero]
    repeat go_step
    go_ret
    exact ⟨_, rfl, by rw [HL.out]; exact own_cast (own_mono hown hB0) (by have := HN.out; simp [rtexts, ptexts_len]; omega) (by simp [rtexts, scells]), hbel.trans (hbx.mono hB0)⟩

set_option maxRecDepth 100000 in
set_option maxHeartbeats 4000000 in
theorem texts2_any (rn : BS) (rf rg : Int) (ro : PL) (ri rc : Int) (rd : BS) (ra rb rx ry : Int) (n : Nat) (hn : n = ro.length) (A1 : Option Addr) (c1 : Nat) (w0 : World) (B1 : Nat) (hB1 : B1 ≤ w0.heap.size) (hr1 : Reads w0 B1 2 A1 n (pcells ro)) (hn5 : n ≤ 8) :
    Calls Try.prog 60 #[.agg #[.int .i64 2, .string ⟨rn.toArray⟩, .int .i64 rf, .int .i64 rg, .slice A1 n c1, .int .i64 ri, .int .i64 rc, .string ⟨rd.toArray⟩, .int .u64 ra, .int .u64 rb, .int .u64 rx, .int .u64 ry]] w0 (TextsPost w0 (rtexts ⟨2, rn, rf, rg, ro, ri, rc, rd, ⟨ra, rb, rx, ry⟩⟩)) := by
  obtain ⟨i0, hi0, hz0, hz1, hz2⟩ := info_parts Try.infoS
  obtain ⟨L, hL⟩ : ∃ L, L = rtexts ⟨2, rn, rf, rg, ro, ri, rc, rd, ⟨ra, rb, rx, ry⟩⟩ := ⟨_, rfl⟩
  rw [← hL]
  have HL := Lib.hid hL
  have hTX := fun W (hb : Below w0.heap.size w0 W) => text_any ro n hn A1 c1 W B1 (hr1.below (hb.mono hB1)) (Nat.le_trans hB1 hb.size) (by omega)
  have HN := Lib.hid hn
  clear hL hn hr1
  have hk := Blk.new w0 47 #[.int .i64 2, .string ⟨rn.toArray⟩, .int .i64 rf, .int .i64 rg, .slice A1 n c1, .int .i64 ri, .int .i64 rc, .string ⟨rd.toArray⟩, .int .u64 ra, .int .u64 rb, .int .u64 rx, .int .u64 ry]
  have hbel := (Below.refl w0.heap.size w0).alloc (Nat.le_refl _) (.cells #[.int .i64 2, .string ⟨rn.toArray⟩, .int .i64 rf, .int .i64 rg, .slice A1 n c1, .int .i64 ri, .int .i64 rc, .string ⟨rd.toArray⟩, .int .u64 ra, .int .u64 rb, .int .u64 rx, .int .u64 ry] 47)
  go_enter Try.func60, Try.ntmps60
  go_wp2_with fail
  generalize w0.alloc (.cells #[.int .i64 2, .string ⟨rn.toArray⟩, .int .i64 rf, .int .i64 rg, .slice A1 n c1, .int .i64 ri, .int .i64 rc, .string ⟨rd.toArray⟩, .int .u64 ra, .int .u64 rb, .int .u64 rx, .int .u64 ry] 47) = w1 at hk hbel ⊢
  have hB0 : w0.heap.size ≤ w1.heap.size := hbel.size
  have HTX := Lib.hid (fun W (hb : Below w1.heap.size w1 W) => hTX W (hbel.trans (hb.mono hB0)))
  have hS := Lib.hid (fun (W' : World) (hB : Below w1.heap.size w1 W') => (blk12 (hk.below hB hk.lt) :
    W'.cell? ⟨w0.heap.size, 0, none⟩ = some (.int .i64 2) ∧ W'.cell? ⟨w0.heap.size, 1, none⟩ = some (.string ⟨rn.toArray⟩) ∧ W'.cell? ⟨w0.heap.size, 2, none⟩ = some (.int .i64 rf) ∧ W'.cell? ⟨w0.heap.size, 3, none⟩ = some (.int .i64 rg) ∧ W'.cell? ⟨w0.heap.size, 4, none⟩ = some (.slice A1 n c1) ∧ W'.cell? ⟨w0.heap.size, 5, none⟩ = some (.int .i64 ri) ∧ W'.cell? ⟨w0.heap.size, 6, none⟩ = some (.int .i64 rc) ∧ W'.cell? ⟨w0.heap.size, 7, none⟩ = some (.string ⟨rd.toArray⟩) ∧ W'.cell? ⟨w0.heap.size, 8, none⟩ = some (.int .u64 ra) ∧ W'.cell? ⟨w0.heap.size, 9, none⟩ = some (.int .u64 rb) ∧ W'.cell? ⟨w0.heap.size, 10, none⟩ = some (.int .u64 rx) ∧ W'.cell? ⟨w0.heap.size, 11, none⟩ = some (.int .u64 ry)))
  clear hk hTX
  obtain ⟨val, hval⟩ : ∃ val : Nat → Option Value, val = fun i => [some (.pointer (some ⟨w0.heap.size, 5, none⟩)), some (.int .i64 ri), none, none, some (.pointer (some ⟨w0.heap.size, 7, none⟩)), some (.string ⟨rd.toArray⟩), none, none, none][i]?.join := ⟨_, rfl⟩
  obtain ⟨row, hrow⟩ : ∃ row : Nat → Option (TypeId × Nat × List Value), row = fun i => [none, none, some (3, 1, icells [ri]), some (9, 1, scells ([ri].map n8)), none, none, some (9, 1, scells [rd]), some (9, 1 + 1, scells ([ri].map n8) ++ scells [rd]), some (9, 1 + 1, scells ([ri].map n8) ++ scells [rd])][i]?.join := ⟨_, rfl⟩
  obtain ⟨user, husr⟩ : ∃ user : Nat → Option Nat, user = fun i => [none, none, none, some 7, none, none, none, some 8, none][i]?.join := ⟨_, rfl⟩
  have v0 : val 0 = some (.pointer (some ⟨w0.heap.size, 5, none⟩)) := by rw [hval]; rfl
  have r0 : row 0 = none := by rw [hrow]; rfl
  have u0 : user 0 = none := by rw [husr]; rfl
  have v1 : val 1 = some (.int .i64 ri) := by rw [hval]; rfl
  have r1 : row 1 = none := by rw [hrow]; rfl
  have u1 : user 1 = none := by rw [husr]; rfl
  have v2 : val 2 = none := by rw [hval]; rfl
  have r2 : row 2 = some (3, 1, icells [ri]) := by rw [hrow]; rfl
  have u2 : user 2 = none := by rw [husr]; rfl
  have v3 : val 3 = none := by rw [hval]; rfl
  have r3 : row 3 = some (9, 1, scells ([ri].map n8)) := by rw [hrow]; rfl
  have u3 : user 3 = some 7 := by rw [husr]; rfl
  have v4 : val 4 = some (.pointer (some ⟨w0.heap.size, 7, none⟩)) := by rw [hval]; rfl
  have r4 : row 4 = none := by rw [hrow]; rfl
  have u4 : user 4 = none := by rw [husr]; rfl
  have v5 : val 5 = some (.string ⟨rd.toArray⟩) := by rw [hval]; rfl
  have r5 : row 5 = none := by rw [hrow]; rfl
  have u5 : user 5 = none := by rw [husr]; rfl
  have v6 : val 6 = none := by rw [hval]; rfl
  have r6 : row 6 = some (9, 1, scells [rd]) := by rw [hrow]; rfl
  have u6 : user 6 = none := by rw [husr]; rfl
  have v7 : val 7 = none := by rw [hval]; rfl
  have r7 : row 7 = some (9, 1 + 1, scells ([ri].map n8) ++ scells [rd]) := by rw [hrow]; rfl
  have u7 : user 7 = some 8 := by rw [husr]; rfl
  have v8 : val 8 = none := by rw [hval]; rfl
  have r8 : row 8 = some (9, 1 + 1, scells ([ri].map n8) ++ scells [rd]) := by rw [hrow]; rfl
  have u8 : user 8 = none := by rw [husr]; rfl
  clear hval hrow husr
  refine wp_region_inv (by kernel_rfl) (by kernel_rfl) (RowsK w1 val row user) RowsK.start ?_ ?_
  · intro i o ho m W hJ hmi hdeps AA KK hA hK
    rcases i with _ | _ | _ | _ | _ | _ | _ | _ | _ | i
    · injection ho with ho
      subst ho
      have e4 : AA.tmps[1]?.getD undef = .pointer (some ⟨w0.heap.size, 0, none⟩) := by rw [hA]; exact tmps_free (by kernel_rfl)
      have hK0 : KK (AA.put (some 23) _) _ := hK _ _ (hJ.pure (Below.refl _ _) r0 (fun x hx => by rw [v0] at hx; exact Option.some.inj hx))
      clear hA hdeps hK v0 v1 v2 v3 v4 v5 v6 v7 v8 r0 r1 r2 r3 r4 r5 r6 r7 r8 u0 u1 u2 u3 u4 u5 u6 u7 u8
      go_simp
      exact hK0
    · injection ho with ho
      subst ho
      have hx0 := hJ.det.get v0 (hdeps ⟨0, .data⟩ (by simp) rfl)
      have e0 : AA.tmps[23]?.getD undef = .pointer (some ⟨w0.heap.size, 5, none⟩) := by rw [hA]; exact tmps_own (by kernel_rfl) hx0 (of_decide_eq_true (by kernel_rfl))
      obtain ⟨c0_, c1_, c2_, c3_, c4_, c5_, c6_, c7_, c8_, c9_, c10_, c11_⟩ := hS.out W hJ.bel
      have hK0 : KK (AA.put (some 24) _) _ := hK _ _ (hJ.pure (Below.refl _ _) r1 (fun x hx => by rw [v1] at hx; exact Option.some.inj hx))
      clear hA hdeps hK v0 v1 v2 v3 v4 v5 v6 v7 v8 r0 r1 r2 r3 r4 r5 r6 r7 r8 u0 u1 u2 u3 u4 u5 u6 u7 u8
      go_simp
      exact hK0
    · injection ho with ho
      subst ho
      have hx1 := hJ.det.get v1 (hdeps ⟨1, .data⟩ (by simp) rfl)
      have e1 : AA.tmps[24]?.getD undef = .int .i64 ri := by rw [hA]; exact tmps_own (by kernel_rfl) hx1 (of_decide_eq_true (by kernel_rfl))
      have hK0 : KK (AA.put (some 25) _) _ := hK _ _ (hJ.new (W' := W.alloc (.cells #[.int .i64 ri] 3)) ((Below.refl _ _).alloc (Nat.le_refl _) _) r2 v2 (own_lit W #[.int .i64 ri] 3 1 rfl (by decide)))
      clear hA hdeps hK v0 v1 v2 v3 v4 v5 v6 v7 v8 r0 r1 r2 r3 r4 r5 r6 r7 r8 u0 u1 u2 u3 u4 u5 u6 u7 u8
      go_simp
      exact hK0
    · injection ho with ho
      subst ho
      obtain ⟨xq, hxq⟩ := Option.isSome_iff_exists.1 (hdeps ⟨2, .data⟩ (by simp) rfl)
      have eq : AA.tmps[25]?.getD undef = xq := by rw [hA]; exact tmps_own (by kernel_rfl) hxq (of_decide_eq_true (by kernel_rfl))
      have hoq := hJ.own 2 xq _ hxq r2 (fun u hu => by rw [u2] at hu; cases hu)
      obtain ⟨Aq, cq, rfl, _, _, hrq⟩ := own_form hoq
      have hKK := Lib.hid hK
      have HV := Lib.hid v3
      have HR := Lib.hid r3
      clear hA hdeps hK v0 v1 v2 v3 v4 v5 v6 v7 v8 r0 r1 r2 r3 r4 r5 r6 r7 r8 u0 u1 u2 u3 u4 u5 u6 u7 u8
      go_simp
      refine (numbers_any [ri] 1 rfl Aq cq W _ hrq (Nat.le_refl _) (by omega)).mono ?_
      rintro e w5 ⟨v, rfl, hown, hbn⟩
      exact hKK.out _ _ (hJ.new hbn HR.out HV.out hown)
    · injection ho with ho
      subst ho
      have e4 : AA.tmps[1]?.getD undef = .pointer (some ⟨w0.heap.size, 0, none⟩) := by rw [hA]; exact tmps_free (by kernel_rfl)
      have hK0 : KK (AA.put (some 27) _) _ := hK _ _ (hJ.pure (Below.refl _ _) r4 (fun x hx => by rw [v4] at hx; exact Option.some.inj hx))
      clear hA hdeps hK v0 v1 v2 v3 v4 v5 v6 v7 v8 r0 r1 r2 r3 r4 r5 r6 r7 r8 u0 u1 u2 u3 u4 u5 u6 u7 u8
      go_simp
      exact hK0
    · injection ho with ho
      subst ho
      have hx4 := hJ.det.get v4 (hdeps ⟨4, .data⟩ (by simp) rfl)
      have e4 : AA.tmps[27]?.getD undef = .pointer (some ⟨w0.heap.size, 7, none⟩) := by rw [hA]; exact tmps_own (by kernel_rfl) hx4 (of_decide_eq_true (by kernel_rfl))
      obtain ⟨c0_, c1_, c2_, c3_, c4_, c5_, c6_, c7_, c8_, c9_, c10_, c11_⟩ := hS.out W hJ.bel
      have hK0 : KK (AA.put (some 28) _) _ := hK _ _ (hJ.pure (Below.refl _ _) r5 (fun x hx => by rw [v5] at hx; exact Option.some.inj hx))
      clear hA hdeps hK v0 v1 v2 v3 v4 v5 v6 v7 v8 r0 r1 r2 r3 r4 r5 r6 r7 r8 u0 u1 u2 u3 u4 u5 u6 u7 u8
      go_simp
      exact hK0
    · injection ho with ho
      subst ho
      have hx5 := hJ.det.get v5 (hdeps ⟨5, .data⟩ (by simp) rfl)
      have e5 : AA.tmps[28]?.getD undef = .string ⟨rd.toArray⟩ := by rw [hA]; exact tmps_own (by kernel_rfl) hx5 (of_decide_eq_true (by kernel_rfl))
      have hK0 : KK (AA.put (some 29) _) _ := hK _ _ (hJ.new (W' := W.alloc (.cells #[.string ⟨rd.toArray⟩] 9)) ((Below.refl _ _).alloc (Nat.le_refl _) _) r6 v6 (own_lit W #[.string ⟨rd.toArray⟩] 9 1 rfl (by decide)))
      clear hA hdeps hK v0 v1 v2 v3 v4 v5 v6 v7 v8 r0 r1 r2 r3 r4 r5 r6 r7 r8 u0 u1 u2 u3 u4 u5 u6 u7 u8
      go_simp
      exact hK0
    · injection ho with ho
      subst ho
      obtain ⟨xp, hxp⟩ := Option.isSome_iff_exists.1 (hdeps ⟨3, .data⟩ (by simp) rfl)
      have ep : AA.tmps[26]?.getD undef = xp := by rw [hA]; exact tmps_own (by kernel_rfl) hxp (of_decide_eq_true (by kernel_rfl))
      obtain ⟨xq, hxq⟩ := Option.isSome_iff_exists.1 (hdeps ⟨6, .data⟩ (by simp) rfl)
      have eq : AA.tmps[29]?.getD undef = xq := by rw [hA]; exact tmps_own (by kernel_rfl) hxq (of_decide_eq_true (by kernel_rfl))
      have hop := hJ.own 3 xp _ hxp r3 (LiveK.of u3 hmi)
      have hoq := hJ.own 6 xq _ hxq r6 (fun u hu => by rw [u6] at hu; cases hu)
      obtain ⟨Aq, cq, rfl, _, _, hrq⟩ := own_form hoq
      have htk := fun (v : Value) (W' : World) => hJ.take (W' := W') (v := v) u3 r3 r7 hxp hmi v7
      have hKK := Lib.hid hK
      clear hA hdeps hK v0 v1 v2 v3 v4 v5 v6 v7 v8 r0 r1 r2 r3 r4 r5 r6 r7 r8 u0 u1 u2 u3 u4 u5 u6 u7 u8
      refine step_append_any W rfl (.tmp 26) (.tmp 29) _ rfl w1.heap.size 9 i0 (.string ByteArray.empty) 1 16 Try.underlying23 hi0 hz0 hz1 hz2 rfl (by decide) xp (1) _ ?_ hop W.heap.size Aq (1) cq _ ?_ hrq (by intro u hu; first | exact scells_one _ u hu | exact bts_one _ u hu) (by unfold maxLen; omega) (by omega) hJ.bel.size ?_
      · simpa [Act.eval] using ep
      · simpa [Act.eval] using eq
      · intro v' w' h1 h2 h3
        exact hKK.out _ _ (htk v' w' h2 h1 h3)
    · injection ho with ho
      subst ho
      obtain ⟨xp, hxp⟩ := Option.isSome_iff_exists.1 (hdeps ⟨7, .data⟩ (by simp) rfl)
      have ep : AA.tmps[30]?.getD undef = xp := by rw [hA]; exact tmps_own (by kernel_rfl) hxp (of_decide_eq_true (by kernel_rfl))
      have hop := hJ.own 7 xp _ hxp r7 (LiveK.of u7 hmi)
      have hK0 : KK (AA.put (some 2) _) _ := hK xp W (hJ.take u7 r7 r8 hxp hmi v8 (World.grownBy.refl _ _) hop (.inl rfl))
      clear hA hdeps hK v0 v1 v2 v3 v4 v5 v6 v7 v8 r0 r1 r2 r3 r4 r5 r6 r7 r8 u0 u1 u2 u3 u4 u5 u6 u7 u8
      go_simp
      exact hK0
    · simp at ho
  · intro m W hJ hall
    have m0 := hJ.det.get v0 (hall 0 (by simp))
    have m1 := hJ.det.get v1 (hall 1 (by simp))
    obtain ⟨x2, m2⟩ := Option.isSome_iff_exists.1 (hall 2 (by simp))
    obtain ⟨x3, m3⟩ := Option.isSome_iff_exists.1 (hall 3 (by simp))
    have m4 := hJ.det.get v4 (hall 4 (by simp))
    have m5 := hJ.det.get v5 (hall 5 (by simp))
    obtain ⟨x6, m6⟩ := Option.isSome_iff_exists.1 (hall 6 (by simp))
    obtain ⟨x7, m7⟩ := Option.isSome_iff_exists.1 (hall 7 (by simp))
    obtain ⟨x8, m8⟩ := Option.isSome_iff_exists.1 (hall 8 (by simp))
    have hown := hJ.own 8 x8 _ m8 r8 (fun u hu => by rw [u8] at hu; cases hu)
    have hbx := hJ.bel
    rw [frameM_all (by kernel_rfl) [.pointer (some ⟨w0.heap.size, 5, none⟩), .int .i64 ri, x2, x3, .pointer (some ⟨w0.heap.size, 7, none⟩), .string ⟨rd.toArray⟩, x6, x7, x8] rfl (fun i hi => by
        rcases i with _ | _ | _ | _ | _ | _ | _ | _ | _ | i
        · exact m0
        · exact m1
        · exact m2
        · exact m3
        · exact m4
        · exact m5
        · exact m6
        · exact m7
        · exact m8
        · simp at hi; omega)]
    clear hJ hall m0 m1 m2 m3 m4 m5 m6 m7 m8 v0 v1 v2 v3 v4 v5 v6 v7 v8 r0 r1 r2 r3 r4 r5 r6 r7 r8 u0 u1 u2 u3 u4 u5 u6 u7 u8
    simp only [putAll, Act.put, List.setIfInBounds_toArray, List.set_cons_succ, List.set_cons_zero]
    repeat go_step
    go_ret
    exact ⟨_, rfl, by rw [HL.out]; exact own_cast (own_mono hown hB0) (by simp [rtexts]) (by simp [rtexts, scells]), hbel.trans (hbx.mono hB0)⟩

set_option maxRecDepth 100000 in
set_option maxHeartbeats 4000000 in
theorem texts3_any (rn : BS) (rf rg : Int) (ro : PL) (ri rc : Int) (rd : BS) (ra rb rx ry : Int) (n : Nat) (hn : n = ro.length) (A1 : Option Addr) (c1 : Nat) (w0 : World) (B1 : Nat) (hB1 : B1 ≤ w0.heap.size) (hr1 : Reads w0 B1 2 A1 n (pcells ro)) (hn5 : n ≤ 8) :
    Calls Try.prog 60 #[.agg #[.int .i64 3, .string ⟨rn.toArray⟩, .int .i64 rf, .int .i64 rg, .slice A1 n c1, .int .i64 ri, .int .i64 rc, .string ⟨rd.toArray⟩, .int .u64 ra, .int .u64 rb, .int .u64 rx, .int .u64 ry]] w0 (TextsPost w0 (rtexts ⟨3, rn, rf, rg, ro, ri, rc, rd, ⟨ra, rb, rx, ry⟩⟩)) := by
  obtain ⟨i0, hi0, hz0, hz1, hz2⟩ := info_parts Try.infoS
  obtain ⟨L, hL⟩ : ∃ L, L = rtexts ⟨3, rn, rf, rg, ro, ri, rc, rd, ⟨ra, rb, rx, ry⟩⟩ := ⟨_, rfl⟩
  rw [← hL]
  have HL := Lib.hid hL
  have hTX := fun W (hb : Below w0.heap.size w0 W) => text_any ro n hn A1 c1 W B1 (hr1.below (hb.mono hB1)) (Nat.le_trans hB1 hb.size) (by omega)
  have HN := Lib.hid hn
  clear hL hn hr1
  have hk := Blk.new w0 47 #[.int .i64 3, .string ⟨rn.toArray⟩, .int .i64 rf, .int .i64 rg, .slice A1 n c1, .int .i64 ri, .int .i64 rc, .string ⟨rd.toArray⟩, .int .u64 ra, .int .u64 rb, .int .u64 rx, .int .u64 ry]
  have hbel := (Below.refl w0.heap.size w0).alloc (Nat.le_refl _) (.cells #[.int .i64 3, .string ⟨rn.toArray⟩, .int .i64 rf, .int .i64 rg, .slice A1 n c1, .int .i64 ri, .int .i64 rc, .string ⟨rd.toArray⟩, .int .u64 ra, .int .u64 rb, .int .u64 rx, .int .u64 ry] 47)
  have hz1 : (w0.alloc (.cells #[.int .i64 3, .string ⟨rn.toArray⟩, .int .i64 rf, .int .i64 rg, .slice A1 n c1, .int .i64 ri, .int .i64 rc, .string ⟨rd.toArray⟩, .int .u64 ra, .int .u64 rb, .int .u64 rx, .int .u64 ry] 47)).heap.size = w0.heap.size + 1 := by simp
  have hrd := Reads.lit (w0.alloc (.cells #[.int .i64 3, .string ⟨rn.toArray⟩, .int .i64 rf, .int .i64 rg, .slice A1 n c1, .int .i64 ri, .int .i64 rc, .string ⟨rd.toArray⟩, .int .u64 ra, .int .u64 rb, .int .u64 rx, .int .u64 ry] 47)) #[.int .i64 ri, .int .i64 rc] 3 (n := 2) (size := 1) rfl
  rw [hz1] at hrd
  have hnm := numbers_any [ri, rc] 2 rfl (some ⟨w0.heap.size + 1, 0, none⟩) 2 _ _ hrd (by simp) (by omega)
  have hb2 := hbel.alloc (by simp) (.cells #[.int .i64 ri, .int .i64 rc] 3)
  have HNM := Lib.hid hnm
  have HB := Lib.hid hb2
  clear hnm hrd hz1 hb2 hbel hk
  go_enter Try.func60, Try.ntmps60
  go_wp2_with fail
  refine HNM.out.mono ?_
  rintro e w2 ⟨v, rfl, hown, hbn⟩
  have HO := Lib.hid (own_mono hown HB.out.size)
  have HB3 := Lib.hid (HB.out.trans (hbn.mono HB.out.size))
  clear hown hbn
  go_wp2_with fail
  go_ret
  exact ⟨_, rfl, by rw [HL.out]; exact own_cast HO.out (by simp [rtexts]) (by simp [rtexts, scells]), HB3.out⟩

set_option maxRecDepth 100000 in
set_option maxHeartbeats 4000000 in
theorem texts4_any (rn : BS) (rf rg : Int) (ro : PL) (ri rc : Int) (rd : BS) (ra rb rx ry : Int) (n : Nat) (hn : n = ro.length) (A1 : Option Addr) (c1 : Nat) (w0 : World) (B1 : Nat) (hB1 : B1 ≤ w0.heap.size) (hr1 : Reads w0 B1 2 A1 n (pcells ro)) (hn5 : n ≤ 8) :
    Calls Try.prog 60 #[.agg #[.int .i64 4, .string ⟨rn.toArray⟩, .int .i64 rf, .int .i64 rg, .slice A1 n c1, .int .i64 ri, .int .i64 rc, .string ⟨rd.toArray⟩, .int .u64 ra, .int .u64 rb, .int .u64 rx, .int .u64 ry]] w0 (TextsPost w0 (rtexts ⟨4, rn, rf, rg, ro, ri, rc, rd, ⟨ra, rb, rx, ry⟩⟩)) := by
  obtain ⟨i0, hi0, hz0, hz1, hz2⟩ := info_parts Try.infoS
  obtain ⟨L, hL⟩ : ∃ L, L = rtexts ⟨4, rn, rf, rg, ro, ri, rc, rd, ⟨ra, rb, rx, ry⟩⟩ := ⟨_, rfl⟩
  rw [← hL]
  have HL := Lib.hid hL
  have hTX := fun W (hb : Below w0.heap.size w0 W) => text_any ro n hn A1 c1 W B1 (hr1.below (hb.mono hB1)) (Nat.le_trans hB1 hb.size) (by omega)
  have HN := Lib.hid hn
  clear hL hn hr1
  have hk := Blk.new w0 47 #[.int .i64 4, .string ⟨rn.toArray⟩, .int .i64 rf, .int .i64 rg, .slice A1 n c1, .int .i64 ri, .int .i64 rc, .string ⟨rd.toArray⟩, .int .u64 ra, .int .u64 rb, .int .u64 rx, .int .u64 ry]
  have hbel := (Below.refl w0.heap.size w0).alloc (Nat.le_refl _) (.cells #[.int .i64 4, .string ⟨rn.toArray⟩, .int .i64 rf, .int .i64 rg, .slice A1 n c1, .int .i64 ri, .int .i64 rc, .string ⟨rd.toArray⟩, .int .u64 ra, .int .u64 rb, .int .u64 rx, .int .u64 ry] 47)
  have hoc := octets_any ⟨ra, rb, rx, ry⟩ (w0.alloc (.cells #[.int .i64 4, .string ⟨rn.toArray⟩, .int .i64 rf, .int .i64 rg, .slice A1 n c1, .int .i64 ri, .int .i64 rc, .string ⟨rd.toArray⟩, .int .u64 ra, .int .u64 rb, .int .u64 rx, .int .u64 ry] 47))
  have HOC := Lib.hid hoc
  have HB := Lib.hid hbel
  clear hoc hbel hk
  go_enter Try.func60, Try.ntmps60
  go_wp2_with fail
  refine HOC.out.mono ?_
  rintro e w2 ⟨v, rfl, hown, hbn⟩
  obtain ⟨A2, c2, rfl, _, _, hr2⟩ := own_form hown
  have hst := str_of (P := Try.prog) (c := c2) hr2 (octL_length _ _ _ _).symm Try.underlying27 Try.underlying5 Try.underlying9
  have hb3 := HB.out.trans (hbn.mono HB.out.size)
  have HO := Lib.hid (own_lit w2 #[.string ⟨(octL ra rb rx ry).toArray⟩] 9 1 rfl (by decide))
  have HB3 := Lib.hid (hb3.alloc hb3.size (.cells #[.string ⟨(octL ra rb rx ry).toArray⟩] 9))
  have HZ := Lib.hid hb3.size
  clear hown hbn hb3 hr2
  go_wp2_with fail
  go_ret
  exact ⟨_, rfl, by rw [HL.out]; exact own_cast (own_mono HO.out HZ.out) (by simp [rtexts]) (by simp [rtexts, scells, strV]), HB3.out⟩
theorem rtexts_any (r : Rc) (hk : r.kind = 1 ∨ r.kind = 2 ∨ r.kind = 3 ∨ r.kind = 4) (n : Nat) (hn : n = r.own.length) (A1 : Option Addr) (c1 : Nat) (w0 : World) (B1 : Nat) (hB1 : B1 ≤ w0.heap.size) (hr1 : Reads w0 B1 2 A1 n (pcells r.own)) (hn5 : n ≤ 8) :
    Calls Try.prog 60 #[rcV r (.slice A1 n c1)] w0 (TextsPost w0 (rtexts r)) := by
  obtain ⟨rk, rn, rf, rg, ro, ri, rc, rd, ⟨ra, rb, rx, ry⟩⟩ := r
  simp only at hk hn hr1
  rcases hk with rfl | rfl | rfl | rfl
  · exact texts1_any rn rf rg ro ri rc rd ra rb rx ry n hn A1 c1 w0 B1 hB1 hr1 hn5
  · exact texts2_any rn rf rg ro ri rc rd ra rb rx ry n hn A1 c1 w0 B1 hB1 hr1 hn5
  · exact texts3_any rn rf rg ro ri rc rd ra rb rx ry n hn A1 c1 w0 B1 hB1 hr1 hn5
  · exact texts4_any rn rf rg ro ri rc rd ra rb rx ry n hn A1 c1 w0 B1 hB1 hr1 hn5
end Go.Proofs.Ytcbeadldieeceaa
