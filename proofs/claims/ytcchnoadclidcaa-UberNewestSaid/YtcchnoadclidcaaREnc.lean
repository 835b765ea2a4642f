/-
  The page's Encode of an uberblock, by its contract.
-/
import Derived.Test.YtcchnoadclidcaaRowsJ
import Derived.Test.YtcchnoadclidcaaSumO
import Derived.Test.YtcchnoadclidcaaRFeed
import Derived.Test.YtcchnoadclidcaaRPut
import Derived.ArgAppend
import Derived.Lib.SlBytesConst
namespace Go.Proofs.Ytcchnoadclidcaa
open Go.RowKit

theorem rfeed_n2 (s : Sm) (b : List UInt8) (n : Nat) (hnb : n = b.length) (A : Option Addr) (c : Nat) (w : World) (B : Nat) (hr : Reads w B 1 A n (bts b)) (hB : B ≤ w.heap.size) (hn : n ≤ 140737488351232) :
    Calls Try.prog 30 #[s.val, .slice A n c] w fun e w' => e = .returned (feedL s (words b)).val ∧ Below w.heap.size w w' := by
  subst hnb
  exact rfeed_any s b A c w B hr hB hn

theorem tmps_pre {ops : Array Oper} {a0 : Act} {m : Nat → Option Value} {k i : Nat} (hw : ownerOf ops k = some i) (hm : m i = none) : (frameM a0 ops m).tmps[k]?.getD undef = a0.tmps[k]?.getD undef := by
  by_cases hk : k < a0.tmps.size <;> simp [frameM, hk, hw, hm]

theorem step_append_run {P : Program} {w w' : World} {ops : Array Oper} {o : Oper} {a : Act} {K : Act → World → Prop} {Q : Exit → Act → World → Prop} {E : Prop} (hgd : o.guard = none) (s x : Operand) (t : TypeId)
    (ho : o.op = .call { callee := .builtin .append, args := #[s, x], argTypes := #[t, t] }) {v1 v2 v' : Value} (hs : a.eval s = v1) (hx : a.eval x = v2) (hrun : (Builtin.append_ #[t, t] o.type #[v1, v2]).run P w = .ok v' w')
    (h : K (a.put o.dst v') w') : if Region.wanted o (yielded ops a.tmps) = true then Oper.wp P o a w K Q else E := by
  have hw : Region.wanted o (yielded ops a.tmps) = true := by simp [Region.wanted, hgd]
  rw [if_pos hw]
  unfold Oper.wp execOp
  simp only [ho, resolve, invoke, builtin, Sem.run_bind, Sem.run_pure, Result.andThen_ok, List.map_toArray, List.map_cons, List.map_nil, hs, hx, hrun]
  exact h

set_option maxRecDepth 100000 in
set_option maxHeartbeats 1000000 in
theorem rencode_bad (u : Ub) (h : ¬ u.ok) (w0 : World) : Calls Try.prog 38 #[u.val] w0 fun e w' => e = .returned (.tuple #[.slice none 0 0, .int .i64 4]) ∧ Below w0.heap.size w0 w' := by
  obtain ⟨t, f, o⟩ := u
  show Calls _ _ #[.agg #[.int .i64 t, .int .i64 f, .int .i64 o]] _ _
  by_cases h1 : t < 1
  · clear h; (go_enter Try.func38, Try.ntmps38; go_wp2_with fail; go_ret2; exact ⟨rfl, (Below.refl _ _).alloc (Nat.le_refl _) _⟩)
  by_cases h2 : 1099511627776 < t
  · clear h; (go_enter Try.func38, Try.ntmps38; go_wp2_with fail; go_ret2; exact ⟨rfl, (Below.refl _ _).alloc (Nat.le_refl _) _⟩)
  by_cases h9 : f < 0
  · clear h; (go_enter Try.func38, Try.ntmps38; go_wp2_with fail; go_ret2; exact ⟨rfl, (Below.refl _ _).alloc (Nat.le_refl _) _⟩)
  by_cases h8 : f = 1
  · subst h8
    clear h; (go_enter Try.func38, Try.ntmps38; go_wp2_with fail; go_ret2; exact ⟨rfl, (Below.refl _ _).alloc (Nat.le_refl _) _⟩)
  have h8' : (f == 1) = false := by simp [h8]
  by_cases h10 : 8192 ≤ f
  · clear h; (go_enter Try.func38, Try.ntmps38; go_wp2_with fail; go_ret2; exact ⟨rfl, (Below.refl _ _).alloc (Nat.le_refl _) _⟩)
  by_cases h4 : o < 0
  · clear h; (go_enter Try.func38, Try.ntmps38; go_wp2_with fail; go_ret2; exact ⟨rfl, (Below.refl _ _).alloc (Nat.le_refl _) _⟩)
  by_cases h5 : 1024 < o
  · clear h; (go_enter Try.func38, Try.ntmps38; go_wp2_with fail; go_ret2; exact ⟨rfl, (Below.refl _ _).alloc (Nat.le_refl _) _⟩)
  by_cases h3 : f = 0
  · subst h3
    by_cases h6 : o = 0
    · exact absurd ⟨⟨by simp only; omega, by simp only; omega⟩, ⟨.inl rfl, by simp⟩, ⟨by simp only; omega, by simp only; omega⟩, by simp [h6]⟩ h
    have h7 : (o == 0) = false := by simp [h6]
    clear h
    (go_enter Try.func38, Try.ntmps38; go_wp2_with fail; go_ret2; exact ⟨rfl, (Below.refl _ _).alloc (Nat.le_refl _) _⟩)
  have h3' : (f == 0) = false := by simp [h3]
  by_cases h6 : o = 0
  · subst h6
    clear h
    (go_enter Try.func38, Try.ntmps38; go_wp2_with fail; go_ret2; exact ⟨rfl, (Below.refl _ _).alloc (Nat.le_refl _) _⟩)
  · exact absurd ⟨⟨by simp only; omega, by simp only; omega⟩, ⟨.inr (by simp only; omega), by simp only; omega⟩, ⟨by simp only; omega, by simp only; omega⟩, by simp [h6, h3]⟩ h

set_option maxRecDepth 100000 in
set_option maxHeartbeats 1000000 in
theorem rencode_ok (u : Ub) (h : u.ok) (w0 : World) : Calls Try.prog 38 #[u.val] w0 fun e w' => ∃ v, e = .returned (.tuple #[v, .int .i64 0]) ∧ w'.ownsRow w0.heap.size 5 1 v 64 (bts (encL u)) ∧ Below w0.heap.size w0 w' := by
  obtain ⟨i0, hi0, hz0, hz1, hz2⟩ := info_parts Try.infoU8c
  obtain ⟨t, f, o⟩ := u
  obtain ⟨⟨a1, a2⟩, ⟨a3, a4⟩, ⟨a5, a6⟩, a7⟩ := h
  simp only at a1 a2 a3 a4 a5 a6 a7
  show Calls _ _ #[.agg #[.int .i64 t, .int .i64 f, .int .i64 o]] _ _
  have kc : (convert 25 25 (.slice (some ⟨w0.heap.size + 1, 0, none⟩) 4 4)).run Try.prog ((w0.alloc (.cells #[.int .i64 t, .int .i64 f, .int .i64 o] 56)).alloc (.cells #[.int .u8 103, .int .u8 100, .int .u8 110, .int .u8 49] 5)) =
      .ok (.slice (some ⟨w0.heap.size + 1, 0, none⟩) 4 4) ((w0.alloc (.cells #[.int .i64 t, .int .i64 f, .int .i64 o] 56)).alloc (.cells #[.int .u8 103, .int .u8 100, .int .u8 110, .int .u8 49] 5 (4, 5))) := by
    have h := Lib.run_convert_bytes_const (P := Try.prog) (w0.alloc (.cells #[.int .i64 t, .int .i64 f, .int .i64 o] 56)) 25 5 #[.int .u8 103, .int .u8 100, .int .u8 110, .int .u8 49] 4 4 Try.underlying25 Try.underlying5
    simpa using h
  have b1 : (f == 1) = false := by simp; omega
  have b2 : ¬ f < 0 := by omega
  have b5 : ((f == 0) == (o == 0)) = true := by
    by_cases h3 : f = 0
    · simp [h3, a7.1 h3]
    · have h6 : ¬ o = 0 := fun e => h3 (a7.2 e)
      have x1 : (f == 0) = false := by simp [h3]
      have x2 : (o == 0) = false := by simp [h6]
      rw [x1, x2]; rfl
  have b4 : (!((f == 0) == (o == 0))) = false := by rw [b5]; rfl
  clear a3 a7
  go_enter Try.func38, Try.ntmps38
  go_wp2_with fail
  have hk0 := (Blk.new w0 56 #[.int .i64 t, .int .i64 f, .int .i64 o]).alloc (.cells #[.int .u8 103, .int .u8 100, .int .u8 110, .int .u8 49] 5 (4, 5))
  have hrow0 := heap_alloc_new (w0.alloc (.cells #[.int .i64 t, .int .i64 f, .int .i64 o] 56)) (.cells #[.int .u8 103, .int .u8 100, .int .u8 110, .int .u8 49] 5 (4, 5))
  have hbel := ((Below.refl w0.heap.size w0).alloc (Nat.le_refl _) (.cells #[.int .i64 t, .int .i64 f, .int .i64 o] 56)).alloc (by simp) (.cells #[.int .u8 103, .int .u8 100, .int .u8 110, .int .u8 49] 5 (4, 5))
  rw [show (w0.alloc (.cells #[.int .i64 t, .int .i64 f, .int .i64 o] 56)).heap.size = w0.heap.size + 1 by simp] at hrow0
  obtain ⟨g0, hg0⟩ : ∃ g, g = w0.heap.size + 1 := ⟨_, rfl⟩
  rw [← hg0] at hrow0 ⊢
  generalize (w0.alloc (.cells #[.int .i64 t, .int .i64 f, .int .i64 o] 56)).alloc (.cells #[.int .u8 103, .int .u8 100, .int .u8 110, .int .u8 49] 5 (4, 5)) = w1 at hk0 hrow0 hbel ⊢
  have hB0 : w0.heap.size ≤ w1.heap.size := hbel.size
  have hglt : g0 < w1.heap.size := (Array.getElem?_eq_some_iff.1 hrow0).1
  have hS := Lib.hid (fun (W' : World) (hB : Below w1.heap.size w1 W') => (by obtain ⟨d0, d1, d2, _⟩ := blk3 (hk0.below hB hk0.lt); exact ⟨d0, d1, d2⟩ :
    W'.cell? ⟨w0.heap.size, 0, none⟩ = some (.int .i64 t) ∧ W'.cell? ⟨w0.heap.size, 1, none⟩ = some (.int .i64 f) ∧ W'.cell? ⟨w0.heap.size, 2, none⟩ = some (.int .i64 o)))
  have hM := Lib.hid (fun (W' : World) (hB : Below w1.heap.size w1 W') => (fun j u hu => by
    rw [addr_add0, cell_of_row _ _ j _ _ _ ((hB.block g0 hglt).trans hrow0), ← Array.getElem?_toList]
    exact hu : ∀ (j : Nat) (u : Value), (bts magicL)[j]? = some u → W'.cell? ((⟨g0, 0, none⟩ : Addr).add j) = some u))
  clear hk0 hrow0 hg0
  obtain ⟨val, hval⟩ : ∃ val : Nat → Option Value, val = fun i => [some (.slice (some ⟨g0, 0, none⟩) 4 4), some (.pointer (some ⟨w0.heap.size, 0, none⟩)), some (.int .i64 t), none, none, some (.pointer (some ⟨w0.heap.size, 1, none⟩)), some (.int .i64 f), none, none, some (.pointer (some ⟨w0.heap.size, 2, none⟩)), some (.int .i64 o), none, none, none][i]?.join := ⟨_, rfl⟩
  obtain ⟨row, hrow⟩ : ∃ row : Nat → Option (Nat × List UInt8), row = fun i => [none, none, none, some (8, putL t 8), some (12, magicL ++ putL t 8), none, none, some (4, putL f 4), some (16, magicL ++ putL t 8 ++ putL f 4), none, none, some (4, putL o 4), some (20, magicL ++ putL t 8 ++ putL f 4 ++ putL o 4), some (20, magicL ++ putL t 8 ++ putL f 4 ++ putL o 4)][i]?.join := ⟨_, rfl⟩
  obtain ⟨user, husr⟩ : ∃ user : Nat → Option Nat, user = fun i => [none, none, none, none, some 8, none, none, none, some 12, none, none, none, some 13, none][i]?.join := ⟨_, rfl⟩
  have v0 : val 0 = some (.slice (some ⟨g0, 0, none⟩) 4 4) := by rw [hval]; rfl
  have v1 : val 1 = some (.pointer (some ⟨w0.heap.size, 0, none⟩)) := by rw [hval]; rfl
  have v2 : val 2 = some (.int .i64 t) := by rw [hval]; rfl
  have v3 : val 3 = none := by rw [hval]; rfl
  have v4 : val 4 = none := by rw [hval]; rfl
  have v5 : val 5 = some (.pointer (some ⟨w0.heap.size, 1, none⟩)) := by rw [hval]; rfl
  have v6 : val 6 = some (.int .i64 f) := by rw [hval]; rfl
  have v7 : val 7 = none := by rw [hval]; rfl
  have v8 : val 8 = none := by rw [hval]; rfl
  have v9 : val 9 = some (.pointer (some ⟨w0.heap.size, 2, none⟩)) := by rw [hval]; rfl
  have v10 : val 10 = some (.int .i64 o) := by rw [hval]; rfl
  have v11 : val 11 = none := by rw [hval]; rfl
  have v12 : val 12 = none := by rw [hval]; rfl
  have v13 : val 13 = none := by rw [hval]; rfl
  have r0 : row 0 = none := by rw [hrow]; rfl
  have r1 : row 1 = none := by rw [hrow]; rfl
  have r2 : row 2 = none := by rw [hrow]; rfl
  have r3 : row 3 = some (8, putL t 8) := by rw [hrow]; rfl
  have r4 : row 4 = some (12, magicL ++ putL t 8) := by rw [hrow]; rfl
  have r5 : row 5 = none := by rw [hrow]; rfl
  have r6 : row 6 = none := by rw [hrow]; rfl
  have r7 : row 7 = some (4, putL f 4) := by rw [hrow]; rfl
  have r8 : row 8 = some (16, magicL ++ putL t 8 ++ putL f 4) := by rw [hrow]; rfl
  have r9 : row 9 = none := by rw [hrow]; rfl
  have r10 : row 10 = none := by rw [hrow]; rfl
  have r11 : row 11 = some (4, putL o 4) := by rw [hrow]; rfl
  have r12 : row 12 = some (20, magicL ++ putL t 8 ++ putL f 4 ++ putL o 4) := by rw [hrow]; rfl
  have r13 : row 13 = some (20, magicL ++ putL t 8 ++ putL f 4 ++ putL o 4) := by rw [hrow]; rfl
  have u4 : user 4 = some 8 := by rw [husr]; rfl
  have u8 : user 8 = some 12 := by rw [husr]; rfl
  have u12 : user 12 = some 13 := by rw [husr]; rfl
  have un3 : user 3 = none := by rw [husr]; rfl
  have un7 : user 7 = none := by rw [husr]; rfl
  have un11 : user 11 = none := by rw [husr]; rfl
  have un13 : user 13 = none := by rw [husr]; rfl
  clear hval hrow husr
  refine wp_region_inv (by kernel_rfl) (by kernel_rfl) (fun m W => RowsJ w1 val row user m W ∧ (m 0 = none → m 13 = none)) ⟨RowsJ.start, fun _ => rfl⟩ ?_ ?_
  · intro i oo ho m W hJ hmi hdeps AA KK hA hKp
    obtain ⟨hJ, hQ⟩ := hJ
    rcases i with _ | _ | _ | _ | _ | _ | _ | _ | _ | _ | _ | _ | _ | _ | i
    · injection ho with ho
      subst ho
      have hK := fun v W1 (hj : RowsJ w1 val row user (upd m 0 v) W1) => hKp v W1 ⟨hj, (fun h => by rw [upd_self] at h; cases h)⟩
      clear hKp
      have e4 : AA.tmps[4]?.getD undef = .slice (some ⟨g0, 0, none⟩) 4 4 := by rw [hA]; exact tmps_pre (i := 13) (by kernel_rfl) (hQ hmi)
      have hK0 : KK (AA.put (some 49) _) _ := hK _ _ (hJ.pure (Below.refl _ _) r0 (fun x hx => by rw [v0] at hx; exact Option.some.inj hx))
      clear hA hdeps hK hQ v0 v1 v2 v3 v4 v5 v6 v7 v8 v9 v10 v11 v12 v13 r0 r1 r2 r3 r4 r5 r6 r7 r8 r9 r10 r11 r12 r13 u4 u8 u12
      go_simp
      exact hK0
    · injection ho with ho
      subst ho
      have hK := fun v W1 (hj : RowsJ w1 val row user (upd m 1 v) W1) => hKp v W1 ⟨hj, (by rw [upd_ne m v (by decide), upd_ne m v (by decide)]; exact hQ)⟩
      clear hKp
      have e4 : AA.tmps[1]?.getD undef = .pointer (some ⟨w0.heap.size, 0, none⟩) := by rw [hA]; exact tmps_free (by kernel_rfl)
      have hK0 : KK (AA.put (some 50) _) _ := hK _ _ (hJ.pure (Below.refl _ _) r1 (fun x hx => by rw [v1] at hx; exact Option.some.inj hx))
      clear hA hdeps hK hQ v0 v1 v2 v3 v4 v5 v6 v7 v8 v9 v10 v11 v12 v13 r0 r1 r2 r3 r4 r5 r6 r7 r8 r9 r10 r11 r12 r13 u4 u8 u12
      go_simp
      exact hK0
    · injection ho with ho
      subst ho
      have hK := fun v W1 (hj : RowsJ w1 val row user (upd m 2 v) W1) => hKp v W1 ⟨hj, (by rw [upd_ne m v (by decide), upd_ne m v (by decide)]; exact hQ)⟩
      clear hKp
      have hx1 := hJ.det.get v1 (hdeps ⟨1, .data⟩ (by simp) rfl)
      have e1 : AA.tmps[50]?.getD undef = .pointer (some ⟨w0.heap.size, 0, none⟩) := by rw [hA]; exact tmps_own (by kernel_rfl) hx1 (of_decide_eq_true (by kernel_rfl))
      obtain ⟨c0, c1, c2⟩ := hS.out W hJ.bel
      have hK0 : KK (AA.put (some 51) _) _ := hK _ _ (hJ.pure (Below.refl _ _) r2 (fun x hx => by rw [v2] at hx; exact Option.some.inj hx))
      clear hA hdeps hK hQ v0 v1 v2 v3 v4 v5 v6 v7 v8 v9 v10 v11 v12 v13 r0 r1 r2 r3 r4 r5 r6 r7 r8 r9 r10 r11 r12 r13 u4 u8 u12
      go_simp
      exact hK0
    · injection ho with ho
      subst ho
      have hK := fun v W1 (hj : RowsJ w1 val row user (upd m 3 v) W1) => hKp v W1 ⟨hj, (by rw [upd_ne m v (by decide), upd_ne m v (by decide)]; exact hQ)⟩
      clear hKp
      have hx2 := hJ.det.get v2 (hdeps ⟨2, .data⟩ (by simp) rfl)
      have e2 : AA.tmps[51]?.getD undef = .int .i64 t := by rw [hA]; exact tmps_own (by kernel_rfl) hx2 (of_decide_eq_true (by kernel_rfl))
      have hKK := Lib.hid hK
      have HV := Lib.hid v3
      have HR := Lib.hid r3
      clear hA hdeps hK hQ v0 v1 v2 v3 v4 v5 v6 v7 v8 v9 v10 v11 v12 v13 r0 r1 r2 r3 r4 r5 r6 r7 r8 r9 r10 r11 r12 r13 u4 u8 u12
      go_simp
      refine (rput8_any t _).mono ?_
      rintro e w5 ⟨v, rfl, hown, hbn⟩
      exact hKK.out _ _ (hJ.new hbn HR.out HV.out hown)
    · injection ho with ho
      subst ho
      have hK := fun v W1 (hj : RowsJ w1 val row user (upd m 4 v) W1) => hKp v W1 ⟨hj, (by rw [upd_ne m v (by decide), upd_ne m v (by decide)]; exact hQ)⟩
      clear hKp
      have hx0 := hJ.det.get v0 (hdeps ⟨0, .data⟩ (by simp) rfl)
      have e0 : AA.tmps[49]?.getD undef = .slice (some ⟨g0, 0, none⟩) 4 4 := by rw [hA]; exact tmps_own (by kernel_rfl) hx0 (of_decide_eq_true (by kernel_rfl))
      obtain ⟨xq, hxq⟩ := Option.isSome_iff_exists.1 (hdeps ⟨3, .data⟩ (by simp) rfl)
      have eq : AA.tmps[52]?.getD undef = xq := by rw [hA]; exact tmps_own (by kernel_rfl) hxq (of_decide_eq_true (by kernel_rfl))
      have hoq := hJ.own 3 xq _ hxq r3 (fun u hu => by rw [un3] at hu; cases hu)
      obtain ⟨Aq, cq, rfl, _, _, hrq⟩ := own_form hoq
      obtain ⟨aq, rfl, _, hcq⟩ := hrq.2 (by omega)
      obtain ⟨vn, wn, hrun, hown, hg⟩ := run_append_arg_grows (P := Try.prog) W 25 25 5 i0 _ 1 1 Try.underlying25 hi0 hz0 hz1 hz2 rfl (by omega) ⟨g0, 0, none⟩ 4 4 (bts magicL) (by simp [bts, magicL]) (hM.out W hJ.bel) aq 8 cq _ hrq.1 hcq (by omega) (by unfold maxLen; omega) (by omega)
      have hnew := hJ.new (grown_none_below hg) r4 v4 (by simpa [bts_append] using hown)
      have hKK := Lib.hid hK
      clear hA hdeps hK hQ v0 v1 v2 v3 v4 v5 v6 v7 v8 v9 v10 v11 v12 v13 r0 r1 r2 r3 r4 r5 r6 r7 r8 r9 r10 r11 r12 r13 u4 u8 u12
      exact step_append_run rfl (.tmp 49) (.tmp 52) _ rfl (by simpa [Act.eval] using e0) (by simpa [Act.eval] using eq) hrun (hKK.out _ _ hnew)
    · injection ho with ho
      subst ho
      have hK := fun v W1 (hj : RowsJ w1 val row user (upd m 5 v) W1) => hKp v W1 ⟨hj, (by rw [upd_ne m v (by decide), upd_ne m v (by decide)]; exact hQ)⟩
      clear hKp
      have e4 : AA.tmps[1]?.getD undef = .pointer (some ⟨w0.heap.size, 0, none⟩) := by rw [hA]; exact tmps_free (by kernel_rfl)
      have hK0 : KK (AA.put (some 54) _) _ := hK _ _ (hJ.pure (Below.refl _ _) r5 (fun x hx => by rw [v5] at hx; exact Option.some.inj hx))
      clear hA hdeps hK hQ v0 v1 v2 v3 v4 v5 v6 v7 v8 v9 v10 v11 v12 v13 r0 r1 r2 r3 r4 r5 r6 r7 r8 r9 r10 r11 r12 r13 u4 u8 u12
      go_simp
      exact hK0
    · injection ho with ho
      subst ho
      have hK := fun v W1 (hj : RowsJ w1 val row user (upd m 6 v) W1) => hKp v W1 ⟨hj, (by rw [upd_ne m v (by decide), upd_ne m v (by decide)]; exact hQ)⟩
      clear hKp
      have hx5 := hJ.det.get v5 (hdeps ⟨5, .data⟩ (by simp) rfl)
      have e5 : AA.tmps[54]?.getD undef = .pointer (some ⟨w0.heap.size, 1, none⟩) := by rw [hA]; exact tmps_own (by kernel_rfl) hx5 (of_decide_eq_true (by kernel_rfl))
      obtain ⟨c0, c1, c2⟩ := hS.out W hJ.bel
      have hK0 : KK (AA.put (some 55) _) _ := hK _ _ (hJ.pure (Below.refl _ _) r6 (fun x hx => by rw [v6] at hx; exact Option.some.inj hx))
      clear hA hdeps hK hQ v0 v1 v2 v3 v4 v5 v6 v7 v8 v9 v10 v11 v12 v13 r0 r1 r2 r3 r4 r5 r6 r7 r8 r9 r10 r11 r12 r13 u4 u8 u12
      go_simp
      exact hK0
    · injection ho with ho
      subst ho
      have hK := fun v W1 (hj : RowsJ w1 val row user (upd m 7 v) W1) => hKp v W1 ⟨hj, (by rw [upd_ne m v (by decide), upd_ne m v (by decide)]; exact hQ)⟩
      clear hKp
      have hx6 := hJ.det.get v6 (hdeps ⟨6, .data⟩ (by simp) rfl)
      have e6 : AA.tmps[55]?.getD undef = .int .i64 f := by rw [hA]; exact tmps_own (by kernel_rfl) hx6 (of_decide_eq_true (by kernel_rfl))
      have hKK := Lib.hid hK
      have HV := Lib.hid v7
      have HR := Lib.hid r7
      clear hA hdeps hK hQ v0 v1 v2 v3 v4 v5 v6 v7 v8 v9 v10 v11 v12 v13 r0 r1 r2 r3 r4 r5 r6 r7 r8 r9 r10 r11 r12 r13 u4 u8 u12
      go_simp
      refine (rput4_any f _).mono ?_
      rintro e w5 ⟨v, rfl, hown, hbn⟩
      exact hKK.out _ _ (hJ.new hbn HR.out HV.out hown)
    · injection ho with ho
      subst ho
      have hK := fun v W1 (hj : RowsJ w1 val row user (upd m 8 v) W1) => hKp v W1 ⟨hj, (by rw [upd_ne m v (by decide), upd_ne m v (by decide)]; exact hQ)⟩
      clear hKp
      obtain ⟨xp, hxp⟩ := Option.isSome_iff_exists.1 (hdeps ⟨4, .data⟩ (by simp) rfl)
      obtain ⟨xq, hxq⟩ := Option.isSome_iff_exists.1 (hdeps ⟨7, .data⟩ (by simp) rfl)
      have ep : AA.tmps[53]?.getD undef = xp := by rw [hA]; exact tmps_own (by kernel_rfl) hxp (of_decide_eq_true (by kernel_rfl))
      have eq : AA.tmps[56]?.getD undef = xq := by rw [hA]; exact tmps_own (by kernel_rfl) hxq (of_decide_eq_true (by kernel_rfl))
      have hop := hJ.own 4 xp _ hxp r4 (Live.of u4 hmi)
      have hoq := hJ.own 7 xq _ hxq r7 (fun u hu => by rw [un7] at hu; cases hu)
      obtain ⟨Aq, cq, rfl, _, _, hrq⟩ := own_form hoq
      have htk := fun (v : Value) (W' : World) => hJ.take (W' := W') (v := v) u4 r4 r8 hxp hmi v8
      have hKK := Lib.hid hK
      clear hA hdeps hK hQ v0 v1 v2 v3 v4 v5 v6 v7 v8 v9 v10 v11 v12 v13 r0 r1 r2 r3 r4 r5 r6 r7 r8 r9 r10 r11 r12 r13 u4 u8 u12
      refine step_append_any W rfl (.tmp 53) (.tmp 56) _ rfl w1.heap.size 5 i0 _ 1 1 Try.underlying25 hi0 hz0 hz1 hz2 rfl (by omega) xp 12 _ ?_ hop W.heap.size Aq 4 cq _ ?_ hrq (bts_one _) (by unfold maxLen; omega) (by omega) hJ.bel.size ?_
      · simpa [Act.eval] using ep
      · simpa [Act.eval] using eq
      · intro v' w' h1 h2 h3
        exact hKK.out _ _ (htk v' w' h2 (by simpa [bts_append] using h1) h3)
    · injection ho with ho
      subst ho
      have hK := fun v W1 (hj : RowsJ w1 val row user (upd m 9 v) W1) => hKp v W1 ⟨hj, (by rw [upd_ne m v (by decide), upd_ne m v (by decide)]; exact hQ)⟩
      clear hKp
      have e4 : AA.tmps[1]?.getD undef = .pointer (some ⟨w0.heap.size, 0, none⟩) := by rw [hA]; exact tmps_free (by kernel_rfl)
      have hK0 : KK (AA.put (some 58) _) _ := hK _ _ (hJ.pure (Below.refl _ _) r9 (fun x hx => by rw [v9] at hx; exact Option.some.inj hx))
      clear hA hdeps hK hQ v0 v1 v2 v3 v4 v5 v6 v7 v8 v9 v10 v11 v12 v13 r0 r1 r2 r3 r4 r5 r6 r7 r8 r9 r10 r11 r12 r13 u4 u8 u12
      go_simp
      exact hK0
    · injection ho with ho
      subst ho
      have hK := fun v W1 (hj : RowsJ w1 val row user (upd m 10 v) W1) => hKp v W1 ⟨hj, (by rw [upd_ne m v (by decide), upd_ne m v (by decide)]; exact hQ)⟩
      clear hKp
      have hx9 := hJ.det.get v9 (hdeps ⟨9, .data⟩ (by simp) rfl)
      have e9 : AA.tmps[58]?.getD undef = .pointer (some ⟨w0.heap.size, 2, none⟩) := by rw [hA]; exact tmps_own (by kernel_rfl) hx9 (of_decide_eq_true (by kernel_rfl))
      obtain ⟨c0, c1, c2⟩ := hS.out W hJ.bel
      have hK0 : KK (AA.put (some 59) _) _ := hK _ _ (hJ.pure (Below.refl _ _) r10 (fun x hx => by rw [v10] at hx; exact Option.some.inj hx))
      clear hA hdeps hK hQ v0 v1 v2 v3 v4 v5 v6 v7 v8 v9 v10 v11 v12 v13 r0 r1 r2 r3 r4 r5 r6 r7 r8 r9 r10 r11 r12 r13 u4 u8 u12
      go_simp
      exact hK0
    · injection ho with ho
      subst ho
      have hK := fun v W1 (hj : RowsJ w1 val row user (upd m 11 v) W1) => hKp v W1 ⟨hj, (by rw [upd_ne m v (by decide), upd_ne m v (by decide)]; exact hQ)⟩
      clear hKp
      have hx10 := hJ.det.get v10 (hdeps ⟨10, .data⟩ (by simp) rfl)
      have e10 : AA.tmps[59]?.getD undef = .int .i64 o := by rw [hA]; exact tmps_own (by kernel_rfl) hx10 (of_decide_eq_true (by kernel_rfl))
      have hKK := Lib.hid hK
      have HV := Lib.hid v11
      have HR := Lib.hid r11
      clear hA hdeps hK hQ v0 v1 v2 v3 v4 v5 v6 v7 v8 v9 v10 v11 v12 v13 r0 r1 r2 r3 r4 r5 r6 r7 r8 r9 r10 r11 r12 r13 u4 u8 u12
      go_simp
      refine (rput4_any o _).mono ?_
      rintro e w5 ⟨v, rfl, hown, hbn⟩
      exact hKK.out _ _ (hJ.new hbn HR.out HV.out hown)
    · injection ho with ho
      subst ho
      have hK := fun v W1 (hj : RowsJ w1 val row user (upd m 12 v) W1) => hKp v W1 ⟨hj, (by rw [upd_ne m v (by decide), upd_ne m v (by decide)]; exact hQ)⟩
      clear hKp
      obtain ⟨xp, hxp⟩ := Option.isSome_iff_exists.1 (hdeps ⟨8, .data⟩ (by simp) rfl)
      obtain ⟨xq, hxq⟩ := Option.isSome_iff_exists.1 (hdeps ⟨11, .data⟩ (by simp) rfl)
      have ep : AA.tmps[57]?.getD undef = xp := by rw [hA]; exact tmps_own (by kernel_rfl) hxp (of_decide_eq_true (by kernel_rfl))
      have eq : AA.tmps[60]?.getD undef = xq := by rw [hA]; exact tmps_own (by kernel_rfl) hxq (of_decide_eq_true (by kernel_rfl))
      have hop := hJ.own 8 xp _ hxp r8 (Live.of u8 hmi)
      have hoq := hJ.own 11 xq _ hxq r11 (fun u hu => by rw [un11] at hu; cases hu)
      obtain ⟨Aq, cq, rfl, _, _, hrq⟩ := own_form hoq
      have htk := fun (v : Value) (W' : World) => hJ.take (W' := W') (v := v) u8 r8 r12 hxp hmi v12
      have hKK := Lib.hid hK
      clear hA hdeps hK hQ v0 v1 v2 v3 v4 v5 v6 v7 v8 v9 v10 v11 v12 v13 r0 r1 r2 r3 r4 r5 r6 r7 r8 r9 r10 r11 r12 r13 u4 u8 u12
      refine step_append_any W rfl (.tmp 57) (.tmp 60) _ rfl w1.heap.size 5 i0 _ 1 1 Try.underlying25 hi0 hz0 hz1 hz2 rfl (by omega) xp 16 _ ?_ hop W.heap.size Aq 4 cq _ ?_ hrq (bts_one _) (by unfold maxLen; omega) (by omega) hJ.bel.size ?_
      · simpa [Act.eval] using ep
      · simpa [Act.eval] using eq
      · intro v' w' h1 h2 h3
        exact hKK.out _ _ (htk v' w' h2 (by simpa [bts_append] using h1) h3)
    · injection ho with ho
      subst ho
      have hK := fun v W1 (hj : RowsJ w1 val row user (upd m 13 v) W1) => hKp v W1 ⟨hj, (fun h => by rw [upd_ne m v (by decide)] at h; have hz := hdeps ⟨0, .phase⟩ (by simp) rfl; rw [h] at hz; cases hz)⟩
      clear hKp
      obtain ⟨xp, hxp⟩ := Option.isSome_iff_exists.1 (hdeps ⟨12, .data⟩ (by simp) rfl)
      have ep : AA.tmps[61]?.getD undef = xp := by rw [hA]; exact tmps_own (by kernel_rfl) hxp (of_decide_eq_true (by kernel_rfl))
      have hop := hJ.own 12 xp _ hxp r12 (Live.of u12 hmi)
      have hK0 : KK (AA.put (some 4) _) _ := hK xp W (hJ.take u12 r12 r13 hxp hmi v13 (World.grownBy.refl _ _) hop (.inl rfl))
      clear hA hdeps hK hQ v0 v1 v2 v3 v4 v5 v6 v7 v8 v9 v10 v11 v12 v13 r0 r1 r2 r3 r4 r5 r6 r7 r8 r9 r10 r11 r12 r13 u4 u8 u12
      go_simp
      exact hK0
    · simp at ho
  · intro m W hJ hall
    obtain ⟨hJ, -⟩ := hJ
    have m0 := hJ.det.get v0 (hall 0 (by simp))
    have m1 := hJ.det.get v1 (hall 1 (by simp))
    have m2 := hJ.det.get v2 (hall 2 (by simp))
    obtain ⟨x3, m3⟩ := Option.isSome_iff_exists.1 (hall 3 (by simp))
    obtain ⟨x4, m4⟩ := Option.isSome_iff_exists.1 (hall 4 (by simp))
    have m5 := hJ.det.get v5 (hall 5 (by simp))
    have m6 := hJ.det.get v6 (hall 6 (by simp))
    obtain ⟨x7, m7⟩ := Option.isSome_iff_exists.1 (hall 7 (by simp))
    obtain ⟨x8, m8⟩ := Option.isSome_iff_exists.1 (hall 8 (by simp))
    have m9 := hJ.det.get v9 (hall 9 (by simp))
    have m10 := hJ.det.get v10 (hall 10 (by simp))
    obtain ⟨x11, m11⟩ := Option.isSome_iff_exists.1 (hall 11 (by simp))
    obtain ⟨x12, m12⟩ := Option.isSome_iff_exists.1 (hall 12 (by simp))
    obtain ⟨x13, m13⟩ := Option.isSome_iff_exists.1 (hall 13 (by simp))
    have hown := hJ.own 13 x13 _ m13 r13 (fun u hu => by rw [un13] at hu; cases hu)
    have hbx := hJ.bel
    rw [frameM_all (by kernel_rfl) [.slice (some ⟨g0, 0, none⟩) 4 4, .pointer (some ⟨w0.heap.size, 0, none⟩), .int .i64 t, x3, x4, .pointer (some ⟨w0.heap.size, 1, none⟩), .int .i64 f, x7, x8, .pointer (some ⟨w0.heap.size, 2, none⟩), .int .i64 o, x11, x12, x13] rfl (fun i hi => by
        rcases i with _ | _ | _ | _ | _ | _ | _ | _ | _ | _ | _ | _ | _ | _ | i
        · exact m0
        · exact m1
        · exact m2
        · exact m3
        · exact m4
        · exact m5
        · exact m6
        · exact m7
        · exact m8
        · exact m9
        · exact m10
        · exact m11
        · exact m12
        · exact m13
        · simp at hi; omega)]
    clear hJ hall m0 m1 m2 m3 m4 m5 m6 m7 m8 m9 m10 m11 m12 m13 v0 v1 v2 v3 v4 v5 v6 v7 v8 v9 v10 v11 v12 v13 r0 r1 r2 r3 r4 r5 r6 r7 r8 r9 r10 r11 r12 r13 u4 u8 u12 un3 un7 un11 un13
    simp only [putAll, Act.put, List.setIfInBounds_toArray, List.set_cons_succ, List.set_cons_zero]
    have hbw := hbel.trans (hbx.mono hB0)
    have hown0 := own_mono hown hB0
    clear hown hbx hS hM kc
    go_wp2_with fail
    go_loopw [4] (fun v wr => ∃ n : Nat, 20 ≤ n ∧ n ≤ 32 ∧ wr.ownsRow w0.heap.size 5 1 v n (bts (magicL ++ putL t 8 ++ putL f 4 ++ putL o 4 ++ List.replicate (n - 20) 0)) ∧ Below w0.heap.size w0 wr) (fun v _ => match v with | .slice _ n _ => 32 - n | _ => 0)
    case atStart => exact ⟨20, by omega, by omega, by simpa using hown0, hbw⟩
    case round =>
      obtain ⟨n, hn1, hn2, hown, hbr⟩ := hrel
      obtain ⟨A, c, rfl, hc1, hc2, hr⟩ := own_form hown
      by_cases hlt : n < 32
      · have hni : (n : Int) < 32 := by omega
        go_wp2_with (at_builtin; (refine wpList_push _ rfl (.tmp 65) (.tmp 66) _ rfl w0.heap.size 5 i0 _ 1 1 Try.underlying25 hi0 hz0 hz1 hz2 rfl (by omega) _ n _ rfl hown 1 _ _ rfl rfl (by simp [Value.oneCell']) (by unfold maxLen; omega) (by omega) hbr.size ?_); intro v2 w2 hown2 hb2 _)
        obtain ⟨A2, c2, rfl, _, _, _⟩ := own_form hown2
        go_roundw
        case rel => exact ⟨n + 1, by omega, by omega, by
          have e : List.replicate (n + 1 - 20) (0 : UInt8) = List.replicate (n - 20) 0 ++ [0] := by rw [show n + 1 - 20 = (n - 20) + 1 by omega, List.replicate_succ']
          rw [e, ← List.append_assoc, bts_append]
          exact hown2, hbr.trans hb2⟩
        case measure => simp only []; omega
      · obtain rfl : n = 32 := by omega
        have hbo : magicL ++ putL t 8 ++ putL f 4 ++ putL o 4 ++ List.replicate (32 - 20) 0 = bodyL t f o := by rw [bodyL_eq]; simp [magicL]
        rw [hbo] at hown hr
        have henc := Lib.hid (show encL ⟨t, f, o⟩ = bodyL t f o ++ sumL8 (bodyL t f o) from rfl)
        clear hbo
        go_wp2_with fail
        refine (rfeed_n2 ⟨0, 0, 0, 0⟩ (bodyL t f o) 32 (bodyL_length _ _ _).symm A c _ _ hr (Nat.le_refl _) (by omega)).mono ?_
        rintro e w4 ⟨rfl, hb4⟩
        have hfo := feed_ok ⟨0, 0, 0, 0⟩ zero_ok (words (bodyL t f o))
        obtain ⟨⟨pa, pb, pc, pd⟩, hp⟩ : ∃ s, s = feedL ⟨0, 0, 0, 0⟩ (words (bodyL t f o)) := ⟨_, rfl⟩
        have HP := Lib.hid (show sumL8 (bodyL t f o) = octL pa pb pc pd by unfold sumL8; rw [← hp])
        rw [← hp] at hfo ⊢
        have hso := sumOctets_any ⟨pa, pb, pc, pd⟩ hfo w4
        simp only [Sm.val] at hso ⊢
        have hown4 := own_below hown hb4
        have hbr4 := hbr.trans (hb4.mono hbr.size)
        clear hp hfo hown hr hb4 hown0
        go_wp2_with fail
        refine hso.mono ?_
        clear hso
        rintro e w5 ⟨v5, rfl, hown5, hb5⟩
        obtain ⟨A5, c5, rfl, _, _, hr5⟩ := own_form hown5
        have hown6 := own_below hown4 hb5
        have hbr5 := hbr4.trans (hb5.mono hbr4.size)
        clear hown4 hown5 hbr4 hb5
        go_wp2_with (at_builtin; (refine wpList_append_any _ rfl (.tmp 68) (.tmp 72) _ rfl w0.heap.size 5 i0 _ 1 1 Try.underlying25 hi0 hz0 hz1 hz2 rfl (by omega) _ 32 _ rfl hown6 w5.heap.size A5 32 c5 _ rfl hr5 (bts_one _) (by unfold maxLen; omega) (by omega) hbr5.size ?_); intro v7 w7 hown7 hg7 hat7)
        have hbr7 := hbr5.grown hg7 hbr5.size (fun j hj => (hown6.lt j hj).1)
        clear hown6 hg7 hat7 hr5
        go_ret2
        refine ⟨v7, rfl, ?_, hbr7⟩
        rw [henc.out, HP.out, bts_append]
        exact hown7
end Go.Proofs.Ytcchnoadclidcaa
