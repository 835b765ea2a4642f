/-
  tree.Check, tree.Kids: by their contracts.
-/
import Derived.Test.YtodikfhaghpkhaaDoorTrSets
import Derived.Test.YtodikfhaghpkhaaDoorTrLog
import Derived.Test.YtodikfhaghpkhaaDoorPmCheck
namespace Go.Proofs.YtodikfhaghpkhaaDoor
open Go.RowKit

theorem TenR.rd.below {t : TenR} {w w' : World} {B : Nat} (h : t.rd w B) (hb : Below B w w') : t.rd w' B :=
  ⟨h.sets.below hb, fun y hy => ⟨(h.eachS y hy).body.below hb, (h.eachS y hy).snaps.below hb, fun z hz => ⟨((h.eachS y hy).each z hz).body.below hb, ((h.eachS y hy).each z hz).tags.below hb, ((h.eachS y hy).each z hz).own.below hb⟩, (h.eachS y hy).own.below hb⟩, h.grants.below hb, h.stages.below hb, fun y hy => ⟨(h.eachG y hy).own.below hb, (h.eachG y hy).body.below hb⟩, h.log.below hb⟩
set_option maxRecDepth 100000 in
set_option maxHeartbeats 4000000 in
theorem tcheck_any (t : TenR) (w : World) (B : Nat) (hr : t.rd w B) (hB : B ≤ w.heap.size) (hz : t.sz) (hmx : HasMax w) :
    Calls Tryd.prog 10 #[t.val] w fun e w' => e = .returned (.int .i64 (tenE t)) ∧ Below w.heap.size w w' := by
  obtain ⟨nm, quota, next, ⟨s1, s2, s3, sl⟩, ⟨g1, g2, g3, gl⟩, ⟨t1, t2, t3, tl⟩, ⟨l1, l2, l3, ll⟩⟩ := t
  show Calls Tryd.prog 10 #[.agg #[.string ⟨nm.toArray⟩, .int .i64 quota, .int .i64 next, .slice s1 s2 s3, .slice g1 g2 g3, .slice t1 t2 t3, .slice l1 l2 l3]] w _
  have hb1 := (Below.refl w.heap.size w).alloc (Nat.le_refl _) (.cells #[.string ⟨nm.toArray⟩, .int .i64 quota, .int .i64 next, .slice s1 s2 s3, .slice g1 g2 g3, .slice t1 t2 t3, .slice l1 l2 l3] 27)
  have kT := Blk.new w 27 #[.string ⟨nm.toArray⟩, .int .i64 quota, .int .i64 next, .slice s1 s2 s3, .slice g1 g2 g3, .slice t1 t2 t3, .slice l1 l2 l3]
  obtain ⟨W1, hW1⟩ : ∃ W, W = w.alloc (.cells #[.string ⟨nm.toArray⟩, .int .i64 quota, .int .i64 next, .slice s1 s2 s3, .slice g1 g2 g3, .slice t1 t2 t3, .slice l1 l2 l3] 27) := ⟨_, rfl⟩
  have hsz1 : W1.heap.size = w.heap.size + 1 := by rw [hW1]; simp
  rw [← hW1] at hb1 kT
  have hT := Lib.hid (fun (W' : World) (hB' : Below W1.heap.size W1 W') => (⟨(kT.below hB' (by omega)).cell 0, (kT.below hB' (by omega)).cell 1, (kT.below hB' (by omega)).cell 2, (kT.below hB' (by omega)).cell 3, (kT.below hB' (by omega)).cell 4, (kT.below hB' (by omega)).cell 5, (kT.below hB' (by omega)).cell 6⟩ : W'.cell? ⟨w.heap.size, 0, none⟩ = some (.string ⟨nm.toArray⟩) ∧ W'.cell? ⟨w.heap.size, 1, none⟩ = some (.int .i64 quota) ∧ W'.cell? ⟨w.heap.size, 2, none⟩ = some (.int .i64 next) ∧ W'.cell? ⟨w.heap.size, 3, none⟩ = some (.slice s1 s2 s3) ∧ W'.cell? ⟨w.heap.size, 4, none⟩ = some (.slice g1 g2 g3) ∧ W'.cell? ⟨w.heap.size, 5, none⟩ = some (.slice t1 t2 t3) ∧ W'.cell? ⟨w.heap.size, 6, none⟩ = some (.slice l1 l2 l3)))
  have hrw : ∀ W', Below W1.heap.size W1 W' → TenR.rd W' B ⟨nm, quota, next, ⟨s1, s2, s3, sl⟩, ⟨g1, g2, g3, gl⟩, ⟨t1, t2, t3, tl⟩, ⟨l1, l2, l3, ll⟩⟩ ∧ W1.heap.size ≤ W'.heap.size ∧ HasMax W' := fun W' hb => ⟨hr.below ((hb1.trans (hb.mono (by omega))).mono hB), hb.size, hmx.below (hb1.trans (hb.mono (by omega)))⟩
  have hN : Hid (∀ W, Below W1.heap.size W1 W → Calls Tryd.prog 35 #[.string ⟨nm.toArray⟩] W fun e W' => e = .returned (.bool (nameB nm)) ∧ Below W.heap.size W W') := fun W _ => name_any ⟨nm.toArray⟩ W
  have hQ : Hid (∀ W, Below W1.heap.size W1 W → Calls Tryd.prog 36 #[.int .i64 quota, .int .i64 0] W fun e W' => e = .returned (.bool (amt quota 0)) ∧ Below W.heap.size W W') := fun W _ => amountB_any quota 0 W
  have hX : Hid (∀ W, Below W1.heap.size W1 W → Calls Tryd.prog 36 #[.int .i64 next, .int .i64 1] W fun e W' => e = .returned (.bool (amt next 1)) ∧ Below W.heap.size W W') := fun W _ => amountB_any next 1 W
  have hS : Hid (∀ W, Below W1.heap.size W1 W → Calls Tryd.prog 37 #[.agg #[.string ⟨nm.toArray⟩, .int .i64 quota, .int .i64 next, .slice s1 s2 s3, .slice g1 g2 g3, .slice t1 t2 t3, .slice l1 l2 l3]] W fun e W' => e = .returned (.bool (setsB sl)) ∧ Below W.heap.size W W') := fun W hb => by
    obtain ⟨r1, r2, r3⟩ := hrw W hb
    exact sets_any _ _ _ _ _ _ sl s2 r1.sets.1 s1 s3 W B r1.sets.2.2 r1.eachS (by omega) hz.sets hz.eachS r3
  have hG : Hid (∀ W, Below W1.heap.size W1 W → Calls Tryd.prog 38 #[.slice g1 g2 g3] W fun e W' => e = .returned (.int .i64 (if grantsB gl = true then 0 else 9)) ∧ Below W.heap.size W W') := fun W hb => by
    obtain ⟨r1, r2, r3⟩ := hrw W hb
    exact checkG_any gl g2 r1.grants.1 g1 g3 W B r1.grants.2.2 (by omega) (by have := hz.grants; simp only at this; omega) hz.eachG r3
  have hT2 : Hid (∀ W, Below W1.heap.size W1 W → Calls Tryd.prog 39 #[.slice t1 t2 t3] W fun e W' => e = .returned (.bool (stagesB tl)) ∧ Below W.heap.size W W') := fun W hb => by
    obtain ⟨r1, r2, r3⟩ := hrw W hb
    exact stages_any tl t2 r1.stages.1 t1 t3 W B r1.stages.2.2 r1.eachG (by omega) hz.stages hz.eachT r3
  have hL : Hid (∀ W, Below W1.heap.size W1 W → Calls Tryd.prog 40 #[.slice l1 l2 l3, .func (.func 41) #[] #[]] W fun e W' => e = .returned (.bool (!(ll.all entryB))) ∧ Below W.heap.size W W') := fun W hb => by
    obtain ⟨r1, r2, r3⟩ := hrw W hb
    exact oddLog_any ll l2 r1.log.1 l1 l3 W B r1.log.2.2 (by omega) hz.log hz.eachL r3
  have hlen : l2 = ll.length := hr.log.1
  have HV : Hid (tenE ⟨nm, quota, next, ⟨s1, s2, s3, sl⟩, ⟨g1, g2, g3, gl⟩, ⟨t1, t2, t3, tl⟩, ⟨l1, l2, l3, ll⟩⟩ = if (nameB nm && (amt quota 0 && (amt next 1 && (setsB sl && (grantsB gl && (stagesB tl && (decide (l2 ≤ 16) && ll.all entryB))))))) = true then 0 else 9) := by
    show _ = _
    rw [hlen]
    unfold tenE tenB logB
    simp only [Bool.and_assoc]
  obtain ⟨E, hE⟩ : ∃ V, V = tenE ⟨nm, quota, next, ⟨s1, s2, s3, sl⟩, ⟨g1, g2, g3, gl⟩, ⟨t1, t2, t3, tl⟩, ⟨l1, l2, l3, ll⟩⟩ := ⟨_, rfl⟩
  obtain ⟨bN, hbN⟩ : ∃ V, V = nameB nm := ⟨_, rfl⟩
  obtain ⟨bQ, hbQ⟩ : ∃ V, V = amt quota 0 := ⟨_, rfl⟩
  obtain ⟨bX, hbX⟩ : ∃ V, V = amt next 1 := ⟨_, rfl⟩
  obtain ⟨bS, hbS⟩ : ∃ V, V = setsB sl := ⟨_, rfl⟩
  obtain ⟨bG, hbG⟩ : ∃ V, V = grantsB gl := ⟨_, rfl⟩
  obtain ⟨bT, hbT⟩ : ∃ V, V = stagesB tl := ⟨_, rfl⟩
  obtain ⟨bL, hbL⟩ : ∃ V, V = ll.all entryB := ⟨_, rfl⟩
  rw [← hE] at HV ⊢
  rw [← hbN] at HV hN
  rw [← hbQ] at HV hQ
  rw [← hbX] at HV hX
  rw [← hbS] at HV hS
  rw [← hbG] at HV hG
  rw [← hbT] at HV hT2
  rw [← hbL] at HV hL
  have HB1 := Lib.hid hb1
  have HSZ1 := Lib.hid hsz1
  clear hE hbN hbQ hbX hbS hbG hbT hbL hb1 hsz1 kT hr hz hrw hlen
  have hW0 := Below.refl W1.heap.size W1
  go_enter Tryd.func10, Tryd.ntmps10
  have hc := hN.out _ hW0
  cases bN with
  | false =>
    go_wp2_with fail
    rw [← hW1]
    refine hc.mono ?_
    clear hc
    rintro e w11 ⟨rfl, hbw11⟩
    have hWw11 := hW0.trans (hbw11.mono hW0.size)
    clear hbw11 
    obtain ⟨c0, c1, c2, c3, c4, c5, c6⟩ := hT.out _ hWw11
    have HB : Hid (E = 9) := by show _ = _; rw [HV.out]; rfl
    go_wp2_with fail
    go_ret
    exact ⟨by rw [HB.out]; rfl, HB1.out.trans (hWw11.mono (by have := HSZ1.out; omega))⟩
  | true =>
    go_wp2_with fail
    rw [← hW1]
    refine hc.mono ?_
    clear hc
    rintro e w11 ⟨rfl, hbw11⟩
    have hWw11 := hW0.trans (hbw11.mono hW0.size)
    clear hbw11 
    obtain ⟨c0, c1, c2, c3, c4, c5, c6⟩ := hT.out _ hWw11
    have hc := hQ.out _ hWw11
    cases bQ with
    | false =>
      go_wp2_with fail
      refine hc.mono ?_
      clear hc
      rintro e w12 ⟨rfl, hbw12⟩
      have hWw12 := hWw11.trans (hbw12.mono hWw11.size)
      clear hbw12 
      obtain ⟨c0, c1, c2, c3, c4, c5, c6⟩ := hT.out _ hWw12
      have HB : Hid (E = 9) := by show _ = _; rw [HV.out]; rfl
      go_wp2_with fail
      go_ret
      exact ⟨by rw [HB.out]; rfl, HB1.out.trans (hWw12.mono (by have := HSZ1.out; omega))⟩
    | true =>
      go_wp2_with fail
      refine hc.mono ?_
      clear hc
      rintro e w12 ⟨rfl, hbw12⟩
      have hWw12 := hWw11.trans (hbw12.mono hWw11.size)
      clear hbw12 
      obtain ⟨c0, c1, c2, c3, c4, c5, c6⟩ := hT.out _ hWw12
      have hc := hX.out _ hWw12
      cases bX with
      | false =>
        go_wp2_with fail
        refine hc.mono ?_
        clear hc
        rintro e w13 ⟨rfl, hbw13⟩
        have hWw13 := hWw12.trans (hbw13.mono hWw12.size)
        clear hbw13 
        obtain ⟨c0, c1, c2, c3, c4, c5, c6⟩ := hT.out _ hWw13
        have HB : Hid (E = 9) := by show _ = _; rw [HV.out]; rfl
        go_wp2_with fail
        go_ret
        exact ⟨by rw [HB.out]; rfl, HB1.out.trans (hWw13.mono (by have := HSZ1.out; omega))⟩
      | true =>
        go_wp2_with fail
        refine hc.mono ?_
        clear hc
        rintro e w13 ⟨rfl, hbw13⟩
        have hWw13 := hWw12.trans (hbw13.mono hWw12.size)
        clear hbw13 
        obtain ⟨c0, c1, c2, c3, c4, c5, c6⟩ := hT.out _ hWw13
        have hc := hS.out _ hWw13
        cases bS with
        | false =>
          go_wp2_with fail
          refine hc.mono ?_
          clear hc
          rintro e w14 ⟨rfl, hbw14⟩
          have hWw14 := hWw13.trans (hbw14.mono hWw13.size)
          clear hbw14 
          obtain ⟨c0, c1, c2, c3, c4, c5, c6⟩ := hT.out _ hWw14
          have HB : Hid (E = 9) := by show _ = _; rw [HV.out]; rfl
          go_wp2_with fail
          go_ret
          exact ⟨by rw [HB.out]; rfl, HB1.out.trans (hWw14.mono (by have := HSZ1.out; omega))⟩
        | true =>
          go_wp2_with fail
          refine hc.mono ?_
          clear hc
          rintro e w14 ⟨rfl, hbw14⟩
          have hWw14 := hWw13.trans (hbw14.mono hWw13.size)
          clear hbw14 
          obtain ⟨c0, c1, c2, c3, c4, c5, c6⟩ := hT.out _ hWw14
          have hc := hG.out _ hWw14
          cases bG with
          | false =>
            rw [if_neg (by decide)] at hc
            go_wp2_with fail
            refine hc.mono ?_
            clear hc
            rintro e w15 ⟨rfl, hbw15⟩
            have hWw15 := hWw14.trans (hbw15.mono hWw14.size)
            clear hbw15 
            obtain ⟨c0, c1, c2, c3, c4, c5, c6⟩ := hT.out _ hWw15
            have HB : Hid (E = 9) := by show _ = _; rw [HV.out]; rfl
            go_wp2_with fail
            go_ret
            exact ⟨by rw [HB.out]; rfl, HB1.out.trans (hWw15.mono (by have := HSZ1.out; omega))⟩
          | true =>
            rw [if_pos rfl] at hc
            go_wp2_with fail
            refine hc.mono ?_
            clear hc
            rintro e w15 ⟨rfl, hbw15⟩
            have hWw15 := hWw14.trans (hbw15.mono hWw14.size)
            clear hbw15 
            obtain ⟨c0, c1, c2, c3, c4, c5, c6⟩ := hT.out _ hWw15
            have hc := hT2.out _ hWw15
            cases bT with
            | false =>
              go_wp2_with fail
              refine hc.mono ?_
              clear hc
              rintro e w16 ⟨rfl, hbw16⟩
              have hWw16 := hWw15.trans (hbw16.mono hWw15.size)
              clear hbw16 
              obtain ⟨c0, c1, c2, c3, c4, c5, c6⟩ := hT.out _ hWw16
              have HB : Hid (E = 9) := by show _ = _; rw [HV.out]; rfl
              go_wp2_with fail
              go_ret
              exact ⟨by rw [HB.out]; rfl, HB1.out.trans (hWw16.mono (by have := HSZ1.out; omega))⟩
            | true =>
              go_wp2_with fail
              refine hc.mono ?_
              clear hc
              rintro e w16 ⟨rfl, hbw16⟩
              have hWw16 := hWw15.trans (hbw16.mono hWw15.size)
              clear hbw16 
              obtain ⟨c0, c1, c2, c3, c4, c5, c6⟩ := hT.out _ hWw16
              by_cases hl : 16 < l2
              · have hi : (16 : Int) < (l2 : Int) := by omega
                have HB : Hid (E = 9) := by show _ = _; rw [HV.out, decide_eq_false (show ¬ l2 ≤ 16 by omega)]; rfl
                go_wp2_with fail
                go_ret
                exact ⟨by rw [HB.out]; rfl, HB1.out.trans (hWw16.mono (by have := HSZ1.out; omega))⟩
              have hi : ¬ (16 : Int) < (l2 : Int) := by omega
              have HV2 : Hid (E = if bL = true then 0 else 9) := by show _ = _; rw [HV.out, decide_eq_true (show l2 ≤ 16 by omega)]; rfl
              have hc := hL.out _ hWw16
              go_wp2_with fail
              refine hc.mono ?_
              clear hc
              rintro e w20 ⟨rfl, hb20⟩
              have HBF := Lib.hid (HB1.out.trans ((hWw16.trans (hb20.mono hWw16.size)).mono (by have := HSZ1.out; omega)))
              cases bL with
              | true =>
                have HB : Hid (E = 0) := by show _ = _; rw [HV2.out]; rfl
                go_wp2_with fail
                go_ret
                exact ⟨by rw [HB.out]; rfl, HBF.out⟩
              | false =>
                have HB : Hid (E = 9) := by show _ = _; rw [HV2.out]; rfl
                go_wp2_with fail
                go_ret
                exact ⟨by rw [HB.out]; rfl, HBF.out⟩
theorem kidsL_snoc (l : List SetR) (x : SetR) (p : BS) : kidsL (l ++ [x]) p = kidsL l p ++ (if parB x.path = some p then [x.path] else []) := by
  unfold kidsL
  rw [List.filter_append, List.map_append]
  congr 1
  by_cases h : parB x.path = some p
  · rw [if_pos h, List.filter_cons_of_pos (by simpa using h)]; rfl
  · rw [if_neg h, List.filter_cons_of_neg (by simpa using h)]; rfl
set_option maxRecDepth 100000 in
set_option maxHeartbeats 4000000 in
theorem kids_any (v0 v1 v2 v4 v5 v6 : Value) (l : List SetR) (n : Nat) (hnl : n = l.length) (A : Option Addr) (c : Nat) (p : BS) (w : World) (B : Nat) (hr : Reads w B 5 A n (cellsK encSet l)) (hB : B ≤ w.heap.size) (hn : n ≤ 1000000000000) (hv : ∀ y ∈ l, y.path.length ≤ 4000000000) (hmx : HasMax w) :
    Calls Tryd.prog 11 #[.agg #[v0, v1, v2, .slice A n c, v4, v5, v6], .string ⟨p.toArray⟩] w fun e w' => ∃ A1 c1, e = .returned (.slice A1 (kidsL l p).length c1) ∧ w'.ownsRow w.heap.size 9 1 (.slice A1 (kidsL l p).length c1) (kidsL l p).length (scells (kidsL l p)) ∧ Below w.heap.size w w' := by
  obtain ⟨i0, hi0, hz0, hz1, hz2⟩ := info_parts Tryd.infoS
  have HN := Lib.hid hnl
  have hb1 := (Below.refl w.heap.size w).alloc (Nat.le_refl _) (.cells #[v0, v1, v2, .slice A n c, v4, v5, v6] 27)
  have kT := Blk.new w 27 #[v0, v1, v2, .slice A n c, v4, v5, v6]
  obtain ⟨W1, hW1⟩ : ∃ W, W = w.alloc (.cells #[v0, v1, v2, .slice A n c, v4, v5, v6] 27) := ⟨_, rfl⟩
  have hsz1 : W1.heap.size = w.heap.size + 1 := by rw [hW1]; simp
  rw [← hW1] at hb1 kT
  have hT : Hid (∀ W', Below W1.heap.size W1 W' → W'.cell? ⟨w.heap.size, 3, none⟩ = some (.slice A n c)) := fun W' hB' => (kT.below hB' (by omega)).cell 3
  have hR := Lib.hid (fun (W' : World) (hB' : Below W1.heap.size W1 W') => (⟨hr.below ((hb1.trans (hB'.mono (by omega))).mono hB), hmx.below (hb1.trans (hB'.mono (by omega)))⟩ : Reads W' B 5 A n (cellsK encSet l) ∧ HasMax W'))
  have HB1 := Lib.hid hb1
  have HSZ1 := Lib.hid hsz1
  have HVS := Lib.hid hv
  obtain ⟨KL, hKL⟩ : ∃ K, K = kidsL l p := ⟨_, rfl⟩
  rw [← hKL]
  have HKL := Lib.hid hKL
  clear hnl hr kT hsz1 hv hKL
  go_enter Tryd.func11, Tryd.ntmps11
  go_wp2_with fail
  rw [← hW1]
  clear hW1
  go_loopw [5, 13] (fun a j wr => ∃ (k m : Nat) (A1 : Option Addr) (c1 : Nat), k ≤ n ∧ m ≤ k ∧ a = .slice A1 m c1 ∧ j = .int .i64 (k : Int) ∧ Hid (m = (kidsL (l.take k) p).length) ∧ wr.ownsRow W1.heap.size 9 1 (.slice A1 m c1) m (scells (kidsL (l.take k) p)) ∧ Below W1.heap.size W1 wr) (fun _ j _ => n - (intOf j).toNat)
  case atStart => exact ⟨0, 0, none, 0, Nat.zero_le _, Nat.zero_le _, rfl, rfl, rfl, ⟨rfl, .inl ⟨rfl, rfl⟩⟩, Below.refl _ _⟩
  case round =>
    clear hb1
    obtain ⟨k, m, A1, c1, hk, hmk, rfl, rfl, hml, hown, hbw⟩ := hrel
    by_cases hlt : k < n
    · obtain ⟨hrw, hmw⟩ := hR.out _ hbw
      obtain ⟨ad, rfl, -, c0, c1', c2, c3, c4⟩ := set_at hrw HN.out hlt
      have hki : (k : Int) < (n : Int) := by omega
      have hkl : k < l.length := by have := HN.out; omega
      obtain ⟨x, hx⟩ : ∃ x, x = l[k]'hkl := ⟨_, rfl⟩
      have hxl := HVS.out x (by rw [hx]; exact List.getElem_mem _)
      rw [← hx] at c0 c1' c2 c3 c4
      have htk := List.take_succ_eq_append_getElem hkl
      rw [← hx] at htk
      have HNT : Hid (kidsL (l.take (k + 1)) p = kidsL (l.take k) p ++ (if parB x.path = some p then [x.path] else [])) := by
        show _ = _
        rw [htk, kidsL_snoc]
      obtain ⟨W0, hW0⟩ : ∃ W0, W0 = wr.alloc (.cells #[.string ⟨x.path.toArray⟩, .string ⟨x.org.toArray⟩, .slice x.body.A x.body.n x.body.c, .slice x.snaps.A x.snaps.n x.snaps.c, .slice x.own.A x.own.n x.own.c] 38) := ⟨_, rfl⟩
      have hblk : Blk W0 wr.heap.size 38 #[.string ⟨x.path.toArray⟩, .string ⟨x.org.toArray⟩, .slice x.body.A x.body.n x.body.c, .slice x.snaps.A x.snaps.n x.snaps.c, .slice x.own.A x.own.n x.own.c] := by rw [hW0]; exact Blk.new wr _ _
      have hszW : W0.heap.size = wr.heap.size + 1 := by rw [hW0]; show (wr.heap.push _).size = _; rw [Array.size_push]
      have hwr := hbw.size
      have hsz1 := HSZ1.out
      have hb1W : Below W1.heap.size W1 W0 := by rw [hW0]; exact hbw.alloc hbw.size _
      have HB2 := Lib.hid hb1W
      have HSZ := Lib.hid hszW
      have hpn := parent_any ⟨x.path.toArray⟩ W0 (by show x.path.length ≤ _; exact hxl) (hR.out _ hb1W).2
      rw [show (ByteArray.mk x.path.toArray).data.toList = x.path from rfl] at hpn
      have hown0 : Hid (∀ W, Below W0.heap.size W0 W → W.ownsRow W1.heap.size 9 1 (.slice A1 m c1) m (scells (kidsL (l.take k) p)) ∧ W.cell? ⟨wr.heap.size, 0, none⟩ = some (.string ⟨x.path.toArray⟩)) := by
        show ∀ W, _ → _
        intro W hb
        refine ⟨own_below (w := W0) ?_ hb, (hblk.below hb (by omega)).cell 0⟩
        rw [hW0]
        exact hown.alloc _
      obtain ⟨xp, xo, ⟨b1, b2, b3, bl⟩, ⟨s1, s2, s3, sl⟩, ⟨o1, o2, o3, ol⟩⟩ := x
      simp only at c0 c1' c2 c3 c4 HNT hW0 hpn hown0
      clear hx htk hxl hblk hrw hown hR hT hmw
      go_wp2_with fail
      rw [← hW0]
      clear hW0 hszW c0 c1' c2 c3 c4
      refine hpn.mono ?_
      clear hpn
      rintro e w4 ⟨hb4, ⟨hpar, rfl⟩ | ⟨hne, hpb, rfl⟩⟩
      · have HNT2 : Hid (kidsL (l.take (k + 1)) p = kidsL (l.take k) p) := by
          show _ = _
          rw [HNT.out]
          unfold parB
          rw [if_pos hpar]
          simp
        have ho4 := (hown0.out _ hb4).1
        have hbf := HB2.out.trans (hb4.mono (by have := HSZ.out; omega))
        clear hpar hown0 hb4
        go_wp2_with fail
        go_roundw
        case rel => exact ⟨k + 1, m, A1, c1, by omega, by omega, rfl, by go_num, by rw [HNT2.out]; exact hml.out, by rw [HNT2.out]; exact ho4, hbf⟩
        case measure => simp [intOf]; omega
      · have hpe : parB xp = some (upL xp) := by
          unfold parB
          rw [if_neg (by rw [hpb]; simp [hne])]
        rw [hpe] at HNT
        obtain ⟨ho4, q0⟩ := hown0.out _ hb4
        have hbf := HB2.out.trans (hb4.mono (by have := HSZ.out; omega))
        have hbF := HB1.out.trans (hbf.mono (by omega))
        have hbase := hbf.size
        obtain ⟨up, hup⟩ : ∃ u, u = upL xp := ⟨_, rfl⟩
        rw [← hup] at HNT ⊢
        clear hne hpb hpe hup hown0 hb4
        by_cases hupp : up = p
        · subst hupp
          have HNT2 : Hid (kidsL (l.take (k + 1)) up = kidsL (l.take k) up ++ [xp]) := by
            show _ = _
            rw [HNT.out, if_pos rfl]
          clear HNT
          go_wp2_with (at_builtin; (refine wpList_push w4 rfl (.tmp 29) (.tmp 32) 32 rfl W1.heap.size 9 i0 (.string ByteArray.empty) 1 16 Tryd.underlying32 hi0 hz0 hz1 hz2 rfl (by omega) (.slice A1 m c1) m _ rfl ho4 1 #[.string ⟨xp.toArray⟩] 9 rfl rfl (by simp [Value.oneCell']) (by unfold maxLen; omega) (by omega) hbase ?_); intro v' w' ho' hb' hg')
          obtain ⟨A2, c2, rfl, _, _, _⟩ := own_form ho'
          have hb'2 := hbf.trans hb'
          go_wp2_with fail
          go_roundw
          case rel => exact ⟨k + 1, m + 1, A2, c2, by omega, by omega, rfl, by go_num, by show _ = _; rw [HNT2.out, List.length_append, ← hml.out]; rfl, by rw [HNT2.out, scells_append]; exact ho', hb'2⟩
          case measure => simp [intOf]; omega
        · have hne : (up == p) = false := by simpa using hupp
          have HNT2 : Hid (kidsL (l.take (k + 1)) p = kidsL (l.take k) p) := by
            show _ = _
            rw [HNT.out, if_neg (by intro e; exact hupp (Option.some.inj e))]
            simp
          clear hupp
          go_wp2_with fail
          go_roundw
          case rel => exact ⟨k + 1, m, A1, c1, by omega, by omega, rfl, by go_num, by rw [HNT2.out]; exact hml.out, by rw [HNT2.out]; exact ho4, hbf⟩
          case measure => simp [intOf]; omega
    · have hkn : k = n := by omega
      have hall : l.take k = l := List.take_of_length_le (by rw [hkn, HN.out]; exact Nat.le_refl _)
      rw [hall, ← HKL.out] at hown
      have HM : Hid (m = KL.length) := by show _ = _; rw [hml.out, hall, HKL.out]
      have HO := Lib.hid (own_mono hown (show w.heap.size ≤ W1.heap.size by have := HSZ1.out; omega))
      have HBF := Lib.hid (HB1.out.trans (hbw.mono (by have := HSZ1.out; omega)))
      clear hkn hall hml hown hbw
      go_wp2_with fail
      go_ret
      refine ⟨A1, c1, by rw [← HM.out]; rfl, by rw [← HM.out]; exact HO.out, HBF.out⟩
end Go.Proofs.YtodikfhaghpkhaaDoor
