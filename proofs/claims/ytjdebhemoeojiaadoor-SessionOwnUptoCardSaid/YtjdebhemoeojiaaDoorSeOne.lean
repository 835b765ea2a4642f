/-
  session.one, by its contract.
-/
import Derived.Test.YtjdebhemoeojiaaDoorSeOf
import Derived.Test.YtjdebhemoeojiaaDoorSeCnt
import Derived.Test.YtjdebhemoeojiaaDoorSeOrd
import Derived.Test.YtjdebhemoeojiaaDoorGoodG
import Derived.Test.YtjdebhemoeojiaaDoorCls2
namespace Go.Proofs.YtjdebhemoeojiaaDoor
open Go.RowKit

def prevS (l : List SesC) (k : Nat) : Option SesC := match k with
  | 0 => none
  | j + 1 => l[j]?
set_option maxRecDepth 100000 in
set_option maxHeartbeats 8000000 in
theorem one_any (t : TabR) (k : Nat) (hk : k < t.opn.l.length) (w : World) (B : Nat) (hr : t.rd w B) (hB : B ≤ w.heap.size) (hz : t.sz) (hmx : HasMax w) :
    Calls Tryd.prog 61 #[t.val, .int .i64 (k : Int)] w fun e w' => e = .returned (.bool (oneB t.con (prevS t.con.opn k) (t.opn.l[k]'hk).con)) ∧ Below w.heap.size w w' := by
  have hAtg := fun x z W (hb : Below w.heap.size w W) => at_any t x z W B (hr.below (hb.mono hB)) (Nat.le_trans hB hb.size) hz
  have hHdg := fun x W (hb : Below w.heap.size w W) => had_any t x W B (hr.below (hb.mono hB)) (Nat.le_trans hB hb.size) hz
  have hOfg := fun x W (hb : Below w.heap.size w W) => of_any t x W B (hr.below (hb.mono hB)) (Nat.le_trans hB hb.size) hz
  obtain ⟨V, hV⟩ : ∃ V, V = oneB t.con (prevS t.con.opn k) (t.opn.l[k]'hk).con := ⟨_, rfl⟩
  rw [← hV]
  obtain ⟨T, hT0⟩ : ∃ T, T = t.con := ⟨_, rfl⟩
  have hTo : T.opn = t.opn.l.map SesR.con := by rw [hT0]; rfl
  rw [← hT0] at hAtg hHdg hOfg hV
  clear hT0
  obtain ⟨⟨oA, on, oc, ol⟩, ⟨dA, dn, dc, dl⟩⟩ := t
  simp only at hk hTo
  have hn0 : on = ol.length := hr.opn.1
  have hsz : on ≤ 1000000000 := hz.opn
  have hrh : Reads w B 5 oA on (cellsK encSes ol) := hr.opn.2.2
  have hey : SesR.rd w B (ol[k]'hk) ∧ SesR.sz (ol[k]'hk) := ⟨hr.each _ (List.getElem_mem hk), hz.each _ (List.getElem_mem hk)⟩
  have hprv : (k = 0 ∧ prevS T.opn k = none) ∨ (∃ h1 : k - 1 < ol.length, 1 ≤ k ∧ prevS T.opn k = some (ol[k - 1]'h1).con) := by
    rw [hTo]
    rcases Nat.eq_zero_or_pos k with h0 | h0
    · subst h0; exact .inl ⟨rfl, rfl⟩
    · obtain ⟨j, rfl⟩ : ∃ j, k = j + 1 := ⟨k - 1, by omega⟩
      refine .inr ⟨by simp only [Nat.add_sub_cancel]; omega, h0, ?_⟩
      show (ol.map SesR.con)[j]? = _
      rw [List.getElem?_map, List.getElem?_eq_getElem (by omega)]
      rfl
  obtain ⟨ad, hoA, hadB, c0, c1, c2, c3, c4⟩ := ses_at hrh hn0 (i := k) (by omega)
  have hki : (k : Int) < (on : Int) := by omega
  have hk0 : (0 : Int) ≤ (k : Int) := by omega
  obtain ⟨y, hy⟩ : ∃ y, y = ol[k]'hk := ⟨_, rfl⟩
  simp only at hV
  rw [← hy] at c0 c1 c2 c3 c4 hV hey
  obtain ⟨yt, yh, yi, ⟨yA, yn, yc, yl⟩, yb⟩ := y
  simp only [SesR.con] at c0 c1 c2 c3 c4 hV
  have hyl : yn = yl.length := hey.1.1
  show Calls Tryd.prog 61 #[.agg #[.slice oA on oc, .slice dA dn dc], .int .i64 (k : Int)] w _
  have hb1 := (Below.refl w.heap.size w).alloc (Nat.le_refl _) (.cells #[.slice oA on oc, .slice dA dn dc] 25)
  have kT := Blk.new w 25 #[.slice oA on oc, .slice dA dn dc]
  obtain ⟨W1, hW1⟩ : ∃ W, W = w.alloc (.cells #[.slice oA on oc, .slice dA dn dc] 25) := ⟨_, rfl⟩
  have hsz1 : W1.heap.size = w.heap.size + 1 := by rw [hW1]; simp
  rw [← hW1] at hb1 kT
  have hT := Lib.hid (fun (W' : World) (hB' : Below W1.heap.size W1 W') => (⟨(kT.below hB' (by omega)).cell 0, (kT.below hB' (by omega)).cell 1⟩ : W'.cell? ⟨w.heap.size, 0, none⟩ = some (.slice oA on oc) ∧ W'.cell? ⟨w.heap.size, 1, none⟩ = some (.slice dA dn dc)))
  have hrW : Reads W1 B 5 oA on (cellsK encSes ol) := hrh.below (hb1.mono hB)
  obtain ⟨W0, hW0⟩ : ∃ W0, W0 = W1.alloc (.cells #[.string ⟨yt.toArray⟩, .int .i64 yh, .string ⟨yi.toArray⟩, .slice yA yn yc, .bool yb] 33) := ⟨_, rfl⟩
  have kB := Blk.new W1 33 #[.string ⟨yt.toArray⟩, .int .i64 yh, .string ⟨yi.toArray⟩, .slice yA yn yc, .bool yb]
  have hb2 := (Below.refl W1.heap.size W1).alloc (Nat.le_refl _) (.cells #[.string ⟨yt.toArray⟩, .int .i64 yh, .string ⟨yi.toArray⟩, .slice yA yn yc, .bool yb] 33)
  have hszW : W0.heap.size = w.heap.size + 2 := by rw [hW0]; show (W1.heap.push _).size = _; rw [Array.size_push]; omega
  rw [← hW0] at kB hb2
  rw [hsz1] at kB
  have kT2 := kT.below hb2 (by omega)
  have hbW : Hid (Below w.heap.size w W0) := hb1.trans (hb2.mono (by omega))
  have hS := Lib.hid (fun (W' : World) (hB' : Below W0.heap.size W0 W') => (⟨(kT2.below hB' (by omega)).cell 0, (kT2.below hB' (by omega)).cell 1, (kB.below hB' (by omega)).cell 0, (kB.below hB' (by omega)).cell 1, (kB.below hB' (by omega)).cell 2, (kB.below hB' (by omega)).cell 3, (kB.below hB' (by omega)).cell 4⟩ :
    W'.cell? ⟨w.heap.size, 0, none⟩ = some (.slice oA on oc) ∧ W'.cell? ⟨w.heap.size, 1, none⟩ = some (.slice dA dn dc) ∧ W'.cell? ⟨(w.heap.size + 1), 0, none⟩ = some (.string ⟨yt.toArray⟩) ∧ W'.cell? ⟨(w.heap.size + 1), 1, none⟩ = some (.int .i64 yh) ∧ W'.cell? ⟨(w.heap.size + 1), 2, none⟩ = some (.string ⟨yi.toArray⟩) ∧ W'.cell? ⟨(w.heap.size + 1), 3, none⟩ = some (.slice yA yn yc) ∧ W'.cell? ⟨(w.heap.size + 1), 4, none⟩ = some (.bool yb)))
  have hup : ∀ W, Below W0.heap.size W0 W → Below w.heap.size w W := fun W h => hbW.out.trans (h.mono (by omega))
  have hNa : Hid (∀ W, Below W0.heap.size W0 W → Calls Tryd.prog 30 #[.string ⟨yt.toArray⟩] W fun e W' => e = .returned (.bool (nameB yt)) ∧ Below W.heap.size W W') := fun W _ => name_any ⟨yt.toArray⟩ W
  have hPa : Hid (∀ W, Below W0.heap.size W0 W → Calls Tryd.prog 31 #[.string ⟨yi.toArray⟩] W fun e W' => e = .returned (.bool (sePath yi)) ∧ Below W.heap.size W W') := fun W h => sePath_any yi W hey.2.into (hmx.below (hup W h))
  have hHa : Hid (∀ W, Below W0.heap.size W0 W → Calls Tryd.prog 32 #[.agg #[.slice oA on oc, .slice dA dn dc], .string ⟨yt.toArray⟩] W fun e W' => e = .returned (.int .i64 (seHad T.had yt)) ∧ Below W.heap.size W W') := fun W h => hHdg yt W (hup W h)
  have hAt : Hid (∀ W, Below W0.heap.size W0 W → Calls Tryd.prog 28 #[.agg #[.slice oA on oc, .slice dA dn dc], .string ⟨yt.toArray⟩, .string ⟨yi.toArray⟩] W fun e W' => e = .returned (.int .i64 (seAt T.opn yt yi)) ∧ Below W.heap.size W W') := fun W h => hAtg yt yi W (hup W h)
  obtain ⟨nOf, hm⟩ : ∃ m, m = (seOf T.opn yt).length := ⟨_, rfl⟩
  have hOf : Hid (∀ W, Below W0.heap.size W0 W → Calls Tryd.prog 19 #[.agg #[.slice oA on oc, .slice dA dn dc], .string ⟨yt.toArray⟩] W fun e W' => ∃ A c, e = .returned (.slice A nOf c) ∧ Below W.heap.size W W') := by
    show ∀ W, _ → _
    intro W h
    refine (hOfg yt W (hup W h)).mono ?_
    rintro e W' ⟨s, rfl, ho, _, hcon, hb⟩
    refine ⟨s.A, s.c, ?_, hb⟩
    rw [hm, ← hcon, List.length_map, ← ho.1]
    rfl
  have hprev : (decide ((k : Int) = 0) = true ∧ ((k : Int) == 0) = true ∧ (match prevS T.opn k with | none => true | some q => decide (cmpT q.ten q.hd yt yh < 0)) = true) ∨ (∃ (pt : BS) (ph : Int) (pi : BS) (pA : Option Addr) (pn pc : Nat) (pb : Bool) (ad : Addr) (zO : Int), oA = some ad ∧ decide ((k : Int) = 0) = false ∧ ((k : Int) == 0) = false ∧ (1 : Int) ≤ (k : Int) ∧ (k : Int) - 1 < (on : Int) ∧ IntKind.i64.wrap ((k : Int) - 1) = (k : Int) - 1 ∧ ((k : Int) - 1).toNat = k - 1 ∧
      Hid (∀ W, Below W0.heap.size W0 W → W.cell? (ad.add ((k - 1) * 5)) = some (.string ⟨pt.toArray⟩) ∧ W.cell? ⟨(ad.add ((k - 1) * 5)).block, (ad.add ((k - 1) * 5)).off + 1, none⟩ = some (.int .i64 ph) ∧ W.cell? ⟨(ad.add ((k - 1) * 5)).block, (ad.add ((k - 1) * 5)).off + 2, none⟩ = some (.string ⟨pi.toArray⟩) ∧ W.cell? ⟨(ad.add ((k - 1) * 5)).block, (ad.add ((k - 1) * 5)).off + 3, none⟩ = some (.slice pA pn pc) ∧ W.cell? ⟨(ad.add ((k - 1) * 5)).block, (ad.add ((k - 1) * 5)).off + 4, none⟩ = some (.bool pb)) ∧
      Hid (∀ W, Below W0.heap.size W0 W → Calls Tryd.prog 36 #[.agg #[.string ⟨pt.toArray⟩, .int .i64 ph, .string ⟨pi.toArray⟩, .slice pA pn pc, .bool pb], .agg #[.string ⟨yt.toArray⟩, .int .i64 yh, .string ⟨yi.toArray⟩, .slice yA yn yc, .bool yb]] W fun e W' => e = .returned (.int .i64 zO) ∧ Below W.heap.size W W') ∧
      (((match prevS T.opn k with | none => true | some q => decide (cmpT q.ten q.hd yt yh < 0)) = true ∧ decide (zO < 0) = true) ∨ ((match prevS T.opn k with | none => true | some q => decide (cmpT q.ten q.hd yt yh < 0)) = false ∧ decide (zO < 0) = false))) := by
    rcases hprv with ⟨h0, h1⟩ | ⟨h1, h2, h3⟩
    · exact .inl ⟨by rw [h0]; rfl, by rw [h0]; rfl, by rw [h1]⟩
    · obtain ⟨ad2, e2, hadB2, p0, p1, p2, p3, p4⟩ := ses_at hrW hn0 (i := k - 1) (by omega)
      obtain ⟨x, hx⟩ : ∃ x, x = ol[k - 1]'h1 := ⟨_, rfl⟩
      rw [← hx] at p0 p1 p2 p3 p4 h3
      obtain ⟨pt, ph, pi, ⟨pA, pn, pc, pl⟩, pb⟩ := x
      simp only [SesR.con] at p0 p1 p2 p3 p4 h3
      have hlt : (ad2.add ((k - 1) * 5)).block < W1.heap.size := by rw [block_of_add]; omega
      refine .inr ⟨pt, ph, pi, pA, pn, pc, pb, ad2, cmpT pt ph yt yh, e2, by simp; omega, by simp; omega, by omega, by omega, IntWalk.i64_in _ (by omega), by omega, ?_, ?_, ?_⟩
      · show ∀ W, _ → _
        intro W h
        have hb := hb2.trans (h.mono hb2.size)
        exact ⟨(hb.cell (p := ad2.add ((k - 1) * 5)) hlt).trans p0, (hb.cell (p := ⟨(ad2.add ((k - 1) * 5)).block, (ad2.add ((k - 1) * 5)).off + 1, none⟩) hlt).trans p1, (hb.cell (p := ⟨(ad2.add ((k - 1) * 5)).block, (ad2.add ((k - 1) * 5)).off + 2, none⟩) hlt).trans p2, (hb.cell (p := ⟨(ad2.add ((k - 1) * 5)).block, (ad2.add ((k - 1) * 5)).off + 3, none⟩) hlt).trans p3, (hb.cell (p := ⟨(ad2.add ((k - 1) * 5)).block, (ad2.add ((k - 1) * 5)).off + 4, none⟩) hlt).trans p4⟩
      · exact fun W _ => orderT_any pt yt pi yi ph yh pA yA pn pc yn yc pb yb W
      · rw [h3]
        by_cases h : cmpT pt ph yt yh < 0
        · exact .inl ⟨by simpa using h, by simpa using h⟩
        · exact .inr ⟨by simpa using h, by simpa using h⟩
  have HV : Hid (V = ((nameB yt && sePath yi && decide (yn ≤ 4096) && decide (1 ≤ yh) && decide (yh ≤ seHad T.had yt)) && (match prevS T.opn k with | none => true | some q => decide (cmpT q.ten q.hd yt yh < 0)) && decide (seAt T.opn yt yi = yh) && decide ((nOf : Int) ≤ 16))) := by
    show _ = _
    rw [hV, hm, hyl]
    unfold oneB sesB sePath
    rw [show decide (((seOf T.opn yt).length : Int) ≤ 16) = decide ((seOf T.opn yt).length ≤ 16) from decide_eq_decide.2 (by omega)]
    rfl
  obtain ⟨pO, hpO⟩ : ∃ b, b = (match prevS T.opn k with | none => true | some q => decide (cmpT q.ten q.hd yt yh < 0)) := ⟨_, rfl⟩
  rw [← hpO] at HV hprev
  obtain ⟨bN, hbN⟩ : ∃ b, b = nameB yt := ⟨_, rfl⟩
  rw [← hbN] at HV hNa
  obtain ⟨bP, hbP⟩ : ∃ b, b = sePath yi := ⟨_, rfl⟩
  rw [← hbP] at HV hPa
  obtain ⟨zH, hzH⟩ : ∃ b, b = seHad T.had yt := ⟨_, rfl⟩
  rw [← hzH] at HV hHa
  obtain ⟨zA, hzA⟩ : ∃ b, b = seAt T.opn yt yi := ⟨_, rfl⟩
  rw [← hzA] at HV hAt
  obtain ⟨b, hb16⟩ : ∃ b, b = decide ((nOf : Int) ≤ 16) := ⟨_, rfl⟩
  have HM : Hid (decide ((nOf : Int) ≤ 16) = b) := hb16.symm
  have d16 : decide ((nOf : Int) ≤ 16) = b := hb16.symm
  have d16' : decide (nOf ≤ 16) = b := by rw [hb16]; exact decide_eq_decide.2 (by omega)
  have hyn : (decide (yn ≤ 4096) = false ∧ decide ((4096 : Int) < (yn : Int)) = true) ∨ (decide (yn ≤ 4096) = true ∧ decide ((4096 : Int) < (yn : Int)) = false) := by
    by_cases h : yn ≤ 4096
    · exact .inr ⟨by simpa using h, by simp; omega⟩
    · exact .inl ⟨by simpa using h, by simp; omega⟩
  have hyh : (decide (1 ≤ yh) = false ∧ decide (yh < 1) = true) ∨ (decide (1 ≤ yh) = true ∧ decide (yh < 1) = false) := by
    by_cases h : 1 ≤ yh
    · exact .inr ⟨by simpa using h, by simp; omega⟩
    · exact .inl ⟨by simpa using h, by simp; omega⟩
  have hzh : (decide (yh ≤ zH) = false ∧ decide (zH < yh) = true) ∨ (decide (yh ≤ zH) = true ∧ decide (zH < yh) = false) := by
    by_cases h : yh ≤ zH
    · exact .inr ⟨by simpa using h, by simp; omega⟩
    · exact .inl ⟨by simpa using h, by simp; omega⟩
  have hat : (decide (zA = yh) = true ∧ (zA == yh) = true) ∨ (decide (zA = yh) = false ∧ (zA == yh) = false) := by
    by_cases h : zA = yh
    · exact .inl ⟨by simpa using h, by simpa using h⟩
    · exact .inr ⟨by simpa using h, by simpa using h⟩
  have HSZ := Lib.hid hszW
  have hW00 := Below.refl W0.heap.size W0
  subst hoA
  obtain ⟨ad0, had0⟩ : ∃ a, a = ad := ⟨_, rfl⟩
  have k0 := (hb1.cell (p := ad.add (k * 5)) (by rw [block_of_add]; omega)).trans c0
  have k1 := (hb1.cell (p := ⟨(ad.add (k * 5)).block, (ad.add (k * 5)).off + 1, none⟩) (by simp only [block_of_add]; omega)).trans c1
  have k2 := (hb1.cell (p := ⟨(ad.add (k * 5)).block, (ad.add (k * 5)).off + 2, none⟩) (by simp only [block_of_add]; omega)).trans c2
  have k3 := (hb1.cell (p := ⟨(ad.add (k * 5)).block, (ad.add (k * 5)).off + 3, none⟩) (by simp only [block_of_add]; omega)).trans c3
  have k4 := (hb1.cell (p := ⟨(ad.add (k * 5)).block, (ad.add (k * 5)).off + 4, none⟩) (by simp only [block_of_add]; omega)).trans c4
  obtain ⟨x0, x1⟩ := hT.out _ (Below.refl _ _)
  clear hAtg hHdg hOfg hrh hey hprv hr hz hmx hV hTo hyl kT kT2 kB hb2 hup hm hpO hbN hbP hzH hzA hb16 hszW hrW hy hn0 hsz1 c0 c1 c2 c3 c4 had0 ad0 hb1 hT
  go_enter Tryd.func61, Tryd.ntmps61
  rw [hW1] at k0 k1 k2 k3 k4
  go_wp2_with fail
  rw [← hW1, ← hW0]
  clear hW0 hW1 x0 x1 k0 k1 k2 k3 k4
  refine wpC_region (fun W' => Below W0.heap.size W0 W') (by kernel_rfl) (by kernel_rfl) (hW00.drew) (fun OPS D QQ HO hD hD2 hQQ => ?_)
  have hgo4 : Hid ((OPS[4]?).bind (·.dst) = some 15) := by show _ = _; rw [HO.out]; rfl
  have hgo10 : Hid ((OPS[10]?).bind (·.dst) = some 21) := by show _ = _; rw [HO.out]; rfl
  have hgo16 : Hid ((OPS[16]?).bind (·.dst) = some 27) := by show _ = _; rw [HO.out]; rfl
  have hgo21 : Hid ((OPS[21]?).bind (·.dst) = some 32) := by show _ = _; rw [HO.out]; rfl
  clear HO
  have HD := Lib.hid hD
  have HD2 := Lib.hid hD2
  have HQQ := Lib.hid hQQ
  clear hD hD2 hQQ
  refine wpC_read (v := ?_) rfl (fun W hW => ?_) ?_
  rotate_left
  · clear hW; go_simp; try (with_reducible rfl)
  try simp only [Act.put, List.setIfInBounds_toArray, List.set_cons_zero, List.set_cons_succ]
  refine wpC_read (v := ?_) rfl (fun W hW => ?_) ?_
  rotate_left
  · replace hW := HD.out W hW
    obtain ⟨t0, t1, q0, q1, q2, q3, q4⟩ := hS.out W hW
    go_simp; try (with_reducible rfl)
  try simp only [Act.put, List.setIfInBounds_toArray, List.set_cons_zero, List.set_cons_succ]
  cases bN with
  | false =>
    have HB : Hid (V = false) := by show _ = _; rw [HV.out]; rfl
    refine wpC_read (v := .bool false) rfl (fun W hW => ?_) ?_
    · replace hW := HD.out W hW
      obtain ⟨t0, t1, q0, q1, q2, q3, q4⟩ := hS.out W hW
      go_simp
      refine (hNa.out _ hW).mono ?_
      rintro e w5 ⟨rfl, hbn⟩
      exact ⟨rfl, HD2.out _ (below_step hW hbn)⟩
    try simp only [Act.put, List.setIfInBounds_toArray, List.set_cons_zero, List.set_cons_succ]
    refine wpC_read (v := ?_) rfl (fun W hW => ?_) ?_
    rotate_left
    · clear hW; go_simp; try (with_reducible rfl)
    try simp only [Act.put, List.setIfInBounds_toArray, List.set_cons_zero, List.set_cons_succ]
    refine wpC_read (v := ?_) rfl (fun W hW => ?_) ?_
    rotate_left
    · clear hW; go_simp; try (with_reducible rfl)
    try simp only [Act.put, List.setIfInBounds_toArray, List.set_cons_zero, List.set_cons_succ]
    refine wpC_skip rfl hgo4.out (.inl rfl) ?_
    try simp only [Act.put, List.setIfInBounds_toArray, List.set_cons_zero, List.set_cons_succ]
    refine wpC_skip rfl hgo4.out (.inl rfl) ?_
    try simp only [Act.put, List.setIfInBounds_toArray, List.set_cons_zero, List.set_cons_succ]
    refine wpC_skip rfl hgo4.out (.inl rfl) ?_
    try simp only [Act.put, List.setIfInBounds_toArray, List.set_cons_zero, List.set_cons_succ]
    refine wpC_skip rfl hgo4.out (.inl rfl) ?_
    try simp only [Act.put, List.setIfInBounds_toArray, List.set_cons_zero, List.set_cons_succ]
    refine wpC_read (v := ?_) rfl (fun W hW => ?_) ?_
    rotate_left
    · clear hW; go_simp; try (with_reducible rfl)
    try simp only [Act.put, List.setIfInBounds_toArray, List.set_cons_zero, List.set_cons_succ]
    refine wpC_read (v := ?_) rfl (fun W hW => ?_) ?_
    rotate_left
    · clear hW; go_simp; try (with_reducible rfl)
    try simp only [Act.put, List.setIfInBounds_toArray, List.set_cons_zero, List.set_cons_succ]
    refine wpC_skip rfl hgo10.out (.inl rfl) ?_
    try simp only [Act.put, List.setIfInBounds_toArray, List.set_cons_zero, List.set_cons_succ]
    refine wpC_skip rfl hgo10.out (.inl rfl) ?_
    try simp only [Act.put, List.setIfInBounds_toArray, List.set_cons_zero, List.set_cons_succ]
    refine wpC_skip rfl hgo10.out (.inl rfl) ?_
    try simp only [Act.put, List.setIfInBounds_toArray, List.set_cons_zero, List.set_cons_succ]
    refine wpC_skip rfl hgo10.out (.inl rfl) ?_
    try simp only [Act.put, List.setIfInBounds_toArray, List.set_cons_zero, List.set_cons_succ]
    refine wpC_read (v := ?_) rfl (fun W hW => ?_) ?_
    rotate_left
    · clear hW; go_simp; try (with_reducible rfl)
    try simp only [Act.put, List.setIfInBounds_toArray, List.set_cons_zero, List.set_cons_succ]
    refine wpC_read (v := ?_) rfl (fun W hW => ?_) ?_
    rotate_left
    · clear hW; go_simp; try (with_reducible rfl)
    try simp only [Act.put, List.setIfInBounds_toArray, List.set_cons_zero, List.set_cons_succ]
    refine wpC_skip rfl hgo16.out (.inl rfl) ?_
    try simp only [Act.put, List.setIfInBounds_toArray, List.set_cons_zero, List.set_cons_succ]
    refine wpC_skip rfl hgo16.out (.inl rfl) ?_
    try simp only [Act.put, List.setIfInBounds_toArray, List.set_cons_zero, List.set_cons_succ]
    refine wpC_skip rfl hgo16.out (.inl rfl) ?_
    try simp only [Act.put, List.setIfInBounds_toArray, List.set_cons_zero, List.set_cons_succ]
    refine wpC_read (v := ?_) rfl (fun W hW => ?_) ?_
    rotate_left
    · clear hW; go_simp; try (with_reducible rfl)
    try simp only [Act.put, List.setIfInBounds_toArray, List.set_cons_zero, List.set_cons_succ]
    refine wpC_read (v := ?_) rfl (fun W hW => ?_) ?_
    rotate_left
    · clear hW; go_simp; try (with_reducible rfl)
    try simp only [Act.put, List.setIfInBounds_toArray, List.set_cons_zero, List.set_cons_succ]
    refine wpC_skip rfl hgo21.out (.inl rfl) ?_
    try simp only [Act.put, List.setIfInBounds_toArray, List.set_cons_zero, List.set_cons_succ]
    refine wpC_skip rfl hgo21.out (.inl rfl) ?_
    try simp only [Act.put, List.setIfInBounds_toArray, List.set_cons_zero, List.set_cons_succ]
    refine wpC_skip rfl hgo21.out (.inl rfl) ?_
    try simp only [Act.put, List.setIfInBounds_toArray, List.set_cons_zero, List.set_cons_succ]
    refine wpC_skip rfl hgo21.out (.inl rfl) ?_
    try simp only [Act.put, List.setIfInBounds_toArray, List.set_cons_zero, List.set_cons_succ]
    refine wpC_skip rfl hgo21.out (.inl rfl) ?_
    try simp only [Act.put, List.setIfInBounds_toArray, List.set_cons_zero, List.set_cons_succ]
    refine wpC_skip rfl hgo21.out (.inl rfl) ?_
    try simp only [Act.put, List.setIfInBounds_toArray, List.set_cons_zero, List.set_cons_succ]
    refine wpC_skip rfl hgo21.out (.inl rfl) ?_
    try simp only [Act.put, List.setIfInBounds_toArray, List.set_cons_zero, List.set_cons_succ]
    refine wpC_read (v := ?_) rfl (fun W hW => ?_) ?_
    rotate_left
    · clear hW; go_simp; try (with_reducible rfl)
    try simp only [Act.put, List.setIfInBounds_toArray, List.set_cons_zero, List.set_cons_succ]
    refine wpQuiet_nil (HQQ.out _ (fun W hW => ?_))
    obtain ⟨t0, t1, q0, q1, q2, q3, q4⟩ := hS.out W hW
    go_wp2_with fail
    go_ret
    exact ⟨by rw [HB.out]; rfl, hbW.out.trans (hW.mono (by have := HSZ.out; omega))⟩
  | true =>
    refine wpC_read (v := .bool true) rfl (fun W hW => ?_) ?_
    · replace hW := HD.out W hW
      obtain ⟨t0, t1, q0, q1, q2, q3, q4⟩ := hS.out W hW
      go_simp
      refine (hNa.out _ hW).mono ?_
      rintro e w5 ⟨rfl, hbn⟩
      exact ⟨rfl, HD2.out _ (below_step hW hbn)⟩
    try simp only [Act.put, List.setIfInBounds_toArray, List.set_cons_zero, List.set_cons_succ]
    refine wpC_read (v := ?_) rfl (fun W hW => ?_) ?_
    rotate_left
    · clear hW; go_simp; try (with_reducible rfl)
    try simp only [Act.put, List.setIfInBounds_toArray, List.set_cons_zero, List.set_cons_succ]
    refine wpC_read (v := ?_) rfl (fun W hW => ?_) ?_
    rotate_left
    · clear hW; go_simp; try (with_reducible rfl)
    try simp only [Act.put, List.setIfInBounds_toArray, List.set_cons_zero, List.set_cons_succ]
    refine wpC_gread (v := ?_) rfl hgo4.out rfl (fun W hW => ?_) ?_
    rotate_left
    · clear hW; go_simp; try (with_reducible rfl)
    try simp only [Act.put, List.setIfInBounds_toArray, List.set_cons_zero, List.set_cons_succ]
    refine wpC_gread (v := ?_) rfl hgo4.out rfl (fun W hW => ?_) ?_
    rotate_left
    · replace hW := HD.out W hW
      obtain ⟨t0, t1, q0, q1, q2, q3, q4⟩ := hS.out W hW
      go_simp; try (with_reducible rfl)
    try simp only [Act.put, List.setIfInBounds_toArray, List.set_cons_zero, List.set_cons_succ]
    cases bP with
    | false =>
      have HB : Hid (V = false) := by show _ = _; rw [HV.out]; rfl
      refine wpC_gread (v := .bool false) rfl hgo4.out rfl (fun W hW => ?_) ?_
      · replace hW := HD.out W hW
        obtain ⟨t0, t1, q0, q1, q2, q3, q4⟩ := hS.out W hW
        go_simp
        refine (hPa.out _ hW).mono ?_
        rintro e w5 ⟨rfl, hbn⟩
        exact ⟨rfl, HD2.out _ (below_step hW hbn)⟩
      try simp only [Act.put, List.setIfInBounds_toArray, List.set_cons_zero, List.set_cons_succ]
      refine wpC_gread (v := ?_) rfl hgo4.out rfl (fun W hW => ?_) ?_
      rotate_left
      · clear hW; go_simp; try (with_reducible rfl)
      try simp only [Act.put, List.setIfInBounds_toArray, List.set_cons_zero, List.set_cons_succ]
      refine wpC_read (v := ?_) rfl (fun W hW => ?_) ?_
      rotate_left
      · clear hW; go_simp; try (with_reducible rfl)
      try simp only [Act.put, List.setIfInBounds_toArray, List.set_cons_zero, List.set_cons_succ]
      refine wpC_read (v := ?_) rfl (fun W hW => ?_) ?_
      rotate_left
      · clear hW; go_simp; try (with_reducible rfl)
      try simp only [Act.put, List.setIfInBounds_toArray, List.set_cons_zero, List.set_cons_succ]
      refine wpC_skip rfl hgo10.out (.inl rfl) ?_
      try simp only [Act.put, List.setIfInBounds_toArray, List.set_cons_zero, List.set_cons_succ]
      refine wpC_skip rfl hgo10.out (.inl rfl) ?_
      try simp only [Act.put, List.setIfInBounds_toArray, List.set_cons_zero, List.set_cons_succ]
      refine wpC_skip rfl hgo10.out (.inl rfl) ?_
      try simp only [Act.put, List.setIfInBounds_toArray, List.set_cons_zero, List.set_cons_succ]
      refine wpC_skip rfl hgo10.out (.inl rfl) ?_
      try simp only [Act.put, List.setIfInBounds_toArray, List.set_cons_zero, List.set_cons_succ]
      refine wpC_read (v := ?_) rfl (fun W hW => ?_) ?_
      rotate_left
      · clear hW; go_simp; try (with_reducible rfl)
      try simp only [Act.put, List.setIfInBounds_toArray, List.set_cons_zero, List.set_cons_succ]
      refine wpC_read (v := ?_) rfl (fun W hW => ?_) ?_
      rotate_left
      · clear hW; go_simp; try (with_reducible rfl)
      try simp only [Act.put, List.setIfInBounds_toArray, List.set_cons_zero, List.set_cons_succ]
      refine wpC_skip rfl hgo16.out (.inl rfl) ?_
      try simp only [Act.put, List.setIfInBounds_toArray, List.set_cons_zero, List.set_cons_succ]
      refine wpC_skip rfl hgo16.out (.inl rfl) ?_
      try simp only [Act.put, List.setIfInBounds_toArray, List.set_cons_zero, List.set_cons_succ]
      refine wpC_skip rfl hgo16.out (.inl rfl) ?_
      try simp only [Act.put, List.setIfInBounds_toArray, List.set_cons_zero, List.set_cons_succ]
      refine wpC_read (v := ?_) rfl (fun W hW => ?_) ?_
      rotate_left
      · clear hW; go_simp; try (with_reducible rfl)
      try simp only [Act.put, List.setIfInBounds_toArray, List.set_cons_zero, List.set_cons_succ]
      refine wpC_read (v := ?_) rfl (fun W hW => ?_) ?_
      rotate_left
      · clear hW; go_simp; try (with_reducible rfl)
      try simp only [Act.put, List.setIfInBounds_toArray, List.set_cons_zero, List.set_cons_succ]
      refine wpC_skip rfl hgo21.out (.inl rfl) ?_
      try simp only [Act.put, List.setIfInBounds_toArray, List.set_cons_zero, List.set_cons_succ]
      refine wpC_skip rfl hgo21.out (.inl rfl) ?_
      try simp only [Act.put, List.setIfInBounds_toArray, List.set_cons_zero, List.set_cons_succ]
      refine wpC_skip rfl hgo21.out (.inl rfl) ?_
      try simp only [Act.put, List.setIfInBounds_toArray, List.set_cons_zero, List.set_cons_succ]
      refine wpC_skip rfl hgo21.out (.inl rfl) ?_
      try simp only [Act.put, List.setIfInBounds_toArray, List.set_cons_zero, List.set_cons_succ]
      refine wpC_skip rfl hgo21.out (.inl rfl) ?_
      try simp only [Act.put, List.setIfInBounds_toArray, List.set_cons_zero, List.set_cons_succ]
      refine wpC_skip rfl hgo21.out (.inl rfl) ?_
      try simp only [Act.put, List.setIfInBounds_toArray, List.set_cons_zero, List.set_cons_succ]
      refine wpC_skip rfl hgo21.out (.inl rfl) ?_
      try simp only [Act.put, List.setIfInBounds_toArray, List.set_cons_zero, List.set_cons_succ]
      refine wpC_read (v := ?_) rfl (fun W hW => ?_) ?_
      rotate_left
      · clear hW; go_simp; try (with_reducible rfl)
      try simp only [Act.put, List.setIfInBounds_toArray, List.set_cons_zero, List.set_cons_succ]
      refine wpQuiet_nil (HQQ.out _ (fun W hW => ?_))
      obtain ⟨t0, t1, q0, q1, q2, q3, q4⟩ := hS.out W hW
      go_wp2_with fail
      go_ret
      exact ⟨by rw [HB.out]; rfl, hbW.out.trans (hW.mono (by have := HSZ.out; omega))⟩
    | true =>
      refine wpC_gread (v := .bool true) rfl hgo4.out rfl (fun W hW => ?_) ?_
      · replace hW := HD.out W hW
        obtain ⟨t0, t1, q0, q1, q2, q3, q4⟩ := hS.out W hW
        go_simp
        refine (hPa.out _ hW).mono ?_
        rintro e w5 ⟨rfl, hbn⟩
        exact ⟨rfl, HD2.out _ (below_step hW hbn)⟩
      try simp only [Act.put, List.setIfInBounds_toArray, List.set_cons_zero, List.set_cons_succ]
      refine wpC_gread (v := ?_) rfl hgo4.out rfl (fun W hW => ?_) ?_
      rotate_left
      · clear hW; go_simp; try (with_reducible rfl)
      try simp only [Act.put, List.setIfInBounds_toArray, List.set_cons_zero, List.set_cons_succ]
      refine wpC_read (v := ?_) rfl (fun W hW => ?_) ?_
      rotate_left
      · clear hW; go_simp; try (with_reducible rfl)
      try simp only [Act.put, List.setIfInBounds_toArray, List.set_cons_zero, List.set_cons_succ]
      refine wpC_read (v := ?_) rfl (fun W hW => ?_) ?_
      rotate_left
      · clear hW; go_simp; try (with_reducible rfl)
      try simp only [Act.put, List.setIfInBounds_toArray, List.set_cons_zero, List.set_cons_succ]
      refine wpC_gread (v := ?_) rfl hgo10.out rfl (fun W hW => ?_) ?_
      rotate_left
      · clear hW; go_simp; try (with_reducible rfl)
      try simp only [Act.put, List.setIfInBounds_toArray, List.set_cons_zero, List.set_cons_succ]
      refine wpC_gread (v := ?_) rfl hgo10.out rfl (fun W hW => ?_) ?_
      rotate_left
      · replace hW := HD.out W hW
        obtain ⟨t0, t1, q0, q1, q2, q3, q4⟩ := hS.out W hW
        go_simp; try (with_reducible rfl)
      try simp only [Act.put, List.setIfInBounds_toArray, List.set_cons_zero, List.set_cons_succ]
      refine wpC_gread (v := ?_) rfl hgo10.out rfl (fun W hW => ?_) ?_
      rotate_left
      · clear hW; go_simp; try (with_reducible rfl)
      try simp only [Act.put, List.setIfInBounds_toArray, List.set_cons_zero, List.set_cons_succ]
      rcases hyn with ⟨hz4, d14⟩ | ⟨hz4, d14⟩
      · have HB : Hid (V = false) := by show _ = _; rw [HV.out, hz4]; simp
        refine wpC_gread (v := ?_) rfl hgo10.out rfl (fun W hW => ?_) ?_
        rotate_left
        · clear hW; go_simp; try (with_reducible rfl)
        try simp only [Act.put, List.setIfInBounds_toArray, List.set_cons_zero, List.set_cons_succ]
        refine wpC_read (v := ?_) rfl (fun W hW => ?_) ?_
        rotate_left
        · clear hW; go_simp; try (with_reducible rfl)
        try simp only [Act.put, List.setIfInBounds_toArray, List.set_cons_zero, List.set_cons_succ]
        refine wpC_read (v := ?_) rfl (fun W hW => ?_) ?_
        rotate_left
        · clear hW; go_simp; try (with_reducible rfl)
        try simp only [Act.put, List.setIfInBounds_toArray, List.set_cons_zero, List.set_cons_succ]
        refine wpC_skip rfl hgo16.out (.inl rfl) ?_
        try simp only [Act.put, List.setIfInBounds_toArray, List.set_cons_zero, List.set_cons_succ]
        refine wpC_skip rfl hgo16.out (.inl rfl) ?_
        try simp only [Act.put, List.setIfInBounds_toArray, List.set_cons_zero, List.set_cons_succ]
        refine wpC_skip rfl hgo16.out (.inl rfl) ?_
        try simp only [Act.put, List.setIfInBounds_toArray, List.set_cons_zero, List.set_cons_succ]
        refine wpC_read (v := ?_) rfl (fun W hW => ?_) ?_
        rotate_left
        · clear hW; go_simp; try (with_reducible rfl)
        try simp only [Act.put, List.setIfInBounds_toArray, List.set_cons_zero, List.set_cons_succ]
        refine wpC_read (v := ?_) rfl (fun W hW => ?_) ?_
        rotate_left
        · clear hW; go_simp; try (with_reducible rfl)
        try simp only [Act.put, List.setIfInBounds_toArray, List.set_cons_zero, List.set_cons_succ]
        refine wpC_skip rfl hgo21.out (.inl rfl) ?_
        try simp only [Act.put, List.setIfInBounds_toArray, List.set_cons_zero, List.set_cons_succ]
        refine wpC_skip rfl hgo21.out (.inl rfl) ?_
        try simp only [Act.put, List.setIfInBounds_toArray, List.set_cons_zero, List.set_cons_succ]
        refine wpC_skip rfl hgo21.out (.inl rfl) ?_
        try simp only [Act.put, List.setIfInBounds_toArray, List.set_cons_zero, List.set_cons_succ]
        refine wpC_skip rfl hgo21.out (.inl rfl) ?_
        try simp only [Act.put, List.setIfInBounds_toArray, List.set_cons_zero, List.set_cons_succ]
        refine wpC_skip rfl hgo21.out (.inl rfl) ?_
        try simp only [Act.put, List.setIfInBounds_toArray, List.set_cons_zero, List.set_cons_succ]
        refine wpC_skip rfl hgo21.out (.inl rfl) ?_
        try simp only [Act.put, List.setIfInBounds_toArray, List.set_cons_zero, List.set_cons_succ]
        refine wpC_skip rfl hgo21.out (.inl rfl) ?_
        try simp only [Act.put, List.setIfInBounds_toArray, List.set_cons_zero, List.set_cons_succ]
        refine wpC_read (v := ?_) rfl (fun W hW => ?_) ?_
        rotate_left
        · clear hW; go_simp; try (with_reducible rfl)
        try simp only [Act.put, List.setIfInBounds_toArray, List.set_cons_zero, List.set_cons_succ]
        refine wpQuiet_nil (HQQ.out _ (fun W hW => ?_))
        obtain ⟨t0, t1, q0, q1, q2, q3, q4⟩ := hS.out W hW
        go_wp2_with fail
        go_ret
        exact ⟨by rw [HB.out]; rfl, hbW.out.trans (hW.mono (by have := HSZ.out; omega))⟩
      · refine wpC_gread (v := ?_) rfl hgo10.out rfl (fun W hW => ?_) ?_
        rotate_left
        · clear hW; go_simp; try (with_reducible rfl)
        try simp only [Act.put, List.setIfInBounds_toArray, List.set_cons_zero, List.set_cons_succ]
        refine wpC_read (v := ?_) rfl (fun W hW => ?_) ?_
        rotate_left
        · clear hW; go_simp; try (with_reducible rfl)
        try simp only [Act.put, List.setIfInBounds_toArray, List.set_cons_zero, List.set_cons_succ]
        refine wpC_read (v := ?_) rfl (fun W hW => ?_) ?_
        rotate_left
        · clear hW; go_simp; try (with_reducible rfl)
        try simp only [Act.put, List.setIfInBounds_toArray, List.set_cons_zero, List.set_cons_succ]
        refine wpC_gread (v := ?_) rfl hgo16.out rfl (fun W hW => ?_) ?_
        rotate_left
        · clear hW; go_simp; try (with_reducible rfl)
        try simp only [Act.put, List.setIfInBounds_toArray, List.set_cons_zero, List.set_cons_succ]
        refine wpC_gread (v := ?_) rfl hgo16.out rfl (fun W hW => ?_) ?_
        rotate_left
        · replace hW := HD.out W hW
          obtain ⟨t0, t1, q0, q1, q2, q3, q4⟩ := hS.out W hW
          go_simp; try (with_reducible rfl)
        try simp only [Act.put, List.setIfInBounds_toArray, List.set_cons_zero, List.set_cons_succ]
        rcases hyh with ⟨hz5, d19⟩ | ⟨hz5, d19⟩
        · have HB : Hid (V = false) := by show _ = _; rw [HV.out, hz5]; simp
          refine wpC_gread (v := ?_) rfl hgo16.out rfl (fun W hW => ?_) ?_
          rotate_left
          · clear hW; go_simp; try (with_reducible rfl)
          try simp only [Act.put, List.setIfInBounds_toArray, List.set_cons_zero, List.set_cons_succ]
          refine wpC_read (v := ?_) rfl (fun W hW => ?_) ?_
          rotate_left
          · clear hW; go_simp; try (with_reducible rfl)
          try simp only [Act.put, List.setIfInBounds_toArray, List.set_cons_zero, List.set_cons_succ]
          refine wpC_read (v := ?_) rfl (fun W hW => ?_) ?_
          rotate_left
          · clear hW; go_simp; try (with_reducible rfl)
          try simp only [Act.put, List.setIfInBounds_toArray, List.set_cons_zero, List.set_cons_succ]
          refine wpC_skip rfl hgo21.out (.inl rfl) ?_
          try simp only [Act.put, List.setIfInBounds_toArray, List.set_cons_zero, List.set_cons_succ]
          refine wpC_skip rfl hgo21.out (.inl rfl) ?_
          try simp only [Act.put, List.setIfInBounds_toArray, List.set_cons_zero, List.set_cons_succ]
          refine wpC_skip rfl hgo21.out (.inl rfl) ?_
          try simp only [Act.put, List.setIfInBounds_toArray, List.set_cons_zero, List.set_cons_succ]
          refine wpC_skip rfl hgo21.out (.inl rfl) ?_
          try simp only [Act.put, List.setIfInBounds_toArray, List.set_cons_zero, List.set_cons_succ]
          refine wpC_skip rfl hgo21.out (.inl rfl) ?_
          try simp only [Act.put, List.setIfInBounds_toArray, List.set_cons_zero, List.set_cons_succ]
          refine wpC_skip rfl hgo21.out (.inl rfl) ?_
          try simp only [Act.put, List.setIfInBounds_toArray, List.set_cons_zero, List.set_cons_succ]
          refine wpC_skip rfl hgo21.out (.inl rfl) ?_
          try simp only [Act.put, List.setIfInBounds_toArray, List.set_cons_zero, List.set_cons_succ]
          refine wpC_read (v := ?_) rfl (fun W hW => ?_) ?_
          rotate_left
          · clear hW; go_simp; try (with_reducible rfl)
          try simp only [Act.put, List.setIfInBounds_toArray, List.set_cons_zero, List.set_cons_succ]
          refine wpQuiet_nil (HQQ.out _ (fun W hW => ?_))
          obtain ⟨t0, t1, q0, q1, q2, q3, q4⟩ := hS.out W hW
          go_wp2_with fail
          go_ret
          exact ⟨by rw [HB.out]; rfl, hbW.out.trans (hW.mono (by have := HSZ.out; omega))⟩
        · refine wpC_gread (v := ?_) rfl hgo16.out rfl (fun W hW => ?_) ?_
          rotate_left
          · clear hW; go_simp; try (with_reducible rfl)
          try simp only [Act.put, List.setIfInBounds_toArray, List.set_cons_zero, List.set_cons_succ]
          refine wpC_read (v := ?_) rfl (fun W hW => ?_) ?_
          rotate_left
          · clear hW; go_simp; try (with_reducible rfl)
          try simp only [Act.put, List.setIfInBounds_toArray, List.set_cons_zero, List.set_cons_succ]
          refine wpC_read (v := ?_) rfl (fun W hW => ?_) ?_
          rotate_left
          · clear hW; go_simp; try (with_reducible rfl)
          try simp only [Act.put, List.setIfInBounds_toArray, List.set_cons_zero, List.set_cons_succ]
          refine wpC_gread (v := ?_) rfl hgo21.out rfl (fun W hW => ?_) ?_
          rotate_left
          · clear hW; go_simp; try (with_reducible rfl)
          try simp only [Act.put, List.setIfInBounds_toArray, List.set_cons_zero, List.set_cons_succ]
          refine wpC_gread (v := ?_) rfl hgo21.out rfl (fun W hW => ?_) ?_
          rotate_left
          · replace hW := HD.out W hW
            obtain ⟨t0, t1, q0, q1, q2, q3, q4⟩ := hS.out W hW
            go_simp; try (with_reducible rfl)
          try simp only [Act.put, List.setIfInBounds_toArray, List.set_cons_zero, List.set_cons_succ]
          refine wpC_gread (v := ?_) rfl hgo21.out rfl (fun W hW => ?_) ?_
          rotate_left
          · replace hW := HD.out W hW
            obtain ⟨t0, t1, q0, q1, q2, q3, q4⟩ := hS.out W hW
            go_simp; try (with_reducible rfl)
          try simp only [Act.put, List.setIfInBounds_toArray, List.set_cons_zero, List.set_cons_succ]
          refine wpC_gread (v := ?_) rfl hgo21.out rfl (fun W hW => ?_) ?_
          rotate_left
          · clear hW; go_simp; try (with_reducible rfl)
          try simp only [Act.put, List.setIfInBounds_toArray, List.set_cons_zero, List.set_cons_succ]
          refine wpC_gread (v := ?_) rfl hgo21.out rfl (fun W hW => ?_) ?_
          rotate_left
          · replace hW := HD.out W hW
            obtain ⟨t0, t1, q0, q1, q2, q3, q4⟩ := hS.out W hW
            go_simp; try (with_reducible rfl)
          try simp only [Act.put, List.setIfInBounds_toArray, List.set_cons_zero, List.set_cons_succ]
          refine wpC_gread (v := .int .i64 zH) rfl hgo21.out rfl (fun W hW => ?_) ?_
          · replace hW := HD.out W hW
            obtain ⟨t0, t1, q0, q1, q2, q3, q4⟩ := hS.out W hW
            go_simp
            refine (hHa.out _ hW).mono ?_
            rintro e w5 ⟨rfl, hbn⟩
            exact ⟨rfl, HD2.out _ (below_step hW hbn)⟩
          try simp only [Act.put, List.setIfInBounds_toArray, List.set_cons_zero, List.set_cons_succ]
          rcases hzh with ⟨hz6, d28⟩ | ⟨hz6, d28⟩
          · have HB : Hid (V = false) := by show _ = _; rw [HV.out, hz6]; simp
            refine wpC_gread (v := ?_) rfl hgo21.out rfl (fun W hW => ?_) ?_
            rotate_left
            · clear hW; go_simp; try (with_reducible rfl)
            try simp only [Act.put, List.setIfInBounds_toArray, List.set_cons_zero, List.set_cons_succ]
            refine wpC_read (v := ?_) rfl (fun W hW => ?_) ?_
            rotate_left
            · clear hW; go_simp; try (with_reducible rfl)
            try simp only [Act.put, List.setIfInBounds_toArray, List.set_cons_zero, List.set_cons_succ]
            refine wpQuiet_nil (HQQ.out _ (fun W hW => ?_))
            obtain ⟨t0, t1, q0, q1, q2, q3, q4⟩ := hS.out W hW
            go_wp2_with fail
            go_ret
            exact ⟨by rw [HB.out]; rfl, hbW.out.trans (hW.mono (by have := HSZ.out; omega))⟩
          · refine wpC_gread (v := ?_) rfl hgo21.out rfl (fun W hW => ?_) ?_
            rotate_left
            · clear hW; go_simp; try (with_reducible rfl)
            try simp only [Act.put, List.setIfInBounds_toArray, List.set_cons_zero, List.set_cons_succ]
            refine wpC_read (v := ?_) rfl (fun W hW => ?_) ?_
            rotate_left
            · clear hW; go_simp; try (with_reducible rfl)
            try simp only [Act.put, List.setIfInBounds_toArray, List.set_cons_zero, List.set_cons_succ]
            refine wpQuiet_nil (HQQ.out _ (fun W hW => ?_))
            obtain ⟨t0, t1, q0, q1, q2, q3, q4⟩ := hS.out W hW
            replace HV : Hid (V = (pO && (decide (zA = yh) && b))) := by show _ = _; rw [HV.out, hz4, hz5, hz6, HM.out]; cases pO <;> cases decide (zA = yh) <;> cases b <;> rfl
            clear t0 t1 q0 q1 q2 q3 q4 hNa hPa hHa d14 d19 d28
            go_wp2_with fail
            rcases hprev with ⟨dk, dk', HPO⟩ | ⟨pt, ph, pi, pA, pn, pc, pb, ad2, zO, e2, dk, dk', i1, i2, i3, i4, hP, hOr, HPO⟩
            · subst HPO
              rcases hat with ⟨ha, da⟩ | ⟨ha, da⟩
              · have HB : Hid (V = b) := by show _ = _; rw [HV.out]; rw [ha]; rfl
                clear HV
                refine wp_region_good2 (by kernel_rfl) (by kernel_rfl) [(fun v _ => v = .int .i64 (k : Int)),
                  (fun v _ => v = .bool true),
                  (fun v _ => v = .bool true),
                  (fun v _ => v = undef),
                  (fun v _ => v = undef),
                  (fun v _ => v = undef),
                  (fun v _ => v = undef),
                  (fun v _ => v = undef),
                  (fun v _ => v = undef),
                  (fun v _ => v = undef),
                  (fun v _ => v = undef),
                  (fun v _ => v = undef),
                  (fun v _ => v = .bool true),
                  (fun v _ => v = .bool true),
                  (fun v _ => v = .agg #[.slice (some ad) on oc, .slice dA dn dc]),
                  (fun v _ => v = .pointer (some ⟨(w.heap.size + 1), 0, none⟩)),
                  (fun v _ => v = .string ⟨yt.toArray⟩),
                  (fun v _ => v = .pointer (some ⟨(w.heap.size + 1), 2, none⟩)),
                  (fun v _ => v = .string ⟨yi.toArray⟩),
                  (fun v _ => v = .int .i64 zA),
                  (fun v _ => v = .pointer (some ⟨(w.heap.size + 1), 1, none⟩)),
                  (fun v _ => v = .int .i64 yh),
                  (fun v _ => v = .bool true),
                  (fun v _ => v = .bool true),
                  (fun v _ => v = .bool true),
                  (fun v _ => v = .agg #[.slice (some ad) on oc, .slice dA dn dc]),
                  (fun v _ => v = .pointer (some ⟨(w.heap.size + 1), 0, none⟩)),
                  (fun v _ => v = .string ⟨yt.toArray⟩),
                  (fun v _ => ∃ A c, v = .slice A nOf c),
                  (fun v _ => v = .int .i64 (nOf : Int)),
                  (fun v _ => v = .bool b),
                  (fun v _ => v = .bool b),
                  (fun v _ => v = .bool b)] ?_ ?_ ?_
                · repeat' (first | exact stays_nil | refine stays_cons ?_ ?_ | exact Stays.pure)
                · intro i oo ho m2 W hb0 hmi hcl hdeps AA KK hA hK
                  rcases i with _ | _ | _ | _ | _ | _ | _ | _ | _ | _ | _ | _ | _ | _ | _ | _ | _ | _ | _ | _ | _ | _ | _ | _ | _ | _ | _ | _ | _ | _ | _ | _ | _ | i
                  · injection ho with ho
                    subst ho
                    have ef1 : AA.tmps[1]?.getD undef = .int .i64 (k : Int) := by rw [hA]; exact tmps_free (by kernel_rfl)
                    clear hA hdeps hcl hmi
                    have hK0 : KK (AA.put (some 41) _) _ := hK (.int .i64 (k : Int)) _ (Below.refl _ _) (Eq.refl _)
                    clear hK
                    go_simp
                    exact hK0
                  · injection ho with ho
                    subst ho
                    obtain ⟨x0, hx0, hg0⟩ := hdeps ⟨0, .data⟩ (by simp) rfl
                    have hg0 : x0 = .int .i64 (k : Int) := hg0
                    subst hg0
                    have e0 : AA.tmps[41]?.getD undef = .int .i64 (k : Int) := by rw [hA]; exact tmps_own (by kernel_rfl) hx0 (of_decide_eq_true (by kernel_rfl))
                    clear hA hdeps hcl hmi hx0
                    have hK0 : KK (AA.put (some 42) _) _ := hK (.bool true) _ (Below.refl _ _) (Eq.refl _)
                    clear hK
                    go_simp
                    exact hK0
                  · injection ho with ho
                    subst ho
                    obtain ⟨x1, hx1, hg1⟩ := hdeps ⟨1, .data⟩ (by simp) rfl
                    have hg1 : x1 = .bool true := hg1
                    subst hg1
                    have e1 : AA.tmps[42]?.getD undef = .bool true := by rw [hA]; exact tmps_own (by kernel_rfl) hx1 (of_decide_eq_true (by kernel_rfl))
                    clear hA hdeps hcl hmi hx1
                    have hK0 : KK (AA.put (some 43) _) _ := hK (.bool true) _ (Below.refl _ _) (Eq.refl _)
                    clear hK
                    go_simp
                    exact hK0
                  · injection ho with ho
                    subst ho
                    obtain ⟨x2, hx2, hg2⟩ := hdeps ⟨2, .guard⟩ (by simp) rfl
                    have hg2 : x2 = .bool true := hg2
                    subst hg2
                    have e2 : AA.tmps[43]?.getD undef = .bool true := by rw [hA]; exact tmps_own (by kernel_rfl) hx2 (of_decide_eq_true (by kernel_rfl))
                    have ef2 : AA.tmps[2]?.getD undef = .pointer (some ⟨w.heap.size, 0, none⟩) := by rw [hA]; exact tmps_free (by kernel_rfl)
                    clear hA hdeps hcl hmi hx2
                    rw [if_neg (unwanted_of (b := false) (k := 43) rfl rfl (.inl e2))]
                    exact hK undef _ (Below.refl _ _) (Eq.refl _)
                  · injection ho with ho
                    subst ho
                    obtain ⟨x2, hx2, hg2⟩ := hdeps ⟨2, .guard⟩ (by simp) rfl
                    have hg2 : x2 = .bool true := hg2
                    subst hg2
                    have e2 : AA.tmps[43]?.getD undef = .bool true := by rw [hA]; exact tmps_own (by kernel_rfl) hx2 (of_decide_eq_true (by kernel_rfl))
                    obtain ⟨x3, hx3, hg3⟩ := hdeps ⟨3, .data⟩ (by simp) rfl
                    have hg3 : x3 = undef := hg3
                    subst hg3
                    have e3 : AA.tmps[44]?.getD undef = undef := by rw [hA]; exact tmps_own (by kernel_rfl) hx3 (of_decide_eq_true (by kernel_rfl))
                    clear hA hdeps hcl hmi hx2 hx3
                    rw [if_neg (unwanted_of (b := false) (k := 43) rfl rfl (.inl e2))]
                    exact hK undef _ (Below.refl _ _) (Eq.refl _)
                  · injection ho with ho
                    subst ho
                    obtain ⟨x2, hx2, hg2⟩ := hdeps ⟨2, .guard⟩ (by simp) rfl
                    have hg2 : x2 = .bool true := hg2
                    subst hg2
                    have e2 : AA.tmps[43]?.getD undef = .bool true := by rw [hA]; exact tmps_own (by kernel_rfl) hx2 (of_decide_eq_true (by kernel_rfl))
                    have ef1 : AA.tmps[1]?.getD undef = .int .i64 (k : Int) := by rw [hA]; exact tmps_free (by kernel_rfl)
                    clear hA hdeps hcl hmi hx2
                    rw [if_neg (unwanted_of (b := false) (k := 43) rfl rfl (.inl e2))]
                    exact hK undef _ (Below.refl _ _) (Eq.refl _)
                  · injection ho with ho
                    subst ho
                    obtain ⟨x2, hx2, hg2⟩ := hdeps ⟨2, .guard⟩ (by simp) rfl
                    have hg2 : x2 = .bool true := hg2
                    subst hg2
                    have e2 : AA.tmps[43]?.getD undef = .bool true := by rw [hA]; exact tmps_own (by kernel_rfl) hx2 (of_decide_eq_true (by kernel_rfl))
                    obtain ⟨x5, hx5, hg5⟩ := hdeps ⟨5, .data⟩ (by simp) rfl
                    have hg5 : x5 = undef := hg5
                    subst hg5
                    have e5 : AA.tmps[46]?.getD undef = undef := by rw [hA]; exact tmps_own (by kernel_rfl) hx5 (of_decide_eq_true (by kernel_rfl))
                    clear hA hdeps hcl hmi hx2 hx5
                    rw [if_neg (unwanted_of (b := false) (k := 43) rfl rfl (.inl e2))]
                    exact hK undef _ (Below.refl _ _) (Eq.refl _)
                  · injection ho with ho
                    subst ho
                    obtain ⟨x2, hx2, hg2⟩ := hdeps ⟨2, .guard⟩ (by simp) rfl
                    have hg2 : x2 = .bool true := hg2
                    subst hg2
                    have e2 : AA.tmps[43]?.getD undef = .bool true := by rw [hA]; exact tmps_own (by kernel_rfl) hx2 (of_decide_eq_true (by kernel_rfl))
                    obtain ⟨x4, hx4, hg4⟩ := hdeps ⟨4, .data⟩ (by simp) rfl
                    have hg4 : x4 = undef := hg4
                    subst hg4
                    have e4 : AA.tmps[45]?.getD undef = undef := by rw [hA]; exact tmps_own (by kernel_rfl) hx4 (of_decide_eq_true (by kernel_rfl))
                    obtain ⟨x6, hx6, hg6⟩ := hdeps ⟨6, .data⟩ (by simp) rfl
                    have hg6 : x6 = undef := hg6
                    subst hg6
                    have e6 : AA.tmps[47]?.getD undef = undef := by rw [hA]; exact tmps_own (by kernel_rfl) hx6 (of_decide_eq_true (by kernel_rfl))
                    clear hA hdeps hcl hmi hx2 hx4 hx6
                    rw [if_neg (unwanted_of (b := false) (k := 43) rfl rfl (.inl e2))]
                    exact hK undef _ (Below.refl _ _) (Eq.refl _)
                  · injection ho with ho
                    subst ho
                    obtain ⟨x2, hx2, hg2⟩ := hdeps ⟨2, .guard⟩ (by simp) rfl
                    have hg2 : x2 = .bool true := hg2
                    subst hg2
                    have e2 : AA.tmps[43]?.getD undef = .bool true := by rw [hA]; exact tmps_own (by kernel_rfl) hx2 (of_decide_eq_true (by kernel_rfl))
                    obtain ⟨x7, hx7, hg7⟩ := hdeps ⟨7, .data⟩ (by simp) rfl
                    have hg7 : x7 = undef := hg7
                    subst hg7
                    have e7 : AA.tmps[48]?.getD undef = undef := by rw [hA]; exact tmps_own (by kernel_rfl) hx7 (of_decide_eq_true (by kernel_rfl))
                    clear hA hdeps hcl hmi hx2 hx7
                    rw [if_neg (unwanted_of (b := false) (k := 43) rfl rfl (.inl e2))]
                    exact hK undef _ (Below.refl _ _) (Eq.refl _)
                  · injection ho with ho
                    subst ho
                    obtain ⟨x2, hx2, hg2⟩ := hdeps ⟨2, .guard⟩ (by simp) rfl
                    have hg2 : x2 = .bool true := hg2
                    subst hg2
                    have e2 : AA.tmps[43]?.getD undef = .bool true := by rw [hA]; exact tmps_own (by kernel_rfl) hx2 (of_decide_eq_true (by kernel_rfl))
                    have ef5 : AA.tmps[5]?.getD undef = .pointer (some ⟨(w.heap.size + 1), 0, none⟩) := by rw [hA]; exact tmps_free (by kernel_rfl)
                    clear hA hdeps hcl hmi hx2
                    rw [if_neg (unwanted_of (b := false) (k := 43) rfl rfl (.inl e2))]
                    exact hK undef _ (Below.refl _ _) (Eq.refl _)
                  · injection ho with ho
                    subst ho
                    obtain ⟨x2, hx2, hg2⟩ := hdeps ⟨2, .guard⟩ (by simp) rfl
                    have hg2 : x2 = .bool true := hg2
                    subst hg2
                    have e2 : AA.tmps[43]?.getD undef = .bool true := by rw [hA]; exact tmps_own (by kernel_rfl) hx2 (of_decide_eq_true (by kernel_rfl))
                    obtain ⟨x8, hx8, hg8⟩ := hdeps ⟨8, .data⟩ (by simp) rfl
                    have hg8 : x8 = undef := hg8
                    subst hg8
                    have e8 : AA.tmps[49]?.getD undef = undef := by rw [hA]; exact tmps_own (by kernel_rfl) hx8 (of_decide_eq_true (by kernel_rfl))
                    obtain ⟨x9, hx9, hg9⟩ := hdeps ⟨9, .data⟩ (by simp) rfl
                    have hg9 : x9 = undef := hg9
                    subst hg9
                    have e9 : AA.tmps[50]?.getD undef = undef := by rw [hA]; exact tmps_own (by kernel_rfl) hx9 (of_decide_eq_true (by kernel_rfl))
                    clear hA hdeps hcl hmi hx2 hx8 hx9
                    rw [if_neg (unwanted_of (b := false) (k := 43) rfl rfl (.inl e2))]
                    exact hK undef _ (Below.refl _ _) (Eq.refl _)
                  · injection ho with ho
                    subst ho
                    obtain ⟨x2, hx2, hg2⟩ := hdeps ⟨2, .guard⟩ (by simp) rfl
                    have hg2 : x2 = .bool true := hg2
                    subst hg2
                    have e2 : AA.tmps[43]?.getD undef = .bool true := by rw [hA]; exact tmps_own (by kernel_rfl) hx2 (of_decide_eq_true (by kernel_rfl))
                    obtain ⟨x10, hx10, hg10⟩ := hdeps ⟨10, .data⟩ (by simp) rfl
                    have hg10 : x10 = undef := hg10
                    subst hg10
                    have e10 : AA.tmps[51]?.getD undef = undef := by rw [hA]; exact tmps_own (by kernel_rfl) hx10 (of_decide_eq_true (by kernel_rfl))
                    clear hA hdeps hcl hmi hx2 hx10
                    rw [if_neg (unwanted_of (b := false) (k := 43) rfl rfl (.inl e2))]
                    exact hK undef _ (Below.refl _ _) (Eq.refl _)
                  · injection ho with ho
                    subst ho
                    obtain ⟨x2, hx2, hg2⟩ := hdeps ⟨2, .data⟩ (by simp) rfl
                    have hg2 : x2 = .bool true := hg2
                    subst hg2
                    have e2 : AA.tmps[43]?.getD undef = .bool true := by rw [hA]; exact tmps_own (by kernel_rfl) hx2 (of_decide_eq_true (by kernel_rfl))
                    obtain ⟨x11, hx11, hg11⟩ := hdeps ⟨11, .data⟩ (by simp) rfl
                    have hg11 : x11 = undef := hg11
                    subst hg11
                    have e11 : AA.tmps[52]?.getD undef = undef := by rw [hA]; exact tmps_own (by kernel_rfl) hx11 (of_decide_eq_true (by kernel_rfl))
                    clear hA hdeps hcl hmi hx2 hx11
                    have hK0 : KK (AA.put (some 53) _) _ := hK (.bool true) _ (Below.refl _ _) (Eq.refl _)
                    clear hK
                    go_simp
                    exact hK0
                  · injection ho with ho
                    subst ho
                    obtain ⟨x12, hx12, hg12⟩ := hdeps ⟨12, .data⟩ (by simp) rfl
                    have hg12 : x12 = .bool true := hg12
                    subst hg12
                    have e12 : AA.tmps[53]?.getD undef = .bool true := by rw [hA]; exact tmps_own (by kernel_rfl) hx12 (of_decide_eq_true (by kernel_rfl))
                    clear hA hdeps hcl hmi hx12
                    have hK0 : KK (AA.put (some 54) _) _ := hK (.bool true) _ (Below.refl _ _) (Eq.refl _)
                    clear hK
                    go_simp
                    exact hK0
                  · injection ho with ho
                    subst ho
                    obtain ⟨x13, hx13, hg13⟩ := hdeps ⟨13, .guard⟩ (by simp) rfl
                    have hg13 : x13 = .bool true := hg13
                    subst hg13
                    have e13 : AA.tmps[54]?.getD undef = .bool true := by rw [hA]; exact tmps_own (by kernel_rfl) hx13 (of_decide_eq_true (by kernel_rfl))
                    have ef2 : AA.tmps[2]?.getD undef = .pointer (some ⟨w.heap.size, 0, none⟩) := by rw [hA]; exact tmps_free (by kernel_rfl)
                    clear hA hdeps hcl hmi hx13
                    rw [if_pos (wanted_of (k := 54) rfl rfl e13)]
                    obtain ⟨t0, t1, q0, q1, q2, q3, q4⟩ := hS.out W (hW.trans (hb0.mono hW.size))
                    have hK0 : KK (AA.put (some 55) _) _ := hK (.agg #[.slice (some ad) on oc, .slice dA dn dc]) _ (Below.refl _ _) (Eq.refl _)
                    clear hK
                    go_simp
                    exact hK0
                  · injection ho with ho
                    subst ho
                    obtain ⟨x13, hx13, hg13⟩ := hdeps ⟨13, .guard⟩ (by simp) rfl
                    have hg13 : x13 = .bool true := hg13
                    subst hg13
                    have e13 : AA.tmps[54]?.getD undef = .bool true := by rw [hA]; exact tmps_own (by kernel_rfl) hx13 (of_decide_eq_true (by kernel_rfl))
                    have ef5 : AA.tmps[5]?.getD undef = .pointer (some ⟨(w.heap.size + 1), 0, none⟩) := by rw [hA]; exact tmps_free (by kernel_rfl)
                    clear hA hdeps hcl hmi hx13
                    rw [if_pos (wanted_of (k := 54) rfl rfl e13)]
                    have hK0 : KK (AA.put (some 56) _) _ := hK (.pointer (some ⟨(w.heap.size + 1), 0, none⟩)) _ (Below.refl _ _) (Eq.refl _)
                    clear hK
                    go_simp
                    exact hK0
                  · injection ho with ho
                    subst ho
                    obtain ⟨x13, hx13, hg13⟩ := hdeps ⟨13, .guard⟩ (by simp) rfl
                    have hg13 : x13 = .bool true := hg13
                    subst hg13
                    have e13 : AA.tmps[54]?.getD undef = .bool true := by rw [hA]; exact tmps_own (by kernel_rfl) hx13 (of_decide_eq_true (by kernel_rfl))
                    obtain ⟨x15, hx15, hg15⟩ := hdeps ⟨15, .data⟩ (by simp) rfl
                    have hg15 : x15 = .pointer (some ⟨(w.heap.size + 1), 0, none⟩) := hg15
                    subst hg15
                    have e15 : AA.tmps[56]?.getD undef = .pointer (some ⟨(w.heap.size + 1), 0, none⟩) := by rw [hA]; exact tmps_own (by kernel_rfl) hx15 (of_decide_eq_true (by kernel_rfl))
                    clear hA hdeps hcl hmi hx13 hx15
                    rw [if_pos (wanted_of (k := 54) rfl rfl e13)]
                    obtain ⟨t0, t1, q0, q1, q2, q3, q4⟩ := hS.out W (hW.trans (hb0.mono hW.size))
                    have hK0 : KK (AA.put (some 57) _) _ := hK (.string ⟨yt.toArray⟩) _ (Below.refl _ _) (Eq.refl _)
                    clear hK
                    go_simp
                    exact hK0
                  · injection ho with ho
                    subst ho
                    obtain ⟨x13, hx13, hg13⟩ := hdeps ⟨13, .guard⟩ (by simp) rfl
                    have hg13 : x13 = .bool true := hg13
                    subst hg13
                    have e13 : AA.tmps[54]?.getD undef = .bool true := by rw [hA]; exact tmps_own (by kernel_rfl) hx13 (of_decide_eq_true (by kernel_rfl))
                    have ef5 : AA.tmps[5]?.getD undef = .pointer (some ⟨(w.heap.size + 1), 0, none⟩) := by rw [hA]; exact tmps_free (by kernel_rfl)
                    clear hA hdeps hcl hmi hx13
                    rw [if_pos (wanted_of (k := 54) rfl rfl e13)]
                    have hK0 : KK (AA.put (some 58) _) _ := hK (.pointer (some ⟨(w.heap.size + 1), 2, none⟩)) _ (Below.refl _ _) (Eq.refl _)
                    clear hK
                    go_simp
                    exact hK0
                  · injection ho with ho
                    subst ho
                    obtain ⟨x13, hx13, hg13⟩ := hdeps ⟨13, .guard⟩ (by simp) rfl
                    have hg13 : x13 = .bool true := hg13
                    subst hg13
                    have e13 : AA.tmps[54]?.getD undef = .bool true := by rw [hA]; exact tmps_own (by kernel_rfl) hx13 (of_decide_eq_true (by kernel_rfl))
                    obtain ⟨x17, hx17, hg17⟩ := hdeps ⟨17, .data⟩ (by simp) rfl
                    have hg17 : x17 = .pointer (some ⟨(w.heap.size + 1), 2, none⟩) := hg17
                    subst hg17
                    have e17 : AA.tmps[58]?.getD undef = .pointer (some ⟨(w.heap.size + 1), 2, none⟩) := by rw [hA]; exact tmps_own (by kernel_rfl) hx17 (of_decide_eq_true (by kernel_rfl))
                    clear hA hdeps hcl hmi hx13 hx17
                    rw [if_pos (wanted_of (k := 54) rfl rfl e13)]
                    obtain ⟨t0, t1, q0, q1, q2, q3, q4⟩ := hS.out W (hW.trans (hb0.mono hW.size))
                    have hK0 : KK (AA.put (some 59) _) _ := hK (.string ⟨yi.toArray⟩) _ (Below.refl _ _) (Eq.refl _)
                    clear hK
                    go_simp
                    exact hK0
                  · injection ho with ho
                    subst ho
                    obtain ⟨x13, hx13, hg13⟩ := hdeps ⟨13, .guard⟩ (by simp) rfl
                    have hg13 : x13 = .bool true := hg13
                    subst hg13
                    have e13 : AA.tmps[54]?.getD undef = .bool true := by rw [hA]; exact tmps_own (by kernel_rfl) hx13 (of_decide_eq_true (by kernel_rfl))
                    obtain ⟨x14, hx14, hg14⟩ := hdeps ⟨14, .data⟩ (by simp) rfl
                    have hg14 : x14 = .agg #[.slice (some ad) on oc, .slice dA dn dc] := hg14
                    subst hg14
                    have e14 : AA.tmps[55]?.getD undef = .agg #[.slice (some ad) on oc, .slice dA dn dc] := by rw [hA]; exact tmps_own (by kernel_rfl) hx14 (of_decide_eq_true (by kernel_rfl))
                    obtain ⟨x16, hx16, hg16⟩ := hdeps ⟨16, .data⟩ (by simp) rfl
                    have hg16 : x16 = .string ⟨yt.toArray⟩ := hg16
                    subst hg16
                    have e16 : AA.tmps[57]?.getD undef = .string ⟨yt.toArray⟩ := by rw [hA]; exact tmps_own (by kernel_rfl) hx16 (of_decide_eq_true (by kernel_rfl))
                    obtain ⟨x18, hx18, hg18⟩ := hdeps ⟨18, .data⟩ (by simp) rfl
                    have hg18 : x18 = .string ⟨yi.toArray⟩ := hg18
                    subst hg18
                    have e18 : AA.tmps[59]?.getD undef = .string ⟨yi.toArray⟩ := by rw [hA]; exact tmps_own (by kernel_rfl) hx18 (of_decide_eq_true (by kernel_rfl))
                    clear hA hdeps hcl hmi hx13 hx14 hx16 hx18
                    rw [if_pos (wanted_of (k := 54) rfl rfl e13)]
                    have hKK := Lib.hid hK
                    clear hK
                    go_simp
                    refine (hAt.out _ (hW.trans (hb0.mono hW.size))).mono ?_
                    rintro e w5 ⟨rfl, hbn⟩
                    exact hKK.out _ _ hbn (Eq.refl _)
                  · injection ho with ho
                    subst ho
                    obtain ⟨x13, hx13, hg13⟩ := hdeps ⟨13, .guard⟩ (by simp) rfl
                    have hg13 : x13 = .bool true := hg13
                    subst hg13
                    have e13 : AA.tmps[54]?.getD undef = .bool true := by rw [hA]; exact tmps_own (by kernel_rfl) hx13 (of_decide_eq_true (by kernel_rfl))
                    have ef5 : AA.tmps[5]?.getD undef = .pointer (some ⟨(w.heap.size + 1), 0, none⟩) := by rw [hA]; exact tmps_free (by kernel_rfl)
                    clear hA hdeps hcl hmi hx13
                    rw [if_pos (wanted_of (k := 54) rfl rfl e13)]
                    have hK0 : KK (AA.put (some 61) _) _ := hK (.pointer (some ⟨(w.heap.size + 1), 1, none⟩)) _ (Below.refl _ _) (Eq.refl _)
                    clear hK
                    go_simp
                    exact hK0
                  · injection ho with ho
                    subst ho
                    obtain ⟨x13, hx13, hg13⟩ := hdeps ⟨13, .guard⟩ (by simp) rfl
                    have hg13 : x13 = .bool true := hg13
                    subst hg13
                    have e13 : AA.tmps[54]?.getD undef = .bool true := by rw [hA]; exact tmps_own (by kernel_rfl) hx13 (of_decide_eq_true (by kernel_rfl))
                    obtain ⟨x20, hx20, hg20⟩ := hdeps ⟨20, .data⟩ (by simp) rfl
                    have hg20 : x20 = .pointer (some ⟨(w.heap.size + 1), 1, none⟩) := hg20
                    subst hg20
                    have e20 : AA.tmps[61]?.getD undef = .pointer (some ⟨(w.heap.size + 1), 1, none⟩) := by rw [hA]; exact tmps_own (by kernel_rfl) hx20 (of_decide_eq_true (by kernel_rfl))
                    clear hA hdeps hcl hmi hx13 hx20
                    rw [if_pos (wanted_of (k := 54) rfl rfl e13)]
                    obtain ⟨t0, t1, q0, q1, q2, q3, q4⟩ := hS.out W (hW.trans (hb0.mono hW.size))
                    have hK0 : KK (AA.put (some 62) _) _ := hK (.int .i64 yh) _ (Below.refl _ _) (Eq.refl _)
                    clear hK
                    go_simp
                    exact hK0
                  · injection ho with ho
                    subst ho
                    obtain ⟨x13, hx13, hg13⟩ := hdeps ⟨13, .guard⟩ (by simp) rfl
                    have hg13 : x13 = .bool true := hg13
                    subst hg13
                    have e13 : AA.tmps[54]?.getD undef = .bool true := by rw [hA]; exact tmps_own (by kernel_rfl) hx13 (of_decide_eq_true (by kernel_rfl))
                    obtain ⟨x19, hx19, hg19⟩ := hdeps ⟨19, .data⟩ (by simp) rfl
                    have hg19 : x19 = .int .i64 zA := hg19
                    subst hg19
                    have e19 : AA.tmps[60]?.getD undef = .int .i64 zA := by rw [hA]; exact tmps_own (by kernel_rfl) hx19 (of_decide_eq_true (by kernel_rfl))
                    obtain ⟨x21, hx21, hg21⟩ := hdeps ⟨21, .data⟩ (by simp) rfl
                    have hg21 : x21 = .int .i64 yh := hg21
                    subst hg21
                    have e21 : AA.tmps[62]?.getD undef = .int .i64 yh := by rw [hA]; exact tmps_own (by kernel_rfl) hx21 (of_decide_eq_true (by kernel_rfl))
                    clear hA hdeps hcl hmi hx13 hx19 hx21
                    rw [if_pos (wanted_of (k := 54) rfl rfl e13)]
                    have hK0 : KK (AA.put (some 63) _) _ := hK (.bool true) _ (Below.refl _ _) (Eq.refl _)
                    clear hK
                    go_simp
                    exact hK0
                  · injection ho with ho
                    subst ho
                    obtain ⟨x13, hx13, hg13⟩ := hdeps ⟨13, .data⟩ (by simp) rfl
                    have hg13 : x13 = .bool true := hg13
                    subst hg13
                    have e13 : AA.tmps[54]?.getD undef = .bool true := by rw [hA]; exact tmps_own (by kernel_rfl) hx13 (of_decide_eq_true (by kernel_rfl))
                    obtain ⟨x22, hx22, hg22⟩ := hdeps ⟨22, .data⟩ (by simp) rfl
                    have hg22 : x22 = .bool true := hg22
                    subst hg22
                    have e22 : AA.tmps[63]?.getD undef = .bool true := by rw [hA]; exact tmps_own (by kernel_rfl) hx22 (of_decide_eq_true (by kernel_rfl))
                    clear hA hdeps hcl hmi hx13 hx22
                    have hK0 : KK (AA.put (some 64) _) _ := hK (.bool true) _ (Below.refl _ _) (Eq.refl _)
                    clear hK
                    go_simp
                    exact hK0
                  · injection ho with ho
                    subst ho
                    obtain ⟨x23, hx23, hg23⟩ := hdeps ⟨23, .data⟩ (by simp) rfl
                    have hg23 : x23 = .bool true := hg23
                    subst hg23
                    have e23 : AA.tmps[64]?.getD undef = .bool true := by rw [hA]; exact tmps_own (by kernel_rfl) hx23 (of_decide_eq_true (by kernel_rfl))
                    clear hA hdeps hcl hmi hx23
                    have hK0 : KK (AA.put (some 65) _) _ := hK (.bool true) _ (Below.refl _ _) (Eq.refl _)
                    clear hK
                    go_simp
                    exact hK0
                  · injection ho with ho
                    subst ho
                    obtain ⟨x24, hx24, hg24⟩ := hdeps ⟨24, .guard⟩ (by simp) rfl
                    have hg24 : x24 = .bool true := hg24
                    subst hg24
                    have e24 : AA.tmps[65]?.getD undef = .bool true := by rw [hA]; exact tmps_own (by kernel_rfl) hx24 (of_decide_eq_true (by kernel_rfl))
                    have ef2 : AA.tmps[2]?.getD undef = .pointer (some ⟨w.heap.size, 0, none⟩) := by rw [hA]; exact tmps_free (by kernel_rfl)
                    clear hA hdeps hcl hmi hx24
                    rw [if_pos (wanted_of (k := 65) rfl rfl e24)]
                    obtain ⟨t0, t1, q0, q1, q2, q3, q4⟩ := hS.out W (hW.trans (hb0.mono hW.size))
                    have hK0 : KK (AA.put (some 66) _) _ := hK (.agg #[.slice (some ad) on oc, .slice dA dn dc]) _ (Below.refl _ _) (Eq.refl _)
                    clear hK
                    go_simp
                    exact hK0
                  · injection ho with ho
                    subst ho
                    obtain ⟨x24, hx24, hg24⟩ := hdeps ⟨24, .guard⟩ (by simp) rfl
                    have hg24 : x24 = .bool true := hg24
                    subst hg24
                    have e24 : AA.tmps[65]?.getD undef = .bool true := by rw [hA]; exact tmps_own (by kernel_rfl) hx24 (of_decide_eq_true (by kernel_rfl))
                    have ef5 : AA.tmps[5]?.getD undef = .pointer (some ⟨(w.heap.size + 1), 0, none⟩) := by rw [hA]; exact tmps_free (by kernel_rfl)
                    clear hA hdeps hcl hmi hx24
                    rw [if_pos (wanted_of (k := 65) rfl rfl e24)]
                    have hK0 : KK (AA.put (some 67) _) _ := hK (.pointer (some ⟨(w.heap.size + 1), 0, none⟩)) _ (Below.refl _ _) (Eq.refl _)
                    clear hK
                    go_simp
                    exact hK0
                  · injection ho with ho
                    subst ho
                    obtain ⟨x24, hx24, hg24⟩ := hdeps ⟨24, .guard⟩ (by simp) rfl
                    have hg24 : x24 = .bool true := hg24
                    subst hg24
                    have e24 : AA.tmps[65]?.getD undef = .bool true := by rw [hA]; exact tmps_own (by kernel_rfl) hx24 (of_decide_eq_true (by kernel_rfl))
                    obtain ⟨x26, hx26, hg26⟩ := hdeps ⟨26, .data⟩ (by simp) rfl
                    have hg26 : x26 = .pointer (some ⟨(w.heap.size + 1), 0, none⟩) := hg26
                    subst hg26
                    have e26 : AA.tmps[67]?.getD undef = .pointer (some ⟨(w.heap.size + 1), 0, none⟩) := by rw [hA]; exact tmps_own (by kernel_rfl) hx26 (of_decide_eq_true (by kernel_rfl))
                    clear hA hdeps hcl hmi hx24 hx26
                    rw [if_pos (wanted_of (k := 65) rfl rfl e24)]
                    obtain ⟨t0, t1, q0, q1, q2, q3, q4⟩ := hS.out W (hW.trans (hb0.mono hW.size))
                    have hK0 : KK (AA.put (some 68) _) _ := hK (.string ⟨yt.toArray⟩) _ (Below.refl _ _) (Eq.refl _)
                    clear hK
                    go_simp
                    exact hK0
                  · injection ho with ho
                    subst ho
                    obtain ⟨x24, hx24, hg24⟩ := hdeps ⟨24, .guard⟩ (by simp) rfl
                    have hg24 : x24 = .bool true := hg24
                    subst hg24
                    have e24 : AA.tmps[65]?.getD undef = .bool true := by rw [hA]; exact tmps_own (by kernel_rfl) hx24 (of_decide_eq_true (by kernel_rfl))
                    obtain ⟨x25, hx25, hg25⟩ := hdeps ⟨25, .data⟩ (by simp) rfl
                    have hg25 : x25 = .agg #[.slice (some ad) on oc, .slice dA dn dc] := hg25
                    subst hg25
                    have e25 : AA.tmps[66]?.getD undef = .agg #[.slice (some ad) on oc, .slice dA dn dc] := by rw [hA]; exact tmps_own (by kernel_rfl) hx25 (of_decide_eq_true (by kernel_rfl))
                    obtain ⟨x27, hx27, hg27⟩ := hdeps ⟨27, .data⟩ (by simp) rfl
                    have hg27 : x27 = .string ⟨yt.toArray⟩ := hg27
                    subst hg27
                    have e27 : AA.tmps[68]?.getD undef = .string ⟨yt.toArray⟩ := by rw [hA]; exact tmps_own (by kernel_rfl) hx27 (of_decide_eq_true (by kernel_rfl))
                    clear hA hdeps hcl hmi hx24 hx25 hx27
                    rw [if_pos (wanted_of (k := 65) rfl rfl e24)]
                    have hKK := Lib.hid hK
                    clear hK
                    go_simp
                    refine (hOf.out _ (hW.trans (hb0.mono hW.size))).mono ?_
                    rintro e w5 ⟨A9, c9, rfl, hbn⟩
                    exact hKK.out _ _ hbn ⟨A9, c9, rfl⟩
                  · injection ho with ho
                    subst ho
                    obtain ⟨x24, hx24, hg24⟩ := hdeps ⟨24, .guard⟩ (by simp) rfl
                    have hg24 : x24 = .bool true := hg24
                    subst hg24
                    have e24 : AA.tmps[65]?.getD undef = .bool true := by rw [hA]; exact tmps_own (by kernel_rfl) hx24 (of_decide_eq_true (by kernel_rfl))
                    obtain ⟨x28, hx28, hg28⟩ := hdeps ⟨28, .data⟩ (by simp) rfl
                    have hg28 : ∃ A c, x28 = .slice A nOf c := hg28
                    have hk28 := hg28
                    obtain ⟨A28, c28, rfl⟩ := hg28
                    have e28 : AA.tmps[69]?.getD undef = .slice A28 nOf c28 := by rw [hA]; exact tmps_own (by kernel_rfl) hx28 (of_decide_eq_true (by kernel_rfl))
                    clear hA hdeps hcl hmi hx24 hx28
                    rw [if_pos (wanted_of (k := 65) rfl rfl e24)]
                    have hK0 : KK (AA.put (some 70) _) _ := hK (.int .i64 (nOf : Int)) _ (Below.refl _ _) (Eq.refl _)
                    clear hK
                    go_simp
                    exact hK0
                  · injection ho with ho
                    subst ho
                    obtain ⟨x24, hx24, hg24⟩ := hdeps ⟨24, .guard⟩ (by simp) rfl
                    have hg24 : x24 = .bool true := hg24
                    subst hg24
                    have e24 : AA.tmps[65]?.getD undef = .bool true := by rw [hA]; exact tmps_own (by kernel_rfl) hx24 (of_decide_eq_true (by kernel_rfl))
                    obtain ⟨x29, hx29, hg29⟩ := hdeps ⟨29, .data⟩ (by simp) rfl
                    have hg29 : x29 = .int .i64 (nOf : Int) := hg29
                    subst hg29
                    have e29 : AA.tmps[70]?.getD undef = .int .i64 (nOf : Int) := by rw [hA]; exact tmps_own (by kernel_rfl) hx29 (of_decide_eq_true (by kernel_rfl))
                    clear hA hdeps hcl hmi hx24 hx29
                    rw [if_pos (wanted_of (k := 65) rfl rfl e24)]
                    have hK0 : KK (AA.put (some 71) _) _ := hK (.bool b) _ (Below.refl _ _) (Eq.refl _)
                    clear hK
                    go_simp
                    exact hK0
                  · injection ho with ho
                    subst ho
                    obtain ⟨x24, hx24, hg24⟩ := hdeps ⟨24, .data⟩ (by simp) rfl
                    have hg24 : x24 = .bool true := hg24
                    subst hg24
                    have e24 : AA.tmps[65]?.getD undef = .bool true := by rw [hA]; exact tmps_own (by kernel_rfl) hx24 (of_decide_eq_true (by kernel_rfl))
                    obtain ⟨x30, hx30, hg30⟩ := hdeps ⟨30, .data⟩ (by simp) rfl
                    have hg30 : x30 = .bool b := hg30
                    subst hg30
                    have e30 : AA.tmps[71]?.getD undef = .bool b := by rw [hA]; exact tmps_own (by kernel_rfl) hx30 (of_decide_eq_true (by kernel_rfl))
                    clear hA hdeps hcl hmi hx24 hx30
                    have hK0 : KK (AA.put (some 72) _) _ := hK (.bool b) _ (Below.refl _ _) (Eq.refl _)
                    clear hK
                    go_simp
                    exact hK0
                  · injection ho with ho
                    subst ho
                    obtain ⟨x31, hx31, hg31⟩ := hdeps ⟨31, .data⟩ (by simp) rfl
                    have hg31 : x31 = .bool b := hg31
                    subst hg31
                    have e31 : AA.tmps[72]?.getD undef = .bool b := by rw [hA]; exact tmps_own (by kernel_rfl) hx31 (of_decide_eq_true (by kernel_rfl))
                    clear hA hdeps hcl hmi hx31
                    have hK0 : KK (AA.put (some 4) _) _ := hK (.bool b) _ (Below.refl _ _) (Eq.refl _)
                    clear hK
                    go_simp
                    exact hK0
                  · simp at ho
                · intro m W hbx hall
                  obtain ⟨x0, m0, g0⟩ := hall 0 (by simp)
                  replace g0 : x0 = .int .i64 (k : Int) := g0
                  subst g0
                  obtain ⟨x1, m1, g1⟩ := hall 1 (by simp)
                  replace g1 : x1 = .bool true := g1
                  subst g1
                  obtain ⟨x2, m2, g2⟩ := hall 2 (by simp)
                  replace g2 : x2 = .bool true := g2
                  subst g2
                  obtain ⟨x3, m3, g3⟩ := hall 3 (by simp)
                  replace g3 : x3 = undef := g3
                  subst g3
                  obtain ⟨x4, m4, g4⟩ := hall 4 (by simp)
                  replace g4 : x4 = undef := g4
                  subst g4
                  obtain ⟨x5, m5, g5⟩ := hall 5 (by simp)
                  replace g5 : x5 = undef := g5
                  subst g5
                  obtain ⟨x6, m6, g6⟩ := hall 6 (by simp)
                  replace g6 : x6 = undef := g6
                  subst g6
                  obtain ⟨x7, m7, g7⟩ := hall 7 (by simp)
                  replace g7 : x7 = undef := g7
                  subst g7
                  obtain ⟨x8, m8, g8⟩ := hall 8 (by simp)
                  replace g8 : x8 = undef := g8
                  subst g8
                  obtain ⟨x9, m9, g9⟩ := hall 9 (by simp)
                  replace g9 : x9 = undef := g9
                  subst g9
                  obtain ⟨x10, m10, g10⟩ := hall 10 (by simp)
                  replace g10 : x10 = undef := g10
                  subst g10
                  obtain ⟨x11, m11, g11⟩ := hall 11 (by simp)
                  replace g11 : x11 = undef := g11
                  subst g11
                  obtain ⟨x12, m12, g12⟩ := hall 12 (by simp)
                  replace g12 : x12 = .bool true := g12
                  subst g12
                  obtain ⟨x13, m13, g13⟩ := hall 13 (by simp)
                  replace g13 : x13 = .bool true := g13
                  subst g13
                  obtain ⟨x14, m14, g14⟩ := hall 14 (by simp)
                  replace g14 : x14 = .agg #[.slice (some ad) on oc, .slice dA dn dc] := g14
                  subst g14
                  obtain ⟨x15, m15, g15⟩ := hall 15 (by simp)
                  replace g15 : x15 = .pointer (some ⟨(w.heap.size + 1), 0, none⟩) := g15
                  subst g15
                  obtain ⟨x16, m16, g16⟩ := hall 16 (by simp)
                  replace g16 : x16 = .string ⟨yt.toArray⟩ := g16
                  subst g16
                  obtain ⟨x17, m17, g17⟩ := hall 17 (by simp)
                  replace g17 : x17 = .pointer (some ⟨(w.heap.size + 1), 2, none⟩) := g17
                  subst g17
                  obtain ⟨x18, m18, g18⟩ := hall 18 (by simp)
                  replace g18 : x18 = .string ⟨yi.toArray⟩ := g18
                  subst g18
                  obtain ⟨x19, m19, g19⟩ := hall 19 (by simp)
                  replace g19 : x19 = .int .i64 zA := g19
                  subst g19
                  obtain ⟨x20, m20, g20⟩ := hall 20 (by simp)
                  replace g20 : x20 = .pointer (some ⟨(w.heap.size + 1), 1, none⟩) := g20
                  subst g20
                  obtain ⟨x21, m21, g21⟩ := hall 21 (by simp)
                  replace g21 : x21 = .int .i64 yh := g21
                  subst g21
                  obtain ⟨x22, m22, g22⟩ := hall 22 (by simp)
                  replace g22 : x22 = .bool true := g22
                  subst g22
                  obtain ⟨x23, m23, g23⟩ := hall 23 (by simp)
                  replace g23 : x23 = .bool true := g23
                  subst g23
                  obtain ⟨x24, m24, g24⟩ := hall 24 (by simp)
                  replace g24 : x24 = .bool true := g24
                  subst g24
                  obtain ⟨x25, m25, g25⟩ := hall 25 (by simp)
                  replace g25 : x25 = .agg #[.slice (some ad) on oc, .slice dA dn dc] := g25
                  subst g25
                  obtain ⟨x26, m26, g26⟩ := hall 26 (by simp)
                  replace g26 : x26 = .pointer (some ⟨(w.heap.size + 1), 0, none⟩) := g26
                  subst g26
                  obtain ⟨x27, m27, g27⟩ := hall 27 (by simp)
                  replace g27 : x27 = .string ⟨yt.toArray⟩ := g27
                  subst g27
                  obtain ⟨x28, m28, g28⟩ := hall 28 (by simp)
                  replace g28 : ∃ A c, x28 = .slice A nOf c := g28
                  obtain ⟨x29, m29, g29⟩ := hall 29 (by simp)
                  replace g29 : x29 = .int .i64 (nOf : Int) := g29
                  subst g29
                  obtain ⟨x30, m30, g30⟩ := hall 30 (by simp)
                  replace g30 : x30 = .bool b := g30
                  subst g30
                  obtain ⟨x31, m31, g31⟩ := hall 31 (by simp)
                  replace g31 : x31 = .bool b := g31
                  subst g31
                  obtain ⟨x32, m32, g32⟩ := hall 32 (by simp)
                  replace g32 : x32 = .bool b := g32
                  subst g32
                  rw [frameM_all (by kernel_rfl) [.int .i64 (k : Int), .bool true, .bool true, undef, undef, undef, undef, undef, undef, undef, undef, undef, .bool true, .bool true, .agg #[.slice (some ad) on oc, .slice dA dn dc], .pointer (some ⟨(w.heap.size + 1), 0, none⟩), .string ⟨yt.toArray⟩, .pointer (some ⟨(w.heap.size + 1), 2, none⟩), .string ⟨yi.toArray⟩, .int .i64 zA, .pointer (some ⟨(w.heap.size + 1), 1, none⟩), .int .i64 yh, .bool true, .bool true, .bool true, .agg #[.slice (some ad) on oc, .slice dA dn dc], .pointer (some ⟨(w.heap.size + 1), 0, none⟩), .string ⟨yt.toArray⟩, x28, .int .i64 (nOf : Int), .bool b, .bool b, .bool b] rfl (fun i hi => by
                      rcases i with _ | _ | _ | _ | _ | _ | _ | _ | _ | _ | _ | _ | _ | _ | _ | _ | _ | _ | _ | _ | _ | _ | _ | _ | _ | _ | _ | _ | _ | _ | _ | _ | _ | i
                      · exact m0
                      · exact m1
                      · exact m2
                      · exact m3
                      · exact m4
                      · exact m5
                      · exact m6
                      · exact m7
                      · exact m8
                      · exact m9
                      · exact m10
                      · exact m11
                      · exact m12
                      · exact m13
                      · exact m14
                      · exact m15
                      · exact m16
                      · exact m17
                      · exact m18
                      · exact m19
                      · exact m20
                      · exact m21
                      · exact m22
                      · exact m23
                      · exact m24
                      · exact m25
                      · exact m26
                      · exact m27
                      · exact m28
                      · exact m29
                      · exact m30
                      · exact m31
                      · exact m32
                      · simp at hi; omega)]
                  clear hall m0 m1 m2 m3 m4 m5 m6 m7 m8 m9 m10 m11 m12 m13 m14 m15 m16 m17 m18 m19 m20 m21 m22 m23 m24 m25 m26 m27 m28 m29 m30 m31 m32
                  simp only [putAll, Act.put, List.setIfInBounds_toArray, List.set_cons_succ, List.set_cons_zero]
                  go_wp2_with fail
                  go_ret
                  exact ⟨by rw [HB.out]; rfl, hbW.out.trans ((hW.trans (hbx.mono hW.size)).mono (by have := HSZ.out; omega))⟩
              · have HB : Hid (V = false) := by show _ = _; rw [HV.out]; rw [ha]; rfl
                clear HV
                refine wp_region_good2 (by kernel_rfl) (by kernel_rfl) [(fun v _ => v = .int .i64 (k : Int)),
                  (fun v _ => v = .bool true),
                  (fun v _ => v = .bool true),
                  (fun v _ => v = undef),
                  (fun v _ => v = undef),
                  (fun v _ => v = undef),
                  (fun v _ => v = undef),
                  (fun v _ => v = undef),
                  (fun v _ => v = undef),
                  (fun v _ => v = undef),
                  (fun v _ => v = undef),
                  (fun v _ => v = undef),
                  (fun v _ => v = .bool true),
                  (fun v _ => v = .bool true),
                  (fun v _ => v = .agg #[.slice (some ad) on oc, .slice dA dn dc]),
                  (fun v _ => v = .pointer (some ⟨(w.heap.size + 1), 0, none⟩)),
                  (fun v _ => v = .string ⟨yt.toArray⟩),
                  (fun v _ => v = .pointer (some ⟨(w.heap.size + 1), 2, none⟩)),
                  (fun v _ => v = .string ⟨yi.toArray⟩),
                  (fun v _ => v = .int .i64 zA),
                  (fun v _ => v = .pointer (some ⟨(w.heap.size + 1), 1, none⟩)),
                  (fun v _ => v = .int .i64 yh),
                  (fun v _ => v = .bool false),
                  (fun v _ => v = .bool false),
                  (fun v _ => v = .bool false),
                  (fun v _ => v = undef),
                  (fun v _ => v = undef),
                  (fun v _ => v = undef),
                  (fun v _ => v = undef),
                  (fun v _ => v = undef),
                  (fun v _ => v = undef),
                  (fun v _ => v = .bool false),
                  (fun v _ => v = .bool false)] ?_ ?_ ?_
                · repeat' (first | exact stays_nil | refine stays_cons ?_ ?_ | exact Stays.pure)
                · intro i oo ho m2 W hb0 hmi hcl hdeps AA KK hA hK
                  rcases i with _ | _ | _ | _ | _ | _ | _ | _ | _ | _ | _ | _ | _ | _ | _ | _ | _ | _ | _ | _ | _ | _ | _ | _ | _ | _ | _ | _ | _ | _ | _ | _ | _ | i
                  · injection ho with ho
                    subst ho
                    have ef1 : AA.tmps[1]?.getD undef = .int .i64 (k : Int) := by rw [hA]; exact tmps_free (by kernel_rfl)
                    clear hA hdeps hcl hmi
                    have hK0 : KK (AA.put (some 41) _) _ := hK (.int .i64 (k : Int)) _ (Below.refl _ _) (Eq.refl _)
                    clear hK
                    go_simp
                    exact hK0
                  · injection ho with ho
                    subst ho
                    obtain ⟨x0, hx0, hg0⟩ := hdeps ⟨0, .data⟩ (by simp) rfl
                    have hg0 : x0 = .int .i64 (k : Int) := hg0
                    subst hg0
                    have e0 : AA.tmps[41]?.getD undef = .int .i64 (k : Int) := by rw [hA]; exact tmps_own (by kernel_rfl) hx0 (of_decide_eq_true (by kernel_rfl))
                    clear hA hdeps hcl hmi hx0
                    have hK0 : KK (AA.put (some 42) _) _ := hK (.bool true) _ (Below.refl _ _) (Eq.refl _)
                    clear hK
                    go_simp
                    exact hK0
                  · injection ho with ho
                    subst ho
                    obtain ⟨x1, hx1, hg1⟩ := hdeps ⟨1, .data⟩ (by simp) rfl
                    have hg1 : x1 = .bool true := hg1
                    subst hg1
                    have e1 : AA.tmps[42]?.getD undef = .bool true := by rw [hA]; exact tmps_own (by kernel_rfl) hx1 (of_decide_eq_true (by kernel_rfl))
                    clear hA hdeps hcl hmi hx1
                    have hK0 : KK (AA.put (some 43) _) _ := hK (.bool true) _ (Below.refl _ _) (Eq.refl _)
                    clear hK
                    go_simp
                    exact hK0
                  · injection ho with ho
                    subst ho
                    obtain ⟨x2, hx2, hg2⟩ := hdeps ⟨2, .guard⟩ (by simp) rfl
                    have hg2 : x2 = .bool true := hg2
                    subst hg2
                    have e2 : AA.tmps[43]?.getD undef = .bool true := by rw [hA]; exact tmps_own (by kernel_rfl) hx2 (of_decide_eq_true (by kernel_rfl))
                    have ef2 : AA.tmps[2]?.getD undef = .pointer (some ⟨w.heap.size, 0, none⟩) := by rw [hA]; exact tmps_free (by kernel_rfl)
                    clear hA hdeps hcl hmi hx2
                    rw [if_neg (unwanted_of (b := false) (k := 43) rfl rfl (.inl e2))]
                    exact hK undef _ (Below.refl _ _) (Eq.refl _)
                  · injection ho with ho
                    subst ho
                    obtain ⟨x2, hx2, hg2⟩ := hdeps ⟨2, .guard⟩ (by simp) rfl
                    have hg2 : x2 = .bool true := hg2
                    subst hg2
                    have e2 : AA.tmps[43]?.getD undef = .bool true := by rw [hA]; exact tmps_own (by kernel_rfl) hx2 (of_decide_eq_true (by kernel_rfl))
                    obtain ⟨x3, hx3, hg3⟩ := hdeps ⟨3, .data⟩ (by simp) rfl
                    have hg3 : x3 = undef := hg3
                    subst hg3
                    have e3 : AA.tmps[44]?.getD undef = undef := by rw [hA]; exact tmps_own (by kernel_rfl) hx3 (of_decide_eq_true (by kernel_rfl))
                    clear hA hdeps hcl hmi hx2 hx3
                    rw [if_neg (unwanted_of (b := false) (k := 43) rfl rfl (.inl e2))]
                    exact hK undef _ (Below.refl _ _) (Eq.refl _)
                  · injection ho with ho
                    subst ho
                    obtain ⟨x2, hx2, hg2⟩ := hdeps ⟨2, .guard⟩ (by simp) rfl
                    have hg2 : x2 = .bool true := hg2
                    subst hg2
                    have e2 : AA.tmps[43]?.getD undef = .bool true := by rw [hA]; exact tmps_own (by kernel_rfl) hx2 (of_decide_eq_true (by kernel_rfl))
                    have ef1 : AA.tmps[1]?.getD undef = .int .i64 (k : Int) := by rw [hA]; exact tmps_free (by kernel_rfl)
                    clear hA hdeps hcl hmi hx2
                    rw [if_neg (unwanted_of (b := false) (k := 43) rfl rfl (.inl e2))]
                    exact hK undef _ (Below.refl _ _) (Eq.refl _)
                  · injection ho with ho
                    subst ho
                    obtain ⟨x2, hx2, hg2⟩ := hdeps ⟨2, .guard⟩ (by simp) rfl
                    have hg2 : x2 = .bool true := hg2
                    subst hg2
                    have e2 : AA.tmps[43]?.getD undef = .bool true := by rw [hA]; exact tmps_own (by kernel_rfl) hx2 (of_decide_eq_true (by kernel_rfl))
                    obtain ⟨x5, hx5, hg5⟩ := hdeps ⟨5, .data⟩ (by simp) rfl
                    have hg5 : x5 = undef := hg5
                    subst hg5
                    have e5 : AA.tmps[46]?.getD undef = undef := by rw [hA]; exact tmps_own (by kernel_rfl) hx5 (of_decide_eq_true (by kernel_rfl))
                    clear hA hdeps hcl hmi hx2 hx5
                    rw [if_neg (unwanted_of (b := false) (k := 43) rfl rfl (.inl e2))]
                    exact hK undef _ (Below.refl _ _) (Eq.refl _)
                  · injection ho with ho
                    subst ho
                    obtain ⟨x2, hx2, hg2⟩ := hdeps ⟨2, .guard⟩ (by simp) rfl
                    have hg2 : x2 = .bool true := hg2
                    subst hg2
                    have e2 : AA.tmps[43]?.getD undef = .bool true := by rw [hA]; exact tmps_own (by kernel_rfl) hx2 (of_decide_eq_true (by kernel_rfl))
                    obtain ⟨x4, hx4, hg4⟩ := hdeps ⟨4, .data⟩ (by simp) rfl
                    have hg4 : x4 = undef := hg4
                    subst hg4
                    have e4 : AA.tmps[45]?.getD undef = undef := by rw [hA]; exact tmps_own (by kernel_rfl) hx4 (of_decide_eq_true (by kernel_rfl))
                    obtain ⟨x6, hx6, hg6⟩ := hdeps ⟨6, .data⟩ (by simp) rfl
                    have hg6 : x6 = undef := hg6
                    subst hg6
                    have e6 : AA.tmps[47]?.getD undef = undef := by rw [hA]; exact tmps_own (by kernel_rfl) hx6 (of_decide_eq_true (by kernel_rfl))
                    clear hA hdeps hcl hmi hx2 hx4 hx6
                    rw [if_neg (unwanted_of (b := false) (k := 43) rfl rfl (.inl e2))]
                    exact hK undef _ (Below.refl _ _) (Eq.refl _)
                  · injection ho with ho
                    subst ho
                    obtain ⟨x2, hx2, hg2⟩ := hdeps ⟨2, .guard⟩ (by simp) rfl
                    have hg2 : x2 = .bool true := hg2
                    subst hg2
                    have e2 : AA.tmps[43]?.getD undef = .bool true := by rw [hA]; exact tmps_own (by kernel_rfl) hx2 (of_decide_eq_true (by kernel_rfl))
                    obtain ⟨x7, hx7, hg7⟩ := hdeps ⟨7, .data⟩ (by simp) rfl
                    have hg7 : x7 = undef := hg7
                    subst hg7
                    have e7 : AA.tmps[48]?.getD undef = undef := by rw [hA]; exact tmps_own (by kernel_rfl) hx7 (of_decide_eq_true (by kernel_rfl))
                    clear hA hdeps hcl hmi hx2 hx7
                    rw [if_neg (unwanted_of (b := false) (k := 43) rfl rfl (.inl e2))]
                    exact hK undef _ (Below.refl _ _) (Eq.refl _)
                  · injection ho with ho
                    subst ho
                    obtain ⟨x2, hx2, hg2⟩ := hdeps ⟨2, .guard⟩ (by simp) rfl
                    have hg2 : x2 = .bool true := hg2
                    subst hg2
                    have e2 : AA.tmps[43]?.getD undef = .bool true := by rw [hA]; exact tmps_own (by kernel_rfl) hx2 (of_decide_eq_true (by kernel_rfl))
                    have ef5 : AA.tmps[5]?.getD undef = .pointer (some ⟨(w.heap.size + 1), 0, none⟩) := by rw [hA]; exact tmps_free (by kernel_rfl)
                    clear hA hdeps hcl hmi hx2
                    rw [if_neg (unwanted_of (b := false) (k := 43) rfl rfl (.inl e2))]
                    exact hK undef _ (Below.refl _ _) (Eq.refl _)
                  · injection ho with ho
                    subst ho
                    obtain ⟨x2, hx2, hg2⟩ := hdeps ⟨2, .guard⟩ (by simp) rfl
                    have hg2 : x2 = .bool true := hg2
                    subst hg2
                    have e2 : AA.tmps[43]?.getD undef = .bool true := by rw [hA]; exact tmps_own (by kernel_rfl) hx2 (of_decide_eq_true (by kernel_rfl))
                    obtain ⟨x8, hx8, hg8⟩ := hdeps ⟨8, .data⟩ (by simp) rfl
                    have hg8 : x8 = undef := hg8
                    subst hg8
                    have e8 : AA.tmps[49]?.getD undef = undef := by rw [hA]; exact tmps_own (by kernel_rfl) hx8 (of_decide_eq_true (by kernel_rfl))
                    obtain ⟨x9, hx9, hg9⟩ := hdeps ⟨9, .data⟩ (by simp) rfl
                    have hg9 : x9 = undef := hg9
                    subst hg9
                    have e9 : AA.tmps[50]?.getD undef = undef := by rw [hA]; exact tmps_own (by kernel_rfl) hx9 (of_decide_eq_true (by kernel_rfl))
                    clear hA hdeps hcl hmi hx2 hx8 hx9
                    rw [if_neg (unwanted_of (b := false) (k := 43) rfl rfl (.inl e2))]
                    exact hK undef _ (Below.refl _ _) (Eq.refl _)
                  · injection ho with ho
                    subst ho
                    obtain ⟨x2, hx2, hg2⟩ := hdeps ⟨2, .guard⟩ (by simp) rfl
                    have hg2 : x2 = .bool true := hg2
                    subst hg2
                    have e2 : AA.tmps[43]?.getD undef = .bool true := by rw [hA]; exact tmps_own (by kernel_rfl) hx2 (of_decide_eq_true (by kernel_rfl))
                    obtain ⟨x10, hx10, hg10⟩ := hdeps ⟨10, .data⟩ (by simp) rfl
                    have hg10 : x10 = undef := hg10
                    subst hg10
                    have e10 : AA.tmps[51]?.getD undef = undef := by rw [hA]; exact tmps_own (by kernel_rfl) hx10 (of_decide_eq_true (by kernel_rfl))
                    clear hA hdeps hcl hmi hx2 hx10
                    rw [if_neg (unwanted_of (b := false) (k := 43) rfl rfl (.inl e2))]
                    exact hK undef _ (Below.refl _ _) (Eq.refl _)
                  · injection ho with ho
                    subst ho
                    obtain ⟨x2, hx2, hg2⟩ := hdeps ⟨2, .data⟩ (by simp) rfl
                    have hg2 : x2 = .bool true := hg2
                    subst hg2
                    have e2 : AA.tmps[43]?.getD undef = .bool true := by rw [hA]; exact tmps_own (by kernel_rfl) hx2 (of_decide_eq_true (by kernel_rfl))
                    obtain ⟨x11, hx11, hg11⟩ := hdeps ⟨11, .data⟩ (by simp) rfl
                    have hg11 : x11 = undef := hg11
                    subst hg11
                    have e11 : AA.tmps[52]?.getD undef = undef := by rw [hA]; exact tmps_own (by kernel_rfl) hx11 (of_decide_eq_true (by kernel_rfl))
                    clear hA hdeps hcl hmi hx2 hx11
                    have hK0 : KK (AA.put (some 53) _) _ := hK (.bool true) _ (Below.refl _ _) (Eq.refl _)
                    clear hK
                    go_simp
                    exact hK0
                  · injection ho with ho
                    subst ho
                    obtain ⟨x12, hx12, hg12⟩ := hdeps ⟨12, .data⟩ (by simp) rfl
                    have hg12 : x12 = .bool true := hg12
                    subst hg12
                    have e12 : AA.tmps[53]?.getD undef = .bool true := by rw [hA]; exact tmps_own (by kernel_rfl) hx12 (of_decide_eq_true (by kernel_rfl))
                    clear hA hdeps hcl hmi hx12
                    have hK0 : KK (AA.put (some 54) _) _ := hK (.bool true) _ (Below.refl _ _) (Eq.refl _)
                    clear hK
                    go_simp
                    exact hK0
                  · injection ho with ho
                    subst ho
                    obtain ⟨x13, hx13, hg13⟩ := hdeps ⟨13, .guard⟩ (by simp) rfl
                    have hg13 : x13 = .bool true := hg13
                    subst hg13
                    have e13 : AA.tmps[54]?.getD undef = .bool true := by rw [hA]; exact tmps_own (by kernel_rfl) hx13 (of_decide_eq_true (by kernel_rfl))
                    have ef2 : AA.tmps[2]?.getD undef = .pointer (some ⟨w.heap.size, 0, none⟩) := by rw [hA]; exact tmps_free (by kernel_rfl)
                    clear hA hdeps hcl hmi hx13
                    rw [if_pos (wanted_of (k := 54) rfl rfl e13)]
                    obtain ⟨t0, t1, q0, q1, q2, q3, q4⟩ := hS.out W (hW.trans (hb0.mono hW.size))
                    have hK0 : KK (AA.put (some 55) _) _ := hK (.agg #[.slice (some ad) on oc, .slice dA dn dc]) _ (Below.refl _ _) (Eq.refl _)
                    clear hK
                    go_simp
                    exact hK0
                  · injection ho with ho
                    subst ho
                    obtain ⟨x13, hx13, hg13⟩ := hdeps ⟨13, .guard⟩ (by simp) rfl
                    have hg13 : x13 = .bool true := hg13
                    subst hg13
                    have e13 : AA.tmps[54]?.getD undef = .bool true := by rw [hA]; exact tmps_own (by kernel_rfl) hx13 (of_decide_eq_true (by kernel_rfl))
                    have ef5 : AA.tmps[5]?.getD undef = .pointer (some ⟨(w.heap.size + 1), 0, none⟩) := by rw [hA]; exact tmps_free (by kernel_rfl)
                    clear hA hdeps hcl hmi hx13
                    rw [if_pos (wanted_of (k := 54) rfl rfl e13)]
                    have hK0 : KK (AA.put (some 56) _) _ := hK (.pointer (some ⟨(w.heap.size + 1), 0, none⟩)) _ (Below.refl _ _) (Eq.refl _)
                    clear hK
                    go_simp
                    exact hK0
                  · injection ho with ho
                    subst ho
                    obtain ⟨x13, hx13, hg13⟩ := hdeps ⟨13, .guard⟩ (by simp) rfl
                    have hg13 : x13 = .bool true := hg13
                    subst hg13
                    have e13 : AA.tmps[54]?.getD undef = .bool true := by rw [hA]; exact tmps_own (by kernel_rfl) hx13 (of_decide_eq_true (by kernel_rfl))
                    obtain ⟨x15, hx15, hg15⟩ := hdeps ⟨15, .data⟩ (by simp) rfl
                    have hg15 : x15 = .pointer (some ⟨(w.heap.size + 1), 0, none⟩) := hg15
                    subst hg15
                    have e15 : AA.tmps[56]?.getD undef = .pointer (some ⟨(w.heap.size + 1), 0, none⟩) := by rw [hA]; exact tmps_own (by kernel_rfl) hx15 (of_decide_eq_true (by kernel_rfl))
                    clear hA hdeps hcl hmi hx13 hx15
                    rw [if_pos (wanted_of (k := 54) rfl rfl e13)]
                    obtain ⟨t0, t1, q0, q1, q2, q3, q4⟩ := hS.out W (hW.trans (hb0.mono hW.size))
                    have hK0 : KK (AA.put (some 57) _) _ := hK (.string ⟨yt.toArray⟩) _ (Below.refl _ _) (Eq.refl _)
                    clear hK
                    go_simp
                    exact hK0
                  · injection ho with ho
                    subst ho
                    obtain ⟨x13, hx13, hg13⟩ := hdeps ⟨13, .guard⟩ (by simp) rfl
                    have hg13 : x13 = .bool true := hg13
                    subst hg13
                    have e13 : AA.tmps[54]?.getD undef = .bool true := by rw [hA]; exact tmps_own (by kernel_rfl) hx13 (of_decide_eq_true (by kernel_rfl))
                    have ef5 : AA.tmps[5]?.getD undef = .pointer (some ⟨(w.heap.size + 1), 0, none⟩) := by rw [hA]; exact tmps_free (by kernel_rfl)
                    clear hA hdeps hcl hmi hx13
                    rw [if_pos (wanted_of (k := 54) rfl rfl e13)]
                    have hK0 : KK (AA.put (some 58) _) _ := hK (.pointer (some ⟨(w.heap.size + 1), 2, none⟩)) _ (Below.refl _ _) (Eq.refl _)
                    clear hK
                    go_simp
                    exact hK0
                  · injection ho with ho
                    subst ho
                    obtain ⟨x13, hx13, hg13⟩ := hdeps ⟨13, .guard⟩ (by simp) rfl
                    have hg13 : x13 = .bool true := hg13
                    subst hg13
                    have e13 : AA.tmps[54]?.getD undef = .bool true := by rw [hA]; exact tmps_own (by kernel_rfl) hx13 (of_decide_eq_true (by kernel_rfl))
                    obtain ⟨x17, hx17, hg17⟩ := hdeps ⟨17, .data⟩ (by simp) rfl
                    have hg17 : x17 = .pointer (some ⟨(w.heap.size + 1), 2, none⟩) := hg17
                    subst hg17
                    have e17 : AA.tmps[58]?.getD undef = .pointer (some ⟨(w.heap.size + 1), 2, none⟩) := by rw [hA]; exact tmps_own (by kernel_rfl) hx17 (of_decide_eq_true (by kernel_rfl))
                    clear hA hdeps hcl hmi hx13 hx17
                    rw [if_pos (wanted_of (k := 54) rfl rfl e13)]
                    obtain ⟨t0, t1, q0, q1, q2, q3, q4⟩ := hS.out W (hW.trans (hb0.mono hW.size))
                    have hK0 : KK (AA.put (some 59) _) _ := hK (.string ⟨yi.toArray⟩) _ (Below.refl _ _) (Eq.refl _)
                    clear hK
                    go_simp
                    exact hK0
                  · injection ho with ho
                    subst ho
                    obtain ⟨x13, hx13, hg13⟩ := hdeps ⟨13, .guard⟩ (by simp) rfl
                    have hg13 : x13 = .bool true := hg13
                    subst hg13
                    have e13 : AA.tmps[54]?.getD undef = .bool true := by rw [hA]; exact tmps_own (by kernel_rfl) hx13 (of_decide_eq_true (by kernel_rfl))
                    obtain ⟨x14, hx14, hg14⟩ := hdeps ⟨14, .data⟩ (by simp) rfl
                    have hg14 : x14 = .agg #[.slice (some ad) on oc, .slice dA dn dc] := hg14
                    subst hg14
                    have e14 : AA.tmps[55]?.getD undef = .agg #[.slice (some ad) on oc, .slice dA dn dc] := by rw [hA]; exact tmps_own (by kernel_rfl) hx14 (of_decide_eq_true (by kernel_rfl))
                    obtain ⟨x16, hx16, hg16⟩ := hdeps ⟨16, .data⟩ (by simp) rfl
                    have hg16 : x16 = .string ⟨yt.toArray⟩ := hg16
                    subst hg16
                    have e16 : AA.tmps[57]?.getD undef = .string ⟨yt.toArray⟩ := by rw [hA]; exact tmps_own (by kernel_rfl) hx16 (of_decide_eq_true (by kernel_rfl))
                    obtain ⟨x18, hx18, hg18⟩ := hdeps ⟨18, .data⟩ (by simp) rfl
                    have hg18 : x18 = .string ⟨yi.toArray⟩ := hg18
                    subst hg18
                    have e18 : AA.tmps[59]?.getD undef = .string ⟨yi.toArray⟩ := by rw [hA]; exact tmps_own (by kernel_rfl) hx18 (of_decide_eq_true (by kernel_rfl))
                    clear hA hdeps hcl hmi hx13 hx14 hx16 hx18
                    rw [if_pos (wanted_of (k := 54) rfl rfl e13)]
                    have hKK := Lib.hid hK
                    clear hK
                    go_simp
                    refine (hAt.out _ (hW.trans (hb0.mono hW.size))).mono ?_
                    rintro e w5 ⟨rfl, hbn⟩
                    exact hKK.out _ _ hbn (Eq.refl _)
                  · injection ho with ho
                    subst ho
                    obtain ⟨x13, hx13, hg13⟩ := hdeps ⟨13, .guard⟩ (by simp) rfl
                    have hg13 : x13 = .bool true := hg13
                    subst hg13
                    have e13 : AA.tmps[54]?.getD undef = .bool true := by rw [hA]; exact tmps_own (by kernel_rfl) hx13 (of_decide_eq_true (by kernel_rfl))
                    have ef5 : AA.tmps[5]?.getD undef = .pointer (some ⟨(w.heap.size + 1), 0, none⟩) := by rw [hA]; exact tmps_free (by kernel_rfl)
                    clear hA hdeps hcl hmi hx13
                    rw [if_pos (wanted_of (k := 54) rfl rfl e13)]
                    have hK0 : KK (AA.put (some 61) _) _ := hK (.pointer (some ⟨(w.heap.size + 1), 1, none⟩)) _ (Below.refl _ _) (Eq.refl _)
                    clear hK
                    go_simp
                    exact hK0
                  · injection ho with ho
                    subst ho
                    obtain ⟨x13, hx13, hg13⟩ := hdeps ⟨13, .guard⟩ (by simp) rfl
                    have hg13 : x13 = .bool true := hg13
                    subst hg13
                    have e13 : AA.tmps[54]?.getD undef = .bool true := by rw [hA]; exact tmps_own (by kernel_rfl) hx13 (of_decide_eq_true (by kernel_rfl))
                    obtain ⟨x20, hx20, hg20⟩ := hdeps ⟨20, .data⟩ (by simp) rfl
                    have hg20 : x20 = .pointer (some ⟨(w.heap.size + 1), 1, none⟩) := hg20
                    subst hg20
                    have e20 : AA.tmps[61]?.getD undef = .pointer (some ⟨(w.heap.size + 1), 1, none⟩) := by rw [hA]; exact tmps_own (by kernel_rfl) hx20 (of_decide_eq_true (by kernel_rfl))
                    clear hA hdeps hcl hmi hx13 hx20
                    rw [if_pos (wanted_of (k := 54) rfl rfl e13)]
                    obtain ⟨t0, t1, q0, q1, q2, q3, q4⟩ := hS.out W (hW.trans (hb0.mono hW.size))
                    have hK0 : KK (AA.put (some 62) _) _ := hK (.int .i64 yh) _ (Below.refl _ _) (Eq.refl _)
                    clear hK
                    go_simp
                    exact hK0
                  · injection ho with ho
                    subst ho
                    obtain ⟨x13, hx13, hg13⟩ := hdeps ⟨13, .guard⟩ (by simp) rfl
                    have hg13 : x13 = .bool true := hg13
                    subst hg13
                    have e13 : AA.tmps[54]?.getD undef = .bool true := by rw [hA]; exact tmps_own (by kernel_rfl) hx13 (of_decide_eq_true (by kernel_rfl))
                    obtain ⟨x19, hx19, hg19⟩ := hdeps ⟨19, .data⟩ (by simp) rfl
                    have hg19 : x19 = .int .i64 zA := hg19
                    subst hg19
                    have e19 : AA.tmps[60]?.getD undef = .int .i64 zA := by rw [hA]; exact tmps_own (by kernel_rfl) hx19 (of_decide_eq_true (by kernel_rfl))
                    obtain ⟨x21, hx21, hg21⟩ := hdeps ⟨21, .data⟩ (by simp) rfl
                    have hg21 : x21 = .int .i64 yh := hg21
                    subst hg21
                    have e21 : AA.tmps[62]?.getD undef = .int .i64 yh := by rw [hA]; exact tmps_own (by kernel_rfl) hx21 (of_decide_eq_true (by kernel_rfl))
                    clear hA hdeps hcl hmi hx13 hx19 hx21
                    rw [if_pos (wanted_of (k := 54) rfl rfl e13)]
                    have hK0 : KK (AA.put (some 63) _) _ := hK (.bool false) _ (Below.refl _ _) (Eq.refl _)
                    clear hK
                    go_simp
                    exact hK0
                  · injection ho with ho
                    subst ho
                    obtain ⟨x13, hx13, hg13⟩ := hdeps ⟨13, .data⟩ (by simp) rfl
                    have hg13 : x13 = .bool true := hg13
                    subst hg13
                    have e13 : AA.tmps[54]?.getD undef = .bool true := by rw [hA]; exact tmps_own (by kernel_rfl) hx13 (of_decide_eq_true (by kernel_rfl))
                    obtain ⟨x22, hx22, hg22⟩ := hdeps ⟨22, .data⟩ (by simp) rfl
                    have hg22 : x22 = .bool false := hg22
                    subst hg22
                    have e22 : AA.tmps[63]?.getD undef = .bool false := by rw [hA]; exact tmps_own (by kernel_rfl) hx22 (of_decide_eq_true (by kernel_rfl))
                    clear hA hdeps hcl hmi hx13 hx22
                    have hK0 : KK (AA.put (some 64) _) _ := hK (.bool false) _ (Below.refl _ _) (Eq.refl _)
                    clear hK
                    go_simp
                    exact hK0
                  · injection ho with ho
                    subst ho
                    obtain ⟨x23, hx23, hg23⟩ := hdeps ⟨23, .data⟩ (by simp) rfl
                    have hg23 : x23 = .bool false := hg23
                    subst hg23
                    have e23 : AA.tmps[64]?.getD undef = .bool false := by rw [hA]; exact tmps_own (by kernel_rfl) hx23 (of_decide_eq_true (by kernel_rfl))
                    clear hA hdeps hcl hmi hx23
                    have hK0 : KK (AA.put (some 65) _) _ := hK (.bool false) _ (Below.refl _ _) (Eq.refl _)
                    clear hK
                    go_simp
                    exact hK0
                  · injection ho with ho
                    subst ho
                    obtain ⟨x24, hx24, hg24⟩ := hdeps ⟨24, .guard⟩ (by simp) rfl
                    have hg24 : x24 = .bool false := hg24
                    subst hg24
                    have e24 : AA.tmps[65]?.getD undef = .bool false := by rw [hA]; exact tmps_own (by kernel_rfl) hx24 (of_decide_eq_true (by kernel_rfl))
                    have ef2 : AA.tmps[2]?.getD undef = .pointer (some ⟨w.heap.size, 0, none⟩) := by rw [hA]; exact tmps_free (by kernel_rfl)
                    clear hA hdeps hcl hmi hx24
                    rw [if_neg (unwanted_of (b := true) (k := 65) rfl rfl (.inl e24))]
                    exact hK undef _ (Below.refl _ _) (Eq.refl _)
                  · injection ho with ho
                    subst ho
                    obtain ⟨x24, hx24, hg24⟩ := hdeps ⟨24, .guard⟩ (by simp) rfl
                    have hg24 : x24 = .bool false := hg24
                    subst hg24
                    have e24 : AA.tmps[65]?.getD undef = .bool false := by rw [hA]; exact tmps_own (by kernel_rfl) hx24 (of_decide_eq_true (by kernel_rfl))
                    have ef5 : AA.tmps[5]?.getD undef = .pointer (some ⟨(w.heap.size + 1), 0, none⟩) := by rw [hA]; exact tmps_free (by kernel_rfl)
                    clear hA hdeps hcl hmi hx24
                    rw [if_neg (unwanted_of (b := true) (k := 65) rfl rfl (.inl e24))]
                    exact hK undef _ (Below.refl _ _) (Eq.refl _)
                  · injection ho with ho
                    subst ho
                    obtain ⟨x24, hx24, hg24⟩ := hdeps ⟨24, .guard⟩ (by simp) rfl
                    have hg24 : x24 = .bool false := hg24
                    subst hg24
                    have e24 : AA.tmps[65]?.getD undef = .bool false := by rw [hA]; exact tmps_own (by kernel_rfl) hx24 (of_decide_eq_true (by kernel_rfl))
                    obtain ⟨x26, hx26, hg26⟩ := hdeps ⟨26, .data⟩ (by simp) rfl
                    have hg26 : x26 = undef := hg26
                    subst hg26
                    have e26 : AA.tmps[67]?.getD undef = undef := by rw [hA]; exact tmps_own (by kernel_rfl) hx26 (of_decide_eq_true (by kernel_rfl))
                    clear hA hdeps hcl hmi hx24 hx26
                    rw [if_neg (unwanted_of (b := true) (k := 65) rfl rfl (.inl e24))]
                    exact hK undef _ (Below.refl _ _) (Eq.refl _)
                  · injection ho with ho
                    subst ho
                    obtain ⟨x24, hx24, hg24⟩ := hdeps ⟨24, .guard⟩ (by simp) rfl
                    have hg24 : x24 = .bool false := hg24
                    subst hg24
                    have e24 : AA.tmps[65]?.getD undef = .bool false := by rw [hA]; exact tmps_own (by kernel_rfl) hx24 (of_decide_eq_true (by kernel_rfl))
                    obtain ⟨x25, hx25, hg25⟩ := hdeps ⟨25, .data⟩ (by simp) rfl
                    have hg25 : x25 = undef := hg25
                    subst hg25
                    have e25 : AA.tmps[66]?.getD undef = undef := by rw [hA]; exact tmps_own (by kernel_rfl) hx25 (of_decide_eq_true (by kernel_rfl))
                    obtain ⟨x27, hx27, hg27⟩ := hdeps ⟨27, .data⟩ (by simp) rfl
                    have hg27 : x27 = undef := hg27
                    subst hg27
                    have e27 : AA.tmps[68]?.getD undef = undef := by rw [hA]; exact tmps_own (by kernel_rfl) hx27 (of_decide_eq_true (by kernel_rfl))
                    clear hA hdeps hcl hmi hx24 hx25 hx27
                    rw [if_neg (unwanted_of (b := true) (k := 65) rfl rfl (.inl e24))]
                    exact hK undef _ (Below.refl _ _) (Eq.refl _)
                  · injection ho with ho
                    subst ho
                    obtain ⟨x24, hx24, hg24⟩ := hdeps ⟨24, .guard⟩ (by simp) rfl
                    have hg24 : x24 = .bool false := hg24
                    subst hg24
                    have e24 : AA.tmps[65]?.getD undef = .bool false := by rw [hA]; exact tmps_own (by kernel_rfl) hx24 (of_decide_eq_true (by kernel_rfl))
                    obtain ⟨x28, hx28, hg28⟩ := hdeps ⟨28, .data⟩ (by simp) rfl
                    have hg28 : x28 = undef := hg28
                    subst hg28
                    have e28 : AA.tmps[69]?.getD undef = undef := by rw [hA]; exact tmps_own (by kernel_rfl) hx28 (of_decide_eq_true (by kernel_rfl))
                    clear hA hdeps hcl hmi hx24 hx28
                    rw [if_neg (unwanted_of (b := true) (k := 65) rfl rfl (.inl e24))]
                    exact hK undef _ (Below.refl _ _) (Eq.refl _)
                  · injection ho with ho
                    subst ho
                    obtain ⟨x24, hx24, hg24⟩ := hdeps ⟨24, .guard⟩ (by simp) rfl
                    have hg24 : x24 = .bool false := hg24
                    subst hg24
                    have e24 : AA.tmps[65]?.getD undef = .bool false := by rw [hA]; exact tmps_own (by kernel_rfl) hx24 (of_decide_eq_true (by kernel_rfl))
                    obtain ⟨x29, hx29, hg29⟩ := hdeps ⟨29, .data⟩ (by simp) rfl
                    have hg29 : x29 = undef := hg29
                    subst hg29
                    have e29 : AA.tmps[70]?.getD undef = undef := by rw [hA]; exact tmps_own (by kernel_rfl) hx29 (of_decide_eq_true (by kernel_rfl))
                    clear hA hdeps hcl hmi hx24 hx29
                    rw [if_neg (unwanted_of (b := true) (k := 65) rfl rfl (.inl e24))]
                    exact hK undef _ (Below.refl _ _) (Eq.refl _)
                  · injection ho with ho
                    subst ho
                    obtain ⟨x24, hx24, hg24⟩ := hdeps ⟨24, .data⟩ (by simp) rfl
                    have hg24 : x24 = .bool false := hg24
                    subst hg24
                    have e24 : AA.tmps[65]?.getD undef = .bool false := by rw [hA]; exact tmps_own (by kernel_rfl) hx24 (of_decide_eq_true (by kernel_rfl))
                    obtain ⟨x30, hx30, hg30⟩ := hdeps ⟨30, .data⟩ (by simp) rfl
                    have hg30 : x30 = undef := hg30
                    subst hg30
                    have e30 : AA.tmps[71]?.getD undef = undef := by rw [hA]; exact tmps_own (by kernel_rfl) hx30 (of_decide_eq_true (by kernel_rfl))
                    clear hA hdeps hcl hmi hx24 hx30
                    have hK0 : KK (AA.put (some 72) _) _ := hK (.bool false) _ (Below.refl _ _) (Eq.refl _)
                    clear hK
                    go_simp
                    exact hK0
                  · injection ho with ho
                    subst ho
                    obtain ⟨x31, hx31, hg31⟩ := hdeps ⟨31, .data⟩ (by simp) rfl
                    have hg31 : x31 = .bool false := hg31
                    subst hg31
                    have e31 : AA.tmps[72]?.getD undef = .bool false := by rw [hA]; exact tmps_own (by kernel_rfl) hx31 (of_decide_eq_true (by kernel_rfl))
                    clear hA hdeps hcl hmi hx31
                    have hK0 : KK (AA.put (some 4) _) _ := hK (.bool false) _ (Below.refl _ _) (Eq.refl _)
                    clear hK
                    go_simp
                    exact hK0
                  · simp at ho
                · intro m W hbx hall
                  obtain ⟨x0, m0, g0⟩ := hall 0 (by simp)
                  replace g0 : x0 = .int .i64 (k : Int) := g0
                  subst g0
                  obtain ⟨x1, m1, g1⟩ := hall 1 (by simp)
                  replace g1 : x1 = .bool true := g1
                  subst g1
                  obtain ⟨x2, m2, g2⟩ := hall 2 (by simp)
                  replace g2 : x2 = .bool true := g2
                  subst g2
                  obtain ⟨x3, m3, g3⟩ := hall 3 (by simp)
                  replace g3 : x3 = undef := g3
                  subst g3
                  obtain ⟨x4, m4, g4⟩ := hall 4 (by simp)
                  replace g4 : x4 = undef := g4
                  subst g4
                  obtain ⟨x5, m5, g5⟩ := hall 5 (by simp)
                  replace g5 : x5 = undef := g5
                  subst g5
                  obtain ⟨x6, m6, g6⟩ := hall 6 (by simp)
                  replace g6 : x6 = undef := g6
                  subst g6
                  obtain ⟨x7, m7, g7⟩ := hall 7 (by simp)
                  replace g7 : x7 = undef := g7
                  subst g7
                  obtain ⟨x8, m8, g8⟩ := hall 8 (by simp)
                  replace g8 : x8 = undef := g8
                  subst g8
                  obtain ⟨x9, m9, g9⟩ := hall 9 (by simp)
                  replace g9 : x9 = undef := g9
                  subst g9
                  obtain ⟨x10, m10, g10⟩ := hall 10 (by simp)
                  replace g10 : x10 = undef := g10
                  subst g10
                  obtain ⟨x11, m11, g11⟩ := hall 11 (by simp)
                  replace g11 : x11 = undef := g11
                  subst g11
                  obtain ⟨x12, m12, g12⟩ := hall 12 (by simp)
                  replace g12 : x12 = .bool true := g12
                  subst g12
                  obtain ⟨x13, m13, g13⟩ := hall 13 (by simp)
                  replace g13 : x13 = .bool true := g13
                  subst g13
                  obtain ⟨x14, m14, g14⟩ := hall 14 (by simp)
                  replace g14 : x14 = .agg #[.slice (some ad) on oc, .slice dA dn dc] := g14
                  subst g14
                  obtain ⟨x15, m15, g15⟩ := hall 15 (by simp)
                  replace g15 : x15 = .pointer (some ⟨(w.heap.size + 1), 0, none⟩) := g15
                  subst g15
                  obtain ⟨x16, m16, g16⟩ := hall 16 (by simp)
                  replace g16 : x16 = .string ⟨yt.toArray⟩ := g16
                  subst g16
                  obtain ⟨x17, m17, g17⟩ := hall 17 (by simp)
                  replace g17 : x17 = .pointer (some ⟨(w.heap.size + 1), 2, none⟩) := g17
                  subst g17
                  obtain ⟨x18, m18, g18⟩ := hall 18 (by simp)
                  replace g18 : x18 = .string ⟨yi.toArray⟩ := g18
                  subst g18
                  obtain ⟨x19, m19, g19⟩ := hall 19 (by simp)
                  replace g19 : x19 = .int .i64 zA := g19
                  subst g19
                  obtain ⟨x20, m20, g20⟩ := hall 20 (by simp)
                  replace g20 : x20 = .pointer (some ⟨(w.heap.size + 1), 1, none⟩) := g20
                  subst g20
                  obtain ⟨x21, m21, g21⟩ := hall 21 (by simp)
                  replace g21 : x21 = .int .i64 yh := g21
                  subst g21
                  obtain ⟨x22, m22, g22⟩ := hall 22 (by simp)
                  replace g22 : x22 = .bool false := g22
                  subst g22
                  obtain ⟨x23, m23, g23⟩ := hall 23 (by simp)
                  replace g23 : x23 = .bool false := g23
                  subst g23
                  obtain ⟨x24, m24, g24⟩ := hall 24 (by simp)
                  replace g24 : x24 = .bool false := g24
                  subst g24
                  obtain ⟨x25, m25, g25⟩ := hall 25 (by simp)
                  replace g25 : x25 = undef := g25
                  subst g25
                  obtain ⟨x26, m26, g26⟩ := hall 26 (by simp)
                  replace g26 : x26 = undef := g26
                  subst g26
                  obtain ⟨x27, m27, g27⟩ := hall 27 (by simp)
                  replace g27 : x27 = undef := g27
                  subst g27
                  obtain ⟨x28, m28, g28⟩ := hall 28 (by simp)
                  replace g28 : x28 = undef := g28
                  subst g28
                  obtain ⟨x29, m29, g29⟩ := hall 29 (by simp)
                  replace g29 : x29 = undef := g29
                  subst g29
                  obtain ⟨x30, m30, g30⟩ := hall 30 (by simp)
                  replace g30 : x30 = undef := g30
                  subst g30
                  obtain ⟨x31, m31, g31⟩ := hall 31 (by simp)
                  replace g31 : x31 = .bool false := g31
                  subst g31
                  obtain ⟨x32, m32, g32⟩ := hall 32 (by simp)
                  replace g32 : x32 = .bool false := g32
                  subst g32
                  rw [frameM_all (by kernel_rfl) [.int .i64 (k : Int), .bool true, .bool true, undef, undef, undef, undef, undef, undef, undef, undef, undef, .bool true, .bool true, .agg #[.slice (some ad) on oc, .slice dA dn dc], .pointer (some ⟨(w.heap.size + 1), 0, none⟩), .string ⟨yt.toArray⟩, .pointer (some ⟨(w.heap.size + 1), 2, none⟩), .string ⟨yi.toArray⟩, .int .i64 zA, .pointer (some ⟨(w.heap.size + 1), 1, none⟩), .int .i64 yh, .bool false, .bool false, .bool false, undef, undef, undef, undef, undef, undef, .bool false, .bool false] rfl (fun i hi => by
                      rcases i with _ | _ | _ | _ | _ | _ | _ | _ | _ | _ | _ | _ | _ | _ | _ | _ | _ | _ | _ | _ | _ | _ | _ | _ | _ | _ | _ | _ | _ | _ | _ | _ | _ | i
                      · exact m0
                      · exact m1
                      · exact m2
                      · exact m3
                      · exact m4
                      · exact m5
                      · exact m6
                      · exact m7
                      · exact m8
                      · exact m9
                      · exact m10
                      · exact m11
                      · exact m12
                      · exact m13
                      · exact m14
                      · exact m15
                      · exact m16
                      · exact m17
                      · exact m18
                      · exact m19
                      · exact m20
                      · exact m21
                      · exact m22
                      · exact m23
                      · exact m24
                      · exact m25
                      · exact m26
                      · exact m27
                      · exact m28
                      · exact m29
                      · exact m30
                      · exact m31
                      · exact m32
                      · simp at hi; omega)]
                  clear hall m0 m1 m2 m3 m4 m5 m6 m7 m8 m9 m10 m11 m12 m13 m14 m15 m16 m17 m18 m19 m20 m21 m22 m23 m24 m25 m26 m27 m28 m29 m30 m31 m32
                  simp only [putAll, Act.put, List.setIfInBounds_toArray, List.set_cons_succ, List.set_cons_zero]
                  go_wp2_with fail
                  go_ret
                  exact ⟨by rw [HB.out]; rfl, hbW.out.trans ((hW.trans (hbx.mono hW.size)).mono (by have := HSZ.out; omega))⟩
            · injection e2 with e2
              subst e2
              rcases HPO with ⟨hp, dp⟩ | ⟨hp, dp⟩
              · subst hp
                rcases hat with ⟨ha, da⟩ | ⟨ha, da⟩
                · have HB : Hid (V = b) := by show _ = _; rw [HV.out]; rw [ha]; rfl
                  clear HV
                  refine wp_region_good2 (by kernel_rfl) (by kernel_rfl) [(fun v _ => v = .int .i64 (k : Int)),
                    (fun v _ => v = .bool false),
                    (fun v _ => v = .bool false),
                    (fun v _ => v = .pointer (some ⟨w.heap.size, 0, none⟩)),
                    (fun v _ => v = .slice (some ad) on oc),
                    (fun v _ => v = .int .i64 (k : Int)),
                    (fun v _ => v = .int .i64 ((k : Int) - 1)),
                    (fun v _ => v = .pointer (some (ad.add ((k - 1) * 5)))),
                    (fun v _ => v = .agg #[.string ⟨pt.toArray⟩, .int .i64 ph, .string ⟨pi.toArray⟩, .slice pA pn pc, .bool pb]),
                    (fun v _ => v = .agg #[.string ⟨yt.toArray⟩, .int .i64 yh, .string ⟨yi.toArray⟩, .slice yA yn yc, .bool yb]),
                    (fun v _ => v = .int .i64 zO),
                    (fun v _ => v = .bool true),
                    (fun v _ => v = .bool true),
                    (fun v _ => v = .bool true),
                    (fun v _ => v = .agg #[.slice (some ad) on oc, .slice dA dn dc]),
                    (fun v _ => v = .pointer (some ⟨(w.heap.size + 1), 0, none⟩)),
                    (fun v _ => v = .string ⟨yt.toArray⟩),
                    (fun v _ => v = .pointer (some ⟨(w.heap.size + 1), 2, none⟩)),
                    (fun v _ => v = .string ⟨yi.toArray⟩),
                    (fun v _ => v = .int .i64 zA),
                    (fun v _ => v = .pointer (some ⟨(w.heap.size + 1), 1, none⟩)),
                    (fun v _ => v = .int .i64 yh),
                    (fun v _ => v = .bool true),
                    (fun v _ => v = .bool true),
                    (fun v _ => v = .bool true),
                    (fun v _ => v = .agg #[.slice (some ad) on oc, .slice dA dn dc]),
                    (fun v _ => v = .pointer (some ⟨(w.heap.size + 1), 0, none⟩)),
                    (fun v _ => v = .string ⟨yt.toArray⟩),
                    (fun v _ => ∃ A c, v = .slice A nOf c),
                    (fun v _ => v = .int .i64 (nOf : Int)),
                    (fun v _ => v = .bool b),
                    (fun v _ => v = .bool b),
                    (fun v _ => v = .bool b)] ?_ ?_ ?_
                  · repeat' (first | exact stays_nil | refine stays_cons ?_ ?_ | exact Stays.pure)
                  · intro i oo ho m2 W hb0 hmi hcl hdeps AA KK hA hK
                    rcases i with _ | _ | _ | _ | _ | _ | _ | _ | _ | _ | _ | _ | _ | _ | _ | _ | _ | _ | _ | _ | _ | _ | _ | _ | _ | _ | _ | _ | _ | _ | _ | _ | _ | i
                    · injection ho with ho
                      subst ho
                      have ef1 : AA.tmps[1]?.getD undef = .int .i64 (k : Int) := by rw [hA]; exact tmps_free (by kernel_rfl)
                      clear hA hdeps hcl hmi
                      have hK0 : KK (AA.put (some 41) _) _ := hK (.int .i64 (k : Int)) _ (Below.refl _ _) (Eq.refl _)
                      clear hK
                      go_simp
                      exact hK0
                    · injection ho with ho
                      subst ho
                      obtain ⟨x0, hx0, hg0⟩ := hdeps ⟨0, .data⟩ (by simp) rfl
                      have hg0 : x0 = .int .i64 (k : Int) := hg0
                      subst hg0
                      have e0 : AA.tmps[41]?.getD undef = .int .i64 (k : Int) := by rw [hA]; exact tmps_own (by kernel_rfl) hx0 (of_decide_eq_true (by kernel_rfl))
                      clear hA hdeps hcl hmi hx0
                      have hK0 : KK (AA.put (some 42) _) _ := hK (.bool false) _ (Below.refl _ _) (Eq.refl _)
                      clear hK
                      go_simp
                      exact hK0
                    · injection ho with ho
                      subst ho
                      obtain ⟨x1, hx1, hg1⟩ := hdeps ⟨1, .data⟩ (by simp) rfl
                      have hg1 : x1 = .bool false := hg1
                      subst hg1
                      have e1 : AA.tmps[42]?.getD undef = .bool false := by rw [hA]; exact tmps_own (by kernel_rfl) hx1 (of_decide_eq_true (by kernel_rfl))
                      clear hA hdeps hcl hmi hx1
                      have hK0 : KK (AA.put (some 43) _) _ := hK (.bool false) _ (Below.refl _ _) (Eq.refl _)
                      clear hK
                      go_simp
                      exact hK0
                    · injection ho with ho
                      subst ho
                      obtain ⟨x2, hx2, hg2⟩ := hdeps ⟨2, .guard⟩ (by simp) rfl
                      have hg2 : x2 = .bool false := hg2
                      subst hg2
                      have e2 : AA.tmps[43]?.getD undef = .bool false := by rw [hA]; exact tmps_own (by kernel_rfl) hx2 (of_decide_eq_true (by kernel_rfl))
                      have ef2 : AA.tmps[2]?.getD undef = .pointer (some ⟨w.heap.size, 0, none⟩) := by rw [hA]; exact tmps_free (by kernel_rfl)
                      clear hA hdeps hcl hmi hx2
                      rw [if_pos (wanted_of (k := 43) rfl rfl e2)]
                      have hK0 : KK (AA.put (some 44) _) _ := hK (.pointer (some ⟨w.heap.size, 0, none⟩)) _ (Below.refl _ _) (Eq.refl _)
                      clear hK
                      go_simp
                      exact hK0
                    · injection ho with ho
                      subst ho
                      obtain ⟨x2, hx2, hg2⟩ := hdeps ⟨2, .guard⟩ (by simp) rfl
                      have hg2 : x2 = .bool false := hg2
                      subst hg2
                      have e2 : AA.tmps[43]?.getD undef = .bool false := by rw [hA]; exact tmps_own (by kernel_rfl) hx2 (of_decide_eq_true (by kernel_rfl))
                      obtain ⟨x3, hx3, hg3⟩ := hdeps ⟨3, .data⟩ (by simp) rfl
                      have hg3 : x3 = .pointer (some ⟨w.heap.size, 0, none⟩) := hg3
                      subst hg3
                      have e3 : AA.tmps[44]?.getD undef = .pointer (some ⟨w.heap.size, 0, none⟩) := by rw [hA]; exact tmps_own (by kernel_rfl) hx3 (of_decide_eq_true (by kernel_rfl))
                      clear hA hdeps hcl hmi hx2 hx3
                      rw [if_pos (wanted_of (k := 43) rfl rfl e2)]
                      obtain ⟨t0, t1, q0, q1, q2, q3, q4⟩ := hS.out W (hW.trans (hb0.mono hW.size))
                      have hK0 : KK (AA.put (some 45) _) _ := hK (.slice (some ad) on oc) _ (Below.refl _ _) (Eq.refl _)
                      clear hK
                      go_simp
                      exact hK0
                    · injection ho with ho
                      subst ho
                      obtain ⟨x2, hx2, hg2⟩ := hdeps ⟨2, .guard⟩ (by simp) rfl
                      have hg2 : x2 = .bool false := hg2
                      subst hg2
                      have e2 : AA.tmps[43]?.getD undef = .bool false := by rw [hA]; exact tmps_own (by kernel_rfl) hx2 (of_decide_eq_true (by kernel_rfl))
                      have ef1 : AA.tmps[1]?.getD undef = .int .i64 (k : Int) := by rw [hA]; exact tmps_free (by kernel_rfl)
                      clear hA hdeps hcl hmi hx2
                      rw [if_pos (wanted_of (k := 43) rfl rfl e2)]
                      have hK0 : KK (AA.put (some 46) _) _ := hK (.int .i64 (k : Int)) _ (Below.refl _ _) (Eq.refl _)
                      clear hK
                      go_simp
                      exact hK0
                    · injection ho with ho
                      subst ho
                      obtain ⟨x2, hx2, hg2⟩ := hdeps ⟨2, .guard⟩ (by simp) rfl
                      have hg2 : x2 = .bool false := hg2
                      subst hg2
                      have e2 : AA.tmps[43]?.getD undef = .bool false := by rw [hA]; exact tmps_own (by kernel_rfl) hx2 (of_decide_eq_true (by kernel_rfl))
                      obtain ⟨x5, hx5, hg5⟩ := hdeps ⟨5, .data⟩ (by simp) rfl
                      have hg5 : x5 = .int .i64 (k : Int) := hg5
                      subst hg5
                      have e5 : AA.tmps[46]?.getD undef = .int .i64 (k : Int) := by rw [hA]; exact tmps_own (by kernel_rfl) hx5 (of_decide_eq_true (by kernel_rfl))
                      clear hA hdeps hcl hmi hx2 hx5
                      rw [if_pos (wanted_of (k := 43) rfl rfl e2)]
                      have hK0 : KK (AA.put (some 47) _) _ := hK (.int .i64 ((k : Int) - 1)) _ (Below.refl _ _) (Eq.refl _)
                      clear hK
                      go_simp
                      exact hK0
                    · injection ho with ho
                      subst ho
                      obtain ⟨x2, hx2, hg2⟩ := hdeps ⟨2, .guard⟩ (by simp) rfl
                      have hg2 : x2 = .bool false := hg2
                      subst hg2
                      have e2 : AA.tmps[43]?.getD undef = .bool false := by rw [hA]; exact tmps_own (by kernel_rfl) hx2 (of_decide_eq_true (by kernel_rfl))
                      obtain ⟨x4, hx4, hg4⟩ := hdeps ⟨4, .data⟩ (by simp) rfl
                      have hg4 : x4 = .slice (some ad) on oc := hg4
                      subst hg4
                      have e4 : AA.tmps[45]?.getD undef = .slice (some ad) on oc := by rw [hA]; exact tmps_own (by kernel_rfl) hx4 (of_decide_eq_true (by kernel_rfl))
                      obtain ⟨x6, hx6, hg6⟩ := hdeps ⟨6, .data⟩ (by simp) rfl
                      have hg6 : x6 = .int .i64 ((k : Int) - 1) := hg6
                      subst hg6
                      have e6 : AA.tmps[47]?.getD undef = .int .i64 ((k : Int) - 1) := by rw [hA]; exact tmps_own (by kernel_rfl) hx6 (of_decide_eq_true (by kernel_rfl))
                      clear hA hdeps hcl hmi hx2 hx4 hx6
                      rw [if_pos (wanted_of (k := 43) rfl rfl e2)]
                      have hK0 : KK (AA.put (some 48) _) _ := hK (.pointer (some (ad.add ((k - 1) * 5)))) _ (Below.refl _ _) (Eq.refl _)
                      clear hK
                      go_simp
                      exact hK0
                    · injection ho with ho
                      subst ho
                      obtain ⟨x2, hx2, hg2⟩ := hdeps ⟨2, .guard⟩ (by simp) rfl
                      have hg2 : x2 = .bool false := hg2
                      subst hg2
                      have e2 : AA.tmps[43]?.getD undef = .bool false := by rw [hA]; exact tmps_own (by kernel_rfl) hx2 (of_decide_eq_true (by kernel_rfl))
                      obtain ⟨x7, hx7, hg7⟩ := hdeps ⟨7, .data⟩ (by simp) rfl
                      have hg7 : x7 = .pointer (some (ad.add ((k - 1) * 5))) := hg7
                      subst hg7
                      have e7 : AA.tmps[48]?.getD undef = .pointer (some (ad.add ((k - 1) * 5))) := by rw [hA]; exact tmps_own (by kernel_rfl) hx7 (of_decide_eq_true (by kernel_rfl))
                      clear hA hdeps hcl hmi hx2 hx7
                      rw [if_pos (wanted_of (k := 43) rfl rfl e2)]
                      obtain ⟨t0, t1, q0, q1, q2, q3, q4⟩ := hS.out W (hW.trans (hb0.mono hW.size))
                      obtain ⟨p0, p1, p2, p3, p4⟩ := hP.out W (hW.trans (hb0.mono hW.size))
                      have hK0 : KK (AA.put (some 49) _) _ := hK (.agg #[.string ⟨pt.toArray⟩, .int .i64 ph, .string ⟨pi.toArray⟩, .slice pA pn pc, .bool pb]) _ (Below.refl _ _) (Eq.refl _)
                      clear hK
                      go_simp
                      exact hK0
                    · injection ho with ho
                      subst ho
                      obtain ⟨x2, hx2, hg2⟩ := hdeps ⟨2, .guard⟩ (by simp) rfl
                      have hg2 : x2 = .bool false := hg2
                      subst hg2
                      have e2 : AA.tmps[43]?.getD undef = .bool false := by rw [hA]; exact tmps_own (by kernel_rfl) hx2 (of_decide_eq_true (by kernel_rfl))
                      have ef5 : AA.tmps[5]?.getD undef = .pointer (some ⟨(w.heap.size + 1), 0, none⟩) := by rw [hA]; exact tmps_free (by kernel_rfl)
                      clear hA hdeps hcl hmi hx2
                      rw [if_pos (wanted_of (k := 43) rfl rfl e2)]
                      obtain ⟨t0, t1, q0, q1, q2, q3, q4⟩ := hS.out W (hW.trans (hb0.mono hW.size))
                      have hK0 : KK (AA.put (some 50) _) _ := hK (.agg #[.string ⟨yt.toArray⟩, .int .i64 yh, .string ⟨yi.toArray⟩, .slice yA yn yc, .bool yb]) _ (Below.refl _ _) (Eq.refl _)
                      clear hK
                      go_simp
                      exact hK0
                    · injection ho with ho
                      subst ho
                      obtain ⟨x2, hx2, hg2⟩ := hdeps ⟨2, .guard⟩ (by simp) rfl
                      have hg2 : x2 = .bool false := hg2
                      subst hg2
                      have e2 : AA.tmps[43]?.getD undef = .bool false := by rw [hA]; exact tmps_own (by kernel_rfl) hx2 (of_decide_eq_true (by kernel_rfl))
                      obtain ⟨x8, hx8, hg8⟩ := hdeps ⟨8, .data⟩ (by simp) rfl
                      have hg8 : x8 = .agg #[.string ⟨pt.toArray⟩, .int .i64 ph, .string ⟨pi.toArray⟩, .slice pA pn pc, .bool pb] := hg8
                      subst hg8
                      have e8 : AA.tmps[49]?.getD undef = .agg #[.string ⟨pt.toArray⟩, .int .i64 ph, .string ⟨pi.toArray⟩, .slice pA pn pc, .bool pb] := by rw [hA]; exact tmps_own (by kernel_rfl) hx8 (of_decide_eq_true (by kernel_rfl))
                      obtain ⟨x9, hx9, hg9⟩ := hdeps ⟨9, .data⟩ (by simp) rfl
                      have hg9 : x9 = .agg #[.string ⟨yt.toArray⟩, .int .i64 yh, .string ⟨yi.toArray⟩, .slice yA yn yc, .bool yb] := hg9
                      subst hg9
                      have e9 : AA.tmps[50]?.getD undef = .agg #[.string ⟨yt.toArray⟩, .int .i64 yh, .string ⟨yi.toArray⟩, .slice yA yn yc, .bool yb] := by rw [hA]; exact tmps_own (by kernel_rfl) hx9 (of_decide_eq_true (by kernel_rfl))
                      clear hA hdeps hcl hmi hx2 hx8 hx9
                      rw [if_pos (wanted_of (k := 43) rfl rfl e2)]
                      have hKK := Lib.hid hK
                      clear hK
                      go_simp
                      refine (hOr.out _ (hW.trans (hb0.mono hW.size))).mono ?_
                      rintro e w5 ⟨rfl, hbn⟩
                      exact hKK.out _ _ hbn (Eq.refl _)
                    · injection ho with ho
                      subst ho
                      obtain ⟨x2, hx2, hg2⟩ := hdeps ⟨2, .guard⟩ (by simp) rfl
                      have hg2 : x2 = .bool false := hg2
                      subst hg2
                      have e2 : AA.tmps[43]?.getD undef = .bool false := by rw [hA]; exact tmps_own (by kernel_rfl) hx2 (of_decide_eq_true (by kernel_rfl))
                      obtain ⟨x10, hx10, hg10⟩ := hdeps ⟨10, .data⟩ (by simp) rfl
                      have hg10 : x10 = .int .i64 zO := hg10
                      subst hg10
                      have e10 : AA.tmps[51]?.getD undef = .int .i64 zO := by rw [hA]; exact tmps_own (by kernel_rfl) hx10 (of_decide_eq_true (by kernel_rfl))
                      clear hA hdeps hcl hmi hx2 hx10
                      rw [if_pos (wanted_of (k := 43) rfl rfl e2)]
                      have hK0 : KK (AA.put (some 52) _) _ := hK (.bool true) _ (Below.refl _ _) (Eq.refl _)
                      clear hK
                      go_simp
                      exact hK0
                    · injection ho with ho
                      subst ho
                      obtain ⟨x2, hx2, hg2⟩ := hdeps ⟨2, .data⟩ (by simp) rfl
                      have hg2 : x2 = .bool false := hg2
                      subst hg2
                      have e2 : AA.tmps[43]?.getD undef = .bool false := by rw [hA]; exact tmps_own (by kernel_rfl) hx2 (of_decide_eq_true (by kernel_rfl))
                      obtain ⟨x11, hx11, hg11⟩ := hdeps ⟨11, .data⟩ (by simp) rfl
                      have hg11 : x11 = .bool true := hg11
                      subst hg11
                      have e11 : AA.tmps[52]?.getD undef = .bool true := by rw [hA]; exact tmps_own (by kernel_rfl) hx11 (of_decide_eq_true (by kernel_rfl))
                      clear hA hdeps hcl hmi hx2 hx11
                      have hK0 : KK (AA.put (some 53) _) _ := hK (.bool true) _ (Below.refl _ _) (Eq.refl _)
                      clear hK
                      go_simp
                      exact hK0
                    · injection ho with ho
                      subst ho
                      obtain ⟨x12, hx12, hg12⟩ := hdeps ⟨12, .data⟩ (by simp) rfl
                      have hg12 : x12 = .bool true := hg12
                      subst hg12
                      have e12 : AA.tmps[53]?.getD undef = .bool true := by rw [hA]; exact tmps_own (by kernel_rfl) hx12 (of_decide_eq_true (by kernel_rfl))
                      clear hA hdeps hcl hmi hx12
                      have hK0 : KK (AA.put (some 54) _) _ := hK (.bool true) _ (Below.refl _ _) (Eq.refl _)
                      clear hK
                      go_simp
                      exact hK0
                    · injection ho with ho
                      subst ho
                      obtain ⟨x13, hx13, hg13⟩ := hdeps ⟨13, .guard⟩ (by simp) rfl
                      have hg13 : x13 = .bool true := hg13
                      subst hg13
                      have e13 : AA.tmps[54]?.getD undef = .bool true := by rw [hA]; exact tmps_own (by kernel_rfl) hx13 (of_decide_eq_true (by kernel_rfl))
                      have ef2 : AA.tmps[2]?.getD undef = .pointer (some ⟨w.heap.size, 0, none⟩) := by rw [hA]; exact tmps_free (by kernel_rfl)
                      clear hA hdeps hcl hmi hx13
                      rw [if_pos (wanted_of (k := 54) rfl rfl e13)]
                      obtain ⟨t0, t1, q0, q1, q2, q3, q4⟩ := hS.out W (hW.trans (hb0.mono hW.size))
                      have hK0 : KK (AA.put (some 55) _) _ := hK (.agg #[.slice (some ad) on oc, .slice dA dn dc]) _ (Below.refl _ _) (Eq.refl _)
                      clear hK
                      go_simp
                      exact hK0
                    · injection ho with ho
                      subst ho
                      obtain ⟨x13, hx13, hg13⟩ := hdeps ⟨13, .guard⟩ (by simp) rfl
                      have hg13 : x13 = .bool true := hg13
                      subst hg13
                      have e13 : AA.tmps[54]?.getD undef = .bool true := by rw [hA]; exact tmps_own (by kernel_rfl) hx13 (of_decide_eq_true (by kernel_rfl))
                      have ef5 : AA.tmps[5]?.getD undef = .pointer (some ⟨(w.heap.size + 1), 0, none⟩) := by rw [hA]; exact tmps_free (by kernel_rfl)
                      clear hA hdeps hcl hmi hx13
                      rw [if_pos (wanted_of (k := 54) rfl rfl e13)]
                      have hK0 : KK (AA.put (some 56) _) _ := hK (.pointer (some ⟨(w.heap.size + 1), 0, none⟩)) _ (Below.refl _ _) (Eq.refl _)
                      clear hK
                      go_simp
                      exact hK0
                    · injection ho with ho
                      subst ho
                      obtain ⟨x13, hx13, hg13⟩ := hdeps ⟨13, .guard⟩ (by simp) rfl
                      have hg13 : x13 = .bool true := hg13
                      subst hg13
                      have e13 : AA.tmps[54]?.getD undef = .bool true := by rw [hA]; exact tmps_own (by kernel_rfl) hx13 (of_decide_eq_true (by kernel_rfl))
                      obtain ⟨x15, hx15, hg15⟩ := hdeps ⟨15, .data⟩ (by simp) rfl
                      have hg15 : x15 = .pointer (some ⟨(w.heap.size + 1), 0, none⟩) := hg15
                      subst hg15
                      have e15 : AA.tmps[56]?.getD undef = .pointer (some ⟨(w.heap.size + 1), 0, none⟩) := by rw [hA]; exact tmps_own (by kernel_rfl) hx15 (of_decide_eq_true (by kernel_rfl))
                      clear hA hdeps hcl hmi hx13 hx15
                      rw [if_pos (wanted_of (k := 54) rfl rfl e13)]
                      obtain ⟨t0, t1, q0, q1, q2, q3, q4⟩ := hS.out W (hW.trans (hb0.mono hW.size))
                      have hK0 : KK (AA.put (some 57) _) _ := hK (.string ⟨yt.toArray⟩) _ (Below.refl _ _) (Eq.refl _)
                      clear hK
                      go_simp
                      exact hK0
                    · injection ho with ho
                      subst ho
                      obtain ⟨x13, hx13, hg13⟩ := hdeps ⟨13, .guard⟩ (by simp) rfl
                      have hg13 : x13 = .bool true := hg13
                      subst hg13
                      have e13 : AA.tmps[54]?.getD undef = .bool true := by rw [hA]; exact tmps_own (by kernel_rfl) hx13 (of_decide_eq_true (by kernel_rfl))
                      have ef5 : AA.tmps[5]?.getD undef = .pointer (some ⟨(w.heap.size + 1), 0, none⟩) := by rw [hA]; exact tmps_free (by kernel_rfl)
                      clear hA hdeps hcl hmi hx13
                      rw [if_pos (wanted_of (k := 54) rfl rfl e13)]
                      have hK0 : KK (AA.put (some 58) _) _ := hK (.pointer (some ⟨(w.heap.size + 1), 2, none⟩)) _ (Below.refl _ _) (Eq.refl _)
                      clear hK
                      go_simp
                      exact hK0
                    · injection ho with ho
                      subst ho
                      obtain ⟨x13, hx13, hg13⟩ := hdeps ⟨13, .guard⟩ (by simp) rfl
                      have hg13 : x13 = .bool true := hg13
                      subst hg13
                      have e13 : AA.tmps[54]?.getD undef = .bool true := by rw [hA]; exact tmps_own (by kernel_rfl) hx13 (of_decide_eq_true (by kernel_rfl))
                      obtain ⟨x17, hx17, hg17⟩ := hdeps ⟨17, .data⟩ (by simp) rfl
                      have hg17 : x17 = .pointer (some ⟨(w.heap.size + 1), 2, none⟩) := hg17
                      subst hg17
                      have e17 : AA.tmps[58]?.getD undef = .pointer (some ⟨(w.heap.size + 1), 2, none⟩) := by rw [hA]; exact tmps_own (by kernel_rfl) hx17 (of_decide_eq_true (by kernel_rfl))
                      clear hA hdeps hcl hmi hx13 hx17
                      rw [if_pos (wanted_of (k := 54) rfl rfl e13)]
                      obtain ⟨t0, t1, q0, q1, q2, q3, q4⟩ := hS.out W (hW.trans (hb0.mono hW.size))
                      have hK0 : KK (AA.put (some 59) _) _ := hK (.string ⟨yi.toArray⟩) _ (Below.refl _ _) (Eq.refl _)
                      clear hK
                      go_simp
                      exact hK0
                    · injection ho with ho
                      subst ho
                      obtain ⟨x13, hx13, hg13⟩ := hdeps ⟨13, .guard⟩ (by simp) rfl
                      have hg13 : x13 = .bool true := hg13
                      subst hg13
                      have e13 : AA.tmps[54]?.getD undef = .bool true := by rw [hA]; exact tmps_own (by kernel_rfl) hx13 (of_decide_eq_true (by kernel_rfl))
                      obtain ⟨x14, hx14, hg14⟩ := hdeps ⟨14, .data⟩ (by simp) rfl
                      have hg14 : x14 = .agg #[.slice (some ad) on oc, .slice dA dn dc] := hg14
                      subst hg14
                      have e14 : AA.tmps[55]?.getD undef = .agg #[.slice (some ad) on oc, .slice dA dn dc] := by rw [hA]; exact tmps_own (by kernel_rfl) hx14 (of_decide_eq_true (by kernel_rfl))
                      obtain ⟨x16, hx16, hg16⟩ := hdeps ⟨16, .data⟩ (by simp) rfl
                      have hg16 : x16 = .string ⟨yt.toArray⟩ := hg16
                      subst hg16
                      have e16 : AA.tmps[57]?.getD undef = .string ⟨yt.toArray⟩ := by rw [hA]; exact tmps_own (by kernel_rfl) hx16 (of_decide_eq_true (by kernel_rfl))
                      obtain ⟨x18, hx18, hg18⟩ := hdeps ⟨18, .data⟩ (by simp) rfl
                      have hg18 : x18 = .string ⟨yi.toArray⟩ := hg18
                      subst hg18
                      have e18 : AA.tmps[59]?.getD undef = .string ⟨yi.toArray⟩ := by rw [hA]; exact tmps_own (by kernel_rfl) hx18 (of_decide_eq_true (by kernel_rfl))
                      clear hA hdeps hcl hmi hx13 hx14 hx16 hx18
                      rw [if_pos (wanted_of (k := 54) rfl rfl e13)]
                      have hKK := Lib.hid hK
                      clear hK
                      go_simp
                      refine (hAt.out _ (hW.trans (hb0.mono hW.size))).mono ?_
                      rintro e w5 ⟨rfl, hbn⟩
                      exact hKK.out _ _ hbn (Eq.refl _)
                    · injection ho with ho
                      subst ho
                      obtain ⟨x13, hx13, hg13⟩ := hdeps ⟨13, .guard⟩ (by simp) rfl
                      have hg13 : x13 = .bool true := hg13
                      subst hg13
                      have e13 : AA.tmps[54]?.getD undef = .bool true := by rw [hA]; exact tmps_own (by kernel_rfl) hx13 (of_decide_eq_true (by kernel_rfl))
                      have ef5 : AA.tmps[5]?.getD undef = .pointer (some ⟨(w.heap.size + 1), 0, none⟩) := by rw [hA]; exact tmps_free (by kernel_rfl)
                      clear hA hdeps hcl hmi hx13
                      rw [if_pos (wanted_of (k := 54) rfl rfl e13)]
                      have hK0 : KK (AA.put (some 61) _) _ := hK (.pointer (some ⟨(w.heap.size + 1), 1, none⟩)) _ (Below.refl _ _) (Eq.refl _)
                      clear hK
                      go_simp
                      exact hK0
                    · injection ho with ho
                      subst ho
                      obtain ⟨x13, hx13, hg13⟩ := hdeps ⟨13, .guard⟩ (by simp) rfl
                      have hg13 : x13 = .bool true := hg13
                      subst hg13
                      have e13 : AA.tmps[54]?.getD undef = .bool true := by rw [hA]; exact tmps_own (by kernel_rfl) hx13 (of_decide_eq_true (by kernel_rfl))
                      obtain ⟨x20, hx20, hg20⟩ := hdeps ⟨20, .data⟩ (by simp) rfl
                      have hg20 : x20 = .pointer (some ⟨(w.heap.size + 1), 1, none⟩) := hg20
                      subst hg20
                      have e20 : AA.tmps[61]?.getD undef = .pointer (some ⟨(w.heap.size + 1), 1, none⟩) := by rw [hA]; exact tmps_own (by kernel_rfl) hx20 (of_decide_eq_true (by kernel_rfl))
                      clear hA hdeps hcl hmi hx13 hx20
                      rw [if_pos (wanted_of (k := 54) rfl rfl e13)]
                      obtain ⟨t0, t1, q0, q1, q2, q3, q4⟩ := hS.out W (hW.trans (hb0.mono hW.size))
                      have hK0 : KK (AA.put (some 62) _) _ := hK (.int .i64 yh) _ (Below.refl _ _) (Eq.refl _)
                      clear hK
                      go_simp
                      exact hK0
                    · injection ho with ho
                      subst ho
                      obtain ⟨x13, hx13, hg13⟩ := hdeps ⟨13, .guard⟩ (by simp) rfl
                      have hg13 : x13 = .bool true := hg13
                      subst hg13
                      have e13 : AA.tmps[54]?.getD undef = .bool true := by rw [hA]; exact tmps_own (by kernel_rfl) hx13 (of_decide_eq_true (by kernel_rfl))
                      obtain ⟨x19, hx19, hg19⟩ := hdeps ⟨19, .data⟩ (by simp) rfl
                      have hg19 : x19 = .int .i64 zA := hg19
                      subst hg19
                      have e19 : AA.tmps[60]?.getD undef = .int .i64 zA := by rw [hA]; exact tmps_own (by kernel_rfl) hx19 (of_decide_eq_true (by kernel_rfl))
                      obtain ⟨x21, hx21, hg21⟩ := hdeps ⟨21, .data⟩ (by simp) rfl
                      have hg21 : x21 = .int .i64 yh := hg21
                      subst hg21
                      have e21 : AA.tmps[62]?.getD undef = .int .i64 yh := by rw [hA]; exact tmps_own (by kernel_rfl) hx21 (of_decide_eq_true (by kernel_rfl))
                      clear hA hdeps hcl hmi hx13 hx19 hx21
                      rw [if_pos (wanted_of (k := 54) rfl rfl e13)]
                      have hK0 : KK (AA.put (some 63) _) _ := hK (.bool true) _ (Below.refl _ _) (Eq.refl _)
                      clear hK
                      go_simp
                      exact hK0
                    · injection ho with ho
                      subst ho
                      obtain ⟨x13, hx13, hg13⟩ := hdeps ⟨13, .data⟩ (by simp) rfl
                      have hg13 : x13 = .bool true := hg13
                      subst hg13
                      have e13 : AA.tmps[54]?.getD undef = .bool true := by rw [hA]; exact tmps_own (by kernel_rfl) hx13 (of_decide_eq_true (by kernel_rfl))
                      obtain ⟨x22, hx22, hg22⟩ := hdeps ⟨22, .data⟩ (by simp) rfl
                      have hg22 : x22 = .bool true := hg22
                      subst hg22
                      have e22 : AA.tmps[63]?.getD undef = .bool true := by rw [hA]; exact tmps_own (by kernel_rfl) hx22 (of_decide_eq_true (by kernel_rfl))
                      clear hA hdeps hcl hmi hx13 hx22
                      have hK0 : KK (AA.put (some 64) _) _ := hK (.bool true) _ (Below.refl _ _) (Eq.refl _)
                      clear hK
                      go_simp
                      exact hK0
                    · injection ho with ho
                      subst ho
                      obtain ⟨x23, hx23, hg23⟩ := hdeps ⟨23, .data⟩ (by simp) rfl
                      have hg23 : x23 = .bool true := hg23
                      subst hg23
                      have e23 : AA.tmps[64]?.getD undef = .bool true := by rw [hA]; exact tmps_own (by kernel_rfl) hx23 (of_decide_eq_true (by kernel_rfl))
                      clear hA hdeps hcl hmi hx23
                      have hK0 : KK (AA.put (some 65) _) _ := hK (.bool true) _ (Below.refl _ _) (Eq.refl _)
                      clear hK
                      go_simp
                      exact hK0
                    · injection ho with ho
                      subst ho
                      obtain ⟨x24, hx24, hg24⟩ := hdeps ⟨24, .guard⟩ (by simp) rfl
                      have hg24 : x24 = .bool true := hg24
                      subst hg24
                      have e24 : AA.tmps[65]?.getD undef = .bool true := by rw [hA]; exact tmps_own (by kernel_rfl) hx24 (of_decide_eq_true (by kernel_rfl))
                      have ef2 : AA.tmps[2]?.getD undef = .pointer (some ⟨w.heap.size, 0, none⟩) := by rw [hA]; exact tmps_free (by kernel_rfl)
                      clear hA hdeps hcl hmi hx24
                      rw [if_pos (wanted_of (k := 65) rfl rfl e24)]
                      obtain ⟨t0, t1, q0, q1, q2, q3, q4⟩ := hS.out W (hW.trans (hb0.mono hW.size))
                      have hK0 : KK (AA.put (some 66) _) _ := hK (.agg #[.slice (some ad) on oc, .slice dA dn dc]) _ (Below.refl _ _) (Eq.refl _)
                      clear hK
                      go_simp
                      exact hK0
                    · injection ho with ho
                      subst ho
                      obtain ⟨x24, hx24, hg24⟩ := hdeps ⟨24, .guard⟩ (by simp) rfl
                      have hg24 : x24 = .bool true := hg24
                      subst hg24
                      have e24 : AA.tmps[65]?.getD undef = .bool true := by rw [hA]; exact tmps_own (by kernel_rfl) hx24 (of_decide_eq_true (by kernel_rfl))
                      have ef5 : AA.tmps[5]?.getD undef = .pointer (some ⟨(w.heap.size + 1), 0, none⟩) := by rw [hA]; exact tmps_free (by kernel_rfl)
                      clear hA hdeps hcl hmi hx24
                      rw [if_pos (wanted_of (k := 65) rfl rfl e24)]
                      have hK0 : KK (AA.put (some 67) _) _ := hK (.pointer (some ⟨(w.heap.size + 1), 0, none⟩)) _ (Below.refl _ _) (Eq.refl _)
                      clear hK
                      go_simp
                      exact hK0
                    · injection ho with ho
                      subst ho
                      obtain ⟨x24, hx24, hg24⟩ := hdeps ⟨24, .guard⟩ (by simp) rfl
                      have hg24 : x24 = .bool true := hg24
                      subst hg24
                      have e24 : AA.tmps[65]?.getD undef = .bool true := by rw [hA]; exact tmps_own (by kernel_rfl) hx24 (of_decide_eq_true (by kernel_rfl))
                      obtain ⟨x26, hx26, hg26⟩ := hdeps ⟨26, .data⟩ (by simp) rfl
                      have hg26 : x26 = .pointer (some ⟨(w.heap.size + 1), 0, none⟩) := hg26
                      subst hg26
                      have e26 : AA.tmps[67]?.getD undef = .pointer (some ⟨(w.heap.size + 1), 0, none⟩) := by rw [hA]; exact tmps_own (by kernel_rfl) hx26 (of_decide_eq_true (by kernel_rfl))
                      clear hA hdeps hcl hmi hx24 hx26
                      rw [if_pos (wanted_of (k := 65) rfl rfl e24)]
                      obtain ⟨t0, t1, q0, q1, q2, q3, q4⟩ := hS.out W (hW.trans (hb0.mono hW.size))
                      have hK0 : KK (AA.put (some 68) _) _ := hK (.string ⟨yt.toArray⟩) _ (Below.refl _ _) (Eq.refl _)
                      clear hK
                      go_simp
                      exact hK0
                    · injection ho with ho
                      subst ho
                      obtain ⟨x24, hx24, hg24⟩ := hdeps ⟨24, .guard⟩ (by simp) rfl
                      have hg24 : x24 = .bool true := hg24
                      subst hg24
                      have e24 : AA.tmps[65]?.getD undef = .bool true := by rw [hA]; exact tmps_own (by kernel_rfl) hx24 (of_decide_eq_true (by kernel_rfl))
                      obtain ⟨x25, hx25, hg25⟩ := hdeps ⟨25, .data⟩ (by simp) rfl
                      have hg25 : x25 = .agg #[.slice (some ad) on oc, .slice dA dn dc] := hg25
                      subst hg25
                      have e25 : AA.tmps[66]?.getD undef = .agg #[.slice (some ad) on oc, .slice dA dn dc] := by rw [hA]; exact tmps_own (by kernel_rfl) hx25 (of_decide_eq_true (by kernel_rfl))
                      obtain ⟨x27, hx27, hg27⟩ := hdeps ⟨27, .data⟩ (by simp) rfl
                      have hg27 : x27 = .string ⟨yt.toArray⟩ := hg27
                      subst hg27
                      have e27 : AA.tmps[68]?.getD undef = .string ⟨yt.toArray⟩ := by rw [hA]; exact tmps_own (by kernel_rfl) hx27 (of_decide_eq_true (by kernel_rfl))
                      clear hA hdeps hcl hmi hx24 hx25 hx27
                      rw [if_pos (wanted_of (k := 65) rfl rfl e24)]
                      have hKK := Lib.hid hK
                      clear hK
                      go_simp
                      refine (hOf.out _ (hW.trans (hb0.mono hW.size))).mono ?_
                      rintro e w5 ⟨A9, c9, rfl, hbn⟩
                      exact hKK.out _ _ hbn ⟨A9, c9, rfl⟩
                    · injection ho with ho
                      subst ho
                      obtain ⟨x24, hx24, hg24⟩ := hdeps ⟨24, .guard⟩ (by simp) rfl
                      have hg24 : x24 = .bool true := hg24
                      subst hg24
                      have e24 : AA.tmps[65]?.getD undef = .bool true := by rw [hA]; exact tmps_own (by kernel_rfl) hx24 (of_decide_eq_true (by kernel_rfl))
                      obtain ⟨x28, hx28, hg28⟩ := hdeps ⟨28, .data⟩ (by simp) rfl
                      have hg28 : ∃ A c, x28 = .slice A nOf c := hg28
                      have hk28 := hg28
                      obtain ⟨A28, c28, rfl⟩ := hg28
                      have e28 : AA.tmps[69]?.getD undef = .slice A28 nOf c28 := by rw [hA]; exact tmps_own (by kernel_rfl) hx28 (of_decide_eq_true (by kernel_rfl))
                      clear hA hdeps hcl hmi hx24 hx28
                      rw [if_pos (wanted_of (k := 65) rfl rfl e24)]
                      have hK0 : KK (AA.put (some 70) _) _ := hK (.int .i64 (nOf : Int)) _ (Below.refl _ _) (Eq.refl _)
                      clear hK
                      go_simp
                      exact hK0
                    · injection ho with ho
                      subst ho
                      obtain ⟨x24, hx24, hg24⟩ := hdeps ⟨24, .guard⟩ (by simp) rfl
                      have hg24 : x24 = .bool true := hg24
                      subst hg24
                      have e24 : AA.tmps[65]?.getD undef = .bool true := by rw [hA]; exact tmps_own (by kernel_rfl) hx24 (of_decide_eq_true (by kernel_rfl))
                      obtain ⟨x29, hx29, hg29⟩ := hdeps ⟨29, .data⟩ (by simp) rfl
                      have hg29 : x29 = .int .i64 (nOf : Int) := hg29
                      subst hg29
                      have e29 : AA.tmps[70]?.getD undef = .int .i64 (nOf : Int) := by rw [hA]; exact tmps_own (by kernel_rfl) hx29 (of_decide_eq_true (by kernel_rfl))
                      clear hA hdeps hcl hmi hx24 hx29
                      rw [if_pos (wanted_of (k := 65) rfl rfl e24)]
                      have hK0 : KK (AA.put (some 71) _) _ := hK (.bool b) _ (Below.refl _ _) (Eq.refl _)
                      clear hK
                      go_simp
                      exact hK0
                    · injection ho with ho
                      subst ho
                      obtain ⟨x24, hx24, hg24⟩ := hdeps ⟨24, .data⟩ (by simp) rfl
                      have hg24 : x24 = .bool true := hg24
                      subst hg24
                      have e24 : AA.tmps[65]?.getD undef = .bool true := by rw [hA]; exact tmps_own (by kernel_rfl) hx24 (of_decide_eq_true (by kernel_rfl))
                      obtain ⟨x30, hx30, hg30⟩ := hdeps ⟨30, .data⟩ (by simp) rfl
                      have hg30 : x30 = .bool b := hg30
                      subst hg30
                      have e30 : AA.tmps[71]?.getD undef = .bool b := by rw [hA]; exact tmps_own (by kernel_rfl) hx30 (of_decide_eq_true (by kernel_rfl))
                      clear hA hdeps hcl hmi hx24 hx30
                      have hK0 : KK (AA.put (some 72) _) _ := hK (.bool b) _ (Below.refl _ _) (Eq.refl _)
                      clear hK
                      go_simp
                      exact hK0
                    · injection ho with ho
                      subst ho
                      obtain ⟨x31, hx31, hg31⟩ := hdeps ⟨31, .data⟩ (by simp) rfl
                      have hg31 : x31 = .bool b := hg31
                      subst hg31
                      have e31 : AA.tmps[72]?.getD undef = .bool b := by rw [hA]; exact tmps_own (by kernel_rfl) hx31 (of_decide_eq_true (by kernel_rfl))
                      clear hA hdeps hcl hmi hx31
                      have hK0 : KK (AA.put (some 4) _) _ := hK (.bool b) _ (Below.refl _ _) (Eq.refl _)
                      clear hK
                      go_simp
                      exact hK0
                    · simp at ho
                  · intro m W hbx hall
                    obtain ⟨x0, m0, g0⟩ := hall 0 (by simp)
                    replace g0 : x0 = .int .i64 (k : Int) := g0
                    subst g0
                    obtain ⟨x1, m1, g1⟩ := hall 1 (by simp)
                    replace g1 : x1 = .bool false := g1
                    subst g1
                    obtain ⟨x2, m2, g2⟩ := hall 2 (by simp)
                    replace g2 : x2 = .bool false := g2
                    subst g2
                    obtain ⟨x3, m3, g3⟩ := hall 3 (by simp)
                    replace g3 : x3 = .pointer (some ⟨w.heap.size, 0, none⟩) := g3
                    subst g3
                    obtain ⟨x4, m4, g4⟩ := hall 4 (by simp)
                    replace g4 : x4 = .slice (some ad) on oc := g4
                    subst g4
                    obtain ⟨x5, m5, g5⟩ := hall 5 (by simp)
                    replace g5 : x5 = .int .i64 (k : Int) := g5
                    subst g5
                    obtain ⟨x6, m6, g6⟩ := hall 6 (by simp)
                    replace g6 : x6 = .int .i64 ((k : Int) - 1) := g6
                    subst g6
                    obtain ⟨x7, m7, g7⟩ := hall 7 (by simp)
                    replace g7 : x7 = .pointer (some (ad.add ((k - 1) * 5))) := g7
                    subst g7
                    obtain ⟨x8, m8, g8⟩ := hall 8 (by simp)
                    replace g8 : x8 = .agg #[.string ⟨pt.toArray⟩, .int .i64 ph, .string ⟨pi.toArray⟩, .slice pA pn pc, .bool pb] := g8
                    subst g8
                    obtain ⟨x9, m9, g9⟩ := hall 9 (by simp)
                    replace g9 : x9 = .agg #[.string ⟨yt.toArray⟩, .int .i64 yh, .string ⟨yi.toArray⟩, .slice yA yn yc, .bool yb] := g9
                    subst g9
                    obtain ⟨x10, m10, g10⟩ := hall 10 (by simp)
                    replace g10 : x10 = .int .i64 zO := g10
                    subst g10
                    obtain ⟨x11, m11, g11⟩ := hall 11 (by simp)
                    replace g11 : x11 = .bool true := g11
                    subst g11
                    obtain ⟨x12, m12, g12⟩ := hall 12 (by simp)
                    replace g12 : x12 = .bool true := g12
                    subst g12
                    obtain ⟨x13, m13, g13⟩ := hall 13 (by simp)
                    replace g13 : x13 = .bool true := g13
                    subst g13
                    obtain ⟨x14, m14, g14⟩ := hall 14 (by simp)
                    replace g14 : x14 = .agg #[.slice (some ad) on oc, .slice dA dn dc] := g14
                    subst g14
                    obtain ⟨x15, m15, g15⟩ := hall 15 (by simp)
                    replace g15 : x15 = .pointer (some ⟨(w.heap.size + 1), 0, none⟩) := g15
                    subst g15
                    obtain ⟨x16, m16, g16⟩ := hall 16 (by simp)
                    replace g16 : x16 = .string ⟨yt.toArray⟩ := g16
                    subst g16
                    obtain ⟨x17, m17, g17⟩ := hall 17 (by simp)
                    replace g17 : x17 = .pointer (some ⟨(w.heap.size + 1), 2, none⟩) := g17
                    subst g17
                    obtain ⟨x18, m18, g18⟩ := hall 18 (by simp)
                    replace g18 : x18 = .string ⟨yi.toArray⟩ := g18
                    subst g18
                    obtain ⟨x19, m19, g19⟩ := hall 19 (by simp)
                    replace g19 : x19 = .int .i64 zA := g19
                    subst g19
                    obtain ⟨x20, m20, g20⟩ := hall 20 (by simp)
                    replace g20 : x20 = .pointer (some ⟨(w.heap.size + 1), 1, none⟩) := g20
                    subst g20
                    obtain ⟨x21, m21, g21⟩ := hall 21 (by simp)
                    replace g21 : x21 = .int .i64 yh := g21
                    subst g21
                    obtain ⟨x22, m22, g22⟩ := hall 22 (by simp)
                    replace g22 : x22 = .bool true := g22
                    subst g22
                    obtain ⟨x23, m23, g23⟩ := hall 23 (by simp)
                    replace g23 : x23 = .bool true := g23
                    subst g23
                    obtain ⟨x24, m24, g24⟩ := hall 24 (by simp)
                    replace g24 : x24 = .bool true := g24
                    subst g24
                    obtain ⟨x25, m25, g25⟩ := hall 25 (by simp)
                    replace g25 : x25 = .agg #[.slice (some ad) on oc, .slice dA dn dc] := g25
                    subst g25
                    obtain ⟨x26, m26, g26⟩ := hall 26 (by simp)
                    replace g26 : x26 = .pointer (some ⟨(w.heap.size + 1), 0, none⟩) := g26
                    subst g26
                    obtain ⟨x27, m27, g27⟩ := hall 27 (by simp)
                    replace g27 : x27 = .string ⟨yt.toArray⟩ := g27
                    subst g27
                    obtain ⟨x28, m28, g28⟩ := hall 28 (by simp)
                    replace g28 : ∃ A c, x28 = .slice A nOf c := g28
                    obtain ⟨x29, m29, g29⟩ := hall 29 (by simp)
                    replace g29 : x29 = .int .i64 (nOf : Int) := g29
                    subst g29
                    obtain ⟨x30, m30, g30⟩ := hall 30 (by simp)
                    replace g30 : x30 = .bool b := g30
                    subst g30
                    obtain ⟨x31, m31, g31⟩ := hall 31 (by simp)
                    replace g31 : x31 = .bool b := g31
                    subst g31
                    obtain ⟨x32, m32, g32⟩ := hall 32 (by simp)
                    replace g32 : x32 = .bool b := g32
                    subst g32
                    rw [frameM_all (by kernel_rfl) [.int .i64 (k : Int), .bool false, .bool false, .pointer (some ⟨w.heap.size, 0, none⟩), .slice (some ad) on oc, .int .i64 (k : Int), .int .i64 ((k : Int) - 1), .pointer (some (ad.add ((k - 1) * 5))), .agg #[.string ⟨pt.toArray⟩, .int .i64 ph, .string ⟨pi.toArray⟩, .slice pA pn pc, .bool pb], .agg #[.string ⟨yt.toArray⟩, .int .i64 yh, .string ⟨yi.toArray⟩, .slice yA yn yc, .bool yb], .int .i64 zO, .bool true, .bool true, .bool true, .agg #[.slice (some ad) on oc, .slice dA dn dc], .pointer (some ⟨(w.heap.size + 1), 0, none⟩), .string ⟨yt.toArray⟩, .pointer (some ⟨(w.heap.size + 1), 2, none⟩), .string ⟨yi.toArray⟩, .int .i64 zA, .pointer (some ⟨(w.heap.size + 1), 1, none⟩), .int .i64 yh, .bool true, .bool true, .bool true, .agg #[.slice (some ad) on oc, .slice dA dn dc], .pointer (some ⟨(w.heap.size + 1), 0, none⟩), .string ⟨yt.toArray⟩, x28, .int .i64 (nOf : Int), .bool b, .bool b, .bool b] rfl (fun i hi => by
                        rcases i with _ | _ | _ | _ | _ | _ | _ | _ | _ | _ | _ | _ | _ | _ | _ | _ | _ | _ | _ | _ | _ | _ | _ | _ | _ | _ | _ | _ | _ | _ | _ | _ | _ | i
                        · exact m0
                        · exact m1
                        · exact m2
                        · exact m3
                        · exact m4
                        · exact m5
                        · exact m6
                        · exact m7
                        · exact m8
                        · exact m9
                        · exact m10
                        · exact m11
                        · exact m12
                        · exact m13
                        · exact m14
                        · exact m15
                        · exact m16
                        · exact m17
                        · exact m18
                        · exact m19
                        · exact m20
                        · exact m21
                        · exact m22
                        · exact m23
                        · exact m24
                        · exact m25
                        · exact m26
                        · exact m27
                        · exact m28
                        · exact m29
                        · exact m30
                        · exact m31
                        · exact m32
                        · simp at hi; omega)]
                    clear hall m0 m1 m2 m3 m4 m5 m6 m7 m8 m9 m10 m11 m12 m13 m14 m15 m16 m17 m18 m19 m20 m21 m22 m23 m24 m25 m26 m27 m28 m29 m30 m31 m32
                    simp only [putAll, Act.put, List.setIfInBounds_toArray, List.set_cons_succ, List.set_cons_zero]
                    go_wp2_with fail
                    go_ret
                    exact ⟨by rw [HB.out]; rfl, hbW.out.trans ((hW.trans (hbx.mono hW.size)).mono (by have := HSZ.out; omega))⟩
                · have HB : Hid (V = false) := by show _ = _; rw [HV.out]; rw [ha]; rfl
                  clear HV
                  refine wp_region_good2 (by kernel_rfl) (by kernel_rfl) [(fun v _ => v = .int .i64 (k : Int)),
                    (fun v _ => v = .bool false),
                    (fun v _ => v = .bool false),
                    (fun v _ => v = .pointer (some ⟨w.heap.size, 0, none⟩)),
                    (fun v _ => v = .slice (some ad) on oc),
                    (fun v _ => v = .int .i64 (k : Int)),
                    (fun v _ => v = .int .i64 ((k : Int) - 1)),
                    (fun v _ => v = .pointer (some (ad.add ((k - 1) * 5)))),
                    (fun v _ => v = .agg #[.string ⟨pt.toArray⟩, .int .i64 ph, .string ⟨pi.toArray⟩, .slice pA pn pc, .bool pb]),
                    (fun v _ => v = .agg #[.string ⟨yt.toArray⟩, .int .i64 yh, .string ⟨yi.toArray⟩, .slice yA yn yc, .bool yb]),
                    (fun v _ => v = .int .i64 zO),
                    (fun v _ => v = .bool true),
                    (fun v _ => v = .bool true),
                    (fun v _ => v = .bool true),
                    (fun v _ => v = .agg #[.slice (some ad) on oc, .slice dA dn dc]),
                    (fun v _ => v = .pointer (some ⟨(w.heap.size + 1), 0, none⟩)),
                    (fun v _ => v = .string ⟨yt.toArray⟩),
                    (fun v _ => v = .pointer (some ⟨(w.heap.size + 1), 2, none⟩)),
                    (fun v _ => v = .string ⟨yi.toArray⟩),
                    (fun v _ => v = .int .i64 zA),
                    (fun v _ => v = .pointer (some ⟨(w.heap.size + 1), 1, none⟩)),
                    (fun v _ => v = .int .i64 yh),
                    (fun v _ => v = .bool false),
                    (fun v _ => v = .bool false),
                    (fun v _ => v = .bool false),
                    (fun v _ => v = undef),
                    (fun v _ => v = undef),
                    (fun v _ => v = undef),
                    (fun v _ => v = undef),
                    (fun v _ => v = undef),
                    (fun v _ => v = undef),
                    (fun v _ => v = .bool false),
                    (fun v _ => v = .bool false)] ?_ ?_ ?_
                  · repeat' (first | exact stays_nil | refine stays_cons ?_ ?_ | exact Stays.pure)
                  · intro i oo ho m2 W hb0 hmi hcl hdeps AA KK hA hK
                    rcases i with _ | _ | _ | _ | _ | _ | _ | _ | _ | _ | _ | _ | _ | _ | _ | _ | _ | _ | _ | _ | _ | _ | _ | _ | _ | _ | _ | _ | _ | _ | _ | _ | _ | i
                    · injection ho with ho
                      subst ho
                      have ef1 : AA.tmps[1]?.getD undef = .int .i64 (k : Int) := by rw [hA]; exact tmps_free (by kernel_rfl)
                      clear hA hdeps hcl hmi
                      have hK0 : KK (AA.put (some 41) _) _ := hK (.int .i64 (k : Int)) _ (Below.refl _ _) (Eq.refl _)
                      clear hK
                      go_simp
                      exact hK0
                    · injection ho with ho
                      subst ho
                      obtain ⟨x0, hx0, hg0⟩ := hdeps ⟨0, .data⟩ (by simp) rfl
                      have hg0 : x0 = .int .i64 (k : Int) := hg0
                      subst hg0
                      have e0 : AA.tmps[41]?.getD undef = .int .i64 (k : Int) := by rw [hA]; exact tmps_own (by kernel_rfl) hx0 (of_decide_eq_true (by kernel_rfl))
                      clear hA hdeps hcl hmi hx0
                      have hK0 : KK (AA.put (some 42) _) _ := hK (.bool false) _ (Below.refl _ _) (Eq.refl _)
                      clear hK
                      go_simp
                      exact hK0
                    · injection ho with ho
                      subst ho
                      obtain ⟨x1, hx1, hg1⟩ := hdeps ⟨1, .data⟩ (by simp) rfl
                      have hg1 : x1 = .bool false := hg1
                      subst hg1
                      have e1 : AA.tmps[42]?.getD undef = .bool false := by rw [hA]; exact tmps_own (by kernel_rfl) hx1 (of_decide_eq_true (by kernel_rfl))
                      clear hA hdeps hcl hmi hx1
                      have hK0 : KK (AA.put (some 43) _) _ := hK (.bool false) _ (Below.refl _ _) (Eq.refl _)
                      clear hK
                      go_simp
                      exact hK0
                    · injection ho with ho
                      subst ho
                      obtain ⟨x2, hx2, hg2⟩ := hdeps ⟨2, .guard⟩ (by simp) rfl
                      have hg2 : x2 = .bool false := hg2
                      subst hg2
                      have e2 : AA.tmps[43]?.getD undef = .bool false := by rw [hA]; exact tmps_own (by kernel_rfl) hx2 (of_decide_eq_true (by kernel_rfl))
                      have ef2 : AA.tmps[2]?.getD undef = .pointer (some ⟨w.heap.size, 0, none⟩) := by rw [hA]; exact tmps_free (by kernel_rfl)
                      clear hA hdeps hcl hmi hx2
                      rw [if_pos (wanted_of (k := 43) rfl rfl e2)]
                      have hK0 : KK (AA.put (some 44) _) _ := hK (.pointer (some ⟨w.heap.size, 0, none⟩)) _ (Below.refl _ _) (Eq.refl _)
                      clear hK
                      go_simp
                      exact hK0
                    · injection ho with ho
                      subst ho
                      obtain ⟨x2, hx2, hg2⟩ := hdeps ⟨2, .guard⟩ (by simp) rfl
                      have hg2 : x2 = .bool false := hg2
                      subst hg2
                      have e2 : AA.tmps[43]?.getD undef = .bool false := by rw [hA]; exact tmps_own (by kernel_rfl) hx2 (of_decide_eq_true (by kernel_rfl))
                      obtain ⟨x3, hx3, hg3⟩ := hdeps ⟨3, .data⟩ (by simp) rfl
                      have hg3 : x3 = .pointer (some ⟨w.heap.size, 0, none⟩) := hg3
                      subst hg3
                      have e3 : AA.tmps[44]?.getD undef = .pointer (some ⟨w.heap.size, 0, none⟩) := by rw [hA]; exact tmps_own (by kernel_rfl) hx3 (of_decide_eq_true (by kernel_rfl))
                      clear hA hdeps hcl hmi hx2 hx3
                      rw [if_pos (wanted_of (k := 43) rfl rfl e2)]
                      obtain ⟨t0, t1, q0, q1, q2, q3, q4⟩ := hS.out W (hW.trans (hb0.mono hW.size))
                      have hK0 : KK (AA.put (some 45) _) _ := hK (.slice (some ad) on oc) _ (Below.refl _ _) (Eq.refl _)
                      clear hK
                      go_simp
                      exact hK0
                    · injection ho with ho
                      subst ho
                      obtain ⟨x2, hx2, hg2⟩ := hdeps ⟨2, .guard⟩ (by simp) rfl
                      have hg2 : x2 = .bool false := hg2
                      subst hg2
                      have e2 : AA.tmps[43]?.getD undef = .bool false := by rw [hA]; exact tmps_own (by kernel_rfl) hx2 (of_decide_eq_true (by kernel_rfl))
                      have ef1 : AA.tmps[1]?.getD undef = .int .i64 (k : Int) := by rw [hA]; exact tmps_free (by kernel_rfl)
                      clear hA hdeps hcl hmi hx2
                      rw [if_pos (wanted_of (k := 43) rfl rfl e2)]
                      have hK0 : KK (AA.put (some 46) _) _ := hK (.int .i64 (k : Int)) _ (Below.refl _ _) (Eq.refl _)
                      clear hK
                      go_simp
                      exact hK0
                    · injection ho with ho
                      subst ho
                      obtain ⟨x2, hx2, hg2⟩ := hdeps ⟨2, .guard⟩ (by simp) rfl
                      have hg2 : x2 = .bool false := hg2
                      subst hg2
                      have e2 : AA.tmps[43]?.getD undef = .bool false := by rw [hA]; exact tmps_own (by kernel_rfl) hx2 (of_decide_eq_true (by kernel_rfl))
                      obtain ⟨x5, hx5, hg5⟩ := hdeps ⟨5, .data⟩ (by simp) rfl
                      have hg5 : x5 = .int .i64 (k : Int) := hg5
                      subst hg5
                      have e5 : AA.tmps[46]?.getD undef = .int .i64 (k : Int) := by rw [hA]; exact tmps_own (by kernel_rfl) hx5 (of_decide_eq_true (by kernel_rfl))
                      clear hA hdeps hcl hmi hx2 hx5
                      rw [if_pos (wanted_of (k := 43) rfl rfl e2)]
                      have hK0 : KK (AA.put (some 47) _) _ := hK (.int .i64 ((k : Int) - 1)) _ (Below.refl _ _) (Eq.refl _)
                      clear hK
                      go_simp
                      exact hK0
                    · injection ho with ho
                      subst ho
                      obtain ⟨x2, hx2, hg2⟩ := hdeps ⟨2, .guard⟩ (by simp) rfl
                      have hg2 : x2 = .bool false := hg2
                      subst hg2
                      have e2 : AA.tmps[43]?.getD undef = .bool false := by rw [hA]; exact tmps_own (by kernel_rfl) hx2 (of_decide_eq_true (by kernel_rfl))
                      obtain ⟨x4, hx4, hg4⟩ := hdeps ⟨4, .data⟩ (by simp) rfl
                      have hg4 : x4 = .slice (some ad) on oc := hg4
                      subst hg4
                      have e4 : AA.tmps[45]?.getD undef = .slice (some ad) on oc := by rw [hA]; exact tmps_own (by kernel_rfl) hx4 (of_decide_eq_true (by kernel_rfl))
                      obtain ⟨x6, hx6, hg6⟩ := hdeps ⟨6, .data⟩ (by simp) rfl
                      have hg6 : x6 = .int .i64 ((k : Int) - 1) := hg6
                      subst hg6
                      have e6 : AA.tmps[47]?.getD undef = .int .i64 ((k : Int) - 1) := by rw [hA]; exact tmps_own (by kernel_rfl) hx6 (of_decide_eq_true (by kernel_rfl))
                      clear hA hdeps hcl hmi hx2 hx4 hx6
                      rw [if_pos (wanted_of (k := 43) rfl rfl e2)]
                      have hK0 : KK (AA.put (some 48) _) _ := hK (.pointer (some (ad.add ((k - 1) * 5)))) _ (Below.refl _ _) (Eq.refl _)
                      clear hK
                      go_simp
                      exact hK0
                    · injection ho with ho
                      subst ho
                      obtain ⟨x2, hx2, hg2⟩ := hdeps ⟨2, .guard⟩ (by simp) rfl
                      have hg2 : x2 = .bool false := hg2
                      subst hg2
                      have e2 : AA.tmps[43]?.getD undef = .bool false := by rw [hA]; exact tmps_own (by kernel_rfl) hx2 (of_decide_eq_true (by kernel_rfl))
                      obtain ⟨x7, hx7, hg7⟩ := hdeps ⟨7, .data⟩ (by simp) rfl
                      have hg7 : x7 = .pointer (some (ad.add ((k - 1) * 5))) := hg7
                      subst hg7
                      have e7 : AA.tmps[48]?.getD undef = .pointer (some (ad.add ((k - 1) * 5))) := by rw [hA]; exact tmps_own (by kernel_rfl) hx7 (of_decide_eq_true (by kernel_rfl))
                      clear hA hdeps hcl hmi hx2 hx7
                      rw [if_pos (wanted_of (k := 43) rfl rfl e2)]
                      obtain ⟨t0, t1, q0, q1, q2, q3, q4⟩ := hS.out W (hW.trans (hb0.mono hW.size))
                      obtain ⟨p0, p1, p2, p3, p4⟩ := hP.out W (hW.trans (hb0.mono hW.size))
                      have hK0 : KK (AA.put (some 49) _) _ := hK (.agg #[.string ⟨pt.toArray⟩, .int .i64 ph, .string ⟨pi.toArray⟩, .slice pA pn pc, .bool pb]) _ (Below.refl _ _) (Eq.refl _)
                      clear hK
                      go_simp
                      exact hK0
                    · injection ho with ho
                      subst ho
                      obtain ⟨x2, hx2, hg2⟩ := hdeps ⟨2, .guard⟩ (by simp) rfl
                      have hg2 : x2 = .bool false := hg2
                      subst hg2
                      have e2 : AA.tmps[43]?.getD undef = .bool false := by rw [hA]; exact tmps_own (by kernel_rfl) hx2 (of_decide_eq_true (by kernel_rfl))
                      have ef5 : AA.tmps[5]?.getD undef = .pointer (some ⟨(w.heap.size + 1), 0, none⟩) := by rw [hA]; exact tmps_free (by kernel_rfl)
                      clear hA hdeps hcl hmi hx2
                      rw [if_pos (wanted_of (k := 43) rfl rfl e2)]
                      obtain ⟨t0, t1, q0, q1, q2, q3, q4⟩ := hS.out W (hW.trans (hb0.mono hW.size))
                      have hK0 : KK (AA.put (some 50) _) _ := hK (.agg #[.string ⟨yt.toArray⟩, .int .i64 yh, .string ⟨yi.toArray⟩, .slice yA yn yc, .bool yb]) _ (Below.refl _ _) (Eq.refl _)
                      clear hK
                      go_simp
                      exact hK0
                    · injection ho with ho
                      subst ho
                      obtain ⟨x2, hx2, hg2⟩ := hdeps ⟨2, .guard⟩ (by simp) rfl
                      have hg2 : x2 = .bool false := hg2
                      subst hg2
                      have e2 : AA.tmps[43]?.getD undef = .bool false := by rw [hA]; exact tmps_own (by kernel_rfl) hx2 (of_decide_eq_true (by kernel_rfl))
                      obtain ⟨x8, hx8, hg8⟩ := hdeps ⟨8, .data⟩ (by simp) rfl
                      have hg8 : x8 = .agg #[.string ⟨pt.toArray⟩, .int .i64 ph, .string ⟨pi.toArray⟩, .slice pA pn pc, .bool pb] := hg8
                      subst hg8
                      have e8 : AA.tmps[49]?.getD undef = .agg #[.string ⟨pt.toArray⟩, .int .i64 ph, .string ⟨pi.toArray⟩, .slice pA pn pc, .bool pb] := by rw [hA]; exact tmps_own (by kernel_rfl) hx8 (of_decide_eq_true (by kernel_rfl))
                      obtain ⟨x9, hx9, hg9⟩ := hdeps ⟨9, .data⟩ (by simp) rfl
                      have hg9 : x9 = .agg #[.string ⟨yt.toArray⟩, .int .i64 yh, .string ⟨yi.toArray⟩, .slice yA yn yc, .bool yb] := hg9
                      subst hg9
                      have e9 : AA.tmps[50]?.getD undef = .agg #[.string ⟨yt.toArray⟩, .int .i64 yh, .string ⟨yi.toArray⟩, .slice yA yn yc, .bool yb] := by rw [hA]; exact tmps_own (by kernel_rfl) hx9 (of_decide_eq_true (by kernel_rfl))
                      clear hA hdeps hcl hmi hx2 hx8 hx9
                      rw [if_pos (wanted_of (k := 43) rfl rfl e2)]
                      have hKK := Lib.hid hK
                      clear hK
                      go_simp
                      refine (hOr.out _ (hW.trans (hb0.mono hW.size))).mono ?_
                      rintro e w5 ⟨rfl, hbn⟩
                      exact hKK.out _ _ hbn (Eq.refl _)
                    · injection ho with ho
                      subst ho
                      obtain ⟨x2, hx2, hg2⟩ := hdeps ⟨2, .guard⟩ (by simp) rfl
                      have hg2 : x2 = .bool false := hg2
                      subst hg2
                      have e2 : AA.tmps[43]?.getD undef = .bool false := by rw [hA]; exact tmps_own (by kernel_rfl) hx2 (of_decide_eq_true (by kernel_rfl))
                      obtain ⟨x10, hx10, hg10⟩ := hdeps ⟨10, .data⟩ (by simp) rfl
                      have hg10 : x10 = .int .i64 zO := hg10
                      subst hg10
                      have e10 : AA.tmps[51]?.getD undef = .int .i64 zO := by rw [hA]; exact tmps_own (by kernel_rfl) hx10 (of_decide_eq_true (by kernel_rfl))
                      clear hA hdeps hcl hmi hx2 hx10
                      rw [if_pos (wanted_of (k := 43) rfl rfl e2)]
                      have hK0 : KK (AA.put (some 52) _) _ := hK (.bool true) _ (Below.refl _ _) (Eq.refl _)
                      clear hK
                      go_simp
                      exact hK0
                    · injection ho with ho
                      subst ho
                      obtain ⟨x2, hx2, hg2⟩ := hdeps ⟨2, .data⟩ (by simp) rfl
                      have hg2 : x2 = .bool false := hg2
                      subst hg2
                      have e2 : AA.tmps[43]?.getD undef = .bool false := by rw [hA]; exact tmps_own (by kernel_rfl) hx2 (of_decide_eq_true (by kernel_rfl))
                      obtain ⟨x11, hx11, hg11⟩ := hdeps ⟨11, .data⟩ (by simp) rfl
                      have hg11 : x11 = .bool true := hg11
                      subst hg11
                      have e11 : AA.tmps[52]?.getD undef = .bool true := by rw [hA]; exact tmps_own (by kernel_rfl) hx11 (of_decide_eq_true (by kernel_rfl))
                      clear hA hdeps hcl hmi hx2 hx11
                      have hK0 : KK (AA.put (some 53) _) _ := hK (.bool true) _ (Below.refl _ _) (Eq.refl _)
                      clear hK
                      go_simp
                      exact hK0
                    · injection ho with ho
                      subst ho
                      obtain ⟨x12, hx12, hg12⟩ := hdeps ⟨12, .data⟩ (by simp) rfl
                      have hg12 : x12 = .bool true := hg12
                      subst hg12
                      have e12 : AA.tmps[53]?.getD undef = .bool true := by rw [hA]; exact tmps_own (by kernel_rfl) hx12 (of_decide_eq_true (by kernel_rfl))
                      clear hA hdeps hcl hmi hx12
                      have hK0 : KK (AA.put (some 54) _) _ := hK (.bool true) _ (Below.refl _ _) (Eq.refl _)
                      clear hK
                      go_simp
                      exact hK0
                    · injection ho with ho
                      subst ho
                      obtain ⟨x13, hx13, hg13⟩ := hdeps ⟨13, .guard⟩ (by simp) rfl
                      have hg13 : x13 = .bool true := hg13
                      subst hg13
                      have e13 : AA.tmps[54]?.getD undef = .bool true := by rw [hA]; exact tmps_own (by kernel_rfl) hx13 (of_decide_eq_true (by kernel_rfl))
                      have ef2 : AA.tmps[2]?.getD undef = .pointer (some ⟨w.heap.size, 0, none⟩) := by rw [hA]; exact tmps_free (by kernel_rfl)
                      clear hA hdeps hcl hmi hx13
                      rw [if_pos (wanted_of (k := 54) rfl rfl e13)]
                      obtain ⟨t0, t1, q0, q1, q2, q3, q4⟩ := hS.out W (hW.trans (hb0.mono hW.size))
                      have hK0 : KK (AA.put (some 55) _) _ := hK (.agg #[.slice (some ad) on oc, .slice dA dn dc]) _ (Below.refl _ _) (Eq.refl _)
                      clear hK
                      go_simp
                      exact hK0
                    · injection ho with ho
                      subst ho
                      obtain ⟨x13, hx13, hg13⟩ := hdeps ⟨13, .guard⟩ (by simp) rfl
                      have hg13 : x13 = .bool true := hg13
                      subst hg13
                      have e13 : AA.tmps[54]?.getD undef = .bool true := by rw [hA]; exact tmps_own (by kernel_rfl) hx13 (of_decide_eq_true (by kernel_rfl))
                      have ef5 : AA.tmps[5]?.getD undef = .pointer (some ⟨(w.heap.size + 1), 0, none⟩) := by rw [hA]; exact tmps_free (by kernel_rfl)
                      clear hA hdeps hcl hmi hx13
                      rw [if_pos (wanted_of (k := 54) rfl rfl e13)]
                      have hK0 : KK (AA.put (some 56) _) _ := hK (.pointer (some ⟨(w.heap.size + 1), 0, none⟩)) _ (Below.refl _ _) (Eq.refl _)
                      clear hK
                      go_simp
                      exact hK0
                    · injection ho with ho
                      subst ho
                      obtain ⟨x13, hx13, hg13⟩ := hdeps ⟨13, .guard⟩ (by simp) rfl
                      have hg13 : x13 = .bool true := hg13
                      subst hg13
                      have e13 : AA.tmps[54]?.getD undef = .bool true := by rw [hA]; exact tmps_own (by kernel_rfl) hx13 (of_decide_eq_true (by kernel_rfl))
                      obtain ⟨x15, hx15, hg15⟩ := hdeps ⟨15, .data⟩ (by simp) rfl
                      have hg15 : x15 = .pointer (some ⟨(w.heap.size + 1), 0, none⟩) := hg15
                      subst hg15
                      have e15 : AA.tmps[56]?.getD undef = .pointer (some ⟨(w.heap.size + 1), 0, none⟩) := by rw [hA]; exact tmps_own (by kernel_rfl) hx15 (of_decide_eq_true (by kernel_rfl))
                      clear hA hdeps hcl hmi hx13 hx15
                      rw [if_pos (wanted_of (k := 54) rfl rfl e13)]
                      obtain ⟨t0, t1, q0, q1, q2, q3, q4⟩ := hS.out W (hW.trans (hb0.mono hW.size))
                      have hK0 : KK (AA.put (some 57) _) _ := hK (.string ⟨yt.toArray⟩) _ (Below.refl _ _) (Eq.refl _)
                      clear hK
                      go_simp
                      exact hK0
                    · injection ho with ho
                      subst ho
                      obtain ⟨x13, hx13, hg13⟩ := hdeps ⟨13, .guard⟩ (by simp) rfl
                      have hg13 : x13 = .bool true := hg13
                      subst hg13
                      have e13 : AA.tmps[54]?.getD undef = .bool true := by rw [hA]; exact tmps_own (by kernel_rfl) hx13 (of_decide_eq_true (by kernel_rfl))
                      have ef5 : AA.tmps[5]?.getD undef = .pointer (some ⟨(w.heap.size + 1), 0, none⟩) := by rw [hA]; exact tmps_free (by kernel_rfl)
                      clear hA hdeps hcl hmi hx13
                      rw [if_pos (wanted_of (k := 54) rfl rfl e13)]
                      have hK0 : KK (AA.put (some 58) _) _ := hK (.pointer (some ⟨(w.heap.size + 1), 2, none⟩)) _ (Below.refl _ _) (Eq.refl _)
                      clear hK
                      go_simp
                      exact hK0
                    · injection ho with ho
                      subst ho
                      obtain ⟨x13, hx13, hg13⟩ := hdeps ⟨13, .guard⟩ (by simp) rfl
                      have hg13 : x13 = .bool true := hg13
                      subst hg13
                      have e13 : AA.tmps[54]?.getD undef = .bool true := by rw [hA]; exact tmps_own (by kernel_rfl) hx13 (of_decide_eq_true (by kernel_rfl))
                      obtain ⟨x17, hx17, hg17⟩ := hdeps ⟨17, .data⟩ (by simp) rfl
                      have hg17 : x17 = .pointer (some ⟨(w.heap.size + 1), 2, none⟩) := hg17
                      subst hg17
                      have e17 : AA.tmps[58]?.getD undef = .pointer (some ⟨(w.heap.size + 1), 2, none⟩) := by rw [hA]; exact tmps_own (by kernel_rfl) hx17 (of_decide_eq_true (by kernel_rfl))
                      clear hA hdeps hcl hmi hx13 hx17
                      rw [if_pos (wanted_of (k := 54) rfl rfl e13)]
                      obtain ⟨t0, t1, q0, q1, q2, q3, q4⟩ := hS.out W (hW.trans (hb0.mono hW.size))
                      have hK0 : KK (AA.put (some 59) _) _ := hK (.string ⟨yi.toArray⟩) _ (Below.refl _ _) (Eq.refl _)
                      clear hK
                      go_simp
                      exact hK0
                    · injection ho with ho
                      subst ho
                      obtain ⟨x13, hx13, hg13⟩ := hdeps ⟨13, .guard⟩ (by simp) rfl
                      have hg13 : x13 = .bool true := hg13
                      subst hg13
                      have e13 : AA.tmps[54]?.getD undef = .bool true := by rw [hA]; exact tmps_own (by kernel_rfl) hx13 (of_decide_eq_true (by kernel_rfl))
                      obtain ⟨x14, hx14, hg14⟩ := hdeps ⟨14, .data⟩ (by simp) rfl
                      have hg14 : x14 = .agg #[.slice (some ad) on oc, .slice dA dn dc] := hg14
                      subst hg14
                      have e14 : AA.tmps[55]?.getD undef = .agg #[.slice (some ad) on oc, .slice dA dn dc] := by rw [hA]; exact tmps_own (by kernel_rfl) hx14 (of_decide_eq_true (by kernel_rfl))
                      obtain ⟨x16, hx16, hg16⟩ := hdeps ⟨16, .data⟩ (by simp) rfl
                      have hg16 : x16 = .string ⟨yt.toArray⟩ := hg16
                      subst hg16
                      have e16 : AA.tmps[57]?.getD undef = .string ⟨yt.toArray⟩ := by rw [hA]; exact tmps_own (by kernel_rfl) hx16 (of_decide_eq_true (by kernel_rfl))
                      obtain ⟨x18, hx18, hg18⟩ := hdeps ⟨18, .data⟩ (by simp) rfl
                      have hg18 : x18 = .string ⟨yi.toArray⟩ := hg18
                      subst hg18
                      have e18 : AA.tmps[59]?.getD undef = .string ⟨yi.toArray⟩ := by rw [hA]; exact tmps_own (by kernel_rfl) hx18 (of_decide_eq_true (by kernel_rfl))
                      clear hA hdeps hcl hmi hx13 hx14 hx16 hx18
                      rw [if_pos (wanted_of (k := 54) rfl rfl e13)]
                      have hKK := Lib.hid hK
                      clear hK
                      go_simp
                      refine (hAt.out _ (hW.trans (hb0.mono hW.size))).mono ?_
                      rintro e w5 ⟨rfl, hbn⟩
                      exact hKK.out _ _ hbn (Eq.refl _)
                    · injection ho with ho
                      subst ho
                      obtain ⟨x13, hx13, hg13⟩ := hdeps ⟨13, .guard⟩ (by simp) rfl
                      have hg13 : x13 = .bool true := hg13
                      subst hg13
                      have e13 : AA.tmps[54]?.getD undef = .bool true := by rw [hA]; exact tmps_own (by kernel_rfl) hx13 (of_decide_eq_true (by kernel_rfl))
                      have ef5 : AA.tmps[5]?.getD undef = .pointer (some ⟨(w.heap.size + 1), 0, none⟩) := by rw [hA]; exact tmps_free (by kernel_rfl)
                      clear hA hdeps hcl hmi hx13
                      rw [if_pos (wanted_of (k := 54) rfl rfl e13)]
                      have hK0 : KK (AA.put (some 61) _) _ := hK (.pointer (some ⟨(w.heap.size + 1), 1, none⟩)) _ (Below.refl _ _) (Eq.refl _)
                      clear hK
                      go_simp
                      exact hK0
                    · injection ho with ho
                      subst ho
                      obtain ⟨x13, hx13, hg13⟩ := hdeps ⟨13, .guard⟩ (by simp) rfl
                      have hg13 : x13 = .bool true := hg13
                      subst hg13
                      have e13 : AA.tmps[54]?.getD undef = .bool true := by rw [hA]; exact tmps_own (by kernel_rfl) hx13 (of_decide_eq_true (by kernel_rfl))
                      obtain ⟨x20, hx20, hg20⟩ := hdeps ⟨20, .data⟩ (by simp) rfl
                      have hg20 : x20 = .pointer (some ⟨(w.heap.size + 1), 1, none⟩) := hg20
                      subst hg20
                      have e20 : AA.tmps[61]?.getD undef = .pointer (some ⟨(w.heap.size + 1), 1, none⟩) := by rw [hA]; exact tmps_own (by kernel_rfl) hx20 (of_decide_eq_true (by kernel_rfl))
                      clear hA hdeps hcl hmi hx13 hx20
                      rw [if_pos (wanted_of (k := 54) rfl rfl e13)]
                      obtain ⟨t0, t1, q0, q1, q2, q3, q4⟩ := hS.out W (hW.trans (hb0.mono hW.size))
                      have hK0 : KK (AA.put (some 62) _) _ := hK (.int .i64 yh) _ (Below.refl _ _) (Eq.refl _)
                      clear hK
                      go_simp
                      exact hK0
                    · injection ho with ho
                      subst ho
                      obtain ⟨x13, hx13, hg13⟩ := hdeps ⟨13, .guard⟩ (by simp) rfl
                      have hg13 : x13 = .bool true := hg13
                      subst hg13
                      have e13 : AA.tmps[54]?.getD undef = .bool true := by rw [hA]; exact tmps_own (by kernel_rfl) hx13 (of_decide_eq_true (by kernel_rfl))
                      obtain ⟨x19, hx19, hg19⟩ := hdeps ⟨19, .data⟩ (by simp) rfl
                      have hg19 : x19 = .int .i64 zA := hg19
                      subst hg19
                      have e19 : AA.tmps[60]?.getD undef = .int .i64 zA := by rw [hA]; exact tmps_own (by kernel_rfl) hx19 (of_decide_eq_true (by kernel_rfl))
                      obtain ⟨x21, hx21, hg21⟩ := hdeps ⟨21, .data⟩ (by simp) rfl
                      have hg21 : x21 = .int .i64 yh := hg21
                      subst hg21
                      have e21 : AA.tmps[62]?.getD undef = .int .i64 yh := by rw [hA]; exact tmps_own (by kernel_rfl) hx21 (of_decide_eq_true (by kernel_rfl))
                      clear hA hdeps hcl hmi hx13 hx19 hx21
                      rw [if_pos (wanted_of (k := 54) rfl rfl e13)]
                      have hK0 : KK (AA.put (some 63) _) _ := hK (.bool false) _ (Below.refl _ _) (Eq.refl _)
                      clear hK
                      go_simp
                      exact hK0
                    · injection ho with ho
                      subst ho
                      obtain ⟨x13, hx13, hg13⟩ := hdeps ⟨13, .data⟩ (by simp) rfl
                      have hg13 : x13 = .bool true := hg13
                      subst hg13
                      have e13 : AA.tmps[54]?.getD undef = .bool true := by rw [hA]; exact tmps_own (by kernel_rfl) hx13 (of_decide_eq_true (by kernel_rfl))
                      obtain ⟨x22, hx22, hg22⟩ := hdeps ⟨22, .data⟩ (by simp) rfl
                      have hg22 : x22 = .bool false := hg22
                      subst hg22
                      have e22 : AA.tmps[63]?.getD undef = .bool false := by rw [hA]; exact tmps_own (by kernel_rfl) hx22 (of_decide_eq_true (by kernel_rfl))
                      clear hA hdeps hcl hmi hx13 hx22
                      have hK0 : KK (AA.put (some 64) _) _ := hK (.bool false) _ (Below.refl _ _) (Eq.refl _)
                      clear hK
                      go_simp
                      exact hK0
                    · injection ho with ho
                      subst ho
                      obtain ⟨x23, hx23, hg23⟩ := hdeps ⟨23, .data⟩ (by simp) rfl
                      have hg23 : x23 = .bool false := hg23
                      subst hg23
                      have e23 : AA.tmps[64]?.getD undef = .bool false := by rw [hA]; exact tmps_own (by kernel_rfl) hx23 (of_decide_eq_true (by kernel_rfl))
                      clear hA hdeps hcl hmi hx23
                      have hK0 : KK (AA.put (some 65) _) _ := hK (.bool false) _ (Below.refl _ _) (Eq.refl _)
                      clear hK
                      go_simp
                      exact hK0
                    · injection ho with ho
                      subst ho
                      obtain ⟨x24, hx24, hg24⟩ := hdeps ⟨24, .guard⟩ (by simp) rfl
                      have hg24 : x24 = .bool false := hg24
                      subst hg24
                      have e24 : AA.tmps[65]?.getD undef = .bool false := by rw [hA]; exact tmps_own (by kernel_rfl) hx24 (of_decide_eq_true (by kernel_rfl))
                      have ef2 : AA.tmps[2]?.getD undef = .pointer (some ⟨w.heap.size, 0, none⟩) := by rw [hA]; exact tmps_free (by kernel_rfl)
                      clear hA hdeps hcl hmi hx24
                      rw [if_neg (unwanted_of (b := true) (k := 65) rfl rfl (.inl e24))]
                      exact hK undef _ (Below.refl _ _) (Eq.refl _)
                    · injection ho with ho
                      subst ho
                      obtain ⟨x24, hx24, hg24⟩ := hdeps ⟨24, .guard⟩ (by simp) rfl
                      have hg24 : x24 = .bool false := hg24
                      subst hg24
                      have e24 : AA.tmps[65]?.getD undef = .bool false := by rw [hA]; exact tmps_own (by kernel_rfl) hx24 (of_decide_eq_true (by kernel_rfl))
                      have ef5 : AA.tmps[5]?.getD undef = .pointer (some ⟨(w.heap.size + 1), 0, none⟩) := by rw [hA]; exact tmps_free (by kernel_rfl)
                      clear hA hdeps hcl hmi hx24
                      rw [if_neg (unwanted_of (b := true) (k := 65) rfl rfl (.inl e24))]
                      exact hK undef _ (Below.refl _ _) (Eq.refl _)
                    · injection ho with ho
                      subst ho
                      obtain ⟨x24, hx24, hg24⟩ := hdeps ⟨24, .guard⟩ (by simp) rfl
                      have hg24 : x24 = .bool false := hg24
                      subst hg24
                      have e24 : AA.tmps[65]?.getD undef = .bool false := by rw [hA]; exact tmps_own (by kernel_rfl) hx24 (of_decide_eq_true (by kernel_rfl))
                      obtain ⟨x26, hx26, hg26⟩ := hdeps ⟨26, .data⟩ (by simp) rfl
                      have hg26 : x26 = undef := hg26
                      subst hg26
                      have e26 : AA.tmps[67]?.getD undef = undef := by rw [hA]; exact tmps_own (by kernel_rfl) hx26 (of_decide_eq_true (by kernel_rfl))
                      clear hA hdeps hcl hmi hx24 hx26
                      rw [if_neg (unwanted_of (b := true) (k := 65) rfl rfl (.inl e24))]
                      exact hK undef _ (Below.refl _ _) (Eq.refl _)
                    · injection ho with ho
                      subst ho
                      obtain ⟨x24, hx24, hg24⟩ := hdeps ⟨24, .guard⟩ (by simp) rfl
                      have hg24 : x24 = .bool false := hg24
                      subst hg24
                      have e24 : AA.tmps[65]?.getD undef = .bool false := by rw [hA]; exact tmps_own (by kernel_rfl) hx24 (of_decide_eq_true (by kernel_rfl))
                      obtain ⟨x25, hx25, hg25⟩ := hdeps ⟨25, .data⟩ (by simp) rfl
                      have hg25 : x25 = undef := hg25
                      subst hg25
                      have e25 : AA.tmps[66]?.getD undef = undef := by rw [hA]; exact tmps_own (by kernel_rfl) hx25 (of_decide_eq_true (by kernel_rfl))
                      obtain ⟨x27, hx27, hg27⟩ := hdeps ⟨27, .data⟩ (by simp) rfl
                      have hg27 : x27 = undef := hg27
                      subst hg27
                      have e27 : AA.tmps[68]?.getD undef = undef := by rw [hA]; exact tmps_own (by kernel_rfl) hx27 (of_decide_eq_true (by kernel_rfl))
                      clear hA hdeps hcl hmi hx24 hx25 hx27
                      rw [if_neg (unwanted_of (b := true) (k := 65) rfl rfl (.inl e24))]
                      exact hK undef _ (Below.refl _ _) (Eq.refl _)
                    · injection ho with ho
                      subst ho
                      obtain ⟨x24, hx24, hg24⟩ := hdeps ⟨24, .guard⟩ (by simp) rfl
                      have hg24 : x24 = .bool false := hg24
                      subst hg24
                      have e24 : AA.tmps[65]?.getD undef = .bool false := by rw [hA]; exact tmps_own (by kernel_rfl) hx24 (of_decide_eq_true (by kernel_rfl))
                      obtain ⟨x28, hx28, hg28⟩ := hdeps ⟨28, .data⟩ (by simp) rfl
                      have hg28 : x28 = undef := hg28
                      subst hg28
                      have e28 : AA.tmps[69]?.getD undef = undef := by rw [hA]; exact tmps_own (by kernel_rfl) hx28 (of_decide_eq_true (by kernel_rfl))
                      clear hA hdeps hcl hmi hx24 hx28
                      rw [if_neg (unwanted_of (b := true) (k := 65) rfl rfl (.inl e24))]
                      exact hK undef _ (Below.refl _ _) (Eq.refl _)
                    · injection ho with ho
                      subst ho
                      obtain ⟨x24, hx24, hg24⟩ := hdeps ⟨24, .guard⟩ (by simp) rfl
                      have hg24 : x24 = .bool false := hg24
                      subst hg24
                      have e24 : AA.tmps[65]?.getD undef = .bool false := by rw [hA]; exact tmps_own (by kernel_rfl) hx24 (of_decide_eq_true (by kernel_rfl))
                      obtain ⟨x29, hx29, hg29⟩ := hdeps ⟨29, .data⟩ (by simp) rfl
                      have hg29 : x29 = undef := hg29
                      subst hg29
                      have e29 : AA.tmps[70]?.getD undef = undef := by rw [hA]; exact tmps_own (by kernel_rfl) hx29 (of_decide_eq_true (by kernel_rfl))
                      clear hA hdeps hcl hmi hx24 hx29
                      rw [if_neg (unwanted_of (b := true) (k := 65) rfl rfl (.inl e24))]
                      exact hK undef _ (Below.refl _ _) (Eq.refl _)
                    · injection ho with ho
                      subst ho
                      obtain ⟨x24, hx24, hg24⟩ := hdeps ⟨24, .data⟩ (by simp) rfl
                      have hg24 : x24 = .bool false := hg24
                      subst hg24
                      have e24 : AA.tmps[65]?.getD undef = .bool false := by rw [hA]; exact tmps_own (by kernel_rfl) hx24 (of_decide_eq_true (by kernel_rfl))
                      obtain ⟨x30, hx30, hg30⟩ := hdeps ⟨30, .data⟩ (by simp) rfl
                      have hg30 : x30 = undef := hg30
                      subst hg30
                      have e30 : AA.tmps[71]?.getD undef = undef := by rw [hA]; exact tmps_own (by kernel_rfl) hx30 (of_decide_eq_true (by kernel_rfl))
                      clear hA hdeps hcl hmi hx24 hx30
                      have hK0 : KK (AA.put (some 72) _) _ := hK (.bool false) _ (Below.refl _ _) (Eq.refl _)
                      clear hK
                      go_simp
                      exact hK0
                    · injection ho with ho
                      subst ho
                      obtain ⟨x31, hx31, hg31⟩ := hdeps ⟨31, .data⟩ (by simp) rfl
                      have hg31 : x31 = .bool false := hg31
                      subst hg31
                      have e31 : AA.tmps[72]?.getD undef = .bool false := by rw [hA]; exact tmps_own (by kernel_rfl) hx31 (of_decide_eq_true (by kernel_rfl))
                      clear hA hdeps hcl hmi hx31
                      have hK0 : KK (AA.put (some 4) _) _ := hK (.bool false) _ (Below.refl _ _) (Eq.refl _)
                      clear hK
                      go_simp
                      exact hK0
                    · simp at ho
                  · intro m W hbx hall
                    obtain ⟨x0, m0, g0⟩ := hall 0 (by simp)
                    replace g0 : x0 = .int .i64 (k : Int) := g0
                    subst g0
                    obtain ⟨x1, m1, g1⟩ := hall 1 (by simp)
                    replace g1 : x1 = .bool false := g1
                    subst g1
                    obtain ⟨x2, m2, g2⟩ := hall 2 (by simp)
                    replace g2 : x2 = .bool false := g2
                    subst g2
                    obtain ⟨x3, m3, g3⟩ := hall 3 (by simp)
                    replace g3 : x3 = .pointer (some ⟨w.heap.size, 0, none⟩) := g3
                    subst g3
                    obtain ⟨x4, m4, g4⟩ := hall 4 (by simp)
                    replace g4 : x4 = .slice (some ad) on oc := g4
                    subst g4
                    obtain ⟨x5, m5, g5⟩ := hall 5 (by simp)
                    replace g5 : x5 = .int .i64 (k : Int) := g5
                    subst g5
                    obtain ⟨x6, m6, g6⟩ := hall 6 (by simp)
                    replace g6 : x6 = .int .i64 ((k : Int) - 1) := g6
                    subst g6
                    obtain ⟨x7, m7, g7⟩ := hall 7 (by simp)
                    replace g7 : x7 = .pointer (some (ad.add ((k - 1) * 5))) := g7
                    subst g7
                    obtain ⟨x8, m8, g8⟩ := hall 8 (by simp)
                    replace g8 : x8 = .agg #[.string ⟨pt.toArray⟩, .int .i64 ph, .string ⟨pi.toArray⟩, .slice pA pn pc, .bool pb] := g8
                    subst g8
                    obtain ⟨x9, m9, g9⟩ := hall 9 (by simp)
                    replace g9 : x9 = .agg #[.string ⟨yt.toArray⟩, .int .i64 yh, .string ⟨yi.toArray⟩, .slice yA yn yc, .bool yb] := g9
                    subst g9
                    obtain ⟨x10, m10, g10⟩ := hall 10 (by simp)
                    replace g10 : x10 = .int .i64 zO := g10
                    subst g10
                    obtain ⟨x11, m11, g11⟩ := hall 11 (by simp)
                    replace g11 : x11 = .bool true := g11
                    subst g11
                    obtain ⟨x12, m12, g12⟩ := hall 12 (by simp)
                    replace g12 : x12 = .bool true := g12
                    subst g12
                    obtain ⟨x13, m13, g13⟩ := hall 13 (by simp)
                    replace g13 : x13 = .bool true := g13
                    subst g13
                    obtain ⟨x14, m14, g14⟩ := hall 14 (by simp)
                    replace g14 : x14 = .agg #[.slice (some ad) on oc, .slice dA dn dc] := g14
                    subst g14
                    obtain ⟨x15, m15, g15⟩ := hall 15 (by simp)
                    replace g15 : x15 = .pointer (some ⟨(w.heap.size + 1), 0, none⟩) := g15
                    subst g15
                    obtain ⟨x16, m16, g16⟩ := hall 16 (by simp)
                    replace g16 : x16 = .string ⟨yt.toArray⟩ := g16
                    subst g16
                    obtain ⟨x17, m17, g17⟩ := hall 17 (by simp)
                    replace g17 : x17 = .pointer (some ⟨(w.heap.size + 1), 2, none⟩) := g17
                    subst g17
                    obtain ⟨x18, m18, g18⟩ := hall 18 (by simp)
                    replace g18 : x18 = .string ⟨yi.toArray⟩ := g18
                    subst g18
                    obtain ⟨x19, m19, g19⟩ := hall 19 (by simp)
                    replace g19 : x19 = .int .i64 zA := g19
                    subst g19
                    obtain ⟨x20, m20, g20⟩ := hall 20 (by simp)
                    replace g20 : x20 = .pointer (some ⟨(w.heap.size + 1), 1, none⟩) := g20
                    subst g20
                    obtain ⟨x21, m21, g21⟩ := hall 21 (by simp)
                    replace g21 : x21 = .int .i64 yh := g21
                    subst g21
                    obtain ⟨x22, m22, g22⟩ := hall 22 (by simp)
                    replace g22 : x22 = .bool false := g22
                    subst g22
                    obtain ⟨x23, m23, g23⟩ := hall 23 (by simp)
                    replace g23 : x23 = .bool false := g23
                    subst g23
                    obtain ⟨x24, m24, g24⟩ := hall 24 (by simp)
                    replace g24 : x24 = .bool false := g24
                    subst g24
                    obtain ⟨x25, m25, g25⟩ := hall 25 (by simp)
                    replace g25 : x25 = undef := g25
                    subst g25
                    obtain ⟨x26, m26, g26⟩ := hall 26 (by simp)
                    replace g26 : x26 = undef := g26
                    subst g26
                    obtain ⟨x27, m27, g27⟩ := hall 27 (by simp)
                    replace g27 : x27 = undef := g27
                    subst g27
                    obtain ⟨x28, m28, g28⟩ := hall 28 (by simp)
                    replace g28 : x28 = undef := g28
                    subst g28
                    obtain ⟨x29, m29, g29⟩ := hall 29 (by simp)
                    replace g29 : x29 = undef := g29
                    subst g29
                    obtain ⟨x30, m30, g30⟩ := hall 30 (by simp)
                    replace g30 : x30 = undef := g30
                    subst g30
                    obtain ⟨x31, m31, g31⟩ := hall 31 (by simp)
                    replace g31 : x31 = .bool false := g31
                    subst g31
                    obtain ⟨x32, m32, g32⟩ := hall 32 (by simp)
                    replace g32 : x32 = .bool false := g32
                    subst g32
                    rw [frameM_all (by kernel_rfl) [.int .i64 (k : Int), .bool false, .bool false, .pointer (some ⟨w.heap.size, 0, none⟩), .slice (some ad) on oc, .int .i64 (k : Int), .int .i64 ((k : Int) - 1), .pointer (some (ad.add ((k - 1) * 5))), .agg #[.string ⟨pt.toArray⟩, .int .i64 ph, .string ⟨pi.toArray⟩, .slice pA pn pc, .bool pb], .agg #[.string ⟨yt.toArray⟩, .int .i64 yh, .string ⟨yi.toArray⟩, .slice yA yn yc, .bool yb], .int .i64 zO, .bool true, .bool true, .bool true, .agg #[.slice (some ad) on oc, .slice dA dn dc], .pointer (some ⟨(w.heap.size + 1), 0, none⟩), .string ⟨yt.toArray⟩, .pointer (some ⟨(w.heap.size + 1), 2, none⟩), .string ⟨yi.toArray⟩, .int .i64 zA, .pointer (some ⟨(w.heap.size + 1), 1, none⟩), .int .i64 yh, .bool false, .bool false, .bool false, undef, undef, undef, undef, undef, undef, .bool false, .bool false] rfl (fun i hi => by
                        rcases i with _ | _ | _ | _ | _ | _ | _ | _ | _ | _ | _ | _ | _ | _ | _ | _ | _ | _ | _ | _ | _ | _ | _ | _ | _ | _ | _ | _ | _ | _ | _ | _ | _ | i
                        · exact m0
                        · exact m1
                        · exact m2
                        · exact m3
                        · exact m4
                        · exact m5
                        · exact m6
                        · exact m7
                        · exact m8
                        · exact m9
                        · exact m10
                        · exact m11
                        · exact m12
                        · exact m13
                        · exact m14
                        · exact m15
                        · exact m16
                        · exact m17
                        · exact m18
                        · exact m19
                        · exact m20
                        · exact m21
                        · exact m22
                        · exact m23
                        · exact m24
                        · exact m25
                        · exact m26
                        · exact m27
                        · exact m28
                        · exact m29
                        · exact m30
                        · exact m31
                        · exact m32
                        · simp at hi; omega)]
                    clear hall m0 m1 m2 m3 m4 m5 m6 m7 m8 m9 m10 m11 m12 m13 m14 m15 m16 m17 m18 m19 m20 m21 m22 m23 m24 m25 m26 m27 m28 m29 m30 m31 m32
                    simp only [putAll, Act.put, List.setIfInBounds_toArray, List.set_cons_succ, List.set_cons_zero]
                    go_wp2_with fail
                    go_ret
                    exact ⟨by rw [HB.out]; rfl, hbW.out.trans ((hW.trans (hbx.mono hW.size)).mono (by have := HSZ.out; omega))⟩
              · subst hp
                have HB : Hid (V = false) := by show _ = _; rw [HV.out]; rfl
                clear HV
                refine wp_region_good2 (by kernel_rfl) (by kernel_rfl) [(fun v _ => v = .int .i64 (k : Int)),
                  (fun v _ => v = .bool false),
                  (fun v _ => v = .bool false),
                  (fun v _ => v = .pointer (some ⟨w.heap.size, 0, none⟩)),
                  (fun v _ => v = .slice (some ad) on oc),
                  (fun v _ => v = .int .i64 (k : Int)),
                  (fun v _ => v = .int .i64 ((k : Int) - 1)),
                  (fun v _ => v = .pointer (some (ad.add ((k - 1) * 5)))),
                  (fun v _ => v = .agg #[.string ⟨pt.toArray⟩, .int .i64 ph, .string ⟨pi.toArray⟩, .slice pA pn pc, .bool pb]),
                  (fun v _ => v = .agg #[.string ⟨yt.toArray⟩, .int .i64 yh, .string ⟨yi.toArray⟩, .slice yA yn yc, .bool yb]),
                  (fun v _ => v = .int .i64 zO),
                  (fun v _ => v = .bool false),
                  (fun v _ => v = .bool false),
                  (fun v _ => v = .bool false),
                  (fun v _ => v = undef),
                  (fun v _ => v = undef),
                  (fun v _ => v = undef),
                  (fun v _ => v = undef),
                  (fun v _ => v = undef),
                  (fun v _ => v = undef),
                  (fun v _ => v = undef),
                  (fun v _ => v = undef),
                  (fun v _ => v = undef),
                  (fun v _ => v = .bool false),
                  (fun v _ => v = .bool false),
                  (fun v _ => v = undef),
                  (fun v _ => v = undef),
                  (fun v _ => v = undef),
                  (fun v _ => v = undef),
                  (fun v _ => v = undef),
                  (fun v _ => v = undef),
                  (fun v _ => v = .bool false),
                  (fun v _ => v = .bool false)] ?_ ?_ ?_
                · repeat' (first | exact stays_nil | refine stays_cons ?_ ?_ | exact Stays.pure)
                · intro i oo ho m2 W hb0 hmi hcl hdeps AA KK hA hK
                  rcases i with _ | _ | _ | _ | _ | _ | _ | _ | _ | _ | _ | _ | _ | _ | _ | _ | _ | _ | _ | _ | _ | _ | _ | _ | _ | _ | _ | _ | _ | _ | _ | _ | _ | i
                  · injection ho with ho
                    subst ho
                    have ef1 : AA.tmps[1]?.getD undef = .int .i64 (k : Int) := by rw [hA]; exact tmps_free (by kernel_rfl)
                    clear hA hdeps hcl hmi
                    have hK0 : KK (AA.put (some 41) _) _ := hK (.int .i64 (k : Int)) _ (Below.refl _ _) (Eq.refl _)
                    clear hK
                    go_simp
                    exact hK0
                  · injection ho with ho
                    subst ho
                    obtain ⟨x0, hx0, hg0⟩ := hdeps ⟨0, .data⟩ (by simp) rfl
                    have hg0 : x0 = .int .i64 (k : Int) := hg0
                    subst hg0
                    have e0 : AA.tmps[41]?.getD undef = .int .i64 (k : Int) := by rw [hA]; exact tmps_own (by kernel_rfl) hx0 (of_decide_eq_true (by kernel_rfl))
                    clear hA hdeps hcl hmi hx0
                    have hK0 : KK (AA.put (some 42) _) _ := hK (.bool false) _ (Below.refl _ _) (Eq.refl _)
                    clear hK
                    go_simp
                    exact hK0
                  · injection ho with ho
                    subst ho
                    obtain ⟨x1, hx1, hg1⟩ := hdeps ⟨1, .data⟩ (by simp) rfl
                    have hg1 : x1 = .bool false := hg1
                    subst hg1
                    have e1 : AA.tmps[42]?.getD undef = .bool false := by rw [hA]; exact tmps_own (by kernel_rfl) hx1 (of_decide_eq_true (by kernel_rfl))
                    clear hA hdeps hcl hmi hx1
                    have hK0 : KK (AA.put (some 43) _) _ := hK (.bool false) _ (Below.refl _ _) (Eq.refl _)
                    clear hK
                    go_simp
                    exact hK0
                  · injection ho with ho
                    subst ho
                    obtain ⟨x2, hx2, hg2⟩ := hdeps ⟨2, .guard⟩ (by simp) rfl
                    have hg2 : x2 = .bool false := hg2
                    subst hg2
                    have e2 : AA.tmps[43]?.getD undef = .bool false := by rw [hA]; exact tmps_own (by kernel_rfl) hx2 (of_decide_eq_true (by kernel_rfl))
                    have ef2 : AA.tmps[2]?.getD undef = .pointer (some ⟨w.heap.size, 0, none⟩) := by rw [hA]; exact tmps_free (by kernel_rfl)
                    clear hA hdeps hcl hmi hx2
                    rw [if_pos (wanted_of (k := 43) rfl rfl e2)]
                    have hK0 : KK (AA.put (some 44) _) _ := hK (.pointer (some ⟨w.heap.size, 0, none⟩)) _ (Below.refl _ _) (Eq.refl _)
                    clear hK
                    go_simp
                    exact hK0
                  · injection ho with ho
                    subst ho
                    obtain ⟨x2, hx2, hg2⟩ := hdeps ⟨2, .guard⟩ (by simp) rfl
                    have hg2 : x2 = .bool false := hg2
                    subst hg2
                    have e2 : AA.tmps[43]?.getD undef = .bool false := by rw [hA]; exact tmps_own (by kernel_rfl) hx2 (of_decide_eq_true (by kernel_rfl))
                    obtain ⟨x3, hx3, hg3⟩ := hdeps ⟨3, .data⟩ (by simp) rfl
                    have hg3 : x3 = .pointer (some ⟨w.heap.size, 0, none⟩) := hg3
                    subst hg3
                    have e3 : AA.tmps[44]?.getD undef = .pointer (some ⟨w.heap.size, 0, none⟩) := by rw [hA]; exact tmps_own (by kernel_rfl) hx3 (of_decide_eq_true (by kernel_rfl))
                    clear hA hdeps hcl hmi hx2 hx3
                    rw [if_pos (wanted_of (k := 43) rfl rfl e2)]
                    obtain ⟨t0, t1, q0, q1, q2, q3, q4⟩ := hS.out W (hW.trans (hb0.mono hW.size))
                    have hK0 : KK (AA.put (some 45) _) _ := hK (.slice (some ad) on oc) _ (Below.refl _ _) (Eq.refl _)
                    clear hK
                    go_simp
                    exact hK0
                  · injection ho with ho
                    subst ho
                    obtain ⟨x2, hx2, hg2⟩ := hdeps ⟨2, .guard⟩ (by simp) rfl
                    have hg2 : x2 = .bool false := hg2
                    subst hg2
                    have e2 : AA.tmps[43]?.getD undef = .bool false := by rw [hA]; exact tmps_own (by kernel_rfl) hx2 (of_decide_eq_true (by kernel_rfl))
                    have ef1 : AA.tmps[1]?.getD undef = .int .i64 (k : Int) := by rw [hA]; exact tmps_free (by kernel_rfl)
                    clear hA hdeps hcl hmi hx2
                    rw [if_pos (wanted_of (k := 43) rfl rfl e2)]
                    have hK0 : KK (AA.put (some 46) _) _ := hK (.int .i64 (k : Int)) _ (Below.refl _ _) (Eq.refl _)
                    clear hK
                    go_simp
                    exact hK0
                  · injection ho with ho
                    subst ho
                    obtain ⟨x2, hx2, hg2⟩ := hdeps ⟨2, .guard⟩ (by simp) rfl
                    have hg2 : x2 = .bool false := hg2
                    subst hg2
                    have e2 : AA.tmps[43]?.getD undef = .bool false := by rw [hA]; exact tmps_own (by kernel_rfl) hx2 (of_decide_eq_true (by kernel_rfl))
                    obtain ⟨x5, hx5, hg5⟩ := hdeps ⟨5, .data⟩ (by simp) rfl
                    have hg5 : x5 = .int .i64 (k : Int) := hg5
                    subst hg5
                    have e5 : AA.tmps[46]?.getD undef = .int .i64 (k : Int) := by rw [hA]; exact tmps_own (by kernel_rfl) hx5 (of_decide_eq_true (by kernel_rfl))
                    clear hA hdeps hcl hmi hx2 hx5
                    rw [if_pos (wanted_of (k := 43) rfl rfl e2)]
                    have hK0 : KK (AA.put (some 47) _) _ := hK (.int .i64 ((k : Int) - 1)) _ (Below.refl _ _) (Eq.refl _)
                    clear hK
                    go_simp
                    exact hK0
                  · injection ho with ho
                    subst ho
                    obtain ⟨x2, hx2, hg2⟩ := hdeps ⟨2, .guard⟩ (by simp) rfl
                    have hg2 : x2 = .bool false := hg2
                    subst hg2
                    have e2 : AA.tmps[43]?.getD undef = .bool false := by rw [hA]; exact tmps_own (by kernel_rfl) hx2 (of_decide_eq_true (by kernel_rfl))
                    obtain ⟨x4, hx4, hg4⟩ := hdeps ⟨4, .data⟩ (by simp) rfl
                    have hg4 : x4 = .slice (some ad) on oc := hg4
                    subst hg4
                    have e4 : AA.tmps[45]?.getD undef = .slice (some ad) on oc := by rw [hA]; exact tmps_own (by kernel_rfl) hx4 (of_decide_eq_true (by kernel_rfl))
                    obtain ⟨x6, hx6, hg6⟩ := hdeps ⟨6, .data⟩ (by simp) rfl
                    have hg6 : x6 = .int .i64 ((k : Int) - 1) := hg6
                    subst hg6
                    have e6 : AA.tmps[47]?.getD undef = .int .i64 ((k : Int) - 1) := by rw [hA]; exact tmps_own (by kernel_rfl) hx6 (of_decide_eq_true (by kernel_rfl))
                    clear hA hdeps hcl hmi hx2 hx4 hx6
                    rw [if_pos (wanted_of (k := 43) rfl rfl e2)]
                    have hK0 : KK (AA.put (some 48) _) _ := hK (.pointer (some (ad.add ((k - 1) * 5)))) _ (Below.refl _ _) (Eq.refl _)
                    clear hK
                    go_simp
                    exact hK0
                  · injection ho with ho
                    subst ho
                    obtain ⟨x2, hx2, hg2⟩ := hdeps ⟨2, .guard⟩ (by simp) rfl
                    have hg2 : x2 = .bool false := hg2
                    subst hg2
                    have e2 : AA.tmps[43]?.getD undef = .bool false := by rw [hA]; exact tmps_own (by kernel_rfl) hx2 (of_decide_eq_true (by kernel_rfl))
                    obtain ⟨x7, hx7, hg7⟩ := hdeps ⟨7, .data⟩ (by simp) rfl
                    have hg7 : x7 = .pointer (some (ad.add ((k - 1) * 5))) := hg7
                    subst hg7
                    have e7 : AA.tmps[48]?.getD undef = .pointer (some (ad.add ((k - 1) * 5))) := by rw [hA]; exact tmps_own (by kernel_rfl) hx7 (of_decide_eq_true (by kernel_rfl))
                    clear hA hdeps hcl hmi hx2 hx7
                    rw [if_pos (wanted_of (k := 43) rfl rfl e2)]
                    obtain ⟨t0, t1, q0, q1, q2, q3, q4⟩ := hS.out W (hW.trans (hb0.mono hW.size))
                    obtain ⟨p0, p1, p2, p3, p4⟩ := hP.out W (hW.trans (hb0.mono hW.size))
                    have hK0 : KK (AA.put (some 49) _) _ := hK (.agg #[.string ⟨pt.toArray⟩, .int .i64 ph, .string ⟨pi.toArray⟩, .slice pA pn pc, .bool pb]) _ (Below.refl _ _) (Eq.refl _)
                    clear hK
                    go_simp
                    exact hK0
                  · injection ho with ho
                    subst ho
                    obtain ⟨x2, hx2, hg2⟩ := hdeps ⟨2, .guard⟩ (by simp) rfl
                    have hg2 : x2 = .bool false := hg2
                    subst hg2
                    have e2 : AA.tmps[43]?.getD undef = .bool false := by rw [hA]; exact tmps_own (by kernel_rfl) hx2 (of_decide_eq_true (by kernel_rfl))
                    have ef5 : AA.tmps[5]?.getD undef = .pointer (some ⟨(w.heap.size + 1), 0, none⟩) := by rw [hA]; exact tmps_free (by kernel_rfl)
                    clear hA hdeps hcl hmi hx2
                    rw [if_pos (wanted_of (k := 43) rfl rfl e2)]
                    obtain ⟨t0, t1, q0, q1, q2, q3, q4⟩ := hS.out W (hW.trans (hb0.mono hW.size))
                    have hK0 : KK (AA.put (some 50) _) _ := hK (.agg #[.string ⟨yt.toArray⟩, .int .i64 yh, .string ⟨yi.toArray⟩, .slice yA yn yc, .bool yb]) _ (Below.refl _ _) (Eq.refl _)
                    clear hK
                    go_simp
                    exact hK0
                  · injection ho with ho
                    subst ho
                    obtain ⟨x2, hx2, hg2⟩ := hdeps ⟨2, .guard⟩ (by simp) rfl
                    have hg2 : x2 = .bool false := hg2
                    subst hg2
                    have e2 : AA.tmps[43]?.getD undef = .bool false := by rw [hA]; exact tmps_own (by kernel_rfl) hx2 (of_decide_eq_true (by kernel_rfl))
                    obtain ⟨x8, hx8, hg8⟩ := hdeps ⟨8, .data⟩ (by simp) rfl
                    have hg8 : x8 = .agg #[.string ⟨pt.toArray⟩, .int .i64 ph, .string ⟨pi.toArray⟩, .slice pA pn pc, .bool pb] := hg8
                    subst hg8
                    have e8 : AA.tmps[49]?.getD undef = .agg #[.string ⟨pt.toArray⟩, .int .i64 ph, .string ⟨pi.toArray⟩, .slice pA pn pc, .bool pb] := by rw [hA]; exact tmps_own (by kernel_rfl) hx8 (of_decide_eq_true (by kernel_rfl))
                    obtain ⟨x9, hx9, hg9⟩ := hdeps ⟨9, .data⟩ (by simp) rfl
                    have hg9 : x9 = .agg #[.string ⟨yt.toArray⟩, .int .i64 yh, .string ⟨yi.toArray⟩, .slice yA yn yc, .bool yb] := hg9
                    subst hg9
                    have e9 : AA.tmps[50]?.getD undef = .agg #[.string ⟨yt.toArray⟩, .int .i64 yh, .string ⟨yi.toArray⟩, .slice yA yn yc, .bool yb] := by rw [hA]; exact tmps_own (by kernel_rfl) hx9 (of_decide_eq_true (by kernel_rfl))
                    clear hA hdeps hcl hmi hx2 hx8 hx9
                    rw [if_pos (wanted_of (k := 43) rfl rfl e2)]
                    have hKK := Lib.hid hK
                    clear hK
                    go_simp
                    refine (hOr.out _ (hW.trans (hb0.mono hW.size))).mono ?_
                    rintro e w5 ⟨rfl, hbn⟩
                    exact hKK.out _ _ hbn (Eq.refl _)
                  · injection ho with ho
                    subst ho
                    obtain ⟨x2, hx2, hg2⟩ := hdeps ⟨2, .guard⟩ (by simp) rfl
                    have hg2 : x2 = .bool false := hg2
                    subst hg2
                    have e2 : AA.tmps[43]?.getD undef = .bool false := by rw [hA]; exact tmps_own (by kernel_rfl) hx2 (of_decide_eq_true (by kernel_rfl))
                    obtain ⟨x10, hx10, hg10⟩ := hdeps ⟨10, .data⟩ (by simp) rfl
                    have hg10 : x10 = .int .i64 zO := hg10
                    subst hg10
                    have e10 : AA.tmps[51]?.getD undef = .int .i64 zO := by rw [hA]; exact tmps_own (by kernel_rfl) hx10 (of_decide_eq_true (by kernel_rfl))
                    clear hA hdeps hcl hmi hx2 hx10
                    rw [if_pos (wanted_of (k := 43) rfl rfl e2)]
                    have hK0 : KK (AA.put (some 52) _) _ := hK (.bool false) _ (Below.refl _ _) (Eq.refl _)
                    clear hK
                    go_simp
                    exact hK0
                  · injection ho with ho
                    subst ho
                    obtain ⟨x2, hx2, hg2⟩ := hdeps ⟨2, .data⟩ (by simp) rfl
                    have hg2 : x2 = .bool false := hg2
                    subst hg2
                    have e2 : AA.tmps[43]?.getD undef = .bool false := by rw [hA]; exact tmps_own (by kernel_rfl) hx2 (of_decide_eq_true (by kernel_rfl))
                    obtain ⟨x11, hx11, hg11⟩ := hdeps ⟨11, .data⟩ (by simp) rfl
                    have hg11 : x11 = .bool false := hg11
                    subst hg11
                    have e11 : AA.tmps[52]?.getD undef = .bool false := by rw [hA]; exact tmps_own (by kernel_rfl) hx11 (of_decide_eq_true (by kernel_rfl))
                    clear hA hdeps hcl hmi hx2 hx11
                    have hK0 : KK (AA.put (some 53) _) _ := hK (.bool false) _ (Below.refl _ _) (Eq.refl _)
                    clear hK
                    go_simp
                    exact hK0
                  · injection ho with ho
                    subst ho
                    obtain ⟨x12, hx12, hg12⟩ := hdeps ⟨12, .data⟩ (by simp) rfl
                    have hg12 : x12 = .bool false := hg12
                    subst hg12
                    have e12 : AA.tmps[53]?.getD undef = .bool false := by rw [hA]; exact tmps_own (by kernel_rfl) hx12 (of_decide_eq_true (by kernel_rfl))
                    clear hA hdeps hcl hmi hx12
                    have hK0 : KK (AA.put (some 54) _) _ := hK (.bool false) _ (Below.refl _ _) (Eq.refl _)
                    clear hK
                    go_simp
                    exact hK0
                  · injection ho with ho
                    subst ho
                    obtain ⟨x13, hx13, hg13⟩ := hdeps ⟨13, .guard⟩ (by simp) rfl
                    have hg13 : x13 = .bool false := hg13
                    subst hg13
                    have e13 : AA.tmps[54]?.getD undef = .bool false := by rw [hA]; exact tmps_own (by kernel_rfl) hx13 (of_decide_eq_true (by kernel_rfl))
                    have ef2 : AA.tmps[2]?.getD undef = .pointer (some ⟨w.heap.size, 0, none⟩) := by rw [hA]; exact tmps_free (by kernel_rfl)
                    clear hA hdeps hcl hmi hx13
                    rw [if_neg (unwanted_of (b := true) (k := 54) rfl rfl (.inl e13))]
                    exact hK undef _ (Below.refl _ _) (Eq.refl _)
                  · injection ho with ho
                    subst ho
                    obtain ⟨x13, hx13, hg13⟩ := hdeps ⟨13, .guard⟩ (by simp) rfl
                    have hg13 : x13 = .bool false := hg13
                    subst hg13
                    have e13 : AA.tmps[54]?.getD undef = .bool false := by rw [hA]; exact tmps_own (by kernel_rfl) hx13 (of_decide_eq_true (by kernel_rfl))
                    have ef5 : AA.tmps[5]?.getD undef = .pointer (some ⟨(w.heap.size + 1), 0, none⟩) := by rw [hA]; exact tmps_free (by kernel_rfl)
                    clear hA hdeps hcl hmi hx13
                    rw [if_neg (unwanted_of (b := true) (k := 54) rfl rfl (.inl e13))]
                    exact hK undef _ (Below.refl _ _) (Eq.refl _)
                  · injection ho with ho
                    subst ho
                    obtain ⟨x13, hx13, hg13⟩ := hdeps ⟨13, .guard⟩ (by simp) rfl
                    have hg13 : x13 = .bool false := hg13
                    subst hg13
                    have e13 : AA.tmps[54]?.getD undef = .bool false := by rw [hA]; exact tmps_own (by kernel_rfl) hx13 (of_decide_eq_true (by kernel_rfl))
                    obtain ⟨x15, hx15, hg15⟩ := hdeps ⟨15, .data⟩ (by simp) rfl
                    have hg15 : x15 = undef := hg15
                    subst hg15
                    have e15 : AA.tmps[56]?.getD undef = undef := by rw [hA]; exact tmps_own (by kernel_rfl) hx15 (of_decide_eq_true (by kernel_rfl))
                    clear hA hdeps hcl hmi hx13 hx15
                    rw [if_neg (unwanted_of (b := true) (k := 54) rfl rfl (.inl e13))]
                    exact hK undef _ (Below.refl _ _) (Eq.refl _)
                  · injection ho with ho
                    subst ho
                    obtain ⟨x13, hx13, hg13⟩ := hdeps ⟨13, .guard⟩ (by simp) rfl
                    have hg13 : x13 = .bool false := hg13
                    subst hg13
                    have e13 : AA.tmps[54]?.getD undef = .bool false := by rw [hA]; exact tmps_own (by kernel_rfl) hx13 (of_decide_eq_true (by kernel_rfl))
                    have ef5 : AA.tmps[5]?.getD undef = .pointer (some ⟨(w.heap.size + 1), 0, none⟩) := by rw [hA]; exact tmps_free (by kernel_rfl)
                    clear hA hdeps hcl hmi hx13
                    rw [if_neg (unwanted_of (b := true) (k := 54) rfl rfl (.inl e13))]
                    exact hK undef _ (Below.refl _ _) (Eq.refl _)
                  · injection ho with ho
                    subst ho
                    obtain ⟨x13, hx13, hg13⟩ := hdeps ⟨13, .guard⟩ (by simp) rfl
                    have hg13 : x13 = .bool false := hg13
                    subst hg13
                    have e13 : AA.tmps[54]?.getD undef = .bool false := by rw [hA]; exact tmps_own (by kernel_rfl) hx13 (of_decide_eq_true (by kernel_rfl))
                    obtain ⟨x17, hx17, hg17⟩ := hdeps ⟨17, .data⟩ (by simp) rfl
                    have hg17 : x17 = undef := hg17
                    subst hg17
                    have e17 : AA.tmps[58]?.getD undef = undef := by rw [hA]; exact tmps_own (by kernel_rfl) hx17 (of_decide_eq_true (by kernel_rfl))
                    clear hA hdeps hcl hmi hx13 hx17
                    rw [if_neg (unwanted_of (b := true) (k := 54) rfl rfl (.inl e13))]
                    exact hK undef _ (Below.refl _ _) (Eq.refl _)
                  · injection ho with ho
                    subst ho
                    obtain ⟨x13, hx13, hg13⟩ := hdeps ⟨13, .guard⟩ (by simp) rfl
                    have hg13 : x13 = .bool false := hg13
                    subst hg13
                    have e13 : AA.tmps[54]?.getD undef = .bool false := by rw [hA]; exact tmps_own (by kernel_rfl) hx13 (of_decide_eq_true (by kernel_rfl))
                    obtain ⟨x14, hx14, hg14⟩ := hdeps ⟨14, .data⟩ (by simp) rfl
                    have hg14 : x14 = undef := hg14
                    subst hg14
                    have e14 : AA.tmps[55]?.getD undef = undef := by rw [hA]; exact tmps_own (by kernel_rfl) hx14 (of_decide_eq_true (by kernel_rfl))
                    obtain ⟨x16, hx16, hg16⟩ := hdeps ⟨16, .data⟩ (by simp) rfl
                    have hg16 : x16 = undef := hg16
                    subst hg16
                    have e16 : AA.tmps[57]?.getD undef = undef := by rw [hA]; exact tmps_own (by kernel_rfl) hx16 (of_decide_eq_true (by kernel_rfl))
                    obtain ⟨x18, hx18, hg18⟩ := hdeps ⟨18, .data⟩ (by simp) rfl
                    have hg18 : x18 = undef := hg18
                    subst hg18
                    have e18 : AA.tmps[59]?.getD undef = undef := by rw [hA]; exact tmps_own (by kernel_rfl) hx18 (of_decide_eq_true (by kernel_rfl))
                    clear hA hdeps hcl hmi hx13 hx14 hx16 hx18
                    rw [if_neg (unwanted_of (b := true) (k := 54) rfl rfl (.inl e13))]
                    exact hK undef _ (Below.refl _ _) (Eq.refl _)
                  · injection ho with ho
                    subst ho
                    obtain ⟨x13, hx13, hg13⟩ := hdeps ⟨13, .guard⟩ (by simp) rfl
                    have hg13 : x13 = .bool false := hg13
                    subst hg13
                    have e13 : AA.tmps[54]?.getD undef = .bool false := by rw [hA]; exact tmps_own (by kernel_rfl) hx13 (of_decide_eq_true (by kernel_rfl))
                    have ef5 : AA.tmps[5]?.getD undef = .pointer (some ⟨(w.heap.size + 1), 0, none⟩) := by rw [hA]; exact tmps_free (by kernel_rfl)
                    clear hA hdeps hcl hmi hx13
                    rw [if_neg (unwanted_of (b := true) (k := 54) rfl rfl (.inl e13))]
                    exact hK undef _ (Below.refl _ _) (Eq.refl _)
                  · injection ho with ho
                    subst ho
                    obtain ⟨x13, hx13, hg13⟩ := hdeps ⟨13, .guard⟩ (by simp) rfl
                    have hg13 : x13 = .bool false := hg13
                    subst hg13
                    have e13 : AA.tmps[54]?.getD undef = .bool false := by rw [hA]; exact tmps_own (by kernel_rfl) hx13 (of_decide_eq_true (by kernel_rfl))
                    obtain ⟨x20, hx20, hg20⟩ := hdeps ⟨20, .data⟩ (by simp) rfl
                    have hg20 : x20 = undef := hg20
                    subst hg20
                    have e20 : AA.tmps[61]?.getD undef = undef := by rw [hA]; exact tmps_own (by kernel_rfl) hx20 (of_decide_eq_true (by kernel_rfl))
                    clear hA hdeps hcl hmi hx13 hx20
                    rw [if_neg (unwanted_of (b := true) (k := 54) rfl rfl (.inl e13))]
                    exact hK undef _ (Below.refl _ _) (Eq.refl _)
                  · injection ho with ho
                    subst ho
                    obtain ⟨x13, hx13, hg13⟩ := hdeps ⟨13, .guard⟩ (by simp) rfl
                    have hg13 : x13 = .bool false := hg13
                    subst hg13
                    have e13 : AA.tmps[54]?.getD undef = .bool false := by rw [hA]; exact tmps_own (by kernel_rfl) hx13 (of_decide_eq_true (by kernel_rfl))
                    obtain ⟨x19, hx19, hg19⟩ := hdeps ⟨19, .data⟩ (by simp) rfl
                    have hg19 : x19 = undef := hg19
                    subst hg19
                    have e19 : AA.tmps[60]?.getD undef = undef := by rw [hA]; exact tmps_own (by kernel_rfl) hx19 (of_decide_eq_true (by kernel_rfl))
                    obtain ⟨x21, hx21, hg21⟩ := hdeps ⟨21, .data⟩ (by simp) rfl
                    have hg21 : x21 = undef := hg21
                    subst hg21
                    have e21 : AA.tmps[62]?.getD undef = undef := by rw [hA]; exact tmps_own (by kernel_rfl) hx21 (of_decide_eq_true (by kernel_rfl))
                    clear hA hdeps hcl hmi hx13 hx19 hx21
                    rw [if_neg (unwanted_of (b := true) (k := 54) rfl rfl (.inl e13))]
                    exact hK undef _ (Below.refl _ _) (Eq.refl _)
                  · injection ho with ho
                    subst ho
                    obtain ⟨x13, hx13, hg13⟩ := hdeps ⟨13, .data⟩ (by simp) rfl
                    have hg13 : x13 = .bool false := hg13
                    subst hg13
                    have e13 : AA.tmps[54]?.getD undef = .bool false := by rw [hA]; exact tmps_own (by kernel_rfl) hx13 (of_decide_eq_true (by kernel_rfl))
                    obtain ⟨x22, hx22, hg22⟩ := hdeps ⟨22, .data⟩ (by simp) rfl
                    have hg22 : x22 = undef := hg22
                    subst hg22
                    have e22 : AA.tmps[63]?.getD undef = undef := by rw [hA]; exact tmps_own (by kernel_rfl) hx22 (of_decide_eq_true (by kernel_rfl))
                    clear hA hdeps hcl hmi hx13 hx22
                    have hK0 : KK (AA.put (some 64) _) _ := hK (.bool false) _ (Below.refl _ _) (Eq.refl _)
                    clear hK
                    go_simp
                    exact hK0
                  · injection ho with ho
                    subst ho
                    obtain ⟨x23, hx23, hg23⟩ := hdeps ⟨23, .data⟩ (by simp) rfl
                    have hg23 : x23 = .bool false := hg23
                    subst hg23
                    have e23 : AA.tmps[64]?.getD undef = .bool false := by rw [hA]; exact tmps_own (by kernel_rfl) hx23 (of_decide_eq_true (by kernel_rfl))
                    clear hA hdeps hcl hmi hx23
                    have hK0 : KK (AA.put (some 65) _) _ := hK (.bool false) _ (Below.refl _ _) (Eq.refl _)
                    clear hK
                    go_simp
                    exact hK0
                  · injection ho with ho
                    subst ho
                    obtain ⟨x24, hx24, hg24⟩ := hdeps ⟨24, .guard⟩ (by simp) rfl
                    have hg24 : x24 = .bool false := hg24
                    subst hg24
                    have e24 : AA.tmps[65]?.getD undef = .bool false := by rw [hA]; exact tmps_own (by kernel_rfl) hx24 (of_decide_eq_true (by kernel_rfl))
                    have ef2 : AA.tmps[2]?.getD undef = .pointer (some ⟨w.heap.size, 0, none⟩) := by rw [hA]; exact tmps_free (by kernel_rfl)
                    clear hA hdeps hcl hmi hx24
                    rw [if_neg (unwanted_of (b := true) (k := 65) rfl rfl (.inl e24))]
                    exact hK undef _ (Below.refl _ _) (Eq.refl _)
                  · injection ho with ho
                    subst ho
                    obtain ⟨x24, hx24, hg24⟩ := hdeps ⟨24, .guard⟩ (by simp) rfl
                    have hg24 : x24 = .bool false := hg24
                    subst hg24
                    have e24 : AA.tmps[65]?.getD undef = .bool false := by rw [hA]; exact tmps_own (by kernel_rfl) hx24 (of_decide_eq_true (by kernel_rfl))
                    have ef5 : AA.tmps[5]?.getD undef = .pointer (some ⟨(w.heap.size + 1), 0, none⟩) := by rw [hA]; exact tmps_free (by kernel_rfl)
                    clear hA hdeps hcl hmi hx24
                    rw [if_neg (unwanted_of (b := true) (k := 65) rfl rfl (.inl e24))]
                    exact hK undef _ (Below.refl _ _) (Eq.refl _)
                  · injection ho with ho
                    subst ho
                    obtain ⟨x24, hx24, hg24⟩ := hdeps ⟨24, .guard⟩ (by simp) rfl
                    have hg24 : x24 = .bool false := hg24
                    subst hg24
                    have e24 : AA.tmps[65]?.getD undef = .bool false := by rw [hA]; exact tmps_own (by kernel_rfl) hx24 (of_decide_eq_true (by kernel_rfl))
                    obtain ⟨x26, hx26, hg26⟩ := hdeps ⟨26, .data⟩ (by simp) rfl
                    have hg26 : x26 = undef := hg26
                    subst hg26
                    have e26 : AA.tmps[67]?.getD undef = undef := by rw [hA]; exact tmps_own (by kernel_rfl) hx26 (of_decide_eq_true (by kernel_rfl))
                    clear hA hdeps hcl hmi hx24 hx26
                    rw [if_neg (unwanted_of (b := true) (k := 65) rfl rfl (.inl e24))]
                    exact hK undef _ (Below.refl _ _) (Eq.refl _)
                  · injection ho with ho
                    subst ho
                    obtain ⟨x24, hx24, hg24⟩ := hdeps ⟨24, .guard⟩ (by simp) rfl
                    have hg24 : x24 = .bool false := hg24
                    subst hg24
                    have e24 : AA.tmps[65]?.getD undef = .bool false := by rw [hA]; exact tmps_own (by kernel_rfl) hx24 (of_decide_eq_true (by kernel_rfl))
                    obtain ⟨x25, hx25, hg25⟩ := hdeps ⟨25, .data⟩ (by simp) rfl
                    have hg25 : x25 = undef := hg25
                    subst hg25
                    have e25 : AA.tmps[66]?.getD undef = undef := by rw [hA]; exact tmps_own (by kernel_rfl) hx25 (of_decide_eq_true (by kernel_rfl))
                    obtain ⟨x27, hx27, hg27⟩ := hdeps ⟨27, .data⟩ (by simp) rfl
                    have hg27 : x27 = undef := hg27
                    subst hg27
                    have e27 : AA.tmps[68]?.getD undef = undef := by rw [hA]; exact tmps_own (by kernel_rfl) hx27 (of_decide_eq_true (by kernel_rfl))
                    clear hA hdeps hcl hmi hx24 hx25 hx27
                    rw [if_neg (unwanted_of (b := true) (k := 65) rfl rfl (.inl e24))]
                    exact hK undef _ (Below.refl _ _) (Eq.refl _)
                  · injection ho with ho
                    subst ho
                    obtain ⟨x24, hx24, hg24⟩ := hdeps ⟨24, .guard⟩ (by simp) rfl
                    have hg24 : x24 = .bool false := hg24
                    subst hg24
                    have e24 : AA.tmps[65]?.getD undef = .bool false := by rw [hA]; exact tmps_own (by kernel_rfl) hx24 (of_decide_eq_true (by kernel_rfl))
                    obtain ⟨x28, hx28, hg28⟩ := hdeps ⟨28, .data⟩ (by simp) rfl
                    have hg28 : x28 = undef := hg28
                    subst hg28
                    have e28 : AA.tmps[69]?.getD undef = undef := by rw [hA]; exact tmps_own (by kernel_rfl) hx28 (of_decide_eq_true (by kernel_rfl))
                    clear hA hdeps hcl hmi hx24 hx28
                    rw [if_neg (unwanted_of (b := true) (k := 65) rfl rfl (.inl e24))]
                    exact hK undef _ (Below.refl _ _) (Eq.refl _)
                  · injection ho with ho
                    subst ho
                    obtain ⟨x24, hx24, hg24⟩ := hdeps ⟨24, .guard⟩ (by simp) rfl
                    have hg24 : x24 = .bool false := hg24
                    subst hg24
                    have e24 : AA.tmps[65]?.getD undef = .bool false := by rw [hA]; exact tmps_own (by kernel_rfl) hx24 (of_decide_eq_true (by kernel_rfl))
                    obtain ⟨x29, hx29, hg29⟩ := hdeps ⟨29, .data⟩ (by simp) rfl
                    have hg29 : x29 = undef := hg29
                    subst hg29
                    have e29 : AA.tmps[70]?.getD undef = undef := by rw [hA]; exact tmps_own (by kernel_rfl) hx29 (of_decide_eq_true (by kernel_rfl))
                    clear hA hdeps hcl hmi hx24 hx29
                    rw [if_neg (unwanted_of (b := true) (k := 65) rfl rfl (.inl e24))]
                    exact hK undef _ (Below.refl _ _) (Eq.refl _)
                  · injection ho with ho
                    subst ho
                    obtain ⟨x24, hx24, hg24⟩ := hdeps ⟨24, .data⟩ (by simp) rfl
                    have hg24 : x24 = .bool false := hg24
                    subst hg24
                    have e24 : AA.tmps[65]?.getD undef = .bool false := by rw [hA]; exact tmps_own (by kernel_rfl) hx24 (of_decide_eq_true (by kernel_rfl))
                    obtain ⟨x30, hx30, hg30⟩ := hdeps ⟨30, .data⟩ (by simp) rfl
                    have hg30 : x30 = undef := hg30
                    subst hg30
                    have e30 : AA.tmps[71]?.getD undef = undef := by rw [hA]; exact tmps_own (by kernel_rfl) hx30 (of_decide_eq_true (by kernel_rfl))
                    clear hA hdeps hcl hmi hx24 hx30
                    have hK0 : KK (AA.put (some 72) _) _ := hK (.bool false) _ (Below.refl _ _) (Eq.refl _)
                    clear hK
                    go_simp
                    exact hK0
                  · injection ho with ho
                    subst ho
                    obtain ⟨x31, hx31, hg31⟩ := hdeps ⟨31, .data⟩ (by simp) rfl
                    have hg31 : x31 = .bool false := hg31
                    subst hg31
                    have e31 : AA.tmps[72]?.getD undef = .bool false := by rw [hA]; exact tmps_own (by kernel_rfl) hx31 (of_decide_eq_true (by kernel_rfl))
                    clear hA hdeps hcl hmi hx31
                    have hK0 : KK (AA.put (some 4) _) _ := hK (.bool false) _ (Below.refl _ _) (Eq.refl _)
                    clear hK
                    go_simp
                    exact hK0
                  · simp at ho
                · intro m W hbx hall
                  obtain ⟨x0, m0, g0⟩ := hall 0 (by simp)
                  replace g0 : x0 = .int .i64 (k : Int) := g0
                  subst g0
                  obtain ⟨x1, m1, g1⟩ := hall 1 (by simp)
                  replace g1 : x1 = .bool false := g1
                  subst g1
                  obtain ⟨x2, m2, g2⟩ := hall 2 (by simp)
                  replace g2 : x2 = .bool false := g2
                  subst g2
                  obtain ⟨x3, m3, g3⟩ := hall 3 (by simp)
                  replace g3 : x3 = .pointer (some ⟨w.heap.size, 0, none⟩) := g3
                  subst g3
                  obtain ⟨x4, m4, g4⟩ := hall 4 (by simp)
                  replace g4 : x4 = .slice (some ad) on oc := g4
                  subst g4
                  obtain ⟨x5, m5, g5⟩ := hall 5 (by simp)
                  replace g5 : x5 = .int .i64 (k : Int) := g5
                  subst g5
                  obtain ⟨x6, m6, g6⟩ := hall 6 (by simp)
                  replace g6 : x6 = .int .i64 ((k : Int) - 1) := g6
                  subst g6
                  obtain ⟨x7, m7, g7⟩ := hall 7 (by simp)
                  replace g7 : x7 = .pointer (some (ad.add ((k - 1) * 5))) := g7
                  subst g7
                  obtain ⟨x8, m8, g8⟩ := hall 8 (by simp)
                  replace g8 : x8 = .agg #[.string ⟨pt.toArray⟩, .int .i64 ph, .string ⟨pi.toArray⟩, .slice pA pn pc, .bool pb] := g8
                  subst g8
                  obtain ⟨x9, m9, g9⟩ := hall 9 (by simp)
                  replace g9 : x9 = .agg #[.string ⟨yt.toArray⟩, .int .i64 yh, .string ⟨yi.toArray⟩, .slice yA yn yc, .bool yb] := g9
                  subst g9
                  obtain ⟨x10, m10, g10⟩ := hall 10 (by simp)
                  replace g10 : x10 = .int .i64 zO := g10
                  subst g10
                  obtain ⟨x11, m11, g11⟩ := hall 11 (by simp)
                  replace g11 : x11 = .bool false := g11
                  subst g11
                  obtain ⟨x12, m12, g12⟩ := hall 12 (by simp)
                  replace g12 : x12 = .bool false := g12
                  subst g12
                  obtain ⟨x13, m13, g13⟩ := hall 13 (by simp)
                  replace g13 : x13 = .bool false := g13
                  subst g13
                  obtain ⟨x14, m14, g14⟩ := hall 14 (by simp)
                  replace g14 : x14 = undef := g14
                  subst g14
                  obtain ⟨x15, m15, g15⟩ := hall 15 (by simp)
                  replace g15 : x15 = undef := g15
                  subst g15
                  obtain ⟨x16, m16, g16⟩ := hall 16 (by simp)
                  replace g16 : x16 = undef := g16
                  subst g16
                  obtain ⟨x17, m17, g17⟩ := hall 17 (by simp)
                  replace g17 : x17 = undef := g17
                  subst g17
                  obtain ⟨x18, m18, g18⟩ := hall 18 (by simp)
                  replace g18 : x18 = undef := g18
                  subst g18
                  obtain ⟨x19, m19, g19⟩ := hall 19 (by simp)
                  replace g19 : x19 = undef := g19
                  subst g19
                  obtain ⟨x20, m20, g20⟩ := hall 20 (by simp)
                  replace g20 : x20 = undef := g20
                  subst g20
                  obtain ⟨x21, m21, g21⟩ := hall 21 (by simp)
                  replace g21 : x21 = undef := g21
                  subst g21
                  obtain ⟨x22, m22, g22⟩ := hall 22 (by simp)
                  replace g22 : x22 = undef := g22
                  subst g22
                  obtain ⟨x23, m23, g23⟩ := hall 23 (by simp)
                  replace g23 : x23 = .bool false := g23
                  subst g23
                  obtain ⟨x24, m24, g24⟩ := hall 24 (by simp)
                  replace g24 : x24 = .bool false := g24
                  subst g24
                  obtain ⟨x25, m25, g25⟩ := hall 25 (by simp)
                  replace g25 : x25 = undef := g25
                  subst g25
                  obtain ⟨x26, m26, g26⟩ := hall 26 (by simp)
                  replace g26 : x26 = undef := g26
                  subst g26
                  obtain ⟨x27, m27, g27⟩ := hall 27 (by simp)
                  replace g27 : x27 = undef := g27
                  subst g27
                  obtain ⟨x28, m28, g28⟩ := hall 28 (by simp)
                  replace g28 : x28 = undef := g28
                  subst g28
                  obtain ⟨x29, m29, g29⟩ := hall 29 (by simp)
                  replace g29 : x29 = undef := g29
                  subst g29
                  obtain ⟨x30, m30, g30⟩ := hall 30 (by simp)
                  replace g30 : x30 = undef := g30
                  subst g30
                  obtain ⟨x31, m31, g31⟩ := hall 31 (by simp)
                  replace g31 : x31 = .bool false := g31
                  subst g31
                  obtain ⟨x32, m32, g32⟩ := hall 32 (by simp)
                  replace g32 : x32 = .bool false := g32
                  subst g32
                  rw [frameM_all (by kernel_rfl) [.int .i64 (k : Int), .bool false, .bool false, .pointer (some ⟨w.heap.size, 0, none⟩), .slice (some ad) on oc, .int .i64 (k : Int), .int .i64 ((k : Int) - 1), .pointer (some (ad.add ((k - 1) * 5))), .agg #[.string ⟨pt.toArray⟩, .int .i64 ph, .string ⟨pi.toArray⟩, .slice pA pn pc, .bool pb], .agg #[.string ⟨yt.toArray⟩, .int .i64 yh, .string ⟨yi.toArray⟩, .slice yA yn yc, .bool yb], .int .i64 zO, .bool false, .bool false, .bool false, undef, undef, undef, undef, undef, undef, undef, undef, undef, .bool false, .bool false, undef, undef, undef, undef, undef, undef, .bool false, .bool false] rfl (fun i hi => by
                      rcases i with _ | _ | _ | _ | _ | _ | _ | _ | _ | _ | _ | _ | _ | _ | _ | _ | _ | _ | _ | _ | _ | _ | _ | _ | _ | _ | _ | _ | _ | _ | _ | _ | _ | i
                      · exact m0
                      · exact m1
                      · exact m2
                      · exact m3
                      · exact m4
                      · exact m5
                      · exact m6
                      · exact m7
                      · exact m8
                      · exact m9
                      · exact m10
                      · exact m11
                      · exact m12
                      · exact m13
                      · exact m14
                      · exact m15
                      · exact m16
                      · exact m17
                      · exact m18
                      · exact m19
                      · exact m20
                      · exact m21
                      · exact m22
                      · exact m23
                      · exact m24
                      · exact m25
                      · exact m26
                      · exact m27
                      · exact m28
                      · exact m29
                      · exact m30
                      · exact m31
                      · exact m32
                      · simp at hi; omega)]
                  clear hall m0 m1 m2 m3 m4 m5 m6 m7 m8 m9 m10 m11 m12 m13 m14 m15 m16 m17 m18 m19 m20 m21 m22 m23 m24 m25 m26 m27 m28 m29 m30 m31 m32
                  simp only [putAll, Act.put, List.setIfInBounds_toArray, List.set_cons_succ, List.set_cons_zero]
                  go_wp2_with fail
                  go_ret
                  exact ⟨by rw [HB.out]; rfl, hbW.out.trans ((hW.trans (hbx.mono hW.size)).mono (by have := HSZ.out; omega))⟩
end Go.Proofs.YtjdebhemoeojiaaDoor
