/-
  Tables of sessions, as they lie in memory and as they read; session.had, session.At by their contracts.
-/
import Derived.Test.YtjdebhemoeojiaaDoorSeLaw
import Derived.Test.YtjdebhemoeojiaaDoorFs
import Derived.Test.YtjdebhemoeojiaaDoorCls
import Derived.Test.YtjdebhemoeojiaaDoorRows
namespace Go.Proofs.YtjdebhemoeojiaaDoor
open Go.RowKit


def encHad (x : HadT) : List Value := [.string ⟨x.1.toArray⟩, .int .i64 x.2]
def encU (b : UInt8) : List Value := [.int .u8 (b.toNat : Int)]
theorem encU_bts (b : BS) : cellsK encU b = bts b := by
  induction b with
  | nil => rfl
  | cons x b ih =>
    show encU x ++ cellsK encU b = _
    rw [ih]
    rfl
structure SesR where
  ten : BS
  hd : Int
  into : BS
  rest : FS UInt8
  bad : Bool
def encSes (x : SesR) : List Value := [.string ⟨x.ten.toArray⟩, .int .i64 x.hd, .string ⟨x.into.toArray⟩, .slice x.rest.A x.rest.n x.rest.c, .bool x.bad]
structure TabR where
  opn : FS SesR
  had : FS HadT
def TabR.val (t : TabR) : Value := .agg #[t.opn.val, t.had.val]
def SesR.con (x : SesR) : SesC := ⟨x.ten, x.hd, x.into, x.rest.l, x.bad⟩
def TabR.con (t : TabR) : TabC := ⟨t.opn.l.map SesR.con, t.had.l⟩
def SesR.rd (w : World) (B : Nat) (x : SesR) : Prop := x.rest.rd w B 1 encU
structure TabR.rd (w : World) (B : Nat) (t : TabR) : Prop where
  opn : t.opn.rd w B 5 encSes
  each : ∀ y ∈ t.opn.l, y.rd w B
  had : t.had.rd w B 2 encHad
structure SesR.sz (x : SesR) : Prop where
  ten : x.ten.length ≤ 4000000000
  into : x.into.length ≤ 4000000000
  rest : x.rest.n ≤ 4000000000
structure TabR.sz (t : TabR) : Prop where
  opn : t.opn.n ≤ 1000000000
  each : ∀ y ∈ t.opn.l, y.sz
  had : t.had.n ≤ 1000000000
  eachH : ∀ y ∈ t.had.l, y.1.length ≤ 4000000000
def SesO (w : World) (base : Nat) (x : SesR) : Prop := x.rest.own w base 5 1 encU
structure TabO (w : World) (base : Nat) (t : TabR) : Prop where
  opn : t.opn.own w base 33 5 encSes
  each : ∀ y ∈ t.opn.l, SesO w base y
  had : t.had.own w base 38 2 encHad
section
variable {w w' : World} {base base' B B' : Nat}
theorem SesR.rd.below {x : SesR} (h : x.rd w B) (hb : Below B w w') : x.rd w' B := FS.rd.below h hb
theorem SesR.rd.more {x : SesR} (h : x.rd w B) (hb : B ≤ B') : x.rd w B' := FS.rd.more h hb
theorem TabR.rd.below {t : TabR} (h : t.rd w B) (hb : Below B w w') : t.rd w' B := ⟨h.opn.below hb, fun y hy => (h.each y hy).below hb, h.had.below hb⟩
theorem TabR.rd.more {t : TabR} (h : t.rd w B) (hb : B ≤ B') : t.rd w B' := ⟨h.opn.more hb, fun y hy => (h.each y hy).more hb, h.had.more hb⟩
theorem SesO.below {x : SesR} (h : SesO w base x) (hb : Below w.heap.size w w') : SesO w' base x := FS.own.below h hb
theorem SesO.mono {x : SesR} (h : SesO w base x) (hb : base' ≤ base) : SesO w base' x := FS.own.mono h hb
theorem SesO.rd {x : SesR} (h : SesO w base x) : x.rd w w.heap.size := FS.own.rd h
theorem SesO.kept {x : SesR} {g : Nat} (h : SesO w base x) (hg : w.grownBy w' (some g)) (hb : g < base) : SesO w' base x := FS.own.kept h hg hb
theorem TabO.below {t : TabR} (h : TabO w base t) (hb : Below w.heap.size w w') : TabO w' base t := ⟨h.opn.below hb, fun y hy => (h.each y hy).below hb, h.had.below hb⟩
theorem TabO.mono {t : TabR} (h : TabO w base t) (hb : base' ≤ base) : TabO w base' t := ⟨h.opn.mono hb, fun y hy => (h.each y hy).mono hb, h.had.mono hb⟩
theorem TabO.rd {t : TabR} (h : TabO w base t) : t.rd w w.heap.size := ⟨h.opn.rd, fun y hy => (h.each y hy).rd, h.had.rd⟩
theorem TabO.kept {t : TabR} {g : Nat} (h : TabO w base t) (hg : w.grownBy w' (some g)) (hb : g < base) : TabO w' base t := ⟨h.opn.kept hg hb, fun y hy => (h.each y hy).kept hg hb, h.had.kept hg hb⟩
end
theorem ses_at {w : World} {B n : Nat} {A : Option Addr} {l : List SesR} (h : Reads w B 5 A n (cellsK encSes l)) (dn : n = l.length) {i : Nat} (hi : i < n) :
    ∃ ad, A = some ad ∧ ad.block < B ∧ w.cell? (ad.add (i * 5)) = some (.string ⟨(l[i]'(by omega)).ten.toArray⟩) ∧ w.cell? ⟨(ad.add (i * 5)).block, (ad.add (i * 5)).off + 1, none⟩ = some (.int .i64 (l[i]'(by omega)).hd) ∧ w.cell? ⟨(ad.add (i * 5)).block, (ad.add (i * 5)).off + 2, none⟩ = some (.string ⟨(l[i]'(by omega)).into.toArray⟩) ∧
      w.cell? ⟨(ad.add (i * 5)).block, (ad.add (i * 5)).off + 3, none⟩ = some (.slice (l[i]'(by omega)).rest.A (l[i]'(by omega)).rest.n (l[i]'(by omega)).rest.c) ∧ w.cell? ⟨(ad.add (i * 5)).block, (ad.add (i * 5)).off + 4, none⟩ = some (.bool (l[i]'(by omega)).bad) := by
  obtain ⟨ad, e, hb, dc⟩ := Reads.elK (k := 5) (fun _ => rfl) h dn hi
  refine ⟨ad, e, hb, ?_, ?_, ?_, ?_, ?_⟩
  · have := dc 0 (by omega); rwa [add_zero] at this
  · have := dc 1 (by omega); rwa [addr_add_succ] at this
  · have := dc 2 (by omega); rwa [addr_add_succ] at this
  · have := dc 3 (by omega); rwa [addr_add_succ] at this
  · have := dc 4 (by omega); rwa [addr_add_succ] at this
theorem seHad_drop {l : List HadT} {t : BS} {k : Nat} (hk : k < l.length) : seHad (l.drop k) t = if (l[k]'hk).1 = t then (l[k]'hk).2 else seHad (l.drop (k + 1)) t := by
  rw [List.drop_eq_getElem_cons hk]
  unfold seHad
  rw [List.find?_cons]
  by_cases h : (l[k]'hk).1 = t
  · rw [if_pos h]; simp [h]
  · rw [if_neg h, show ((l[k]'hk).1 == t) = false by simpa using h]
theorem seAt_drop {l : List SesC} {t i : BS} {k : Nat} (hk : k < l.length) : ((l[k]'hk).ten = t ∧ (l[k]'hk).into = i → seAt (l.drop k) t i = (l[k]'hk).hd) ∧ (¬ ((l[k]'hk).ten = t ∧ (l[k]'hk).into = i) → seAt (l.drop k) t i = seAt (l.drop (k + 1)) t i) := by
  rw [List.drop_eq_getElem_cons hk]
  unfold seAt
  rw [List.find?_cons]
  refine ⟨fun h => ?_, fun h => ?_⟩
  · simp [h.1, h.2]
  · rw [show ((l[k]'hk).ten == t && (l[k]'hk).into == i) = false by rw [← Bool.not_eq_true, Bool.and_eq_true, beq_iff_eq, beq_iff_eq]; exact h]
set_option maxRecDepth 100000 in
set_option maxHeartbeats 1000000 in
theorem had_any (t : TabR) (x : BS) (w : World) (B : Nat) (hr : t.rd w B) (hB : B ≤ w.heap.size) (hz : t.sz) :
    Calls Tryd.prog 32 #[t.val, .string ⟨x.toArray⟩] w fun e w' => e = .returned (.int .i64 (seHad t.con.had x)) ∧ Below w.heap.size w w' := by
  obtain ⟨⟨oA, on, oc, ol⟩, ⟨dA, dn, dc, dl⟩⟩ := t
  have HN := Lib.hid (show dn = dl.length from hr.had.1)
  have hsz : dn ≤ 1000000000 := hz.had
  have hrh : Reads w B 2 dA dn (cellsK (fun x : HadT => [.string ⟨x.1.toArray⟩, .int .i64 x.2]) dl) := hr.had.2.2
  show Calls Tryd.prog 32 #[.agg #[.slice oA on oc, .slice dA dn dc], .string ⟨x.toArray⟩] w fun e w' => e = .returned (.int .i64 (seHad dl x)) ∧ _
  have hb1 := (Below.refl w.heap.size w).alloc (Nat.le_refl _) (.cells #[.slice oA on oc, .slice dA dn dc] 25)
  have kT := Blk.new w 25 #[.slice oA on oc, .slice dA dn dc]
  obtain ⟨W1, hW1⟩ : ∃ W, W = w.alloc (.cells #[.slice oA on oc, .slice dA dn dc] 25) := ⟨_, rfl⟩
  have hsz1 : W1.heap.size = w.heap.size + 1 := by rw [hW1]; simp
  rw [← hW1] at hb1 kT
  have hT := Lib.hid (fun (W' : World) (hB' : Below W1.heap.size W1 W') => (⟨(kT.below hB' (by omega)).cell 0, (kT.below hB' (by omega)).cell 1⟩ : W'.cell? ⟨w.heap.size, 0, none⟩ = some (.slice oA on oc) ∧ W'.cell? ⟨w.heap.size, 1, none⟩ = some (.slice dA dn dc)))
  have hrw : Hid (∀ W, Below W1.heap.size W1 W → Reads W B 2 dA dn (cellsK (fun x : HadT => [.string ⟨x.1.toArray⟩, .int .i64 x.2]) dl) ∧ w.heap.size < W.heap.size ∧ Below w.heap.size w W) := by
    show ∀ W, _ → _
    intro W h
    have h1 := hb1.trans (h.mono (by omega))
    exact ⟨hrh.below (h1.mono hB), by have := h.size; omega, h1⟩
  obtain ⟨V, hV⟩ : ∃ V, V = seHad dl x := ⟨_, rfl⟩
  rw [← hV]
  have HV := Lib.hid hV
  obtain ⟨c0, c1⟩ := hT.out _ (Below.refl _ _)
  clear hb1 kT hr hz hsz1 hrh hV
  go_enter Tryd.func32, Tryd.ntmps32
  go_wp2_with fail
  rw [← hW1]
  clear hW1
  go_wp2_with fail
  clear c0 c1
  go_loopw [10] (fun i wr => ∃ k : Nat, k ≤ dn ∧ i = .int .i64 (k : Int) ∧ Hid (V = seHad (dl.drop k) x) ∧ Below W1.heap.size W1 wr) (fun i _ => dn - (intOf i).toNat)
  case atStart => exact ⟨0, Nat.zero_le _, rfl, HV.out, Below.refl _ _⟩
  case round =>
    obtain ⟨k, hk, rfl, hno, hbw⟩ := hrel
    by_cases hlt : k < dn
    · have hki : (k : Int) < (dn : Int) := by omega
      have hkl : k < dl.length := by have := HN.out; omega
      obtain ⟨hrk, hsl, hbb⟩ := hrw.out wr hbw
      obtain ⟨ad, rfl, hadB, q0, q1⟩ := hrk.el2 HN.out hlt
      have hst := seHad_drop (t := x) hkl
      obtain ⟨y, hy⟩ : ∃ y, y = dl[k]'hkl := ⟨_, rfl⟩
      rw [← hy] at q0 q1 hst
      obtain ⟨yn, yc⟩ := y
      simp only at q0 q1 hst
      have hba := hbw.alloc hbw.size (.cells #[.string ⟨yn.toArray⟩, .int .i64 yc] 38)
      have HBA := Lib.hid hba
      have HST := Lib.hid hst
      have HBB := Lib.hid (hbb.alloc hbb.size (.cells #[.string ⟨yn.toArray⟩, .int .i64 yc] 38))
      clear hy hst hrk hba hbb
      by_cases hxn : yn = x
      · have hd : (yn == x) = true := by simp [hxn]
        have HVV : Hid (V = yc) := by show _ = _; rw [hno.out, HST.out, if_pos hxn]
        clear hxn
        go_wp2_with fail
        go_ret
        exact ⟨by rw [HVV.out]; rfl, HBB.out⟩
      · have hd : (yn == x) = false := by simp [hxn]
        have HVV : Hid (V = seHad (dl.drop (k + 1)) x) := by show _ = _; rw [hno.out, HST.out, if_neg hxn]
        clear hxn
        go_wp2_with fail
        go_roundw
        case rel => exact ⟨k + 1, by omega, by go_num, HVV, HBA.out⟩
        case measure => simp [intOf]; omega
    · have hke : k = dn := by omega
      have HVV : Hid (V = 0) := by show _ = _; rw [hno.out, List.drop_eq_nil_of_le (by have := HN.out; omega)]; rfl
      have hnl : ¬ (k : Int) < (dn : Int) := by omega
      have HBB := Lib.hid (hrw.out wr hbw).2.2
      go_wp2_with fail
      go_ret
      exact ⟨by rw [HVV.out]; rfl, HBB.out⟩
set_option maxRecDepth 100000 in
set_option maxHeartbeats 2000000 in
theorem at_any (t : TabR) (x z : BS) (w : World) (B : Nat) (hr : t.rd w B) (hB : B ≤ w.heap.size) (hz : t.sz) :
    Calls Tryd.prog 28 #[t.val, .string ⟨x.toArray⟩, .string ⟨z.toArray⟩] w fun e w' => e = .returned (.int .i64 (seAt t.con.opn x z)) ∧ Below w.heap.size w w' := by
  obtain ⟨⟨oA, on, oc, ol⟩, ⟨dA, dn, dc, dl⟩⟩ := t
  have HN := Lib.hid (show on = ol.length from hr.opn.1)
  have hsz : on ≤ 1000000000 := hz.opn
  have hrh : Reads w B 5 oA on (cellsK encSes ol) := hr.opn.2.2
  show Calls Tryd.prog 28 #[.agg #[.slice oA on oc, .slice dA dn dc], .string ⟨x.toArray⟩, .string ⟨z.toArray⟩] w fun e w' => e = .returned (.int .i64 (seAt (ol.map SesR.con) x z)) ∧ _
  have hb1 := (Below.refl w.heap.size w).alloc (Nat.le_refl _) (.cells #[.slice oA on oc, .slice dA dn dc] 25)
  have kT := Blk.new w 25 #[.slice oA on oc, .slice dA dn dc]
  obtain ⟨W1, hW1⟩ : ∃ W, W = w.alloc (.cells #[.slice oA on oc, .slice dA dn dc] 25) := ⟨_, rfl⟩
  have hsz1 : W1.heap.size = w.heap.size + 1 := by rw [hW1]; simp
  rw [← hW1] at hb1 kT
  have hT := Lib.hid (fun (W' : World) (hB' : Below W1.heap.size W1 W') => (⟨(kT.below hB' (by omega)).cell 0, (kT.below hB' (by omega)).cell 1⟩ : W'.cell? ⟨w.heap.size, 0, none⟩ = some (.slice oA on oc) ∧ W'.cell? ⟨w.heap.size, 1, none⟩ = some (.slice dA dn dc)))
  have hrw : Hid (∀ W, Below W1.heap.size W1 W → Reads W B 5 oA on (cellsK encSes ol) ∧ w.heap.size < W.heap.size ∧ Below w.heap.size w W) := by
    show ∀ W, _ → _
    intro W h
    have h1 := hb1.trans (h.mono (by omega))
    exact ⟨hrh.below (h1.mono hB), by have := h.size; omega, h1⟩
  obtain ⟨V, hV⟩ : ∃ V, V = seAt (ol.map SesR.con) x z := ⟨_, rfl⟩
  rw [← hV]
  have HV := Lib.hid hV
  obtain ⟨c0, c1⟩ := hT.out _ (Below.refl _ _)
  clear hb1 kT hr hz hsz1 hrh hV
  go_enter Tryd.func28, Tryd.ntmps28
  go_wp2_with fail
  rw [← hW1]
  clear hW1
  go_wp2_with fail
  clear c0 c1
  go_loopw [12] (fun i wr => ∃ k : Nat, k ≤ on ∧ i = .int .i64 (k : Int) ∧ Hid (V = seAt ((ol.map SesR.con).drop k) x z) ∧ Below W1.heap.size W1 wr) (fun i _ => on - (intOf i).toNat)
  case atStart => exact ⟨0, Nat.zero_le _, rfl, HV.out, Below.refl _ _⟩
  case round =>
    obtain ⟨k, hk, rfl, hno, hbw⟩ := hrel
    by_cases hlt : k < on
    · have hki : (k : Int) < (on : Int) := by omega
      have hkl : k < ol.length := by have := HN.out; omega
      obtain ⟨hrk, hsl, hbb⟩ := hrw.out wr hbw
      obtain ⟨ad, rfl, hadB, q0, q1, q2, q3, q4⟩ := ses_at hrk HN.out hlt
      have hst := seAt_drop (l := ol.map SesR.con) (t := x) (i := z) (k := k) (by simpa using hkl)
      rw [List.getElem_map] at hst
      obtain ⟨y, hy⟩ : ∃ y, y = ol[k]'hkl := ⟨_, rfl⟩
      rw [← hy] at q0 q1 q2 q3 q4 hst
      obtain ⟨yt, yh, yi, ⟨yA, yn, yc, yl⟩, yb⟩ := y
      simp only [SesR.con] at q0 q1 q2 q3 q4 hst
      have hba := hbw.alloc hbw.size (.cells #[.string ⟨yt.toArray⟩, .int .i64 yh, .string ⟨yi.toArray⟩, .slice yA yn yc, .bool yb] 33)
      have HBA := Lib.hid hba
      have HST := Lib.hid hst
      have HBB := Lib.hid (hbb.alloc hbb.size (.cells #[.string ⟨yt.toArray⟩, .int .i64 yh, .string ⟨yi.toArray⟩, .slice yA yn yc, .bool yb] 33))
      clear hy hst hrk hba hbb
      by_cases hx1 : yt = x
      · have hd1 : (yt == x) = true := by simp [hx1]
        by_cases hx2 : yi = z
        · have hd2 : (yi == z) = true := by simp [hx2]
          have HVV : Hid (V = yh) := by show _ = _; exact hno.out.trans (HST.out.1 ⟨hx1, hx2⟩)
          clear hx1 hx2
          go_wp2_with fail
          go_ret
          exact ⟨by rw [HVV.out]; rfl, HBB.out⟩
        · have hd2 : (yi == z) = false := by simp [hx2]
          have HVV : Hid (V = seAt ((ol.map SesR.con).drop (k + 1)) x z) := by show _ = _; exact hno.out.trans (HST.out.2 (fun e => hx2 e.2))
          clear hx1 hx2
          go_wp2_with fail
          go_roundw
          case rel => exact ⟨k + 1, by omega, by go_num, HVV, HBA.out⟩
          case measure => simp [intOf]; omega
      · have hd1 : (yt == x) = false := by simp [hx1]
        have HVV : Hid (V = seAt ((ol.map SesR.con).drop (k + 1)) x z) := by show _ = _; exact hno.out.trans (HST.out.2 (fun e => hx1 e.1))
        clear hx1
        go_wp2_with fail
        go_roundw
        case rel => exact ⟨k + 1, by omega, by go_num, HVV, HBA.out⟩
        case measure => simp [intOf]; omega
    · have hke : k = on := by omega
      have HVV : Hid (V = 0) := by show _ = _; rw [hno.out, List.drop_eq_nil_of_le (by have := HN.out; simp; omega)]; rfl
      have hnl : ¬ (k : Int) < (on : Int) := by omega
      have HBB := Lib.hid (hrw.out wr hbw).2.2
      go_wp2_with fail
      go_ret
      exact ⟨by rw [HVV.out]; rfl, HBB.out⟩
end Go.Proofs.YtjdebhemoeojiaaDoor
