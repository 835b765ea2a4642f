/-
  session.Find, by its contract.
  session.Close, by its contract.
  session.Open, by its contract.
-/
import Derived.Deep.Cut
import Derived.Test.YtjdebhemoeojiaaDoorSeIdx
import Derived.Test.YtjdebhemoeojiaaDoorSeCp
import Derived.Test.YtjdebhemoeojiaaDoorSeNext
import Derived.Test.YtjdebhemoeojiaaDoorSeDelT
import Derived.Test.YtjdebhemoeojiaaDoorSeInT
import Derived.Test.YtjdebhemoeojiaaDoorSeSrT
namespace Go.Proofs.YtjdebhemoeojiaaDoor
open Go.RowKit

theorem blk5F {w : World} {g : Nat} {t : TypeId} {a b c d e : Value} (h : Blk w g t #[a, b, c, d, e]) :
    (w.cell? ⟨g, 0, none⟩ = some a ∧ w.cell? ⟨g, 1, none⟩ = some b ∧ w.cell? ⟨g, 2, none⟩ = some c ∧ w.cell? ⟨g, 3, none⟩ = some d ∧ w.cell? ⟨g, 4, none⟩ = some e) ∧
    w.frozen? ⟨g, 0, none⟩ = false ∧ w.frozen? ⟨g, 1, none⟩ = false ∧ w.frozen? ⟨g, 2, none⟩ = false ∧ w.frozen? ⟨g, 3, none⟩ = false ∧ w.frozen? ⟨g, 4, none⟩ = false :=
  ⟨⟨by simpa using h.cell 0, by simpa using h.cell 1, by simpa using h.cell 2, by simpa using h.cell 3, by simpa using h.cell 4⟩, h.frozen 0, h.frozen 1, h.frozen 2, h.frozen 3, h.frozen 4⟩
theorem placeI_cs (T : TabC) (x : BS) (h : Int) : placeI T x h = (0, 9) ∨ placeI T x h = (0, 72) ∨ ∃ k, ∃ hk : k < T.opn.length, placeI T x h = ((k : Int), 0) ∧ tabE T = 0 ∧ sesAt x h (T.opn[k]'hk) = true ∧ ∀ y ∈ T.opn.take k, sesAt x h y = false := by
  unfold placeI
  rcases tabE_09 T with he | he
  · rw [if_neg (by rw [he]; decide)]
    rcases firstI_cs (sesAt x h) T.opn with ⟨h1, -⟩ | ⟨k, hk, h1, h2, h3⟩
    · rw [h1]; exact .inr (.inl rfl)
    · rw [h1, if_neg (by omega)]; exact .inr (.inr ⟨k, hk, rfl, he, h3, h2⟩)
  · rw [if_pos he]; exact .inl rfl
def seZ : SesC := ⟨[], 0, [], [], false⟩
def findS (T : TabC) (x : BS) (h : Int) : SesC × Int := if (placeI T x h).2 = 0 then ((T.opn[(placeI T x h).1.toNat]?).getD seZ, 0) else (seZ, (placeI T x h).2)
set_option maxRecDepth 100000 in
set_option maxHeartbeats 4000000 in
theorem sfind_any (t : TabR) (x : BS) (h : Int) (w : World) (B : Nat) (hr : t.rd w B) (hB : B ≤ w.heap.size) (hz : t.sz) (hmx : HasMax w) :
    Calls Tryd.prog 11 #[t.val, .string ⟨x.toArray⟩, .int .i64 h] w fun e w' => ∃ s : SesR, e = .returned (.tuple #[.agg (encSes s).toArray, .int .i64 (findS t.con x h).2]) ∧ SesO w' w.heap.size s ∧ s.con = (findS t.con x h).1 ∧ Below w.heap.size w w' := by
  have hPl := fun W (hb : Below w.heap.size w W) => place_any t x h W B (hr.below (hb.mono hB)) (Nat.le_trans hB hb.size) hz (hmx.below hb)
  have HX : Hid (t.con = t.con) := rfl
  obtain ⟨T, hT0⟩ : ∃ T, T = t.con := ⟨_, rfl⟩
  have hTo : T.opn = t.opn.l.map SesR.con := by rw [hT0]; rfl
  rw [← hT0] at hPl HX ⊢
  clear hT0
  have hcs := placeI_cs T x h
  obtain ⟨⟨oA, on, oc, ol⟩, ⟨dA, dn, dc, dl⟩⟩ := t
  have HN := Lib.hid (show on = ol.length from hr.opn.1)
  have hsz : on ≤ 1000000000 := hz.opn
  have hrh : Reads w B 5 oA on (cellsK encSes ol) := hr.opn.2.2
  have hre : ∀ y ∈ ol, y.rd w B := hr.each
  have hze : ∀ y ∈ ol, y.sz := hz.each
  show Calls Tryd.prog 11 #[.agg #[.slice oA on oc, .slice dA dn dc], .string ⟨x.toArray⟩, .int .i64 h] w _
  have hb1 := (Below.refl w.heap.size w).alloc (Nat.le_refl _) (.cells #[.slice oA on oc, .slice dA dn dc] 25)
  have kT := Blk.new w 25 #[.slice oA on oc, .slice dA dn dc]
  obtain ⟨W1, hW1⟩ : ∃ W, W = w.alloc (.cells #[.slice oA on oc, .slice dA dn dc] 25) := ⟨_, rfl⟩
  have hsz1 : W1.heap.size = w.heap.size + 1 := by rw [hW1]; simp
  rw [← hW1] at hb1 kT
  have hT := Lib.hid (fun (W' : World) (hB' : Below W1.heap.size W1 W') => (⟨(kT.below hB' (by omega)).cell 0, (kT.below hB' (by omega)).cell 1⟩ : W'.cell? ⟨w.heap.size, 0, none⟩ = some (.slice oA on oc) ∧ W'.cell? ⟨w.heap.size, 1, none⟩ = some (.slice dA dn dc)))
  obtain ⟨W0, hW0⟩ : ∃ W, W = W1.alloc (.cells #[.string ⟨#[]⟩, .int .i64 0, .string ⟨#[]⟩, .slice none 0 0, .bool false] 33) := ⟨_, rfl⟩
  have kR := Blk.new W1 33 #[.string ⟨#[]⟩, .int .i64 0, .string ⟨#[]⟩, .slice none 0 0, .bool false]
  have hb01 := (Below.refl W1.heap.size W1).alloc (Nat.le_refl _) (.cells #[.string ⟨#[]⟩, .int .i64 0, .string ⟨#[]⟩, .slice none 0 0, .bool false] 33)
  have kT0 := kT.alloc (.cells #[.string ⟨#[]⟩, .int .i64 0, .string ⟨#[]⟩, .slice none 0 0, .bool false] 33)
  have hsz0 : W0.heap.size = w.heap.size + 2 := by rw [hW0]; show (World.heap _ |>.push _).size = _; rw [Array.size_push, hsz1]
  rw [← hW0] at kR hb01 kT0
  rw [hsz1] at kR
  have hb0 : Below w.heap.size w W0 := hb1.trans (hb01.mono (by omega))
  have hrw : Hid (∀ W, Below W0.heap.size W0 W → Reads W B 5 oA on (cellsK encSes ol) ∧ w.heap.size + 1 < W.heap.size ∧ Below w.heap.size w W ∧ (∀ y ∈ ol, y.rd W B ∧ y.sz)) := by
    show ∀ W, _ → _
    intro W h
    have h1 := hb0.trans (h.mono (by omega))
    exact ⟨hrh.below (h1.mono hB), by have := h.size; omega, h1, fun y hy => ⟨(hre y hy).below (h1.mono hB), hze y hy⟩⟩
  have hc := hPl W0 hb0
  obtain ⟨⟨c0, c1⟩, -⟩ := blk2T kT0
  have HSZ0 := Lib.hid hsz0
  have KR := Lib.hid kR
  have KT := Lib.hid kT0
  have HTO := Lib.hid hTo
  rw [hW0, hW1] at c0 c1
  clear hb1 kT hr hz hsz1 hrh hre hze kR hb01 kT0 hsz0 hb0 hT hTo hPl hmx
  go_enter Tryd.func11, Tryd.ntmps11
  go_wp2_with fail
  rw [← hW1, ← hW0]
  refine hc.mono ?_
  clear hc c0 c1 hW0 hW1
  rintro e w2 ⟨rfl, hb2⟩
  have HB2 := Lib.hid hb2
  have kR := KR.out.below hb2 (by have := HSZ0.out; omega)
  obtain ⟨⟨c0, c1⟩, -⟩ := blk2T (KT.out.below hb2 (by have := HSZ0.out; omega))
  clear hb2
  rcases hcs with hpi | hpi | ⟨k, hkT, hpi, -, -, -⟩
  · obtain ⟨HPI⟩ : Nonempty (Hid (placeI T x h = (0, 9))) := ⟨hpi⟩
    rw [hpi]
    clear hpi
    obtain ⟨⟨r0, r1, r2, r3, r4⟩, fr0, fr1, fr2, fr3, fr4⟩ := blk5F kR
    go_wp2_with fail
    have kE := ((((kR.set_ 0 (.string ⟨#[]⟩)).set_ 1 (.int .i64 0)).set_ 2 (.string ⟨#[]⟩)).set_ 3 (.slice none 0 0)).set_ 4 (.bool false)
    obtain ⟨⟨r0, r1, r2, r3, r4⟩, -⟩ := blk5F kE
    refine bodyPost_ret (v := .tuple #[.agg #[.string ⟨#[]⟩, .int .i64 0, .string ⟨#[]⟩, .slice none 0 0, .bool false], .int .i64 9]) (by simp [results, Tryd.results11, go_sem, r0, r1, r2, r3, r4]) rfl ?_
    refine ⟨⟨[], 0, [], ⟨none, 0, 0, []⟩, false⟩, by unfold findS; rw [HPI.out, if_neg (by decide)]; rfl, ⟨rfl, World.ownsRow_nil _ _ _ _⟩, by unfold findS; rw [HPI.out, if_neg (by decide)]; rfl, ?_⟩
    exact ((((((hrw.out _ HB2.out).2.2.1.setCell (by simp only; omega) _).setCell (by simp only; omega) _).setCell (by simp only; omega) _).setCell (by simp only; omega) _).setCell (by simp only; omega) _)
  · obtain ⟨HPI⟩ : Nonempty (Hid (placeI T x h = (0, 72))) := ⟨hpi⟩
    rw [hpi]
    clear hpi
    obtain ⟨⟨r0, r1, r2, r3, r4⟩, fr0, fr1, fr2, fr3, fr4⟩ := blk5F kR
    go_wp2_with fail
    have kE := ((((kR.set_ 0 (.string ⟨#[]⟩)).set_ 1 (.int .i64 0)).set_ 2 (.string ⟨#[]⟩)).set_ 3 (.slice none 0 0)).set_ 4 (.bool false)
    obtain ⟨⟨r0, r1, r2, r3, r4⟩, -⟩ := blk5F kE
    refine bodyPost_ret (v := .tuple #[.agg #[.string ⟨#[]⟩, .int .i64 0, .string ⟨#[]⟩, .slice none 0 0, .bool false], .int .i64 72]) (by simp [results, Tryd.results11, go_sem, r0, r1, r2, r3, r4]) rfl ?_
    refine ⟨⟨[], 0, [], ⟨none, 0, 0, []⟩, false⟩, by unfold findS; rw [HPI.out, if_neg (by decide)]; rfl, ⟨rfl, World.ownsRow_nil _ _ _ _⟩, by unfold findS; rw [HPI.out, if_neg (by decide)]; rfl, ?_⟩
    exact ((((((hrw.out _ HB2.out).2.2.1.setCell (by simp only; omega) _).setCell (by simp only; omega) _).setCell (by simp only; omega) _).setCell (by simp only; omega) _).setCell (by simp only; omega) _)
  · obtain ⟨HPI⟩ : Nonempty (Hid (placeI T x h = ((k : Int), 0))) := ⟨hpi⟩
    rw [hpi]
    clear hpi
    have hkl : k < ol.length := by rw [HTO.out, List.length_map] at hkT; exact hkT
    have hlt : k < on := by have := HN.out; omega
    have hki : (k : Int) < (on : Int) := by omega
    have hk0 : (0 : Int) ≤ (k : Int) := by omega
    obtain ⟨hrk, hsl, hbb, hel⟩ := hrw.out w2 HB2.out
    obtain ⟨ad, rfl, hadB, q0, q1, q2, q3, q4⟩ := ses_at hrk HN.out hlt
    have hey := hel _ (List.getElem_mem hkl)
    have HY0 : Hid ((findS T x h).1 = (ol[k]'hkl).con ∧ (findS T x h).2 = 0) := by
      show _ ∧ _
      unfold findS
      rw [HPI.out, if_pos rfl]
      refine ⟨?_, rfl⟩
      simp only [Int.toNat_natCast]
      rw [List.getElem?_eq_getElem hkT]
      simp only [HTO.out, List.getElem_map, Option.getD_some]
    obtain ⟨y, hy⟩ : ∃ y, y = ol[k]'hkl := ⟨_, rfl⟩
    rw [← hy] at q0 q1 q2 q3 q4 hey HY0
    obtain ⟨yt, yh, yi, ⟨yA, yn, yc, yl⟩, yb⟩ := y
    simp only at q0 q1 q2 q3 q4
    obtain ⟨W2, hW2⟩ : ∃ W2, W2 = w2.alloc (.cells #[.string ⟨yt.toArray⟩, .int .i64 yh, .string ⟨yi.toArray⟩, .slice yA yn yc, .bool yb] 33) := ⟨_, rfl⟩
    have hbr := (Below.refl w2.heap.size w2).alloc (Nat.le_refl _) (.cells #[.string ⟨yt.toArray⟩, .int .i64 yh, .string ⟨yi.toArray⟩, .slice yA yn yc, .bool yb] 33)
    have hsz2 : W2.heap.size = w2.heap.size + 1 := by rw [hW2]; simp
    have kB := Blk.new w2 33 #[.string ⟨yt.toArray⟩, .int .i64 yh, .string ⟨yi.toArray⟩, .slice yA yn yc, .bool yb]
    rw [← hW2] at hbr kB
    have hrd2 : Reads W2 B 1 yA yn (cellsK encU yl) := (hey.1.below (hbr.mono (by have := hbb.size; omega))).2.2
    have hcl := clone_any (cellsK encU yl) yn yA yc W2 B hrd2 (by have := hbb.size; omega) (cellsU_one yl) (by have := hey.2.rest; simp only at this; omega)
    have HYN := Lib.hid (show yn = yl.length from hey.1.1)
    have HBR := Lib.hid hbr
    have HSZ2 := Lib.hid hsz2
    have HKB := Lib.hid kB
    have HBB := Lib.hid hbb
    have HKR := Lib.hid kR
    clear hey hy hrk hel hbb hbr hsz2 kB hrd2 kR
    go_wp2_with fail
    rw [← hW2]
    clear hW2
    refine hcl.mono ?_
    clear hcl q0 q1 q2 q3 q4 c0 c1
    rintro e w3 ⟨v, rfl, hown3, hb3⟩
    obtain ⟨A3, c3, rfl, hc3, -, -⟩ := own_form hown3
    have hb32 : Below w2.heap.size w2 w3 := HBR.out.trans (hb3.mono (by have := HSZ2.out; omega))
    have k3 := HKB.out.below hb3 HKB.out.lt
    have kR := HKR.out.below hb32 (by omega)
    obtain ⟨⟨p0, p1, p2, p3, p4⟩, fp0, fp1, fp2, fp3, fp4⟩ := blk5F k3
    obtain ⟨⟨r0, r1, r2, r3, r4⟩, fr0, fr1, fr2, fr3, fr4⟩ := blk5F kR
    have hne : w.heap.size + 1 ≠ w2.heap.size := by omega
    have HB3 := Lib.hid (HBB.out.trans (hb32.mono (by have := HBB.out.size; omega)))
    have HO3 := Lib.hid hown3
    have HK3 := Lib.hid k3
    have HKR3 := Lib.hid kR
    have hs2 := HSZ2.out
    clear hown3 hb3 hb32 k3 kR hc3
    go_upto_region 6 with (fail)
    obtain ⟨W4, hW4⟩ : ∃ W4, W4 = w3.setCell ⟨w2.heap.size, 3, none⟩ (.slice A3 yn c3) := ⟨_, rfl⟩
    rw [← hW4]
    have kR := HKR3.out.far (p := ⟨w2.heap.size, 3, none⟩) hne (.slice A3 yn c3)
    have k4 : Blk W4 w2.heap.size 33 #[.string ⟨yt.toArray⟩, .int .i64 yh, .string ⟨yi.toArray⟩, .slice A3 yn c3, .bool yb] := by rw [hW4]; exact HK3.out.set_ 3 _
    rw [← hW4] at kR
    have HO4 : Hid (W4.ownsRow (w2.heap.size + 1) 5 1 (.slice A3 yn c3) yn (cellsK encU yl)) := by
      show World.ownsRow _ _ _ _ _ _ _
      rw [hW4]
      exact own_setCell_below (own_mono HO3.out (by omega)) (by simp only; omega) _
    have HB4 : Hid (Below w.heap.size w W4) := by
      show Below _ _ _
      rw [hW4]
      exact HB3.out.setCell (by simp only; omega) _
    clear p0 p1 p2 p3 p4 r0 r1 r2 r3 r4 fp0 fp1 fp2 fp3 fp4 fr0 fr1 fr2 fr3 fr4 hW4
    obtain ⟨⟨p0, p1, p2, p3, p4⟩, -⟩ := blk5F k4
    obtain ⟨⟨r0, r1, r2, r3, r4⟩, fr0, fr1, fr2, fr3, fr4⟩ := blk5F kR
    clear k4
    go_wp2_with fail
    have kE := ((((kR.set_ 0 (.string ⟨yt.toArray⟩)).set_ 1 (.int .i64 yh)).set_ 2 (.string ⟨yi.toArray⟩)).set_ 3 (.slice A3 yn c3)).set_ 4 (.bool yb)
    obtain ⟨⟨r0, r1, r2, r3, r4⟩, -⟩ := blk5F kE
    refine bodyPost_ret (v := .tuple #[.agg #[.string ⟨yt.toArray⟩, .int .i64 yh, .string ⟨yi.toArray⟩, .slice A3 yn c3, .bool yb], .int .i64 0]) (by simp [results, Tryd.results11, go_sem, r0, r1, r2, r3, r4]) rfl ⟨⟨yt, yh, yi, ⟨A3, yn, c3, yl⟩, yb⟩, by rw [HY0.out.2]; rfl, ⟨HYN.out, ?_⟩, HY0.out.1.symm, ?_⟩
    · refine own_mono (base := w2.heap.size + 1) ?_ (by omega)
      show World.ownsRow _ _ _ _ _ yn _
      repeat (with_reducible refine own_setCell_below ?_ (by dsimp only; omega) _)
      exact HO4.out
    · exact (((((HB4.out.setCell (by simp only; omega) _).setCell (by simp only; omega) _).setCell (by simp only; omega) _).setCell (by simp only; omega) _).setCell (by simp only; omega) _)
end Go.Proofs.YtjdebhemoeojiaaDoor
namespace Go.Proofs.YtjdebhemoeojiaaDoor
open Go.RowKit

def closeC (T : TabC) (x : BS) (h : Int) : TabC × Int := if (placeI T x h).2 = 0 then (⟨T.opn.take (placeI T x h).1.toNat ++ T.opn.drop ((placeI T x h).1.toNat + 1), T.had⟩, 0) else (⟨[], []⟩, (placeI T x h).2)
theorem cellsS_one (l : List SesR) : ∀ u ∈ cellsK encSes l, u.oneCell' = true := by
  intro u hu
  simp only [cellsK, List.mem_flatMap] at hu
  obtain ⟨x, _, hu⟩ := hu
  simp [encSes] at hu
  rcases hu with rfl | rfl | rfl | rfl | rfl <;> rfl
set_option maxRecDepth 100000 in
set_option maxHeartbeats 4000000 in
theorem close_any (t : TabR) (x : BS) (h : Int) (w : World) (B : Nat) (hr : t.rd w B) (hB : B ≤ w.heap.size) (hz : t.sz) (hmx : HasMax w) :
    Calls Tryd.prog 18 #[t.val, .string ⟨x.toArray⟩, .int .i64 h] w fun e w' => ∃ s : TabR, e = .returned (.tuple #[s.val, .int .i64 (closeC t.con x h).2]) ∧ TabO w' w.heap.size s ∧ s.con = (closeC t.con x h).1 ∧ Below w.heap.size w w' := by
  have hPl := fun W (hb : Below w.heap.size w W) => place_any t x h W B (hr.below (hb.mono hB)) (Nat.le_trans hB hb.size) hz (hmx.below hb)
  have HX := Lib.hid (fun W (hb : Below w.heap.size w W) => copied_any t W B (hr.below (hb.mono hB)) (Nat.le_trans hB hb.size) hz)
  obtain ⟨T, hT0⟩ : ∃ T, T = t.con := ⟨_, rfl⟩
  have hTo : T.opn = t.opn.l.map SesR.con := by rw [hT0]; rfl
  rw [← hT0] at hPl HX ⊢
  clear hT0
  have hcs := placeI_cs T x h
  obtain ⟨⟨oA, on, oc, ol⟩, ⟨dA, dn, dc, dl⟩⟩ := t
  have HN := Lib.hid (show on = ol.length from hr.opn.1)
  have hsz : on ≤ 1000000000 := hz.opn
  have hrh : Reads w B 5 oA on (cellsK encSes ol) := hr.opn.2.2
  have hre : ∀ y ∈ ol, y.rd w B := hr.each
  have hze : ∀ y ∈ ol, y.sz := hz.each
  show Calls Tryd.prog 18 #[.agg #[.slice oA on oc, .slice dA dn dc], .string ⟨x.toArray⟩, .int .i64 h] w _
  have hb1 := (Below.refl w.heap.size w).alloc (Nat.le_refl _) (.cells #[.slice oA on oc, .slice dA dn dc] 25)
  have kT := Blk.new w 25 #[.slice oA on oc, .slice dA dn dc]
  obtain ⟨W1, hW1⟩ : ∃ W, W = w.alloc (.cells #[.slice oA on oc, .slice dA dn dc] 25) := ⟨_, rfl⟩
  have hsz1 : W1.heap.size = w.heap.size + 1 := by rw [hW1]; simp
  rw [← hW1] at hb1 kT
  have hT := Lib.hid (fun (W' : World) (hB' : Below W1.heap.size W1 W') => (⟨(kT.below hB' (by omega)).cell 0, (kT.below hB' (by omega)).cell 1⟩ : W'.cell? ⟨w.heap.size, 0, none⟩ = some (.slice oA on oc) ∧ W'.cell? ⟨w.heap.size, 1, none⟩ = some (.slice dA dn dc)))
  obtain ⟨W0, hW0⟩ : ∃ W, W = W1.alloc (.cells #[.slice none 0 0, .slice none 0 0] 25) := ⟨_, rfl⟩
  have kR := Blk.new W1 25 #[.slice none 0 0, .slice none 0 0]
  have hb01 := (Below.refl W1.heap.size W1).alloc (Nat.le_refl _) (.cells #[.slice none 0 0, .slice none 0 0] 25)
  have kT0 := kT.alloc (.cells #[.slice none 0 0, .slice none 0 0] 25)
  have hsz0 : W0.heap.size = w.heap.size + 2 := by rw [hW0]; show (World.heap _ |>.push _).size = _; rw [Array.size_push, hsz1]
  rw [← hW0] at kR hb01 kT0
  rw [hsz1] at kR
  have hb0 : Below w.heap.size w W0 := hb1.trans (hb01.mono (by omega))
  have hrw : Hid (∀ W, Below W0.heap.size W0 W → Reads W B 5 oA on (cellsK encSes ol) ∧ w.heap.size + 1 < W.heap.size ∧ Below w.heap.size w W ∧ (∀ y ∈ ol, y.rd W B ∧ y.sz)) := by
    show ∀ W, _ → _
    intro W h
    have h1 := hb0.trans (h.mono (by omega))
    exact ⟨hrh.below (h1.mono hB), by have := h.size; omega, h1, fun y hy => ⟨(hre y hy).below (h1.mono hB), hze y hy⟩⟩
  have hc := hPl W0 hb0
  obtain ⟨⟨c0, c1⟩, -⟩ := blk2T kT0
  have HSZ0 := Lib.hid hsz0
  have KR := Lib.hid kR
  have KT := Lib.hid kT0
  have HTO := Lib.hid hTo
  rw [hW0, hW1] at c0 c1
  clear hb1 kT hr hz hsz1 hrh hre hze kR hb01 kT0 hsz0 hb0 hT hTo hPl hmx
  go_enter Tryd.func18, Tryd.ntmps18
  go_wp2_with fail
  rw [← hW1, ← hW0]
  refine hc.mono ?_
  clear hc c0 c1 hW0 hW1
  rintro e w2 ⟨rfl, hb2⟩
  have HB2 := Lib.hid hb2
  have kR := KR.out.below hb2 (by have := HSZ0.out; omega)
  obtain ⟨⟨c0, c1⟩, -⟩ := blk2T (KT.out.below hb2 (by have := HSZ0.out; omega))
  clear hb2
  rcases hcs with hpi | hpi | ⟨k, hkT, hpi, -, -, -⟩
  · obtain ⟨HPI⟩ : Nonempty (Hid (placeI T x h = (0, 9))) := ⟨hpi⟩
    rw [hpi]
    clear hpi
    obtain ⟨⟨r0, r1⟩, fr0, fr1⟩ := blk2T kR
    go_wp2_with fail
    have kE := (kR.set_ 0 (.slice none 0 0)).set_ 1 (.slice none 0 0)
    obtain ⟨⟨r0, r1⟩, -⟩ := blk2T kE
    refine bodyPost_ret (v := .tuple #[.agg #[.slice none 0 0, .slice none 0 0], .int .i64 9]) (by simp [results, Tryd.results18, go_sem, r0, r1]) rfl ?_
    refine ⟨⟨⟨none, 0, 0, []⟩, ⟨none, 0, 0, []⟩⟩, by unfold closeC; rw [HPI.out, if_neg (by decide)]; rfl, ⟨⟨rfl, World.ownsRow_nil _ _ _ _⟩, (fun y hy => by cases hy), ⟨rfl, World.ownsRow_nil _ _ _ _⟩⟩, by unfold closeC; rw [HPI.out, if_neg (by decide)]; rfl, ?_⟩
    exact (((hrw.out _ HB2.out).2.2.1.setCell (by simp only; omega) _).setCell (by simp only; omega) _)
  · obtain ⟨HPI⟩ : Nonempty (Hid (placeI T x h = (0, 72))) := ⟨hpi⟩
    rw [hpi]
    clear hpi
    obtain ⟨⟨r0, r1⟩, fr0, fr1⟩ := blk2T kR
    go_wp2_with fail
    have kE := (kR.set_ 0 (.slice none 0 0)).set_ 1 (.slice none 0 0)
    obtain ⟨⟨r0, r1⟩, -⟩ := blk2T kE
    refine bodyPost_ret (v := .tuple #[.agg #[.slice none 0 0, .slice none 0 0], .int .i64 72]) (by simp [results, Tryd.results18, go_sem, r0, r1]) rfl ?_
    refine ⟨⟨⟨none, 0, 0, []⟩, ⟨none, 0, 0, []⟩⟩, by unfold closeC; rw [HPI.out, if_neg (by decide)]; rfl, ⟨⟨rfl, World.ownsRow_nil _ _ _ _⟩, (fun y hy => by cases hy), ⟨rfl, World.ownsRow_nil _ _ _ _⟩⟩, by unfold closeC; rw [HPI.out, if_neg (by decide)]; rfl, ?_⟩
    exact (((hrw.out _ HB2.out).2.2.1.setCell (by simp only; omega) _).setCell (by simp only; omega) _)
  · obtain ⟨HPI⟩ : Nonempty (Hid (placeI T x h = ((k : Int), 0))) := ⟨hpi⟩
    rw [hpi]
    clear hpi
    obtain ⟨-, hsl, hbb, -⟩ := hrw.out w2 HB2.out
    have hcp := HX.out w2 hbb
    have HY0 : Hid ((closeC T x h).1 = ⟨T.opn.take k ++ T.opn.drop (k + 1), T.had⟩ ∧ (closeC T x h).2 = 0) := by
      show _ ∧ _
      unfold closeC
      rw [HPI.out, if_pos rfl]
      exact ⟨rfl, rfl⟩
    have HBB := Lib.hid hbb
    have HKR := Lib.hid kR
    have HSL := Lib.hid hsl
    clear hbb kR hsl
    go_wp2_with fail
    refine hcp.mono ?_
    clear hcp c0 c1
    rintro e w3 ⟨⟨⟨sA, sn, sc, sl⟩, ⟨eA, en, ec, el⟩⟩, he, hO3, hcon, hb3⟩
    replace he : e = .returned (.agg #[.slice sA sn sc, .slice eA en ec]) := he
    subst he
    have hTs : T.opn = sl.map SesR.con := (congrArg TabC.opn hcon).symm
    have hTd : T.had = el := (congrArg TabC.had hcon).symm
    have hsn : sn = sl.length := hO3.opn.1
    have hks : k < sn := by rw [hsn, ← List.length_map (f := SesR.con), ← hTs]; exact hkT
    have hsn2 : sn = on := by
      have h1 := congrArg List.length (hTs.symm.trans HTO.out)
      rw [List.length_map, List.length_map] at h1
      have := HN.out
      omega
    obtain ⟨g, hg⟩ : ∃ g, g = w3.heap.size := ⟨_, rfl⟩
    have hba := (Below.refl w3.heap.size w3).alloc (Nat.le_refl _) (.cells #[.slice sA sn sc, .slice eA en ec] 25)
    have kG := Blk.new w3 25 #[.slice sA sn sc, .slice eA en ec]
    have hO4 := hO3.below hba
    obtain ⟨W4, hW4⟩ : ∃ W, W = w3.alloc (.cells #[.slice sA sn sc, .slice eA en ec] 25) := ⟨_, rfl⟩
    rw [← hW4] at hba kG hO4
    rw [← hg] at kG
    have hszg : W4.heap.size = g + 1 := by rw [hW4, hg]; show (World.heap _ |>.push _).size = _; rw [Array.size_push]
    have hg2 : w2.heap.size ≤ g := by rw [hg]; exact hb3.size
    have hdl := delT_any (cellsK encSes sl) (cellsS_one sl) sn k sc w2.heap.size sA W4 hks (by omega) hO4.opn.2
    have hks1 : (k : Int) < (sn : Int) := by omega
    have hwr : IntKind.i64.wrap ((k : Int) + 1) = (k : Int) + 1 := IntWalk.i64_in _ (by omega)
    have hb24 : Below w2.heap.size w2 W4 := hb3.trans (hba.mono hb3.size)
    have HO4 := Lib.hid hO4
    have KG := Lib.hid kG
    have HB24 := Lib.hid hb24
    have HBW4 := Lib.hid (HBB.out.trans (hb24.mono (by have := HBB.out.size; omega)))
    have HKR4 := Lib.hid (HKR.out.below hb24 (by have := HSL.out; omega))
    have HSNN := Lib.hid hsn
    have HSN2 := Lib.hid hsn2
    have HTS := Lib.hid hTs
    have HTD := Lib.hid hTd
    clear hO3 hcon hb3 hba kG hO4 hb24 hsn hsn2 hTs hTd
    go_wp2_with fail
    rw [← hW4]
    clear hW4
    rw [← hg]
    clear hg
    refine hdl.mono ?_
    clear hdl
    rintro e w5 ⟨v5, rfl, hown5, hg5⟩
    obtain ⟨A5, c5, rfl, -, -, -⟩ := own_form hown5
    have hxs : (cellsK encSes sl).take (k * 5) ++ (cellsK encSes sl).drop ((k + 1) * 5) = cellsK encSes (sl.take k ++ sl.drop (k + 1)) := by
      rw [cellsK_append, cellsK_take (k := 5) (fun _ => rfl), cellsK_drop (k := 5) (fun _ => rfl)]
    rw [hxs] at hown5
    have hK5 := KeepsT.of_grown HO4.out.opn.2 hg5
    have kG := hK5 _ _ _ (by decide) KG.out
    have kR : Blk w5 (w.heap.size + 1) 25 #[.slice none 0 0, .slice none 0 0] := hK5 _ _ _ (by decide) HKR4.out
    have hb5 : Below w.heap.size w w5 := HBW4.out.grown hg5 (by have := HBW4.out.size; omega) (fun q hq => Nat.le_trans (by have := HBB.out.size; omega) (HO4.out.opn.2.lt q hq).1)
    have hne : w.heap.size + 1 ≠ g := by have := HSL.out; omega
    obtain ⟨⟨g0, g1⟩, fg0, fg1⟩ := blk2T kG
    have HO5 := Lib.hid hown5
    have HK5 := Lib.hid hK5
    have HKG := Lib.hid kG
    have HKR5 := Lib.hid kR
    have HB5 := Lib.hid hb5
    have hslw := HSL.out
    clear hown5 hg5 hxs hK5 kG kR hb5
    go_upto_region 6 with (fail)
    obtain ⟨W6, hW6⟩ : ∃ W, W = w5.setCell ⟨g, 0, none⟩ (.slice A5 (sn - 1) c5) := ⟨_, rfl⟩
    rw [← hW6]
    have kG := HKG.out.set_ 0 (.slice A5 (sn - 1) c5)
    have kR := HKR5.out.far (p := ⟨g, 0, none⟩) hne (.slice A5 (sn - 1) c5)
    rw [← hW6] at kG kR
    obtain ⟨⟨g0, g1⟩, -⟩ := blk2T kG
    obtain ⟨⟨r0, r1⟩, fr0, fr1⟩ := blk2T kR
    have hT6 : KeepsT 25 w5 W6 := by rw [hW6]; exact KeepsT.of_box HKG.out
    have HT6 := Lib.hid hT6
    have HB6 : Hid (Below w.heap.size w W6) := by
      show Below _ _ _
      rw [hW6]
      exact HB5.out.setCell (by simp only; omega) _
    clear fg0 fg1 kG hT6 hW6
    go_wp2_with fail
    have kE := (kR.set_ 0 (.slice A5 (sn - 1) c5)).set_ 1 (.slice eA en ec)
    obtain ⟨⟨r0, r1⟩, -⟩ := blk2T kE
    obtain ⟨W8, hW8⟩ : ∃ W, W = (W6.setCell ⟨w.heap.size + 1, 0, none⟩ (.slice A5 (sn - 1) c5)).setCell ⟨w.heap.size + 1, 1, none⟩ (.slice eA en ec) := ⟨_, rfl⟩
    have hT8 : KeepsT 25 w5 W8 := by rw [hW8]; exact HT6.out.trans ((KeepsT.of_box kR).trans (KeepsT.of_box (kR.set_ 0 (.slice A5 (sn - 1) c5))))
    refine bodyPost_ret (v := .tuple #[.agg #[.slice A5 (sn - 1) c5, .slice eA en ec], .int .i64 0]) (by simp [results, Tryd.results18, go_sem, r0, r1]) rfl ⟨⟨⟨A5, sn - 1, c5, sl.take k ++ sl.drop (k + 1)⟩, ⟨eA, en, ec, el⟩⟩, by rw [HY0.out.2]; rfl, ⟨⟨?_, ?_⟩, fun y hy => ⟨?_, ?_⟩, ⟨HO4.out.had.1, ?_⟩⟩, ?_, ?_⟩
    · show sn - 1 = _
      rw [List.length_append, List.length_take, List.length_drop]
      have := HSNN.out
      omega
    · rw [← hW8]
      exact own_mono (hT8.own HO5.out (by decide)) (by have := HBB.out.size; omega)
    · rcases List.mem_append.1 hy with hy | hy
      · exact (HO4.out.each y (List.mem_of_mem_take hy)).1
      · exact (HO4.out.each y (List.mem_of_mem_drop hy)).1
    · rw [← hW8]
      have hy2 : y ∈ sl := by
        rcases List.mem_append.1 hy with hy | hy
        · exact List.mem_of_mem_take hy
        · exact List.mem_of_mem_drop hy
      exact own_mono (hT8.own (HK5.out.own (HO4.out.each y hy2).2 (by decide)) (by decide)) (by have := HBB.out.size; omega)
    · rw [← hW8]
      exact own_mono (hT8.own (HK5.out.own HO4.out.had.2 (by decide)) (by decide)) (by have := HBB.out.size; omega)
    · show TabC.mk _ _ = _
      rw [HY0.out.1, HTS.out, HTD.out, List.map_append, List.map_take, List.map_drop]
    · exact (HB6.out.setCell (by simp only; omega) _).setCell (by simp only; omega) _
end Go.Proofs.YtjdebhemoeojiaaDoor
namespace Go.Proofs.YtjdebhemoeojiaaDoor
open Go.RowKit

/-- how sessions stand to one of a tenant's and a handle -/
def cfT (x : BS) (n : Int) : SesC → Int := fun s => cmpT s.ten s.hd x n
theorem cfT_asc (l : List SesC) (h : SortT l) (x : BS) (n : Int) : SignAsc (cfT x n) l := by
  intro i j a b hij ha hb hlt
  obtain ⟨hi, hai⟩ := List.getElem?_eq_some_iff.1 ha
  obtain ⟨hj, hbj⟩ := List.getElem?_eq_some_iff.1 hb
  have := List.pairwise_iff_getElem.1 h i j hi hj hij
  rw [hai, hbj] at this
  exact cmpT_trans this hlt
theorem posF_map {α β : Type} (f : α → β) (cf : β → Int) (l : List α) : posF cf (l.map f) = posF (fun x => cf (f x)) l := by
  unfold posF
  rw [List.takeWhile_map, List.length_map]
  rfl
theorem signAsc_map {α β : Type} (f : α → β) (cf : β → Int) (l : List α) (h : SignAsc cf (l.map f)) : SignAsc (fun x => cf (f x)) l := by
  intro i j a b hij ha hb hlt
  exact h i j (f a) (f b) hij (by rw [List.getElem?_map, ha]; rfl) (by rw [List.getElem?_map, hb]; rfl) hlt
def openE (T : TabC) (x z : BS) : Int :=
  if tabE T = 9 then 9 else if nameB x = false ∨ sePath z = false then 31 else if 0 < seAt T.opn x z then 44 else if (seOf T.opn x).length = 16 then 3 else if seHad T.had x = 1099511627776 then 15 else 0
def openN (T : TabC) (x : BS) : Int := seHad (putH T.had x) x
def openL (T : TabC) (x z : BS) : TabC := ⟨T.opn.take (posF (cfT x (openN T x)) T.opn) ++ [⟨x, openN T x, z, [], false⟩] ++ T.opn.drop (posF (cfT x (openN T x)) T.opn), putH T.had x⟩
def openC (T : TabC) (x z : BS) : TabC × Int := if openE T x z = 0 then (openL T x z, openN T x) else (⟨[], []⟩, 0)
theorem putH_len (l : List HadT) (x : BS) : (putH l x).length ≤ l.length + 1 := by
  unfold putH
  split
  · simp only [List.length_append, List.length_take, List.length_drop, List.length_cons, List.length_nil]; omega
  · simp only [List.length_append, List.length_take, List.length_drop, List.length_cons, List.length_nil]; omega
theorem putH_each (l : List HadT) (x : BS) (N : Nat) (hx : x.length ≤ N) (h : ∀ y ∈ l, y.1.length ≤ N) : ∀ y ∈ putH l x, y.1.length ≤ N := by
  intro y hy
  unfold putH at hy
  split at hy
  · rcases List.mem_append.1 hy with hy | hy
    · rcases List.mem_append.1 hy with hy | hy
      · exact h y (List.mem_of_mem_take hy)
      · rw [List.mem_singleton.1 hy]; exact hx
    · exact h y (List.mem_of_mem_drop hy)
  · rcases List.mem_append.1 hy with hy | hy
    · rcases List.mem_append.1 hy with hy | hy
      · exact h y (List.mem_of_mem_take hy)
      · rw [List.mem_singleton.1 hy]; exact hx
    · exact h y (List.mem_of_mem_drop hy)
set_option maxRecDepth 100000 in
set_option maxHeartbeats 8000000 in
theorem open_any (t : TabR) (x z : BS) (hxl : x.length ≤ 4000000000) (hzl : z.length ≤ 4000000000) (w : World) (B : Nat) (hr : t.rd w B) (hB : B ≤ w.heap.size) (hz : t.sz) (hz9 : t.opn.n ≤ 900000000 ∧ t.had.n ≤ 900000000) (hmx : HasMax w) :
    Calls Tryd.prog 10 #[t.val, .string ⟨x.toArray⟩, .string ⟨z.toArray⟩] w fun e w' => ∃ s : TabR, e = .returned (.tuple #[s.val, .int .i64 (openC t.con x z).2, .int .i64 (openE t.con x z)]) ∧ TabO w' w.heap.size s ∧ s.con = (openC t.con x z).1 ∧ Below w.heap.size w w' := by
  have hCk := fun W (hb : Below w.heap.size w W) => check_any t W B (hr.below (hb.mono hB)) (Nat.le_trans hB hb.size) hz (hmx.below hb)
  have hAt := fun W (hb : Below w.heap.size w W) => at_any t x z W B (hr.below (hb.mono hB)) (Nat.le_trans hB hb.size) hz
  have hHd := fun W (hb : Below w.heap.size w W) => had_any t x W B (hr.below (hb.mono hB)) (Nat.le_trans hB hb.size) hz
  have hOf := fun W (hb : Below w.heap.size w W) => of_any t x W B (hr.below (hb.mono hB)) (Nat.le_trans hB hb.size) hz
  have hCpy := fun W (hb : Below w.heap.size w W) => copied_any t W B (hr.below (hb.mono hB)) (Nat.le_trans hB hb.size) hz
  have hSZ : Hid (∀ s : TabR, s.con = t.con → s.opn.n = s.opn.l.length → (∀ y ∈ s.opn.l, y.rest.n = y.rest.l.length) → s.had.n = s.had.l.length → s.sz) := fun s h h1 h2 h3 => TabR.sz_of_con hz h h1 h2 h3 hr.opn.1 (fun y hy => (hr.each y hy).1) hr.had.1
  have hSZ2 : Hid (∀ s : TabR, s.con = t.con → s.opn.n = s.opn.l.length → s.had.n = s.had.l.length → s.opn.n ≤ 900000000 ∧ s.had.n ≤ 900000000) := by
    show ∀ s, _ → _ → _ → _
    intro s h h1 h3
    have ho := congrArg List.length (show s.opn.l.map SesR.con = t.opn.l.map SesR.con from congrArg TabC.opn h)
    have hh := congrArg List.length (show s.had.l = t.had.l from congrArg TabC.had h)
    rw [List.length_map, List.length_map] at ho
    have e1 := hr.opn.1
    have e2 := hr.had.1
    omega
  obtain ⟨T, hT0⟩ : ∃ T, T = t.con := ⟨_, rfl⟩
  rw [← hT0] at hCk hAt hHd hOf hCpy hSZ hSZ2 ⊢
  clear hT0
  obtain ⟨⟨oA, on, oc, ol⟩, ⟨dA, dn, dc, dl⟩⟩ := t
  show Calls Tryd.prog 10 #[.agg #[.slice oA on oc, .slice dA dn dc], .string ⟨x.toArray⟩, .string ⟨z.toArray⟩] w _
  have hb1 := (Below.refl w.heap.size w).alloc (Nat.le_refl _) (.cells #[.slice oA on oc, .slice dA dn dc] 25)
  have kT := Blk.new w 25 #[.slice oA on oc, .slice dA dn dc]
  obtain ⟨W1, hW1⟩ : ∃ W, W = w.alloc (.cells #[.slice oA on oc, .slice dA dn dc] 25) := ⟨_, rfl⟩
  have hsz1 : W1.heap.size = w.heap.size + 1 := by rw [hW1]; simp
  rw [← hW1] at hb1 kT
  have hT := Lib.hid (fun (W' : World) (hB' : Below W1.heap.size W1 W') => (⟨(kT.below hB' (by omega)).cell 0, (kT.below hB' (by omega)).cell 1⟩ : W'.cell? ⟨w.heap.size, 0, none⟩ = some (.slice oA on oc) ∧ W'.cell? ⟨w.heap.size, 1, none⟩ = some (.slice dA dn dc)))
  obtain ⟨W0, hW0⟩ : ∃ W, W = W1.alloc (.cells #[.slice none 0 0, .slice none 0 0] 25) := ⟨_, rfl⟩
  have kR := Blk.new W1 25 #[.slice none 0 0, .slice none 0 0]
  have hb01 := (Below.refl W1.heap.size W1).alloc (Nat.le_refl _) (.cells #[.slice none 0 0, .slice none 0 0] 25)
  have kT0 := kT.alloc (.cells #[.slice none 0 0, .slice none 0 0] 25)
  have hsz0 : W0.heap.size = w.heap.size + 2 := by rw [hW0]; show (World.heap _ |>.push _).size = _; rw [Array.size_push, hsz1]
  rw [← hW0] at kR hb01 kT0
  rw [hsz1] at kR
  have hb0 : Below w.heap.size w W0 := hb1.trans (hb01.mono (by omega))
  have HUP : Hid (∀ W, Below W0.heap.size W0 W → Below w.heap.size w W) := fun W h => hb0.trans (h.mono (by omega))
  have hCk : Hid (∀ W, Below W0.heap.size W0 W → Calls Tryd.prog 29 #[.agg #[.slice oA on oc, .slice dA dn dc]] W fun e W' => e = .returned (.int .i64 (tabE T)) ∧ Below W.heap.size W W') := fun W h => hCk W (HUP.out W h)
  have hNa : Hid (∀ W, Below W0.heap.size W0 W → Calls Tryd.prog 30 #[.string ⟨x.toArray⟩] W fun e W' => e = .returned (.bool (nameB x)) ∧ Below W.heap.size W W') := fun W _ => name_any ⟨x.toArray⟩ W
  have hPa : Hid (∀ W, Below W0.heap.size W0 W → Calls Tryd.prog 31 #[.string ⟨z.toArray⟩] W fun e W' => e = .returned (.bool (sePath z)) ∧ Below W.heap.size W W') := fun W h => sePath_any z W hzl (hmx.below (HUP.out W h))
  have hAt : Hid (∀ W, Below W0.heap.size W0 W → Calls Tryd.prog 28 #[.agg #[.slice oA on oc, .slice dA dn dc], .string ⟨x.toArray⟩, .string ⟨z.toArray⟩] W fun e W' => e = .returned (.int .i64 (seAt T.opn x z)) ∧ Below W.heap.size W W') := fun W h => hAt W (HUP.out W h)
  have hHd : Hid (∀ W, Below W0.heap.size W0 W → Calls Tryd.prog 32 #[.agg #[.slice oA on oc, .slice dA dn dc], .string ⟨x.toArray⟩] W fun e W' => e = .returned (.int .i64 (seHad T.had x)) ∧ Below W.heap.size W W') := fun W h => hHd W (HUP.out W h)
  obtain ⟨m, hm⟩ : ∃ m, m = (seOf T.opn x).length := ⟨_, rfl⟩
  have hOf : Hid (∀ W, Below W0.heap.size W0 W → Calls Tryd.prog 19 #[.agg #[.slice oA on oc, .slice dA dn dc], .string ⟨x.toArray⟩] W fun e W' => ∃ A c, e = .returned (.slice A m c) ∧ Below W.heap.size W W') := by
    show ∀ W, _ → _
    intro W h
    refine (hOf W (HUP.out W h)).mono ?_
    rintro e W' ⟨s, rfl, ho, _, hcon, hb⟩
    refine ⟨s.A, s.c, ?_, hb⟩
    rw [hm, ← hcon, List.length_map, ← ho.1]
    rfl
  have hCpy : Hid (∀ W, Below W0.heap.size W0 W → Calls Tryd.prog 33 #[.agg #[.slice oA on oc, .slice dA dn dc]] W fun e W' => ∃ s : TabR, e = .returned s.val ∧ TabO W' W.heap.size s ∧ s.con = T ∧ Below W.heap.size W W') := fun W h => hCpy W (HUP.out W h)
  have hE9 := tabE_09 T
  have HVC : Hid (openC T x z = if openE T x z = 0 then (openL T x z, openN T x) else (⟨[], []⟩, 0)) := rfl
  have HV0 : Hid (openE T x z = if tabE T = 9 then 9 else if nameB x = false ∨ sePath z = false then 31 else if 0 < seAt T.opn x z then 44 else if m = 16 then 3 else if seHad T.had x = 1099511627776 then 15 else 0) := by show _ = _; rw [hm]; rfl
  obtain ⟨V, hV⟩ : ∃ V, V = openE T x z := ⟨_, rfl⟩
  rw [← hV] at HVC HV0 ⊢
  have HV := HV0
  obtain ⟨E, hE⟩ : ∃ E, E = tabE T := ⟨_, rfl⟩
  rw [← hE] at HV hCk hE9
  have HE0 := Lib.hid hE
  obtain ⟨bN, hbN⟩ : ∃ b, b = nameB x := ⟨_, rfl⟩
  rw [← hbN] at HV hNa
  obtain ⟨bP, hbP⟩ : ∃ b, b = sePath z := ⟨_, rfl⟩
  rw [← hbP] at HV hPa
  obtain ⟨zA, hzA⟩ : ∃ b, b = seAt T.opn x z := ⟨_, rfl⟩
  rw [← hzA] at HV hAt
  obtain ⟨zH, hzH⟩ : ∃ b, b = seHad T.had x := ⟨_, rfl⟩
  rw [← hzH] at HV hHd
  have HSZ0 := Lib.hid hsz0
  have KR := Lib.hid kR
  have KT := Lib.hid kT0
  have hc := hCk.out _ (Below.refl _ _)
  obtain ⟨⟨c0, c1⟩, -⟩ := blk2T kT0
  rw [hW0, hW1] at c0 c1
  clear hb1 kT hr hz hsz1 kR hb01 kT0 hsz0 hb0 hT hm hV hE hbN hbP hzA hzH HV0 hz9 hCk
  go_enter Tryd.func10, Tryd.ntmps10
  go_wp2_with fail
  rw [← hW1, ← hW0]
  refine hc.mono ?_
  clear hc c0 c1 hW0 hW1
  rintro e w2 ⟨rfl, hb2⟩
  have HB2 := Lib.hid hb2
  clear hb2
  rcases hE9 with rfl | rfl
  case inr =>
    have HF : Hid (V = 9) := by show _ = _; rw [HV.out, if_pos rfl]
    have kR := KR.out.below HB2.out (by have := HSZ0.out; omega)
    obtain ⟨⟨r0, r1⟩, fr0, fr1⟩ := blk2T kR
    go_wp2_with fail
    have kE := (kR.set_ 0 (.slice none 0 0)).set_ 1 (.slice none 0 0)
    obtain ⟨⟨r0, r1⟩, -⟩ := blk2T kE
    refine bodyPost_ret (v := .tuple #[.agg #[.slice none 0 0, .slice none 0 0], .int .i64 0, .int .i64 9]) (by simp [results, Tryd.results10, go_sem, r0, r1]) rfl ⟨⟨⟨none, 0, 0, []⟩, ⟨none, 0, 0, []⟩⟩, by rw [HF.out, HVC.out, if_neg (by rw [HF.out]; decide)]; rfl, ⟨⟨rfl, World.ownsRow_nil _ _ _ _⟩, (fun y hy => by cases hy), ⟨rfl, World.ownsRow_nil _ _ _ _⟩⟩, by rw [HVC.out, if_neg (by rw [HF.out]; decide)]; rfl, ?_⟩
    exact (((HUP.out _ HB2.out).setCell (by simp only; omega) _).setCell (by simp only; omega) _)
  case inl =>
    have hc := hNa.out _ HB2.out
    obtain ⟨⟨c0, c1⟩, -⟩ := blk2T (KT.out.below HB2.out (by have := HSZ0.out; omega))
    go_wp2_with fail
    refine hc.mono ?_
    clear hc c0 c1
    rintro e w3 ⟨rfl, hbn⟩
    have HB3 := Lib.hid (HB2.out.trans (hbn.mono HB2.out.size))
    clear hbn
    obtain ⟨⟨c0, c1⟩, -⟩ := blk2T (KT.out.below HB3.out (by have := HSZ0.out; omega))
    cases bN with
    | false =>
      have HF : Hid (V = 31) := by show _ = _; rw [HV.out, if_neg (by decide), if_pos (.inl rfl)]
      have kR := KR.out.below HB3.out (by have := HSZ0.out; omega)
      obtain ⟨⟨r0, r1⟩, fr0, fr1⟩ := blk2T kR
      go_wp2_with fail
      have kE := (kR.set_ 0 (.slice none 0 0)).set_ 1 (.slice none 0 0)
      obtain ⟨⟨r0, r1⟩, -⟩ := blk2T kE
      refine bodyPost_ret (v := .tuple #[.agg #[.slice none 0 0, .slice none 0 0], .int .i64 0, .int .i64 31]) (by simp [results, Tryd.results10, go_sem, r0, r1]) rfl ⟨⟨⟨none, 0, 0, []⟩, ⟨none, 0, 0, []⟩⟩, by rw [HF.out, HVC.out, if_neg (by rw [HF.out]; decide)]; rfl, ⟨⟨rfl, World.ownsRow_nil _ _ _ _⟩, (fun y hy => by cases hy), ⟨rfl, World.ownsRow_nil _ _ _ _⟩⟩, by rw [HVC.out, if_neg (by rw [HF.out]; decide)]; rfl, ?_⟩
      exact (((HUP.out _ HB3.out).setCell (by simp only; omega) _).setCell (by simp only; omega) _)
    | true =>
      have hc := hPa.out _ HB3.out
      obtain ⟨⟨c0, c1⟩, -⟩ := blk2T (KT.out.below HB3.out (by have := HSZ0.out; omega))
      go_wp2_with fail
      refine hc.mono ?_
      clear hc c0 c1
      rintro e w4 ⟨rfl, hbn⟩
      have HB4 := Lib.hid (HB3.out.trans (hbn.mono HB3.out.size))
      clear hbn
      obtain ⟨⟨c0, c1⟩, -⟩ := blk2T (KT.out.below HB4.out (by have := HSZ0.out; omega))
      cases bP with
      | false =>
        have HF : Hid (V = 31) := by show _ = _; rw [HV.out, if_neg (by decide), if_pos (.inr rfl)]
        have kR := KR.out.below HB4.out (by have := HSZ0.out; omega)
        obtain ⟨⟨r0, r1⟩, fr0, fr1⟩ := blk2T kR
        go_wp2_with fail
        have kE := (kR.set_ 0 (.slice none 0 0)).set_ 1 (.slice none 0 0)
        obtain ⟨⟨r0, r1⟩, -⟩ := blk2T kE
        refine bodyPost_ret (v := .tuple #[.agg #[.slice none 0 0, .slice none 0 0], .int .i64 0, .int .i64 31]) (by simp [results, Tryd.results10, go_sem, r0, r1]) rfl ⟨⟨⟨none, 0, 0, []⟩, ⟨none, 0, 0, []⟩⟩, by rw [HF.out, HVC.out, if_neg (by rw [HF.out]; decide)]; rfl, ⟨⟨rfl, World.ownsRow_nil _ _ _ _⟩, (fun y hy => by cases hy), ⟨rfl, World.ownsRow_nil _ _ _ _⟩⟩, by rw [HVC.out, if_neg (by rw [HF.out]; decide)]; rfl, ?_⟩
        exact (((HUP.out _ HB4.out).setCell (by simp only; omega) _).setCell (by simp only; omega) _)
      | true =>
        have hc := hAt.out _ HB4.out
        obtain ⟨⟨c0, c1⟩, -⟩ := blk2T (KT.out.below HB4.out (by have := HSZ0.out; omega))
        go_wp2_with fail
        refine hc.mono ?_
        clear hc c0 c1
        rintro e w5 ⟨rfl, hbn⟩
        have HB5 := Lib.hid (HB4.out.trans (hbn.mono HB4.out.size))
        clear hbn
        obtain ⟨⟨c0, c1⟩, -⟩ := blk2T (KT.out.below HB5.out (by have := HSZ0.out; omega))
        by_cases hA : 0 < zA
        · have dA1 : decide (0 < zA) = true := by simpa using hA
          have HA0 := Lib.hid hA
          have HF : Hid (V = 44) := by show _ = _; rw [HV.out, if_neg (by decide), if_neg (by simp), if_pos HA0.out]
          have kR := KR.out.below HB5.out (by have := HSZ0.out; omega)
          obtain ⟨⟨r0, r1⟩, fr0, fr1⟩ := blk2T kR
          go_wp2_with fail
          have kE := (kR.set_ 0 (.slice none 0 0)).set_ 1 (.slice none 0 0)
          obtain ⟨⟨r0, r1⟩, -⟩ := blk2T kE
          refine bodyPost_ret (v := .tuple #[.agg #[.slice none 0 0, .slice none 0 0], .int .i64 0, .int .i64 44]) (by simp [results, Tryd.results10, go_sem, r0, r1]) rfl ⟨⟨⟨none, 0, 0, []⟩, ⟨none, 0, 0, []⟩⟩, by rw [HF.out, HVC.out, if_neg (by rw [HF.out]; decide)]; rfl, ⟨⟨rfl, World.ownsRow_nil _ _ _ _⟩, (fun y hy => by cases hy), ⟨rfl, World.ownsRow_nil _ _ _ _⟩⟩, by rw [HVC.out, if_neg (by rw [HF.out]; decide)]; rfl, ?_⟩
          exact (((HUP.out _ HB5.out).setCell (by simp only; omega) _).setCell (by simp only; omega) _)
        have dA1 : decide (0 < zA) = false := by simpa using hA
        have HA0 := Lib.hid hA
        clear hA
        have hc := hOf.out _ HB5.out
        obtain ⟨⟨c0, c1⟩, -⟩ := blk2T (KT.out.below HB5.out (by have := HSZ0.out; omega))
        go_wp2_with fail
        refine hc.mono ?_
        clear hc c0 c1
        rintro e w55 ⟨oA5, oc5, rfl, hbn⟩
        have HB55 := Lib.hid (HB5.out.trans (hbn.mono HB5.out.size))
        clear hbn
        obtain ⟨⟨c0, c1⟩, -⟩ := blk2T (KT.out.below HB55.out (by have := HSZ0.out; omega))
        by_cases hM : m = 16
        · have dM1 : ((m : Int) == 16) = true := by simp; omega
          have dM2 : decide ((m : Int) = 16) = true := by simp; omega
          have HM0 := Lib.hid hM
          clear hM
          have HF : Hid (V = 3) := by show _ = _; rw [HV.out, if_neg (by decide), if_neg (by simp), if_neg (by have := HA0.out; omega), if_pos HM0.out]
          have kR := KR.out.below HB55.out (by have := HSZ0.out; omega)
          obtain ⟨⟨r0, r1⟩, fr0, fr1⟩ := blk2T kR
          go_wp2_with fail
          have kE := (kR.set_ 0 (.slice none 0 0)).set_ 1 (.slice none 0 0)
          obtain ⟨⟨r0, r1⟩, -⟩ := blk2T kE
          refine bodyPost_ret (v := .tuple #[.agg #[.slice none 0 0, .slice none 0 0], .int .i64 0, .int .i64 3]) (by simp [results, Tryd.results10, go_sem, r0, r1]) rfl ⟨⟨⟨none, 0, 0, []⟩, ⟨none, 0, 0, []⟩⟩, by rw [HF.out, HVC.out, if_neg (by rw [HF.out]; decide)]; rfl, ⟨⟨rfl, World.ownsRow_nil _ _ _ _⟩, (fun y hy => by cases hy), ⟨rfl, World.ownsRow_nil _ _ _ _⟩⟩, by rw [HVC.out, if_neg (by rw [HF.out]; decide)]; rfl, ?_⟩
          exact (((HUP.out _ HB55.out).setCell (by simp only; omega) _).setCell (by simp only; omega) _)
        have dM1 : ((m : Int) == 16) = false := by simp; omega
        have dM2 : decide ((m : Int) = 16) = false := by simp; omega
        have HM0 := Lib.hid hM
        clear hM
        have hc := hHd.out _ HB55.out
        obtain ⟨⟨c0, c1⟩, -⟩ := blk2T (KT.out.below HB55.out (by have := HSZ0.out; omega))
        go_wp2_with fail
        refine hc.mono ?_
        clear hc c0 c1
        rintro e w6 ⟨rfl, hbn⟩
        have HB6 := Lib.hid (HB55.out.trans (hbn.mono HB55.out.size))
        clear hbn
        obtain ⟨⟨c0, c1⟩, -⟩ := blk2T (KT.out.below HB6.out (by have := HSZ0.out; omega))
        by_cases hH : zH = 1099511627776
        · have dH1 : (zH == 1099511627776) = true := by simpa using hH
          have dH2 : decide (zH = 1099511627776) = true := by simpa using hH
          have HH0 := Lib.hid hH
          clear hH
          have HF : Hid (V = 15) := by show _ = _; rw [HV.out, if_neg (by decide), if_neg (by simp), if_neg (by have := HA0.out; omega), if_neg HM0.out, if_pos HH0.out]
          have kR := KR.out.below HB6.out (by have := HSZ0.out; omega)
          obtain ⟨⟨r0, r1⟩, fr0, fr1⟩ := blk2T kR
          go_wp2_with fail
          have kE := (kR.set_ 0 (.slice none 0 0)).set_ 1 (.slice none 0 0)
          obtain ⟨⟨r0, r1⟩, -⟩ := blk2T kE
          refine bodyPost_ret (v := .tuple #[.agg #[.slice none 0 0, .slice none 0 0], .int .i64 0, .int .i64 15]) (by simp [results, Tryd.results10, go_sem, r0, r1]) rfl ⟨⟨⟨none, 0, 0, []⟩, ⟨none, 0, 0, []⟩⟩, by rw [HF.out, HVC.out, if_neg (by rw [HF.out]; decide)]; rfl, ⟨⟨rfl, World.ownsRow_nil _ _ _ _⟩, (fun y hy => by cases hy), ⟨rfl, World.ownsRow_nil _ _ _ _⟩⟩, by rw [HVC.out, if_neg (by rw [HF.out]; decide)]; rfl, ?_⟩
          exact (((HUP.out _ HB6.out).setCell (by simp only; omega) _).setCell (by simp only; omega) _)
        have dH1 : (zH == 1099511627776) = false := by simpa using hH
        have dH2 : decide (zH = 1099511627776) = false := by simpa using hH
        have HH0 := Lib.hid hH
        clear hH
        have HF : Hid (V = 0) := by show _ = _; rw [HV.out, if_neg (by decide), if_neg (by simp), if_neg (by have := HA0.out; omega), if_neg HM0.out, if_neg HH0.out]
        have hTok := (tabE_zero T).1 HE0.out.symm
        have hcp := hCpy.out w6 HB6.out
        have HB6w := Lib.hid (HUP.out _ HB6.out)
        have HMX := Lib.hid hmx
        clear hmx
        go_wp2_with fail
        clear dA1 dM1 dM2 dH1 dH2
        refine hcp.mono ?_
        clear hcp c0 c1
        rintro e w7 ⟨⟨⟨sA, sn, sc, sl⟩, ⟨eA, en, ec, el⟩⟩, he, hO7, hcon, hb7⟩
        replace he : e = .returned (.agg #[.slice sA sn sc, .slice eA en ec]) := he
        subst he
        have hTs : T.opn = sl.map SesR.con := (congrArg TabC.opn hcon).symm
        have hTd : el = T.had := congrArg TabC.had hcon
        subst hTd
        have hzs : TabR.sz ⟨⟨sA, sn, sc, sl⟩, ⟨eA, en, ec, T.had⟩⟩ := hSZ.out _ hcon hO7.opn.1 (fun y hy => (hO7.each y hy).1) hO7.had.1
        have hsn : sn ≤ 900000000 ∧ en ≤ 900000000 := hSZ2.out _ hcon hO7.opn.1 hO7.had.1
        obtain ⟨g, hg⟩ : ∃ g, g = w7.heap.size := ⟨_, rfl⟩
        have hba := (Below.refl w7.heap.size w7).alloc (Nat.le_refl _) (.cells #[.slice sA sn sc, .slice eA en ec] 25)
        have kG := Blk.new w7 25 #[.slice sA sn sc, .slice eA en ec]
        have hO8 := hO7.below hba
        obtain ⟨W8, hW8⟩ : ∃ W, W = w7.alloc (.cells #[.slice sA sn sc, .slice eA en ec] 25) := ⟨_, rfl⟩
        rw [← hW8] at hba kG hO8
        rw [← hg] at kG
        have hszg : W8.heap.size = g + 1 := by rw [hW8, hg]; show (World.heap _ |>.push _).size = _; rw [Array.size_push]
        have hg6 : w6.heap.size ≤ g := by rw [hg]; exact hb7.size
        have hb68 : Below w6.heap.size w6 W8 := hb7.trans (hba.mono hb7.size)
        have hnx := next_any T.had x hTok.sortH (fun y hy => ⟨(hTok.had y hy).2.2, (hTok.had y hy).2.1⟩) en hO8.had.1 eA ec w6.heap.size W8 hO8.had.2 hb68.size (by omega)
        have hPl := putH_len T.had x
        have hPe := putH_each T.had x 4000000000 hxl (fun y hy => hzs.eachH y hy)
        have HNN : Hid (openN T x = seHad (putH T.had x) x) := rfl
        have HLL : Hid (openL T x z = ⟨T.opn.take (posF (cfT x (openN T x)) T.opn) ++ [⟨x, openN T x, z, [], false⟩] ++ T.opn.drop (posF (cfT x (openN T x)) T.opn), putH T.had x⟩) := rfl
        obtain ⟨P, hP⟩ : ∃ P, P = putH T.had x := ⟨_, rfl⟩
        obtain ⟨pn, hpn⟩ : ∃ p, p = P.length := ⟨_, rfl⟩
        rw [← hP] at hnx hPl hPe HNN HLL
        rw [← hpn] at hnx hPl
        have hen : en = T.had.length := hO8.had.1
        have hpn9 : pn ≤ 1000000000 := by omega
        have HSL := Lib.hid (show sn = sl.length from hO8.opn.1)
        have HSN9 := Lib.hid hsn
        have HO8 := Lib.hid hO8
        have HZS := Lib.hid hzs
        have HPE := Lib.hid hPe
        have HPN := Lib.hid hpn
        have KG := Lib.hid kG
        have HB68 := Lib.hid hb68
        have HTS := Lib.hid hTs
        have HTOK := Lib.hid hTok
        have HG6 := Lib.hid hg6
        have HSZG := Lib.hid hszg
        have hslw := (HUP.out _ HB6.out).size
        have hw6 : w.heap.size + 2 ≤ w6.heap.size := by have := HB6.out.size; have := HSZ0.out; omega
        have HW6 := Lib.hid hw6
        have HKR8 := Lib.hid ((KR.out.below HB6.out (by have := HSZ0.out; omega)).below hb68 (by omega))
        obtain ⟨⟨g0, g1⟩, -⟩ := blk2T kG
        have HP9 := Lib.hid hpn9
        clear hO7 hcon hb7 hba kG hO8 hzs hb68 hTs hTok hszg hg6 hP hpn hPl hPe hen hsn hpn9
        go_wp2_with fail
        rw [← hW8]
        clear hW8
        rw [← hg]
        clear hg
        refine hnx.mono ?_
        clear hnx g0 g1
        rintro e w9 ⟨A9, c9, rfl, hown9, hK9, hb9⟩
        have hG9 := hK9 _ _ _ (by decide) KG.out
        have HO9 := Lib.hid hown9
        have HK9 := Lib.hid hK9
        have HBA9 := Lib.hid (HB68.out.trans hb9)
        have HG9 := Lib.hid hG9
        have HKR9 := Lib.hid (hK9 _ _ _ (by decide) HKR8.out)
        obtain ⟨⟨g0, g1⟩, fg0, fg1⟩ := blk2T hG9
        clear hown9 hK9 hb9 hG9
        go_upto_region 14 with (fail)
        obtain ⟨W10, hW10⟩ : ∃ W, W = w9.setCell ⟨g, 1, none⟩ (.slice A9 pn c9) := ⟨_, rfl⟩
        rw [← hW10]
        have hK10 : KeepsT 25 w9 W10 := by rw [hW10]; exact KeepsT.of_box HG9.out
        have kG10 := HG9.out.set_ 1 (.slice A9 pn c9)
        have hne1 : w.heap.size + 1 ≠ g := by have := HW6.out; have := HG6.out; omega
        have kR10 := HKR9.out.far (p := ⟨g, 1, none⟩) hne1 (.slice A9 pn c9)
        rw [← hW10] at kG10 kR10
        have hb10 : Below w6.heap.size w6 W10 := by rw [hW10]; exact HBA9.out.setCell (by have := HG6.out; simp only; omega) _
        have hO10 : TabO W10 w6.heap.size ⟨⟨sA, sn, sc, sl⟩, ⟨A9, pn, c9, P⟩⟩ := ⟨⟨HO8.out.opn.1, hK10.own (HK9.out.own HO8.out.opn.2 (by decide)) (by decide)⟩, fun y hy => ⟨(HO8.out.each y hy).1, hK10.own (HK9.out.own (HO8.out.each y hy).2 (by decide)) (by decide)⟩, ⟨HPN.out, hK10.own HO9.out (by decide)⟩⟩
        have hz10 : TabR.sz ⟨⟨sA, sn, sc, sl⟩, ⟨A9, pn, c9, P⟩⟩ := ⟨HZS.out.opn, HZS.out.each, HP9.out, HPE.out⟩
        have hhd := had_any ⟨⟨sA, sn, sc, sl⟩, ⟨A9, pn, c9, P⟩⟩ x W10 W10.heap.size hO10.rd (Nat.le_refl _) hz10
        replace hhd : Calls Tryd.prog 32 #[.agg #[.slice sA sn sc, .slice A9 pn c9], .string ⟨x.toArray⟩] W10 fun e w' => e = .returned (.int .i64 (seHad P x)) ∧ Below W10.heap.size W10 w' := hhd
        rw [← HNN.out] at hhd
        obtain ⟨N, hN⟩ : ∃ N, N = openN T x := ⟨_, rfl⟩
        rw [← hN] at hhd HLL
        have HN0 := Lib.hid hN
        have HO10 := Lib.hid hO10
        have HB10 := Lib.hid hb10
        have KG10 := Lib.hid kG10
        have KR10 := Lib.hid kR10
        clear g0 g1 fg0 fg1
        obtain ⟨⟨g0, g1⟩, -⟩ := blk2T kG10
        clear hK10 kG10 kR10 hb10 hO10 hz10 hW10 hN
        go_wp2_with fail
        refine hhd.mono ?_
        clear hhd g0 g1
        rintro e w11 ⟨rfl, hb11⟩
        obtain ⟨g2, hg2⟩ : ∃ g, g = w11.heap.size := ⟨_, rfl⟩
        have hbs := (Below.refl w11.heap.size w11).alloc (Nat.le_refl _) (.cells #[.string ⟨x.toArray⟩, .int .i64 N, .string ⟨z.toArray⟩, .slice none 0 0, .bool false] 33)
        have kS := Blk.new w11 33 #[.string ⟨x.toArray⟩, .int .i64 N, .string ⟨z.toArray⟩, .slice none 0 0, .bool false]
        obtain ⟨W12, hW12⟩ : ∃ W, W = w11.alloc (.cells #[.string ⟨x.toArray⟩, .int .i64 N, .string ⟨z.toArray⟩, .slice none 0 0, .bool false] 33) := ⟨_, rfl⟩
        rw [← hW12] at hbs kS
        rw [← hg2] at kS
        have hszs : W12.heap.size = g2 + 1 := by rw [hW12, hg2]; show (World.heap _ |>.push _).size = _; rw [Array.size_push]
        have hb12 : Below W10.heap.size W10 W12 := hb11.trans (hbs.mono hb11.size)
        have hgl : g < W10.heap.size := KG10.out.lt
        have hg2g : W10.heap.size ≤ g2 := by rw [hg2]; exact hb11.size
        have hO12 := HO10.out.below hb12
        have kG12 := KG10.out.below hb12 hgl
        have hsr := searchT_any (fun s : SesR => .string ⟨s.ten.toArray⟩) (fun s => .int .i64 s.hd) (fun s => .string ⟨s.into.toArray⟩) (fun s => .slice s.rest.A s.rest.n s.rest.c) (fun s => .bool s.bad) (fun s => cfT x N s.con) sl (signAsc_map SesR.con _ _ (by rw [← HTS.out]; exact cfT_asc T.opn HTOK.out.sortT x N)) sn HSL.out sA sc x z N none 0 0 false W12 W12.heap.size hO12.opn.rd.2.2 (Nat.le_refl _) (by have := HSN9.out; omega) (fun s W _ => orderT_any s.ten x s.into z s.hd N s.rest.A none s.rest.n s.rest.c 0 0 s.bad false W)
        rw [← posF_map SesR.con, ← HTS.out] at hsr
        have hp := posF_le (cfT x N) T.opn
        obtain ⟨p, hpp⟩ : ∃ p, p = posF (cfT x N) T.opn := ⟨_, rfl⟩
        rw [← hpp] at hsr hp HLL
        obtain ⟨tt, htt⟩ : ∃ t, t = atF (fun s : SesR => cfT x N s.con) sl := ⟨_, rfl⟩
        rw [← htt] at hsr
        have HPL2 := Lib.hid (show p ≤ sn by rw [HTS.out, List.length_map] at hp; have := HSL.out; omega)
        have HO12 := Lib.hid hO12
        have KG12 := Lib.hid kG12
        have KS12 := Lib.hid kS
        have HB12 := Lib.hid (HB10.out.trans (hb12.mono HB10.out.size))
        have KR12 := Lib.hid (KR10.out.below hb12 (by have := HW6.out; have := HG6.out; omega))
        have HGL := Lib.hid hgl
        have HG2G := Lib.hid hg2g
        have HSZS := Lib.hid hszs
        obtain ⟨⟨g0, g1⟩, -⟩ := blk2T (KG10.out.below hb11 hgl)
        obtain ⟨⟨h0, h1⟩, -⟩ := blk2T kG12
        have hg2w : g < w11.heap.size := by omega
        clear hbs kS hb11 hb12 hO12 kG12 hpp htt hp hgl hg2g hszs
        go_wp2_with fail
        rw [← hW12]
        clear hW12
        rw [← hg2]
        clear hg2
        refine hsr.mono ?_
        clear hsr g0 g1 h0 h1 hg2w
        rintro e w13 ⟨rfl, hb13⟩
        obtain ⟨vb, hvb⟩ : ∃ g, g = w13.heap.size := ⟨_, rfl⟩
        have hbv := (Below.refl w13.heap.size w13).alloc (Nat.le_refl _) (.cells #[.string ⟨x.toArray⟩, .int .i64 N, .string ⟨z.toArray⟩, .slice none 0 0, .bool false] 33)
        have kV := Blk.new w13 33 #[.string ⟨x.toArray⟩, .int .i64 N, .string ⟨z.toArray⟩, .slice none 0 0, .bool false]
        obtain ⟨W14, hW14⟩ : ∃ W, W = w13.alloc (.cells #[.string ⟨x.toArray⟩, .int .i64 N, .string ⟨z.toArray⟩, .slice none 0 0, .bool false] 33) := ⟨_, rfl⟩
        rw [← hW14] at hbv kV
        rw [← hvb] at kV
        have hb14 : Below W12.heap.size W12 W14 := hb13.trans (hbv.mono hb13.size)
        have hO13 := HO12.out.below hb13
        have hO14 := HO12.out.below hb14
        have kG14 := KG12.out.below hb14 (by have := HSZS.out; have := HGL.out; have := HG2G.out; omega)
        have kS14 := KS12.out.below hb14 (by have := HSZS.out; omega)
        have hBL : ∀ q, (Value.slice sA sn sc).ownBlock = some q → q < W10.heap.size := fun q hq => (HO10.out.opn.2.lt q hq).2
        have hin := insT_any #[.string ⟨x.toArray⟩, .int .i64 N, .string ⟨z.toArray⟩, .slice none 0 0, .bool false] rfl (by intro u hu; simp at hu; rcases hu with rfl | rfl | rfl | rfl | rfl <;> rfl) (cellsK encSes sl) (cellsS_one sl) vb 33 w6.heap.size sn p sA sc W14 HPL2.out hO14.opn.2 (by have := HB12.out.size; have := hb14.size; omega) (by have := HSN9.out; omega) kV (fun e => by have := (hO13.opn.2.lt _ e).2; omega)
        obtain ⟨⟨g0, g1⟩, -⟩ := blk2T (KG12.out.below hb13 (by have := HSZS.out; have := HGL.out; have := HG2G.out; omega))
        obtain ⟨⟨s0, s1, s2, s3, s4⟩, -⟩ := blk5F (KS12.out.below hb13 (by have := HSZS.out; omega))
        have HO14 := Lib.hid hO14
        have KG14 := Lib.hid kG14
        have KS14 := Lib.hid kS14
        have HB14 := Lib.hid (HB12.out.trans (hb14.mono HB12.out.size))
        have KR14 := Lib.hid (KR12.out.below hb14 (by have := HSZS.out; have := HGL.out; have := HG2G.out; have := HW6.out; have := HG6.out; omega))
        have HBL := Lib.hid hBL
        clear hbv kV hb13 hb14 hO13 hO14 kG14 kS14 hBL
        go_wp2_with fail
        rw [← hW14]
        clear hW14
        rw [← hvb]
        clear hvb
        refine hin.mono ?_
        clear hin g0 g1 s0 s1 s2 s3 s4
        rintro e w15 ⟨v15, rfl, hown15, hg15⟩
        obtain ⟨A15, c15, rfl, -, -, -⟩ := own_form hown15
        have hxs : (cellsK encSes sl).take (p * 5) ++ (#[.string ⟨x.toArray⟩, .int .i64 N, .string ⟨z.toArray⟩, .slice none 0 0, .bool false] : Array Value).toList ++ (cellsK encSes sl).drop (p * 5) = cellsK encSes (sl.take p ++ [⟨x, N, z, ⟨none, 0, 0, []⟩, false⟩] ++ sl.drop p) := by
          rw [cellsK_append, cellsK_append, cellsK_one, cellsK_take (k := 5) (fun _ => rfl), cellsK_drop (k := 5) (fun _ => rfl)]
          rfl
        rw [hxs] at hown15
        have hK15 := KeepsT.of_grown HO14.out.opn.2 hg15
        have kG15 := hK15 _ _ _ (by decide) KG14.out
        have kR15 := hK15 _ _ _ (by decide) KR14.out
        have kS15 := KS14.out.grown hg15 (fun e => by have := HBL.out _ e.symm; have := HG2G.out; omega)
        have hb15 : Below w6.heap.size w6 w15 := HB14.out.grown hg15 HB14.out.size (fun q hq => (HO14.out.opn.2.lt q hq).1)
        have HO15 := Lib.hid hown15
        have HK15 := Lib.hid hK15
        have KG15 := Lib.hid kG15
        have KR15 := Lib.hid kR15
        have KS15 := Lib.hid kS15
        have HB15 := Lib.hid hb15
        obtain ⟨⟨g0, g1⟩, fg0, fg1⟩ := blk2T kG15
        clear hown15 hg15 hxs hK15 kG15 kR15 kS15 hb15
        go_upto_region 17 with (fail)
        obtain ⟨W16, hW16⟩ : ∃ W, W = w15.setCell ⟨g, 0, none⟩ (.slice A15 (sn + 1) c15) := ⟨_, rfl⟩
        rw [← hW16]
        have kG16 := KG15.out.set_ 0 (.slice A15 (sn + 1) c15)
        have kR16 := KR15.out.far (p := ⟨g, 0, none⟩) hne1 (.slice A15 (sn + 1) c15)
        have kS16 := KS15.out.far (p := ⟨g, 0, none⟩) (by have := HGL.out; have := HG2G.out; simp only; omega) (.slice A15 (sn + 1) c15)
        have hK16 : KeepsT 25 w15 W16 := by rw [hW16]; exact KeepsT.of_box KG15.out
        have hb16 : Below w.heap.size w W16 := by rw [hW16]; exact (HB6w.out.trans (HB15.out.mono HB6w.out.size)).setCell (by have := HG6.out; have := HW6.out; simp only; omega) _
        rw [← hW16] at kG16 kR16 kS16
        have HK16 := Lib.hid hK16
        have HB16 := Lib.hid hb16
        clear g0 g1 fg0 fg1 hW16 hK16 hb16
        obtain ⟨⟨g0, g1⟩, -⟩ := blk2T kG16
        obtain ⟨⟨s0, s1, s2, s3, s4⟩, -⟩ := blk5F kS16
        obtain ⟨⟨r0, r1⟩, fr0, fr1⟩ := blk2T kR16
        have hng : g ≠ w.heap.size + 1 := fun e => hne1 e.symm
        have hng2 : g2 ≠ w.heap.size + 1 := by have := HGL.out; have := HG2G.out; have := HG6.out; have := HW6.out; omega
        have HKR16 := Lib.hid kR16
        clear kG16 kR16 kS16
        go_region
        go_wp2_with fail
        have kE := ((HKR16.out.set_ 0 (.slice A15 (sn + 1) c15)).set_ 1 (.slice A9 pn c9)).drew
        obtain ⟨⟨r0, r1⟩, -⟩ := blk2T kE
        obtain ⟨W18, hW18⟩ : ∃ W, W = ((W16.setCell ⟨w.heap.size + 1, 0, none⟩ (.slice A15 (sn + 1) c15)).setCell ⟨w.heap.size + 1, 1, none⟩ (.slice A9 pn c9)).drew := ⟨_, rfl⟩
        rw [← hW18] at r0 r1 ⊢
        have hT18 : KeepsT 25 w15 W18 := by rw [hW18]; exact HK16.out.trans ((KeepsT.of_box HKR16.out).trans ((KeepsT.of_box (HKR16.out.set_ 0 (.slice A15 (sn + 1) c15))).trans (fun _ _ _ _ h => h)))
        refine bodyPost_ret (v := .tuple #[.agg #[.slice A15 (sn + 1) c15, .slice A9 pn c9], .int .i64 N, .int .i64 0]) (by simp [results, Tryd.results10, go_sem, r0, r1]) rfl ⟨⟨⟨A15, sn + 1, c15, sl.take p ++ [⟨x, N, z, ⟨none, 0, 0, []⟩, false⟩] ++ sl.drop p⟩, ⟨A9, pn, c9, P⟩⟩, by rw [HF.out, HVC.out, if_pos HF.out, HN0.out]; rfl, ⟨⟨?_, ?_⟩, fun y hy => ?_, ⟨HPN.out, ?_⟩⟩, ?_, ?_⟩
        · show sn + 1 = _
          simp only [List.length_append, List.length_take, List.length_drop, List.length_cons, List.length_nil]
          have := HSL.out
          have := HPL2.out
          omega
        · exact own_mono (hT18.own HO15.out (by decide)) (by have := HW6.out; omega)
        · have hold : ∀ y ∈ sl, SesO W18 w.heap.size y := fun y hy => ⟨(HO14.out.each y hy).1, own_mono (hT18.own (HK15.out.own (HO14.out.each y hy).2 (by decide)) (by decide)) (by have := HW6.out; omega)⟩
          rcases List.mem_append.1 hy with hy | hy
          · rcases List.mem_append.1 hy with hy | hy
            · exact hold y (List.mem_of_mem_take hy)
            · rw [List.mem_singleton.1 hy]
              exact ⟨rfl, World.ownsRow_nil _ _ _ _⟩
          · exact hold y (List.mem_of_mem_drop hy)
        · exact own_mono (hT18.own (HK15.out.own HO14.out.had.2 (by decide)) (by decide)) (by have := HW6.out; omega)
        · show TabC.mk _ _ = _
          rw [HVC.out, if_pos HF.out, HLL.out, HTS.out, List.map_append, List.map_append, List.map_take, List.map_drop]
          rfl
        · rw [hW18]
          exact (Below.setCell (Below.setCell HB16.out (by simp only; omega) _) (by simp only; omega) _).drew
end Go.Proofs.YtjdebhemoeojiaaDoor
