/-
  session.copied, by its contract.
-/
import Derived.Deep.Cut
import Derived.Test.YtjdebhemoeojiaaDoorSeOf
import Derived.Test.YtjdebhemoeojiaaDoorSeClH
namespace Go.Proofs.YtjdebhemoeojiaaDoor
open Go.RowKit

theorem blk2T {w : World} {g : Nat} {t : TypeId} {a b : Value} (h : Blk w g t #[a, b]) : (w.cell? ⟨g, 0, none⟩ = some a ∧ w.cell? ⟨g, 1, none⟩ = some b) ∧ w.frozen? ⟨g, 0, none⟩ = false ∧ w.frozen? ⟨g, 1, none⟩ = false :=
  ⟨⟨by simpa using h.cell 0, by simpa using h.cell 1⟩, h.frozen 0, h.frozen 1⟩
theorem cellsH_one (l : List HadT) : ∀ u ∈ cellsK encHad l, u.oneCell' = true := by
  intro u hu
  simp only [cellsK, List.mem_flatMap] at hu
  obtain ⟨x, _, hu⟩ := hu
  simp [encHad] at hu
  rcases hu with rfl | rfl <;> rfl
theorem TabR.sz_of_con {s t : TabR} (ht : t.sz) (h : s.con = t.con) (h1 : s.opn.n = s.opn.l.length) (h2 : ∀ y ∈ s.opn.l, y.rest.n = y.rest.l.length) (h3 : s.had.n = s.had.l.length) (k1 : t.opn.n = t.opn.l.length) (k2 : ∀ y ∈ t.opn.l, y.rest.n = y.rest.l.length) (k3 : t.had.n = t.had.l.length) : s.sz := by
  have ho : s.opn.l.map SesR.con = t.opn.l.map SesR.con := congrArg TabC.opn h
  have hh : s.had.l = t.had.l := congrArg TabC.had h
  have hl : s.opn.l.length = t.opn.l.length := by simpa using congrArg List.length ho
  refine ⟨by rw [h1, hl, ← k1]; exact ht.opn, fun y hy => ?_, by rw [h3, hh, ← k3]; exact ht.had, by rw [hh]; exact ht.eachH⟩
  have hm : y.con ∈ t.opn.l.map SesR.con := by rw [← ho]; exact List.mem_map.2 ⟨y, hy, rfl⟩
  obtain ⟨x, hx, hxy⟩ := List.mem_map.1 hm
  have hz := ht.each x hx
  have e1 : x.ten = y.ten := congrArg SesC.ten hxy
  have e2 : x.into = y.into := congrArg SesC.into hxy
  have e3 : x.rest.l = y.rest.l := congrArg SesC.rest hxy
  exact ⟨by rw [← e1]; exact hz.ten, by rw [← e2]; exact hz.into, by rw [h2 y hy, ← e3, ← k2 x hx]; exact hz.rest⟩
set_option maxRecDepth 100000 in
set_option maxHeartbeats 4000000 in
theorem copied_any (t : TabR) (w : World) (B : Nat) (hr : t.rd w B) (hB : B ≤ w.heap.size) (hz : t.sz) :
    Calls Tryd.prog 33 #[t.val] w fun e w' => ∃ s : TabR, e = .returned s.val ∧ TabO w' w.heap.size s ∧ s.con = t.con ∧ Below w.heap.size w w' := by
  obtain ⟨i0, hi0, hz0, hz1, hz2⟩ := info_parts Tryd.ses_info
  obtain ⟨T, hT0⟩ : ∃ T, T = t.con := ⟨_, rfl⟩
  have hTo : T.opn = t.opn.l.map SesR.con := by rw [hT0]; rfl
  have hTh : T.had = t.had.l := by rw [hT0]; rfl
  rw [← hT0]
  clear hT0
  obtain ⟨⟨oA, on, oc, ol⟩, ⟨dA, dn, dc, dl⟩⟩ := t
  have HN := Lib.hid (show on = ol.length from hr.opn.1)
  have HND := Lib.hid (show dn = dl.length from hr.had.1)
  have hsz : on ≤ 1000000000 := hz.opn
  have hszd : dn ≤ 1000000000 := hz.had
  have hrh : Reads w B 5 oA on (cellsK encSes ol) := hr.opn.2.2
  have hrd : Reads w B 2 dA dn (cellsK encHad dl) := hr.had.2.2
  have hre : ∀ y ∈ ol, y.rd w B := hr.each
  have hze : ∀ y ∈ ol, y.sz := hz.each
  show Calls Tryd.prog 33 #[.agg #[.slice oA on oc, .slice dA dn dc]] w _
  have hb1 := (Below.refl w.heap.size w).alloc (Nat.le_refl _) (.cells #[.slice oA on oc, .slice dA dn dc] 25)
  have kT := Blk.new w 25 #[.slice oA on oc, .slice dA dn dc]
  obtain ⟨W1, hW1⟩ : ∃ W, W = w.alloc (.cells #[.slice oA on oc, .slice dA dn dc] 25) := ⟨_, rfl⟩
  have hsz1 : W1.heap.size = w.heap.size + 1 := by rw [hW1]; simp
  rw [← hW1] at hb1 kT
  have hT := Lib.hid (fun (W' : World) (hB' : Below W1.heap.size W1 W') => (⟨(kT.below hB' (by omega)).cell 0, (kT.below hB' (by omega)).cell 1⟩ : W'.cell? ⟨w.heap.size, 0, none⟩ = some (.slice oA on oc) ∧ W'.cell? ⟨w.heap.size, 1, none⟩ = some (.slice dA dn dc)))
  obtain ⟨W0, hW0⟩ : ∃ W, W = W1.alloc (.cells #[.slice none 0 0, .slice none 0 0] 25) := ⟨_, rfl⟩
  have kR := Blk.new W1 25 #[.slice none 0 0, .slice none 0 0]
  have hb01 := (Below.refl W1.heap.size W1).alloc (Nat.le_refl _) (.cells #[.slice none 0 0, .slice none 0 0] 25)
  have kT0 := kT.alloc (.cells #[.slice none 0 0, .slice none 0 0] 25)
  have hsz0 : W0.heap.size = w.heap.size + 2 := by rw [hW0]; show (World.heap _ |>.push _).size = _; rw [Array.size_push, hsz1]
  rw [← hW0] at kR hb01 kT0
  rw [hsz1] at kR
  have hb0 : Below w.heap.size w W0 := hb1.trans (hb01.mono (by omega))
  have hrw : Hid (∀ W, Below W0.heap.size W0 W → Reads W B 5 oA on (cellsK encSes ol) ∧ w.heap.size + 1 < W.heap.size ∧ Below w.heap.size w W ∧ (∀ y ∈ ol, y.rd W B ∧ y.sz)) := by
    show ∀ W, _ → _
    intro W h
    have h1 := hb0.trans (h.mono (by omega))
    exact ⟨hrh.below (h1.mono hB), by have := h.size; omega, h1, fun y hy => ⟨(hre y hy).below (h1.mono hB), hze y hy⟩⟩
  have hcH := cloneH_any (cellsK encHad dl) dn dA dc W0 B (hrd.below (hb0.mono hB)) (Nat.le_trans hB hb0.size) (cellsH_one dl) (by omega)
  obtain ⟨⟨c0, c1⟩, -⟩ := blk2T kT0
  have HSZ0 := Lib.hid hsz0
  have KR := Lib.hid kR
  have KT := Lib.hid kT0
  have HTO := Lib.hid hTo
  have HTH := Lib.hid hTh
  rw [hW0, hW1] at c0 c1
  clear hb1 kT hr hz hsz1 hrh hre hze kR hb01 kT0 hsz0 hb0 hrd hT hTo hTh
  go_enter Tryd.func33, Tryd.ntmps33
  go_wp2_with fail
  rw [← hW1, ← hW0]
  refine hcH.mono ?_
  clear hcH c0 c1 hW0 hW1
  rintro e w2 ⟨vH, rfl, hownH, hb2⟩
  obtain ⟨HA, HC, rfl, hHc, -, -⟩ := own_form hownH
  have HWH := Lib.hid hownH
  obtain ⟨g, hg⟩ : ∃ g, g = w2.heap.size := ⟨_, rfl⟩
  have HG := Lib.hid hg
  obtain ⟨W3, hW3⟩ : ∃ W, W = w2.alloc (.cells #[.slice none 0 0, .slice HA dn HC] 25) := ⟨_, rfl⟩
  have kG := Blk.new w2 25 #[.slice none 0 0, .slice HA dn HC]
  have hbg := (Below.refl w2.heap.size w2).alloc (Nat.le_refl _) (.cells #[.slice none 0 0, .slice HA dn HC] 25)
  rw [← hW3] at kG hbg
  rw [← hg] at kG hbg
  have hszg : W3.heap.size = g + 1 := by rw [hW3, hg]; show (World.heap _ |>.push _).size = _; rw [Array.size_push]
  have KG := Lib.hid kG
  have HBG := Lib.hid hbg
  have HSZG := Lib.hid hszg
  obtain ⟨⟨c0, c1⟩, -⟩ := blk2T (KT.out.below hb2 (by have := HSZ0.out; omega))
  have hgs : W0.heap.size ≤ g := by rw [hg]; exact hb2.size
  have hup2 : Hid (∀ W, Below g w2 W → Below W0.heap.size W0 W) := fun W h => hb2.trans (h.mono hgs)
  have HGS := Lib.hid hgs
  clear hownH hb2 kG hbg hszg hHc hgs
  have hsl2 : w.heap.size < w2.heap.size := by rw [← HG.out]; have := HGS.out; have := HSZ0.out; omega
  go_wp2_with fail
  rw [← hW3]
  clear hW3
  rw [← hg]
  clear hg c0 c1 hsl2
  go_loopw [13] (fun i wr => ∃ (k : Nat) (s : FS SesR), k ≤ on ∧ i = .int .i64 (k : Int) ∧ Hid (Blk wr g 25 #[.slice s.A s.n s.c, .slice HA dn HC]) ∧ Hid (s.own wr (g + 1) 33 5 encSes) ∧ Hid (∀ y ∈ s.l, SesO wr (g + 1) y) ∧ Hid (s.l.map SesR.con = (ol.map SesR.con).take k) ∧ Hid (s.n ≤ k) ∧ Hid (Below g w2 wr)) (fun i _ => on - (intOf i).toNat)
  case atStart => exact ⟨0, ⟨none, 0, 0, []⟩, Nat.zero_le _, rfl, KG.out, ⟨rfl, World.ownsRow_nil _ _ _ _⟩, (show ∀ y ∈ _, _ from fun y hy => by cases hy), rfl, Nat.le_refl _, HBG.out⟩
  case round =>
    obtain ⟨k, ⟨sA, sn, sc, sl⟩, hk, rfl, hkg, hso, hse, hsc, hsk, hbw⟩ := hrel
    obtain ⟨hrk, hsl, hbb, hel⟩ := hrw.out wr (hup2.out _ hbw.out)
    by_cases hlt : k < on
    · have hki : (k : Int) < (on : Int) := by omega
      have hkl : k < ol.length := by have := HN.out; omega
      obtain ⟨ad, rfl, hadB, q0, q1, q2, q3, q4⟩ := ses_at hrk HN.out hlt
      have hst : (ol.map SesR.con).take (k + 1) = (ol.map SesR.con).take k ++ [(ol[k]'hkl).con] := by
        rw [List.take_add_one, List.getElem?_map, List.getElem?_eq_getElem hkl]; rfl
      have hey := hel _ (List.getElem_mem hkl)
      obtain ⟨y, hy⟩ : ∃ y, y = ol[k]'hkl := ⟨_, rfl⟩
      rw [← hy] at q0 q1 q2 q3 q4 hst hey
      obtain ⟨yt, yh, yi, ⟨yA, yn, yc, yl⟩, yb⟩ := y
      simp only [SesR.con] at q0 q1 q2 q3 q4 hst
      obtain ⟨W2, hW2⟩ : ∃ W2, W2 = wr.alloc (.cells #[.string ⟨yt.toArray⟩, .int .i64 yh, .string ⟨yi.toArray⟩, .slice yA yn yc, .bool yb] 33) := ⟨_, rfl⟩
      have hbr := (Below.refl wr.heap.size wr).alloc (Nat.le_refl _) (.cells #[.string ⟨yt.toArray⟩, .int .i64 yh, .string ⟨yi.toArray⟩, .slice yA yn yc, .bool yb] 33)
      have hsz2 : W2.heap.size = wr.heap.size + 1 := by rw [hW2]; simp
      have kB := Blk.new wr 33 #[.string ⟨yt.toArray⟩, .int .i64 yh, .string ⟨yi.toArray⟩, .slice yA yn yc, .bool yb]
      rw [← hW2] at hbr kB
      have HST := Lib.hid hst
      have hgl := hkg.out.lt
      have hrd2 : Reads W2 B 1 yA yn (cellsK encU yl) := (hey.1.below (hbr.mono (by have := hbb.size; omega))).2.2
      have hcl := clone_any (cellsK encU yl) yn yA yc W2 B hrd2 (by have := hbb.size; omega) (cellsU_one yl) (by have := hey.2.rest; simp only at this; omega)
      have HYN := Lib.hid (show yn = yl.length from hey.1.1)
      have HBR := Lib.hid hbr
      have HSZ2 := Lib.hid hsz2
      have HKB := Lib.hid kB
      clear hst hey hy hrk hel hbb hbr hsz2 kB hrd2
      go_wp2_with fail
      rw [← hW2]
      clear hW2
      refine hcl.mono ?_
      clear hcl q0 q1 q2 q3 q4
      rintro e w3 ⟨v, rfl, hown3, hb3⟩
      obtain ⟨A3, c3, rfl, hc3, -, -⟩ := own_form hown3
      have k3 := HKB.out.below hb3 HKB.out.lt
      obtain ⟨⟨p0, p1, p2, p3, p4⟩, f3⟩ := blk5 k3
      have HK3 := Lib.hid k3
      obtain ⟨W4, hW4⟩ : ∃ W4, W4 = w3.setCell ⟨wr.heap.size, 3, none⟩ (.slice A3 yn c3) := ⟨_, rfl⟩
      have hbr3 : Below wr.heap.size wr w3 := HBR.out.trans (hb3.mono (by have := HSZ2.out; omega))
      have hbr4 : Below wr.heap.size wr W4 := by rw [hW4]; exact hbr3.setCell (Nat.le_refl _) _
      have kg3 := hkg.out.below hbr3 hgl
      obtain ⟨⟨g0, g1⟩, fg0, fg1⟩ := blk2T kg3
      have kg4 := Lib.hid (hkg.out.below hbr4 hgl)
      have hsz4 : W4.heap.size = w3.heap.size := by rw [hW4]; simp [World.setCell]
      have hso4 := Lib.hid (hso.out.below hbr4)
      have hse4 : Hid (∀ y ∈ sl, SesO W4 (g + 1) y) := show ∀ y ∈ sl, _ from fun y hy => (hse.out y hy).below hbr4
      have hrs4 : Hid (SesO W4 (g + 1) ⟨yt, yh, yi, ⟨A3, yn, c3, yl⟩, yb⟩) := by
        refine ⟨HYN.out, ?_⟩
        show World.ownsRow _ _ _ _ _ _ _
        rw [hW4]
        exact own_mono (own_setCell_below hown3 (p := ⟨wr.heap.size, 3, none⟩) (by have := HSZ2.out; simp only; omega) _) (by have := HSZ2.out; omega)
      have hbw4 := Lib.hid (hbw.out.trans (hbr4.mono (by omega)))
      have hsz4' := Lib.hid (show g + 1 ≤ W4.heap.size by have := hbr4.size; omega)
      have HW4 := Lib.hid hW4
      have hgw := Lib.hid hgl
      have hgne : g ≠ wr.heap.size := by omega
      clear hown3 hb3 k3 hbr3 hbr4 hsz4 hW4 hc3 kg3
      go_upto_region 6 with (fail)
      rw [← HW4.out]
      obtain ⟨⟨g0, g1⟩, fg0, fg1⟩ := blk2T kg4.out
      have k4 : Blk W4 wr.heap.size 33 #[.string ⟨yt.toArray⟩, .int .i64 yh, .string ⟨yi.toArray⟩, .slice A3 yn c3, .bool yb] := by
        rw [HW4.out]
        exact HK3.out.set_ 3 _
      obtain ⟨⟨p0, p1, p2, p3, p4⟩, f3⟩ := blk5 k4
      clear k4
      go_wp2_with (at_builtin; (refine wpList_push _ rfl (.tmp 22) (.tmp 24) 22 rfl (g + 1) 33 i0 _ 5 72 Tryd.underlying22 hi0 hz0 hz1 hz2 rfl (by decide) (.slice sA sn sc) sn (cellsK encSes sl) rfl hso4.out.2 1 #[.string ⟨yt.toArray⟩, .int .i64 yh, .string ⟨yi.toArray⟩, .slice A3 yn c3, .bool yb] 33 rfl rfl (by intro u hu; simp at hu; rcases hu with rfl | rfl | rfl | rfl | rfl <;> rfl) (by have := hsk.out; unfold maxLen; omega) (by have := hsk.out; omega) hsz4'.out ?_); intro v5 w5 hown5 hb5 hg5; (obtain ⟨A5, c5, rfl, hc5, -, -⟩ := own_form hown5); (have kg5 := kg4.out.below hb5 (Nat.lt_succ_self g)); (obtain ⟨⟨g0, g1⟩, fg0, fg1⟩ := blk2T kg5))
      go_roundw
      case rel =>
        refine ⟨k + 1, ⟨A5, sn + 1, c5, sl ++ [⟨yt, yh, yi, ⟨A3, yn, c3, yl⟩, yb⟩]⟩, by omega, by go_num, kg5.set_ 0 _, ⟨?_, ?_⟩, ?_, ?_, ?_, (hbw4.out.trans (hb5.mono (by omega))).setCell (Nat.le_refl _) _⟩
        · rw [List.length_append]; have := hso4.out.1; show sn + 1 = _; rw [show sn = sl.length from this]; rfl
        · rw [cellsK_append, cellsK_one]; exact own_setCell_below hown5 (by simp only; omega) _
        · show ∀ y ∈ _, _
          intro y hy
          rcases List.mem_append.1 hy with hy | hy
          · have := hse4.out y hy
            exact ⟨this.1, own_setCell_below (own_other this.2 hso4.out.2 (by decide) hg5) (by simp only; omega) _⟩
          · rw [List.mem_singleton.1 hy]
            exact ⟨hrs4.out.1, own_setCell_below (own_other hrs4.out.2 hso4.out.2 (by decide) hg5) (by simp only; omega) _⟩
        · show _ = _
          rw [HST.out, ← hsc.out, List.map_append]; rfl
        · have := hsk.out; show sn + 1 ≤ k + 1; omega
      case measure => simp [intOf]; omega
    · have hke : k = on := by omega
      have hnl : ¬ (k : Int) < (on : Int) := by omega
      have kR := KR.out.below (hup2.out _ hbw.out) (by have := HSZ0.out; omega)
      obtain ⟨⟨r0, r1⟩, fr0, fr1⟩ := blk2T kR
      obtain ⟨⟨g0, g1⟩, -⟩ := blk2T hkg.out
      have hne : w.heap.size + 1 ≠ g := by have := HGS.out; have := HSZ0.out; omega
      have HBB := Lib.hid hbb
      clear hrk hel hsl hbb
      go_wp2_with fail
      have kE := (kR.set_ 0 (.slice sA sn sc)).set_ 1 (.slice HA dn HC)
      obtain ⟨⟨r0, r1⟩, -⟩ := blk2T kE
      refine bodyPost_ret (v := .agg #[.slice sA sn sc, .slice HA dn HC]) (by simp [results, Tryd.results33, go_sem, r0, r1]) rfl ⟨⟨⟨sA, sn, sc, sl⟩, ⟨HA, dn, HC, dl⟩⟩, rfl, ⟨⟨hso.out.1, ?_⟩, fun y hy => ⟨(hse.out y hy).1, ?_⟩, ⟨HND.out, ?_⟩⟩, ?_, ?_⟩
      · exact own_setCell_below (own_setCell_below (own_mono hso.out.2 (by have := HGS.out; have := HSZ0.out; omega : w.heap.size + 2 ≤ g + 1)) (by simp only; omega) _) (by simp only; omega) _ |> fun h => own_mono h (by omega)
      · exact own_setCell_below (own_setCell_below (own_mono (hse.out y hy).2 (by have := HGS.out; have := HSZ0.out; omega : w.heap.size + 2 ≤ g + 1)) (by simp only; omega) _) (by simp only; omega) _ |> fun h => own_mono h (by omega)
      · have h1 := own_below HWH.out (by rw [← HG.out]; exact hbw.out)
        exact own_setCell_below (own_setCell_below (own_mono h1 (by have := HSZ0.out; omega : w.heap.size + 2 ≤ W0.heap.size)) (by simp only; omega) _) (by simp only; omega) _ |> fun h => own_mono h (by omega)
      · show TabC.mk (sl.map SesR.con) dl = T
        rw [hsc.out, List.take_of_length_le (by have := HN.out; simp; omega), ← HTO.out, ← HTH.out]
      · exact (HBB.out.setCell (by simp only; omega) _).setCell (by simp only; omega) _
end Go.Proofs.YtjdebhemoeojiaaDoor
