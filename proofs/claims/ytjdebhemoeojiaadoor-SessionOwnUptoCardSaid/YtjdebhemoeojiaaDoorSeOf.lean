/-
  session.Of, by its contract.
-/
import Derived.Test.YtjdebhemoeojiaaDoorSeTab
import Derived.Test.YtjdebhemoeojiaaDoorCloneB
namespace Go.Proofs.YtjdebhemoeojiaaDoor
open Go.RowKit

theorem own_other {w w' : World} {base base' k k' n n' : Nat} {e e' : TypeId} {v v' : Value} {xs xs' : List Value} (h : w.ownsRow base e k v n xs) (hs : w.ownsRow base' e' k' v' n' xs') (hne : e ≠ e') (hg : w.grownBy w' v'.ownBlock) : w'.ownsRow base e k v n xs := by
  refine h.kept hg ?_
  rcases h.2 with ⟨rfl, _⟩ | ⟨g, cap, cur, rfl, _, hh, _⟩
  · left; rfl
  · right
    exact fun e1 => own_blk_ne hs (show Blk w g e cur from hh) (Ne.symm hne) (by rw [← e1]; rfl)
theorem blk5 {w : World} {g : Nat} {t : TypeId} {a b c d e : Value} (h : Blk w g t #[a, b, c, d, e]) :
    (w.cell? ⟨g, 0, none⟩ = some a ∧ w.cell? ⟨g, 1, none⟩ = some b ∧ w.cell? ⟨g, 2, none⟩ = some c ∧ w.cell? ⟨g, 3, none⟩ = some d ∧ w.cell? ⟨g, 4, none⟩ = some e) ∧ w.frozen? ⟨g, 3, none⟩ = false :=
  ⟨⟨by simpa using h.cell 0, by simpa using h.cell 1, by simpa using h.cell 2, by simpa using h.cell 3, by simpa using h.cell 4⟩, h.frozen 3⟩
theorem cellsU_one (l : BS) : ∀ u ∈ cellsK encU l, u.oneCell' = true := by rw [encU_bts]; exact bts_one l
theorem seOf_take {l : List SesC} {t : BS} {k : Nat} (hk : k < l.length) : ((l[k]'hk).ten = t → seOf (l.take (k + 1)) t = seOf (l.take k) t ++ [l[k]'hk]) ∧ (¬ (l[k]'hk).ten = t → seOf (l.take (k + 1)) t = seOf (l.take k) t) := by
  rw [List.take_add_one, List.getElem?_eq_getElem hk]
  unfold seOf
  rw [List.filter_append]
  refine ⟨fun h => ?_, fun h => ?_⟩
  · simp [h]
  · simp [h]
theorem Tryd.ses_info : (Tryd.prog.info? 33).map (fun i => (i.zero, i.size, i.bytes)) = some (some (.agg #[.string ByteArray.empty, .int .i64 0, .string ByteArray.empty, .slice none 0 0, .bool false]), 5, 72) := by kernel_rfl
set_option maxRecDepth 100000 in
set_option maxHeartbeats 2000000 in
theorem of_any (t : TabR) (x : BS) (w : World) (B : Nat) (hr : t.rd w B) (hB : B ≤ w.heap.size) (hz : t.sz) :
    Calls Tryd.prog 19 #[t.val, .string ⟨x.toArray⟩] w fun e w' => ∃ s : FS SesR, e = .returned s.val ∧ s.own w' w.heap.size 33 5 encSes ∧ (∀ y ∈ s.l, SesO w' w.heap.size y) ∧ s.l.map SesR.con = seOf t.con.opn x ∧ Below w.heap.size w w' := by
  obtain ⟨⟨oA, on, oc, ol⟩, ⟨dA, dn, dc, dl⟩⟩ := t
  obtain ⟨i0, hi0, hz0, hz1, hz2⟩ := info_parts Tryd.ses_info
  have HN := Lib.hid (show on = ol.length from hr.opn.1)
  have hsz : on ≤ 1000000000 := hz.opn
  have hrh : Reads w B 5 oA on (cellsK encSes ol) := hr.opn.2.2
  have hre : ∀ y ∈ ol, y.rd w B := hr.each
  have hze : ∀ y ∈ ol, y.sz := hz.each
  show Calls Tryd.prog 19 #[.agg #[.slice oA on oc, .slice dA dn dc], .string ⟨x.toArray⟩] w fun e w' => ∃ s : FS SesR, e = .returned s.val ∧ s.own w' w.heap.size 33 5 encSes ∧ (∀ y ∈ s.l, SesO w' w.heap.size y) ∧ s.l.map SesR.con = seOf (ol.map SesR.con) x ∧ _
  have hb1 := (Below.refl w.heap.size w).alloc (Nat.le_refl _) (.cells #[.slice oA on oc, .slice dA dn dc] 25)
  have kT := Blk.new w 25 #[.slice oA on oc, .slice dA dn dc]
  obtain ⟨W1, hW1⟩ : ∃ W, W = w.alloc (.cells #[.slice oA on oc, .slice dA dn dc] 25) := ⟨_, rfl⟩
  have hsz1 : W1.heap.size = w.heap.size + 1 := by rw [hW1]; simp
  rw [← hW1] at hb1 kT
  have hT := Lib.hid (fun (W' : World) (hB' : Below W1.heap.size W1 W') => (⟨(kT.below hB' (by omega)).cell 0, (kT.below hB' (by omega)).cell 1⟩ : W'.cell? ⟨w.heap.size, 0, none⟩ = some (.slice oA on oc) ∧ W'.cell? ⟨w.heap.size, 1, none⟩ = some (.slice dA dn dc)))
  have hrw : Hid (∀ W, Below W1.heap.size W1 W → Reads W B 5 oA on (cellsK encSes ol) ∧ w.heap.size < W.heap.size ∧ Below w.heap.size w W ∧ (∀ y ∈ ol, y.rd W B ∧ y.sz)) := by
    show ∀ W, _ → _
    intro W h
    have h1 := hb1.trans (h.mono (by omega))
    exact ⟨hrh.below (h1.mono hB), by have := h.size; omega, h1, fun y hy => ⟨(hre y hy).below (h1.mono hB), hze y hy⟩⟩
  obtain ⟨c0, c1⟩ := hT.out _ (Below.refl _ _)
  have HSZ := Lib.hid hsz1
  clear hb1 kT hr hz hsz1 hrh hre hze
  go_enter Tryd.func19, Tryd.ntmps19
  go_wp2_with fail
  rw [← hW1]
  clear hW1
  go_wp2_with fail
  clear c0 c1
  go_loopw [5, 11] (fun o i wr => ∃ (k : Nat) (s : FS SesR), k ≤ on ∧ i = .int .i64 (k : Int) ∧ o = .slice s.A s.n s.c ∧ Hid (s.own wr W1.heap.size 33 5 encSes) ∧ Hid (∀ y ∈ s.l, SesO wr W1.heap.size y) ∧ Hid (s.l.map SesR.con = seOf ((ol.map SesR.con).take k) x) ∧ Hid (s.n ≤ k) ∧ Below W1.heap.size W1 wr) (fun _ i _ => on - (intOf i).toNat)
  case atStart => exact ⟨0, ⟨none, 0, 0, []⟩, Nat.zero_le _, rfl, rfl, ⟨rfl, World.ownsRow_nil _ _ _ _⟩, (show ∀ y ∈ _, _ from fun y hy => by cases hy), rfl, Nat.le_refl _, Below.refl _ _⟩
  case round =>
    obtain ⟨k, ⟨sA, sn, sc, sl⟩, hk, rfl, rfl, hso, hse, hsc, hsk, hbw⟩ := hrel
    by_cases hlt : k < on
    · have hki : (k : Int) < (on : Int) := by omega
      have hkl : k < ol.length := by have := HN.out; omega
      obtain ⟨hrk, hsl, hbb, hel⟩ := hrw.out wr hbw
      obtain ⟨ad, rfl, hadB, q0, q1, q2, q3, q4⟩ := ses_at hrk HN.out hlt
      have hst := seOf_take (l := ol.map SesR.con) (t := x) (k := k) (by simpa using hkl)
      rw [List.getElem_map] at hst
      have hey := hel _ (List.getElem_mem hkl)
      obtain ⟨y, hy⟩ : ∃ y, y = ol[k]'hkl := ⟨_, rfl⟩
      rw [← hy] at q0 q1 q2 q3 q4 hst hey
      obtain ⟨yt, yh, yi, ⟨yA, yn, yc, yl⟩, yb⟩ := y
      simp only [SesR.con] at q0 q1 q2 q3 q4 hst
      obtain ⟨W2, hW2⟩ : ∃ W2, W2 = wr.alloc (.cells #[.string ⟨yt.toArray⟩, .int .i64 yh, .string ⟨yi.toArray⟩, .slice yA yn yc, .bool yb] 33) := ⟨_, rfl⟩
      have hba := hbw.alloc hbw.size (.cells #[.string ⟨yt.toArray⟩, .int .i64 yh, .string ⟨yi.toArray⟩, .slice yA yn yc, .bool yb] 33)
      have hbr := (Below.refl wr.heap.size wr).alloc (Nat.le_refl _) (.cells #[.string ⟨yt.toArray⟩, .int .i64 yh, .string ⟨yi.toArray⟩, .slice yA yn yc, .bool yb] 33)
      have hsz2 : W2.heap.size = wr.heap.size + 1 := by rw [hW2]; simp
      have kB := Blk.new wr 33 #[.string ⟨yt.toArray⟩, .int .i64 yh, .string ⟨yi.toArray⟩, .slice yA yn yc, .bool yb]
      rw [← hW2] at hba hbr kB
      have HST := Lib.hid hst
      by_cases hx1 : yt = x
      · have hd1 : (yt == x) = true := by simp [hx1]
        have hST := Lib.hid (HST.out.1 hx1)
        have hrd2 : Reads W2 B 1 yA yn (cellsK encU yl) := (hey.1.below (hbr.mono (by have := hbb.size; omega))).2.2
        have hcl := clone_any (cellsK encU yl) yn yA yc W2 B hrd2 (by have := hbb.size; omega) (cellsU_one yl) (by have := hey.2.rest; simp only at this; omega)
        have HYN := Lib.hid (show yn = yl.length from hey.1.1)
        have HBA := Lib.hid hba
        have HBR := Lib.hid hbr
        have HSZ2 := Lib.hid hsz2
        have HKB := Lib.hid kB
        have HBW := Lib.hid hbw
        clear hx1 hst hey hy hrk hel hbb hba hbr hsz2 kB hrd2 HST hbw
        go_wp2_with fail
        rw [← hW2]
        clear hW2
        refine hcl.mono ?_
        clear hcl q0 q1 q2 q3 q4
        rintro e w3 ⟨v, rfl, hown3, hb3⟩
        obtain ⟨A3, c3, rfl, hc3, -, -⟩ := own_form hown3
        have k3 := HKB.out.below hb3 HKB.out.lt
        obtain ⟨⟨p0, p1, p2, p3, p4⟩, f3⟩ := blk5 k3
        have k4 := k3.set_ 3 (.slice A3 yn c3)
        obtain ⟨W4, hW4⟩ : ∃ W4, W4 = w3.setCell ⟨wr.heap.size, 3, none⟩ (.slice A3 yn c3) := ⟨_, rfl⟩
        rw [← hW4] at k4
        have hbr3 : Below wr.heap.size wr w3 := HBR.out.trans (hb3.mono (by have := HSZ2.out; omega))
        have hbr4 : Below wr.heap.size wr W4 := by rw [hW4]; exact hbr3.setCell (Nat.le_refl _) _
        have hsz4 : W4.heap.size = w3.heap.size := by rw [hW4]; simp [World.setCell]
        have hso4 := Lib.hid (hso.out.below hbr4)
        have hse4 : Hid (∀ y ∈ sl, SesO W4 W1.heap.size y) := show ∀ y ∈ sl, _ from fun y hy => (hse.out y hy).below hbr4
        have hrs4 : Hid (SesO W4 W1.heap.size ⟨yt, yh, yi, ⟨A3, yn, c3, yl⟩, yb⟩) := by
          refine ⟨HYN.out, ?_⟩
          show World.ownsRow _ _ _ _ _ _ _
          rw [hW4]
          exact own_mono (own_setCell_below hown3 (p := ⟨wr.heap.size, 3, none⟩) (by have := HSZ2.out; simp only; omega) _) (by have := HSZ2.out; have := HBW.out.size; omega)
        have hbw4 := Lib.hid (HBW.out.trans (hbr4.mono HBW.out.size))
        have HW4 := Lib.hid hW4
        have HB4 := Lib.hid hbr4
        clear hown3 hb3 k3 hbr3 hbr4 hsz4 hW4 hc3 k4
        go_wp2_with (at_builtin; (refine wpList_push _ rfl (.tmp 23) (.tmp 25) 22 rfl W1.heap.size 33 i0 _ 5 72 Tryd.underlying22 hi0 hz0 hz1 hz2 rfl (by decide) (.slice sA sn sc) sn (cellsK encSes sl) rfl (by rw [← HW4.out]; exact hso4.out.2) 1 #[.string ⟨yt.toArray⟩, .int .i64 yh, .string ⟨yi.toArray⟩, .slice A3 yn c3, .bool yb] 33 (by simp [Act.eval, World.setCell]) rfl (by intro u hu; simp at hu; rcases hu with rfl | rfl | rfl | rfl | rfl <;> rfl) (by have := hsk.out; unfold maxLen; omega) (by have := hsk.out; omega) (by rw [← HW4.out]; exact hbw4.out.size) ?_); rw [← HW4.out]; intro v5 w5 hown5 hb5 hg5)
        obtain ⟨A5, c5, rfl, hc5, -, -⟩ := own_form hown5
        go_roundw
        case rel =>
          refine ⟨k + 1, ⟨A5, sn + 1, c5, sl ++ [⟨yt, yh, yi, ⟨A3, yn, c3, yl⟩, yb⟩]⟩, by omega, by go_num, rfl, ⟨?_, ?_⟩, ?_, ?_, ?_, hbw4.out.trans (hb5.mono (Nat.le_refl _))⟩
          · rw [List.length_append]; have := hso4.out.1; show sn + 1 = _; rw [show sn = sl.length from this]; rfl
          · rw [cellsK_append, cellsK_one]; exact hown5
          · show ∀ y ∈ _, _
            intro y hy
            rcases List.mem_append.1 hy with hy | hy
            · have := hse4.out y hy
              exact ⟨this.1, own_other this.2 hso4.out.2 (by decide) hg5⟩
            · rw [List.mem_singleton.1 hy]
              exact ⟨hrs4.out.1, own_other hrs4.out.2 hso4.out.2 (by decide) hg5⟩
          · show _ = _
            rw [hST.out, ← hsc.out, List.map_append]; rfl
          · have := hsk.out; show sn + 1 ≤ k + 1; omega
        case measure => simp [intOf]; omega
      · have hd1 : (yt == x) = false := by simp [hx1]
        have hST := Lib.hid (HST.out.2 hx1)
        have HBA := Lib.hid hba
        have HBR := Lib.hid hbr
        clear hx1 hst hey hy hrk hel hbb hba hbr hsz2 kB HST
        go_wp2_with fail
        rw [← hW2]
        clear hW2
        go_roundw
        case rel => exact ⟨k + 1, ⟨sA, sn, sc, sl⟩, by omega, by go_num, rfl, hso.out.below HBR.out, (show ∀ y ∈ sl, _ from fun y hy => (hse.out y hy).below HBR.out), (show _ = _ by rw [hST.out]; exact hsc.out), (show sn ≤ k + 1 by have := hsk.out; simp only at this; omega), HBA.out⟩
        case measure => simp [intOf]; omega
    · have hke : k = on := by omega
      have hnl : ¬ (k : Int) < (on : Int) := by omega
      have HBB := Lib.hid (hrw.out wr hbw)
      go_wp2_with fail
      go_ret
      refine ⟨⟨sA, sn, sc, sl⟩, rfl, hso.out.mono (by have := HSZ.out; omega), fun y hy => (hse.out y hy).mono (by have := HSZ.out; omega), ?_, HBB.out.2.2.1⟩
      rw [hsc.out, List.take_of_length_le (by have := HN.out; simp; omega)]
end Go.Proofs.YtjdebhemoeojiaaDoor
