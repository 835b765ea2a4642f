/-
  perms.Allow, Deny, by their contracts.
-/
import Derived.Test.YtodikfhaghpkhaaDoorPmOf
import Derived.Test.YtodikfhaghpkhaaDoorPmSearch
import Derived.Test.YtodikfhaghpkhaaDoorPmClone
import Derived.Test.YtodikfhaghpkhaaDoorPmIns
import Derived.Test.YtodikfhaghpkhaaDoorPmDel
namespace Go.Proofs.YtodikfhaghpkhaaDoor
open Go.RowKit

def GPost (w : World) (F : GL) (E : Int) (e : Ending) (w' : World) : Prop :=
  ∃ v, e = .returned (.tuple #[v, .int .i64 E]) ∧ (if E = 0 then w'.ownsRow w.heap.size 45 3 v F.length (gcells F) else v = .slice none 0 0) ∧ Below w.heap.size w w'
theorem gcells_append (a b : GL) : gcells (a ++ b) = gcells a ++ gcells b := by simp [gcells, cellsK]
theorem gcells_length (l : GL) : (gcells l).length = l.length * 3 := cellsK_length (enc := fun x : GT => [.string ⟨x.1.toArray⟩, .string ⟨x.2.1.toArray⟩, .int .i64 x.2.2]) (k := 3) (fun _ => rfl) l
theorem gcells_take (l : GL) (k : Nat) : gcells (l.take k) = (gcells l).take (k * 3) := cellsK_take (enc := fun x : GT => [.string ⟨x.1.toArray⟩, .string ⟨x.2.1.toArray⟩, .int .i64 x.2.2]) (k := 3) (fun _ => rfl) l k
theorem gcells_drop (l : GL) (k : Nat) : gcells (l.drop k) = (gcells l).drop (k * 3) := cellsK_drop (enc := fun x : GT => [.string ⟨x.1.toArray⟩, .string ⟨x.2.1.toArray⟩, .int .i64 x.2.2]) (k := 3) (fun _ => rfl) l k
theorem gcells_one (l : GL) : ∀ u ∈ gcells l, u.oneCell' = true := by
  intro u hu
  unfold gcells cellsK at hu
  obtain ⟨x, _, hx⟩ := List.mem_flatMap.1 hu
  simp only [List.mem_cons, List.not_mem_nil, or_false] at hx
  rcases hx with rfl | rfl | rfl <;> rfl
theorem set_atG (l : GL) (p : Nat) (u q : BS) (z : Int) (h : ∃ g, l[p]? = some g ∧ g.1 = u ∧ g.2.1 = q) : (gcells l).set (p * 3 + 2) (.int .i64 z) = gcells (l.take p ++ [(u, q, z)] ++ l.drop (p + 1)) := by
  obtain ⟨g, hg, rfl, rfl⟩ := h
  have hlt := (List.getElem?_eq_some_iff.1 hg).1
  conv => lhs; rw [split_at l p g hg]
  rw [gcells_append, gcells_append, gcells_append, gcells_append, List.append_assoc, List.append_assoc]
  rw [List.set_append_right _ _ (by rw [gcells_length, List.length_take]; omega), gcells_length, List.length_take, Nat.min_eq_left (by omega), show p * 3 + 2 - p * 3 = 2 by omega]
  rfl
theorem gcells_at2 (l : GL) (p : Nat) (g : GT) (h : l[p]? = some g) : (gcells l)[p * 3 + 2]? = some (.int .i64 g.2.2) := by
  obtain ⟨hlt, hg⟩ := List.getElem?_eq_some_iff.1 h
  rw [show (gcells l)[p * 3 + 2]? = _ from cellsK_get (enc := fun x : GT => [.string ⟨x.1.toArray⟩, .string ⟨x.2.1.toArray⟩, .int .i64 x.2.2]) (k := 3) (fun _ => rfl) l p hlt 2 (by omega), hg]
  rfl

set_option maxRecDepth 100000 in
set_option maxHeartbeats 2000000 in
theorem allowG_any (l : GL) (u q : BS) (r : Int) (n : Nat) (hnl : n = l.length) (A : Option Addr) (c : Nat) (w : World) (B : Nat) (hr : Reads w B 3 A n (gcells l)) (hB : B ≤ w.heap.size) (hn : n ≤ 1000000000000) (hv : lenG l) (hq : q.length ≤ 4000000000) (hmx : HasMax w) :
    Calls Tryd.prog 13 #[.slice A n c, .string ⟨u.toArray⟩, .string ⟨q.toArray⟩, .int .i64 r] w (GPost w (allowL l u q r) (allowE l u q r)) := by
  have hck := rightG_any l u q r n hnl A c w B hr hB (by omega) hv hq hmx
  by_cases h0 : rightE l u q r = 0
  · rw [h0] at hck
    obtain ⟨hgl, -⟩ := rightE_zero l u q r h0
    have hso := ((grantsB_iff l).1 hgl).2.2
    have h16 := ((grantsB_iff l).1 hgl).1
    have hsr := fun w' (hb : Below w.heap.size w w') => searchG_any (fun x : GT => .string ⟨x.1.toArray⟩) (fun x => .string ⟨x.2.1.toArray⟩) (fun x => .int .i64 x.2.2) (cfG u q) l (cfG_asc l hso u q) n hnl A c u q r w' B (hr.below (hb.mono hB)) (by have := hb.size; omega) (by omega) (fun x W _ => orderG_any x.1 x.2.1 u q x.2.2 r W)
    have hp := posF_le (cfG u q) l
    have hcl := fun w' (hb : Below w.heap.size w w') => cloneG_any (gcells l) n A c w' B (hr.below (hb.mono hB)) (by have := hb.size; omega) (gcells_one l) (by omega)
    have hatg := at_get l u q
    have hAL : allowL l u q r = l.take (posF (cfG u q) l) ++ [if atF (cfG u q) l = true then (u, q, bits .or .i64 (oldP l (posF (cfG u q) l)) r) else (u, q, r)] ++ l.drop (posF (cfG u q) l + if atF (cfG u q) l = true then 1 else 0) := rfl
    have hAE : allowE l u q r = if atF (cfG u q) l = false ∧ l.length = 16 then 3 else 0 := by unfold allowE; rw [if_pos h0]
    obtain ⟨p, hpp⟩ : ∃ p, p = posF (cfG u q) l := ⟨_, rfl⟩
    obtain ⟨t, htt⟩ : ∃ t, t = atF (cfG u q) l := ⟨_, rfl⟩
    rw [← hpp] at hp
    rw [← hpp, ← htt] at hsr hAL hatg
    rw [← htt] at hAE
    have hpn : p ≤ n := by omega
    have h16n : n ≤ 16 := by omega
    have HN := Lib.hid hnl
    have HAL := Lib.hid hAL
    have HAE := Lib.hid hAE
    have HATG := Lib.hid hatg
    have HCK := Lib.hid hck
    have HSR := Lib.hid hsr
    have HCL := Lib.hid hcl
    clear hpp htt hAL hAE hnl h0 hp hso hck hsr hcl hv hatg hgl h16 hr
    cases t with
    | true =>
      have HE : Hid (allowE l u q r = 0) := by show _ = _; rw [HAE.out, if_neg (by simp)]
      have HG := Lib.hid (HATG.out rfl)
      have hpl : p < n := by
        obtain ⟨g, hg, _⟩ := HG.out
        have := (List.getElem?_eq_some_iff.1 hg).1
        have := HN.out
        omega
      obtain ⟨g, hg⟩ := HG.out
      have HGG := Lib.hid hg
      obtain ⟨gu, gq, gz⟩ := g
      have HOLD : Hid (oldP l p = gz) := by show _ = _; unfold oldP; rw [HGG.out.1]; rfl
      clear hg
      have HLL : Hid ((allowL l u q r).length = n) := by
        show _ = _
        rw [HAL.out]
        simp only [List.length_append, List.length_take, List.length_drop, List.length_cons, List.length_nil, if_true]
        have := HN.out
        omega
      have HAL2 : Hid (allowL l u q r = l.take p ++ [(u, q, bits .or .i64 gz r)] ++ l.drop (p + 1)) := by
        show _ = _
        rw [HAL.out, if_pos rfl, if_pos rfl, HOLD.out]
      have hpi : (p : Int) < (n : Int) := by omega
      go_enter Tryd.func13, Tryd.ntmps13
      go_wp2_with fail
      refine HCK.out.mono ?_
      rintro e w1 ⟨rfl, hb1⟩
      have hb2 := hb1.alloc hb1.size (.cells #[.string ⟨u.toArray⟩, .string ⟨q.toArray⟩, .int .i64 r] 45)
      go_wp2_with fail
      refine (HSR.out _ hb2).mono ?_
      rintro e w2 ⟨rfl, hb3⟩
      have hb4 := hb2.trans (hb3.mono hb2.size)
      clear hb1 hb2 hb3
      go_wp2_with fail
      refine (HCL.out w2 hb4).mono ?_
      rintro e w5 ⟨v5, rfl, hown, hb5⟩
      have hbb := hb4.trans (hb5.mono hb4.size)
      have hsz := hb4.size
      have hsz5 : w2.heap.size ≤ w5.heap.size := hb5.size
      clear hb4 hb5 HCL HCK HSR
      rcases hown.2 with ⟨_, h00⟩ | ⟨gg, cap, cur, rfl, hbg, _, _, _, _, _⟩
      · omega
      · have hst := hown.stored (p * 3 + 2) (.int .i64 (bits .or .i64 gz r))
        rw [set_atG l p u q (bits .or .i64 gz r) ⟨(gu, gq, gz), HGG.out⟩] at hst
        have hcell := (hown.cellAt (p * 3 + 2) (by omega)).trans (gcells_at2 l p (gu, gq, gz) HGG.out.1)
        have hfz := hown.frozenAt (p * 3 + 2)
        have HST := Lib.hid hst
        simp only at hcell
        clear hst
        go_wp2_with fail
        go_ret2
        refine ⟨_, by rw [HE.out]; rfl, ?_, hbb.setCell (by show _ ≤ gg; omega) _⟩
        rw [if_pos HE.out, HLL.out, HAL2.out]
        exact own_mono HST.out.1 hsz
    | false =>
      by_cases h16 : n = 16
      · have HE : Hid (allowE l u q r = 3) := by show _ = _; rw [HAE.out, if_pos ⟨rfl, by rw [← HN.out]; exact h16⟩]
        have h16a : ((n : Int) == 16) = true := by simp [h16]
        clear h16
        go_enter Tryd.func13, Tryd.ntmps13
        go_wp2_with fail
        refine HCK.out.mono ?_
        rintro e w1 ⟨rfl, hb1⟩
        have hb2 := hb1.alloc hb1.size (.cells #[.string ⟨u.toArray⟩, .string ⟨q.toArray⟩, .int .i64 r] 45)
        go_wp2_with fail
        refine (HSR.out _ hb2).mono ?_
        rintro e w2 ⟨rfl, hb3⟩
        have hb4 := hb2.trans (hb3.mono hb2.size)
        clear hb1 hb2 hb3
        go_wp2_with fail
        refine (HCL.out w2 hb4).mono ?_
        rintro e w5 ⟨v5, rfl, hown, hb5⟩
        have hbb := hb4.trans (hb5.mono hb4.size)
        clear hb4 hb5 HCL HCK HSR hown
        go_wp2_with fail
        go_ret2
        refine ⟨_, by rw [HE.out]; rfl, ?_, hbb⟩
        rw [HE.out, if_neg (by decide)]; rfl
      · have HE : Hid (allowE l u q r = 0) := by show _ = _; rw [HAE.out, if_neg (by rw [← HN.out]; exact fun h => h16 h.2)]
        have h16a : ((n : Int) == 16) = false := by simp; omega
        have HAL2 : Hid (allowL l u q r = l.take p ++ [(u, q, r)] ++ l.drop p) := by
          show _ = _
          rw [HAL.out, if_neg (by simp), if_neg (by simp)]
          rfl
        have HLL : Hid ((allowL l u q r).length = n + 1) := by
          show _ = _
          rw [HAL2.out]
          simp only [List.length_append, List.length_take, List.length_drop, List.length_cons, List.length_nil]
          have := HN.out
          omega
        clear h16
        go_enter Tryd.func13, Tryd.ntmps13
        go_wp2_with fail
        refine HCK.out.mono ?_
        rintro e w1 ⟨rfl, hb1⟩
        have hb2 := hb1.alloc hb1.size (.cells #[.string ⟨u.toArray⟩, .string ⟨q.toArray⟩, .int .i64 r] 45)
        have hk := Blk.new w1 45 #[.string ⟨u.toArray⟩, .string ⟨q.toArray⟩, .int .i64 r]
        go_wp2_with fail
        refine (HSR.out _ hb2).mono ?_
        rintro e w2 ⟨rfl, hb3⟩
        have hb4 := hb2.trans (hb3.mono hb2.size)
        have hk2 := hk.below hb3 (by simp)
        have hsk : w1.heap.size < w2.heap.size := by have := hb3.size; simp at this; omega
        clear hb1 hb2 hb3 hk
        go_wp2_with fail
        refine (HCL.out w2 hb4).mono ?_
        rintro e w5 ⟨v5, rfl, hown, hb5⟩
        have hbb := hb4.trans (hb5.mono hb4.size)
        have hsz := hb4.size
        have hsz5 : w2.heap.size ≤ w5.heap.size := hb5.size
        have hk3 := hk2.below hb5 hsk
        have j0 : w5.cell? ⟨w1.heap.size, 0, none⟩ = some (.string ⟨u.toArray⟩) := hk3.cell 0
        have j1 : w5.cell? ⟨w1.heap.size, 1, none⟩ = some (.string ⟨q.toArray⟩) := hk3.cell 1
        have j2 : w5.cell? ⟨w1.heap.size, 2, none⟩ = some (.int .i64 r) := hk3.cell 2
        clear hb4 hb5 HCL HCK HSR hk2 hk3
        obtain ⟨A3, c3, rfl, _, _, _⟩ := own_form hown
        have hown4 := hown.alloc (.cells #[.string ⟨u.toArray⟩, .string ⟨q.toArray⟩, .int .i64 r] 45)
        have hnew := Blk.new w5 45 #[.string ⟨u.toArray⟩, .string ⟨q.toArray⟩, .int .i64 r]
        have hins := insG_any #[.string ⟨u.toArray⟩, .string ⟨q.toArray⟩, .int .i64 r] rfl (by simp [Value.oneCell']) (gcells l) (gcells_one l) w5.heap.size 45 _ n p A3 c3 _ hpn hown4 (by show w2.heap.size ≤ _; simp; omega) (by omega) hnew (fun e => by have := (hown.lt _ e).2; omega)
        have HLT := Lib.hid (fun k hk => (hown4.lt k hk).1)
        have HB2 := Lib.hid (hbb.alloc (by omega) (.cells #[.string ⟨u.toArray⟩, .string ⟨q.toArray⟩, .int .i64 r] 45))
        clear hown4 hnew hown
        go_wp2_with fail
        refine hins.mono ?_
        clear hins
        rintro e w6 ⟨v6, rfl, hown5, hg⟩
        have HO := Lib.hid hown5
        have HG := Lib.hid hg
        clear hown5 hg
        go_wp2_with fail
        go_ret2
        refine ⟨v6, by rw [HE.out]; rfl, ?_, HB2.out.grown HG.out (by simp; omega) (fun k hk => by have := HLT.out k hk; omega)⟩
        rw [if_pos HE.out, HLL.out, HAL2.out, gcells_append, gcells_append, gcells_take, gcells_drop]
        exact own_mono HO.out hsz
  · have HE : Hid (allowE l u q r = rightE l u q r) := by show _ = _; unfold allowE; rw [if_neg h0]
    obtain ⟨E, hE⟩ : ∃ E, E = rightE l u q r := ⟨_, rfl⟩
    rw [← hE] at hck HE h0
    have h0b : (E == 0) = false := by simpa using h0
    have h0c : (E != 0) = true := by simpa using h0
    have H0 := Lib.hid h0
    clear hE h0 hr hnl hv
    go_enter Tryd.func13, Tryd.ntmps13
    go_wp2_with fail
    refine hck.mono ?_
    clear hck
    rintro e w1 ⟨rfl, hb1⟩
    go_wp2_with fail
    go_ret2
    refine ⟨_, by rw [HE.out]; rfl, ?_, hb1⟩
    rw [HE.out, if_neg H0.out]; rfl
theorem gcells_del (l : GL) (p : Nat) (g : GT) (hp : p < l.length) : (gcells (l.take p ++ [g] ++ l.drop (p + 1))).take (p * 3) ++ (gcells (l.take p ++ [g] ++ l.drop (p + 1))).drop ((p + 1) * 3) = gcells (l.take p ++ l.drop (p + 1)) := by
  have h1 : (l.take p).length = p := by rw [List.length_take]; omega
  rw [← gcells_take, ← gcells_drop, ← gcells_append]
  congr 1
  rw [List.append_assoc, List.take_left' h1, ← List.append_assoc, List.drop_left' (by rw [List.length_append, h1]; rfl)]
set_option maxRecDepth 100000 in
set_option maxHeartbeats 2000000 in
theorem denyG_any (l : GL) (u q : BS) (r : Int) (n : Nat) (hnl : n = l.length) (A : Option Addr) (c : Nat) (w : World) (B : Nat) (hr : Reads w B 3 A n (gcells l)) (hB : B ≤ w.heap.size) (hn : n ≤ 1000000000000) (hv : lenG l) (hq : q.length ≤ 4000000000) (hmx : HasMax w) :
    Calls Tryd.prog 18 #[.slice A n c, .string ⟨u.toArray⟩, .string ⟨q.toArray⟩, .int .i64 r] w (GPost w (denyL l u q r) (denyE l u q r)) := by
  have hck := rightG_any l u q r n hnl A c w B hr hB (by omega) hv hq hmx
  by_cases h0 : rightE l u q r = 0
  · rw [h0] at hck
    obtain ⟨hgl, -⟩ := rightE_zero l u q r h0
    have hso := ((grantsB_iff l).1 hgl).2.2
    have h16 := ((grantsB_iff l).1 hgl).1
    have hsr := fun w' (hb : Below w.heap.size w w') => searchG_any (fun x : GT => .string ⟨x.1.toArray⟩) (fun x => .string ⟨x.2.1.toArray⟩) (fun x => .int .i64 x.2.2) (cfG u q) l (cfG_asc l hso u q) n hnl A c u q 0 w' B (hr.below (hb.mono hB)) (by have := hb.size; omega) (by omega) (fun x W _ => orderG_any x.1 x.2.1 u q x.2.2 0 W)
    have hp := posF_le (cfG u q) l
    have hcl := fun w' (hb : Below w.heap.size w w') => cloneG_any (gcells l) n A c w' B (hr.below (hb.mono hB)) (by have := hb.size; omega) (gcells_one l) (by omega)
    have hatg := at_get l u q
    have hAL : denyL l u q r = l.take (posF (cfG u q) l) ++ (if bits .andNot .i64 (oldP l (posF (cfG u q) l)) r = 0 then [] else [(u, q, bits .andNot .i64 (oldP l (posF (cfG u q) l)) r)]) ++ l.drop (posF (cfG u q) l + 1) := rfl
    have hAE : denyE l u q r = if atF (cfG u q) l = true then 0 else 71 := by unfold denyE; rw [if_pos h0]
    obtain ⟨p, hpp⟩ : ∃ p, p = posF (cfG u q) l := ⟨_, rfl⟩
    obtain ⟨t, htt⟩ : ∃ t, t = atF (cfG u q) l := ⟨_, rfl⟩
    rw [← hpp] at hp
    rw [← hpp, ← htt] at hsr hatg
    rw [← hpp] at hAL
    rw [← htt] at hAE
    have hpn : p ≤ n := by omega
    have h16n : n ≤ 16 := by omega
    have HN := Lib.hid hnl
    have HAL := Lib.hid hAL
    have HAE := Lib.hid hAE
    have HATG := Lib.hid hatg
    have HCK := Lib.hid hck
    have HSR := Lib.hid hsr
    have HCL := Lib.hid hcl
    clear hpp htt hAL hAE hnl h0 hp hso hck hsr hcl hv hatg hgl h16 hr
    cases t with
    | true =>
      have HE : Hid (denyE l u q r = 0) := by show _ = _; rw [HAE.out, if_pos rfl]
      have HG := Lib.hid (HATG.out rfl)
      have hpl : p < n := by
        obtain ⟨g, hg, _⟩ := HG.out
        have := (List.getElem?_eq_some_iff.1 hg).1
        have := HN.out
        omega
      obtain ⟨g, hg⟩ := HG.out
      have HGG := Lib.hid hg
      obtain ⟨gu, gq, gz⟩ := g
      have hold : oldP l p = gz := by unfold oldP; rw [HGG.out.1]; rfl
      obtain ⟨z, hz⟩ : ∃ z, z = bits .andNot .i64 gz r := ⟨_, rfl⟩
      have HAL2 : Hid (denyL l u q r = l.take p ++ (if z = 0 then [] else [(u, q, z)]) ++ l.drop (p + 1)) := by
        show _ = _
        rw [HAL.out, hold, ← hz]
      have HZ := Lib.hid hz
      have hpl2 : p < l.length := by have := HN.out; omega
      have HPL := Lib.hid hpl2
      clear hg hold hz hpl2
      have hpi : (p : Int) < (n : Int) := by omega
      go_enter Tryd.func18, Tryd.ntmps18
      go_wp2_with fail
      refine HCK.out.mono ?_
      rintro e w1 ⟨rfl, hb1⟩
      go_wp2_with fail
      refine (HSR.out _ hb1).mono ?_
      rintro e w2 ⟨rfl, hb3⟩
      have hb4 := hb1.trans (hb3.mono hb1.size)
      clear hb1 hb3
      go_wp2_with fail
      refine (HCL.out w2 hb4).mono ?_
      rintro e w5 ⟨v5, rfl, hown, hb5⟩
      have hbb := hb4.trans (hb5.mono hb4.size)
      have hsz := hb4.size
      have hsz5 : w2.heap.size ≤ w5.heap.size := hb5.size
      clear hb4 hb5 HCL HCK HSR
      rcases hown.2 with ⟨_, h00⟩ | ⟨gg, cap, cur, rfl, hbg, _, _, _, _, _⟩
      · omega
      · have hst := hown.stored (p * 3 + 2) (.int .i64 z)
        rw [set_atG l p u q z ⟨(gu, gq, gz), HGG.out⟩] at hst
        have hcell := (hown.cellAt (p * 3 + 2) (by omega)).trans (gcells_at2 l p (gu, gq, gz) HGG.out.1)
        have hfz := hown.frozenAt (p * 3 + 2)
        have HST := Lib.hid hst.1
        have hbs : Below w.heap.size w (w5.setCell ⟨gg, p * 3 + 2, none⟩ (.int .i64 z)) := hbb.setCell (by show _ ≤ gg; omega) _
        obtain ⟨W, hW⟩ : ∃ W, W = w5.setCell ⟨gg, p * 3 + 2, none⟩ (.int .i64 z) := ⟨_, rfl⟩
        have hcell2 : W.cell? ⟨gg, p * 3 + 2, none⟩ = some (.int .i64 z) := by
          have h1 := hst.1.cellAt (p * 3 + 2) (by omega)
          rw [← hW] at h1
          rw [h1]
          exact gcells_at2 _ p (u, q, z) (by rw [List.append_assoc, List.getElem?_append_right (by rw [List.length_take]; omega), List.length_take]; simp [Nat.min_eq_left (show p ≤ l.length by have := HPL.out; omega)])
        have hW' : w5.setCell ⟨gg, p * 3 + 2, none⟩ (.int .i64 (bits .andNot .i64 gz r)) = W := by rw [← HZ.out]; exact hW.symm
        rw [← hW] at HST hbs
        simp only at hcell
        have hWW := Lib.hid hW'
        clear hst hW hW' hbb
        go_upto_region 9 with (fail)
        simp only [hWW.out]
        clear hcell hfz hWW
        by_cases hz0 : z = 0
        · have HLL : Hid ((denyL l u q r).length = n - 1) := by
            show _ = _
            rw [HAL2.out, if_pos hz0]
            simp only [List.length_append, List.length_take, List.length_drop, List.length_nil]
            have := HN.out
            omega
          have HZ0 := Lib.hid hz0
          have hzb : (z == 0) = true := by simpa using hz0
          have hdel := delG_any _ (gcells_one _) n p cap w2.heap.size _ W hpl (by omega) HST.out
          rw [gcells_del l p _ HPL.out] at hdel
          clear hz0
          go_wp2_with fail
          refine hdel.mono ?_
          clear hdel
          rintro e w6 ⟨v6, rfl, hown6, hg6⟩
          have HO := Lib.hid hown6
          have HB6 := Lib.hid (hbs.grown hg6 hbs.size (fun k hk => by have := (HST.out.lt k hk).1; omega))
          clear hown6 hg6
          go_wp2_with fail
          go_ret2
          refine ⟨v6, by rw [HE.out]; rfl, ?_, HB6.out⟩
          rw [if_pos HE.out, HLL.out, HAL2.out, if_pos HZ0.out, List.append_nil]
          exact own_mono HO.out hsz
        · have HLL : Hid ((denyL l u q r).length = n) := by
            show _ = _
            rw [HAL2.out, if_neg hz0]
            simp only [List.length_append, List.length_take, List.length_drop, List.length_cons, List.length_nil]
            have := HN.out
            omega
          have HZ0 := Lib.hid hz0
          have hzb : (z == 0) = false := by simpa using hz0
          clear hz0
          go_wp2_with fail
          go_ret2
          refine ⟨_, by rw [HE.out]; rfl, ?_, hbs⟩
          rw [if_pos HE.out, HLL.out, HAL2.out, if_neg HZ0.out]
          exact own_mono HST.out hsz
    | false =>
      have HE : Hid (denyE l u q r = 71) := by show _ = _; rw [HAE.out, if_neg (by simp)]
      go_enter Tryd.func18, Tryd.ntmps18
      go_wp2_with fail
      refine HCK.out.mono ?_
      rintro e w1 ⟨rfl, hb1⟩
      go_wp2_with fail
      refine (HSR.out _ hb1).mono ?_
      rintro e w2 ⟨rfl, hb3⟩
      have hb4 := hb1.trans (hb3.mono hb1.size)
      clear hb1 hb3 HCL HCK HSR
      go_wp2_with fail
      go_ret2
      refine ⟨_, by rw [HE.out]; rfl, ?_, hb4⟩
      rw [HE.out, if_neg (by decide)]; rfl
  · have HE : Hid (denyE l u q r = rightE l u q r) := by show _ = _; unfold denyE; rw [if_neg h0]
    obtain ⟨E, hE⟩ : ∃ E, E = rightE l u q r := ⟨_, rfl⟩
    rw [← hE] at hck HE h0
    have h0b : (E == 0) = false := by simpa using h0
    have h0c : (E != 0) = true := by simpa using h0
    have H0 := Lib.hid h0
    clear hE h0 hr hnl hv
    go_enter Tryd.func18, Tryd.ntmps18
    go_wp2_with fail
    refine hck.mono ?_
    clear hck
    rintro e w1 ⟨rfl, hb1⟩
    go_wp2_with fail
    go_ret2
    refine ⟨_, by rw [HE.out]; rfl, ?_, hb1⟩
    rw [HE.out, if_neg H0.out]; rfl
end Go.Proofs.YtodikfhaghpkhaaDoor
