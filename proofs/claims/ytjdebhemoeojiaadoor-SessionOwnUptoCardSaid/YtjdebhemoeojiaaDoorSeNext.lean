/-
  session.next, by its contract.
-/
import Derived.Test.YtjdebhemoeojiaaDoorSeCp
import Derived.Test.YtjdebhemoeojiaaDoorSeSrH
import Derived.Test.YtjdebhemoeojiaaDoorSeInH
namespace Go.Proofs.YtjdebhemoeojiaaDoor
open Go.RowKit

/-- all blocks of other elements stay -/
def KeepsT (T : TypeId) (w w' : World) : Prop := ∀ g t cs, t ≠ T → Blk w g t cs → Blk w' g t cs
section
variable {T e : TypeId} {w w' w'' : World} {base k n : Nat} {v : Value} {xs : List Value}
theorem KeepsT.refl (T : TypeId) (w : World) : KeepsT T w w := fun _ _ _ _ h => h
theorem KeepsT.trans (h : KeepsT T w w') (h' : KeepsT T w' w'') : KeepsT T w w'' := fun g t cs hn hb => h' g t cs hn (h g t cs hn hb)
theorem KeepsT.of_below (h : Below w.heap.size w w') : KeepsT T w w' := fun _ _ _ _ hb => hb.below h hb.lt
theorem KeepsT.of_grown (hs : w.ownsRow base T k v n xs) (h : w.grownBy w' v.ownBlock) : KeepsT T w w' := fun _ _ _ hn hb => hb.grown h (fun e => own_blk_ne hs hb (Ne.symm hn) e.symm)
theorem KeepsT.of_set {g i : Nat} {u : Value} (hs : w.ownsRow base T k v n xs) (hv : v.ownBlock = some g) : KeepsT T w (w.setCell ⟨g, i, none⟩ u) := fun _ _ _ hn hb => hb.far (p := ⟨g, i, none⟩) (fun e => own_blk_ne hs hb (Ne.symm hn) (by rw [hv]; exact congrArg some e.symm)) u
theorem KeepsT.of_box {g i : Nat} {u : Value} {cs : Array Value} (hg : Blk w g T cs) : KeepsT T w (w.setCell ⟨g, i, none⟩ u) := fun _ _ _ hn hb => hb.far (p := ⟨g, i, none⟩) (Blk.ne_ hb hg hn) u
theorem KeepsT.own (h : KeepsT T w w') (hr : w.ownsRow base e k v n xs) (hne : e ≠ T) : w'.ownsRow base e k v n xs := by
  refine ⟨hr.1, ?_⟩
  rcases hr.2 with h0 | ⟨g, cap, cur, hv, hb, hh, r⟩
  · exact .inl h0
  · exact .inr ⟨g, cap, cur, hv, hb, h g e cur hne hh, r⟩
end
/-- how a tenant stands to another one, in the list of what was had -/
def cfH (x : BS) : HadT → Int := fun h => cmpS h.1 x
theorem cfH_asc (l : List HadT) (h : SortH l) (x : BS) : SignAsc (cfH x) l := by
  intro i j a b hij ha hb hlt
  obtain ⟨hi, hai⟩ := List.getElem?_eq_some_iff.1 ha
  obtain ⟨hj, hbj⟩ := List.getElem?_eq_some_iff.1 hb
  have := List.pairwise_iff_getElem.1 h i j hi hj hij
  rw [hai, hbj] at this
  unfold cfH at hlt ⊢
  rw [cmpS_neg] at hlt ⊢
  exact bl_trans this hlt
def putH (l : List HadT) (x : BS) : List HadT :=
  if atF (cfH x) l = true then l.take (posF (cfH x) l) ++ [(x, seHad l x + 1)] ++ l.drop (posF (cfH x) l + 1) else l.take (posF (cfH x) l) ++ [(x, 1)] ++ l.drop (posF (cfH x) l)
theorem atF_had (l : List HadT) (x : BS) (h : SortH l) (ha : atF (cfH x) l = true) : ∃ hp : posF (cfH x) l < l.length, l[posF (cfH x) l]'hp = (x, seHad l x) := by
  induction l with
  | nil => simp [atF] at ha
  | cons y l ih =>
    obtain ⟨h1, h2⟩ := List.pairwise_cons.1 h
    have hs : seHad (y :: l) x = if y.1 = x then y.2 else seHad l x := by
      have := seHad_drop (l := y :: l) (t := x) (k := 0) (by simp)
      simpa using this
    rw [atF_cons] at ha
    by_cases hn : cfH x y < 0
    · rw [if_pos hn] at ha
      obtain ⟨hp, he⟩ := ih h2 ha
      have hne : ¬ y.1 = x := fun e => by unfold cfH at hn; rw [(cmpS_zero _ _).2 e] at hn; omega
      have hpe : posF (cfH x) (y :: l) = posF (cfH x) l + 1 := by rw [posF_cons, if_pos hn]
      refine ⟨by rw [hpe]; simp; omega, ?_⟩
      rw [hs, if_neg hne]
      simp only [hpe, List.getElem_cons_succ]
      exact he
    · rw [if_neg hn] at ha
      have hz : y.1 = x := (cmpS_zero _ _).1 (by simpa [cfH] using ha)
      have hpe : posF (cfH x) (y :: l) = 0 := by rw [posF_cons, if_neg hn]
      refine ⟨by rw [hpe]; simp, ?_⟩
      rw [hs, if_pos hz]
      simp only [hpe, List.getElem_cons_zero]
      exact Prod.ext hz rfl
theorem hcells_length (l : List HadT) : (cellsK encHad l).length = l.length * 2 := cellsK_length (enc := encHad) (k := 2) (fun _ => rfl) l
theorem split_atH (l : List HadT) (p : Nat) (y : HadT) (h : l[p]? = some y) : l = l.take p ++ [y] ++ l.drop (p + 1) := by
  obtain ⟨hp, e⟩ := List.getElem?_eq_some_iff.1 h
  conv => lhs; rw [← List.take_append_drop p l, List.drop_eq_getElem_cons hp, e]
  simp
theorem set_atH (l : List HadT) (p : Nat) (x : BS) (c z : Int) (h : l[p]? = some (x, c)) : (cellsK encHad l).set (p * 2 + 1) (.int .i64 z) = cellsK encHad (l.take p ++ [(x, z)] ++ l.drop (p + 1)) := by
  have hlt := (List.getElem?_eq_some_iff.1 h).1
  conv => lhs; rw [split_atH l p _ h]
  rw [cellsK_append, cellsK_append, cellsK_append, cellsK_append, List.append_assoc, List.append_assoc]
  rw [List.set_append_right _ _ (by rw [hcells_length, List.length_take]; omega), hcells_length, List.length_take, Nat.min_eq_left (by omega), show p * 2 + 1 - p * 2 = 1 by omega]
  rfl
theorem hcells_at1 (l : List HadT) (p : Nat) (x : BS) (c : Int) (h : l[p]? = some (x, c)) : (cellsK encHad l)[p * 2 + 1]? = some (.int .i64 c) := by
  obtain ⟨hlt, hg⟩ := List.getElem?_eq_some_iff.1 h
  rw [show (cellsK encHad l)[p * 2 + 1]? = _ from cellsK_get (enc := encHad) (k := 2) (fun _ => rfl) l p hlt 1 (by omega), hg]
  rfl
set_option maxRecDepth 100000 in
theorem next1_any (a x : BS) (c : Int) (w : World) : Calls Tryd.prog 66 #[.agg #[.string ⟨a.toArray⟩, .int .i64 c], .string ⟨x.toArray⟩] w fun e w' => e = .returned (.int .i64 (cmpS a x)) ∧ Below w.heap.size w w' := by
  have hb1 := (Below.refl w.heap.size w).alloc (Nat.le_refl _) (.cells #[.string ⟨a.toArray⟩, .int .i64 c] 38)
  go_enter Tryd.func66, Tryd.ntmps66
  go_wp2_with fail
  refine (compareS_any a x _).mono ?_
  rintro e w1 ⟨rfl, q, rfl⟩
  go_wp2_with fail
  go_ret
  exact ⟨rfl, below_drewN hb1 q⟩
set_option maxRecDepth 100000 in
set_option maxHeartbeats 2000000 in
theorem next_any (l : List HadT) (x : BS) (hso : SortH l) (hc0 : ∀ y ∈ l, y.2 ≤ 1099511627776 ∧ 1 ≤ y.2) (n : Nat) (hnl : n = l.length) (A : Option Addr) (c : Nat) (base : Nat) (w : World) (hown : w.ownsRow base 38 2 (.slice A n c) n (cellsK encHad l)) (hb : base ≤ w.heap.size) (hn : n ≤ 1000000000) :
    Calls Tryd.prog 34 #[.slice A n c, .string ⟨x.toArray⟩] w fun e w' => ∃ (A' : Option Addr) (c' : Nat), e = .returned (.slice A' (putH l x).length c') ∧ w'.ownsRow base 38 2 (.slice A' (putH l x).length c') (putH l x).length (cellsK encHad (putH l x)) ∧ KeepsT 38 w w' ∧ Below base w w' := by
  obtain ⟨hncc, _, hrd⟩ := own_reads hown
  have hsr := Lib.hid (searchH_any (fun x : HadT => .string ⟨x.1.toArray⟩) (fun x => .int .i64 x.2) (cfH x) l (cfH_asc l hso x) n hnl A c (.string ⟨x.toArray⟩) w w.heap.size hrd (Nat.le_refl _) (by omega) (fun y W _ => next1_any y.1 x y.2 W))
  have hp := posF_le (cfH x) l
  have hat := Lib.hid (atF_had l x hso)
  have HPH : Hid (putH l x = if atF (cfH x) l = true then l.take (posF (cfH x) l) ++ [(x, seHad l x + 1)] ++ l.drop (posF (cfH x) l + 1) else l.take (posF (cfH x) l) ++ [(x, 1)] ++ l.drop (posF (cfH x) l)) := rfl
  have hbd : Hid (∀ y ∈ l, y.2 ≤ 1099511627776 ∧ 1 ≤ y.2) := hc0
  have HN := Lib.hid hnl
  have HOW := Lib.hid hown
  obtain ⟨p, hpp⟩ : ∃ p, p = posF (cfH x) l := ⟨_, rfl⟩
  obtain ⟨t, htt⟩ : ∃ t, t = atF (cfH x) l := ⟨_, rfl⟩
  obtain ⟨P, hPP⟩ : ∃ P, P = putH l x := ⟨_, rfl⟩
  rw [← hpp] at hsr hp HPH hat
  rw [← htt] at hsr HPH hat
  rw [← hPP] at HPH ⊢
  clear hpp htt hPP hc0 hso hrd hown hnl
  have hpn : p ≤ n := by have := HN.out; omega
  cases t with
  | true =>
    obtain ⟨hpl, hel⟩ := hat.out rfl
    obtain ⟨z, hz⟩ : ∃ z, z = seHad l x := ⟨_, rfl⟩
    rw [← hz] at hel HPH
    have hzb : z ≤ 1099511627776 ∧ 1 ≤ z := by have := hbd.out _ (List.getElem_mem hpl); rw [hel] at this; exact this
    have HGG := Lib.hid (show l[p]? = some (x, z) by rw [List.getElem?_eq_getElem hpl, hel])
    have HP2 : Hid (P = l.take p ++ [(x, z + 1)] ++ l.drop (p + 1)) := by show _ = _; rw [HPH.out, if_pos rfl]
    have HLL : Hid (P.length = n) := by
      show _ = _
      rw [HP2.out]
      simp only [List.length_append, List.length_take, List.length_drop, List.length_cons, List.length_nil]
      have := HN.out
      omega
    have hpi : (p : Int) < (n : Int) := by have := HN.out; omega
    have hwr : IntKind.i64.wrap (z + 1) = z + 1 := IntWalk.i64_in _ (by omega)
    clear hel hz hat hbd HPH
    go_enter Tryd.func34, Tryd.ntmps34
    go_wp2_with fail
    refine hsr.out.mono ?_
    clear hsr
    rintro e w1 ⟨rfl, hb1⟩
    have hown := own_below HOW.out hb1
    have HB1 := Lib.hid hb1
    clear hb1 HOW
    rcases hown.2 with ⟨_, h00⟩ | ⟨gg, cap, cur, hv, hbg, _, _, _, _, _⟩
    · omega
    · injection hv with hv1 _ hv2
      subst hv1 hv2
      have hst := hown.stored (p * 2 + 1) (.int .i64 (z + 1))
      rw [set_atH l p x z (z + 1) HGG.out, ← HP2.out] at hst
      have hcell := (hown.cellAt (p * 2 + 1) (by omega)).trans (hcells_at1 l p x z HGG.out)
      have hfz := hown.frozenAt (p * 2 + 1)
      have HST := Lib.hid hst
      have HK := Lib.hid (KeepsT.of_set (i := p * 2 + 1) (u := .int .i64 (z + 1)) hown (g := gg) rfl)
      try simp only at hcell
      clear hst hown
      go_wp2_with fail
      go_ret
      refine ⟨some ⟨gg, 0, none⟩, c, by rw [HLL.out]; rfl, ?_, (KeepsT.of_below HB1.out).trans HK.out, (HB1.out.mono hb).setCell (by show base ≤ gg; omega) _⟩
      rw [HLL.out]
      exact HST.out.1
  | false =>
    have HP2 : Hid (P = l.take p ++ [(x, 1)] ++ l.drop p) := by show _ = _; rw [HPH.out, if_neg (by decide)]
    have HLL : Hid (P.length = n + 1) := by
      show _ = _
      rw [HP2.out]
      simp only [List.length_append, List.length_take, List.length_drop, List.length_cons, List.length_nil]
      have := HN.out
      omega
    have hpi : (p : Int) < (n : Int) + 1 := by omega
    clear hat hbd HPH
    go_enter Tryd.func34, Tryd.ntmps34
    go_wp2_with fail
    refine hsr.out.mono ?_
    clear hsr
    rintro e w1 ⟨rfl, hb1⟩
    have hown := own_below HOW.out hb1
    have HB1 := Lib.hid hb1
    have hown2 := own_below hown ((Below.refl w1.heap.size w1).alloc (Nat.le_refl _) (.cells #[.string ⟨x.toArray⟩, .int .i64 0] 38))
    have kN := Blk.new w1 38 #[.string ⟨x.toArray⟩, .int .i64 0]
    have hba := (Below.refl w1.heap.size w1).alloc (Nat.le_refl _) (.cells #[.string ⟨x.toArray⟩, .int .i64 0] 38)
    obtain ⟨W2, hW2⟩ : ∃ W, W = w1.alloc (.cells #[.string ⟨x.toArray⟩, .int .i64 0] 38) := ⟨_, rfl⟩
    have hs1 := hb1.size
    have hs2 : W2.heap.size = w1.heap.size + 1 := by rw [hW2]; simp
    rw [← hW2] at hown2 kN hba
    have hins := insH_any #[.string ⟨x.toArray⟩, .int .i64 0] rfl (by intro u hu; simp at hu; rcases hu with rfl | rfl <;> rfl) (cellsK encHad l) (cellsH_one l) w1.heap.size 38 base n p A c W2 hpn hown2 (by omega) (by omega) kN (fun e => by have := (hown.lt _ e).2; omega)
    have HO2 := Lib.hid hown2
    have HBA := Lib.hid hba
    clear hb1 HOW hown hown2 kN hba
    go_wp2_with fail
    rw [← hW2]
    clear hW2
    refine hins.mono ?_
    clear hins
    rintro e w3 ⟨v3, rfl, hown3, hg3⟩
    have hcs : (cellsK encHad l).take (p * 2) ++ (#[.string ⟨x.toArray⟩, .int .i64 0] : Array Value).toList ++ (cellsK encHad l).drop (p * 2) = cellsK encHad (l.take p ++ [(x, 0)] ++ l.drop p) := by
      rw [cellsK_append, cellsK_append, cellsK_one, cellsK_take (k := 2) (fun _ => rfl), cellsK_drop (k := 2) (fun _ => rfl)]
      rfl
    rw [hcs] at hown3
    have hl3 : (l.take p ++ [(x, (0 : Int))] ++ l.drop p)[p]? = some (x, 0) := by
      rw [List.append_assoc, List.getElem?_append_right (by rw [List.length_take]; omega), List.length_take, Nat.min_eq_left hp, Nat.sub_self]
      rfl
    have htk : (l.take p ++ [(x, (0 : Int))] ++ l.drop p).take p = l.take p := by
      rw [List.append_assoc, List.take_append_of_le_length (by rw [List.length_take]; omega), List.take_take, Nat.min_self]
    have hdk : (l.take p ++ [(x, (0 : Int))] ++ l.drop p).drop (p + 1) = l.drop p := by
      rw [List.drop_append, List.drop_eq_nil_of_le (by simp; omega), List.nil_append]
      have : p + 1 - (l.take p ++ [(x, (0 : Int))]).length = 0 := by simp; omega
      rw [this, List.drop_zero]
    have HG3 := Lib.hid hg3
    have HK3 := Lib.hid (KeepsT.of_grown HO2.out hg3)
    clear hcs hg3
    rcases hown3.2 with ⟨_, h00⟩ | ⟨gg, cap, cur, hv, hbg, _, _, _, _, _⟩
    · omega
    · subst hv
      have hst := hown3.stored (p * 2 + 1) (.int .i64 1)
      rw [set_atH _ p x 0 1 hl3, htk, hdk, ← HP2.out] at hst
      have hcell := (hown3.cellAt (p * 2 + 1) (by omega)).trans (hcells_at1 _ p x 0 hl3)
      have hfz := hown3.frozenAt (p * 2 + 1)
      have HST := Lib.hid hst
      have HK := Lib.hid (KeepsT.of_set (i := p * 2 + 1) (u := .int .i64 1) hown3 (g := gg) rfl)
      have hwr : IntKind.i64.wrap ((0 : Int) + 1) = 1 := rfl
      try simp only at hcell
      clear hst hown3 hl3 htk hdk
      go_wp2_with fail
      go_ret
      refine ⟨some ⟨gg, 0, none⟩, cap, by rw [HLL.out]; rfl, ?_, ((KeepsT.of_below (HB1.out.trans (HBA.out.mono HB1.out.size))).trans HK3.out).trans HK.out, ?_⟩
      · rw [HLL.out]
        exact HST.out.1
      · have h1 := (HB1.out.mono hb).trans (HBA.out.mono (by omega))
        exact (h1.grown HG3.out (by omega) (fun k hk => (HO2.out.lt k hk).1)).setCell (by show base ≤ gg; omega) _
end Go.Proofs.YtjdebhemoeojiaaDoor
