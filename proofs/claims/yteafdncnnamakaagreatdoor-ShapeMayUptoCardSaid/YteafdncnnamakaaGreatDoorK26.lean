/-
  What may be, by content: sets one by one; a set more, a set less, a set turned.
-/
import Derived.Test.YteafdncnnamakaaGreatDoorK0
import Derived.Test.YteafdncnnamakaaGreatDoorK25
namespace Go.Proofs.YteafdncnnamakaaGreatDoor
open Go.RowKit
structure SetOk (l : List SetC) (s : SetC) : Prop where
 path : pathB s.path = true
 par : ∀ u, parB s.path = some u → ∃ x ∈ l, x.path = u
 own : propsB s.own = true
 body : okL s.body = true
 snaps : snapsB (s.snaps.map SnapC.r) = true
 org : s.org = [] ∨ ∃ a b, splitL s.org = some (a, b) ∧ a ≠ s.path ∧ ∃ x, l.find? (fun x => x.path == a) = some x ∧ ∃ y ∈ x.snaps, y.nm = b
theorem setB_iff (l : List SetC) (s : SetC) : setB (l.map SetC.r) s.r = true ↔ SetOk l s := by
 have hpar : (match parB s.path with | none => true | some u => (l.map SetC.r).any fun x => x.path == u) = true ↔ ∀ u, parB s.path = some u → ∃ x ∈ l, x.path = u := by
  cases hp : parB s.path with
  | none => exact ⟨fun _ u h => by (cases h), fun _ => rfl⟩
  | some u =>
   simp only [List.any_map]
   constructor
   ·intro h v hv
    cases hv
    obtain ⟨x, hx, e⟩ := List.any_eq_true.1 h
    exact ⟨x, hx, by simpa [SetC.r] using e⟩
   ·intro h
    obtain ⟨x, hx, e⟩ := h u rfl
    exact List.any_eq_true.2 ⟨x, hx, by simpa [SetC.r] using e⟩
 have horg : originB (l.map SetC.r) s.r = true ↔ (s.org = [] ∨ ∃ a b, splitL s.org = some (a, b) ∧ a ≠ s.path ∧ ∃ x, l.find? (fun x => x.path == a) = some x ∧ ∃ y ∈ x.snaps, y.nm = b) := by
  unfold originB
  show (s.org == [] || match splitL s.org with
   | none => false
   | some (p, n) => !(p == s.path) && match (l.map SetC.r).find? (fun x => x.path == p) with
    | none => false
    | some x => x.snaps.l.any fun y => y.nm == n) = true ↔ _
  rw [Bool.or_eq_true]
  refine or_congr (by simp) ?_
  cases hsp : splitL s.org with
  | none => simp
  | some v =>
   obtain ⟨a, b⟩ := v
   simp only [Bool.and_eq_true, find_map]
   have e : (l.find? fun x : SetC => (SetC.r x).path == a) = l.find? fun x => x.path == a := rfl
   rw [e]
   constructor
   ·rintro ⟨h1, h2⟩
    refine ⟨a, b, rfl, by simpa using h1, ?_⟩
    cases hf : l.find? (fun x => x.path == a) with
    | none => rw [hf] at h2; cases h2
    | some x =>
     rw [hf] at h2
     simp only [Option.map_some] at h2
     have h2 : ((x.snaps.map SnapC.r).any fun y => y.nm == b) = true := h2
     rw [List.any_map] at h2
     obtain ⟨y, hy, ey⟩ := List.any_eq_true.1 h2
     exact ⟨x, rfl, y, hy, by simpa [SnapC.r] using ey⟩
   ·rintro ⟨a', b', h0, h1, x, hf, y, hy, ey⟩
    cases h0
    refine ⟨by simpa using h1, ?_⟩
    rw [hf]
    show ((x.snaps.map SnapC.r).any fun y => y.nm == b) = true
    rw [List.any_map]
    exact List.any_eq_true.2 ⟨y, hy, by simpa [SnapC.r] using ey⟩
 unfold setB
 rw [Bool.and_eq_true, Bool.and_eq_true, Bool.and_eq_true, Bool.and_eq_true, Bool.and_eq_true, horg]
 constructor
 ·rintro ⟨⟨⟨⟨⟨h1, h2⟩, h3⟩, h4⟩, h5⟩, h6⟩
  exact ⟨h1, hpar.1 h2, h3, h4, h5, h6⟩
 ·rintro ⟨h1, h2, h3, h4, h5, h6⟩
  exact ⟨⟨⟨⟨⟨h1, hpar.2 h2⟩, h3⟩, h4⟩, h5⟩, h6⟩
structure SetsOk (l : List SetC) : Prop where
 len : l.length ≤ 32
 root : ∃ x ∈ l, x.path = []
 each : ∀ s ∈ l, SetOk l s
 asc : l.Pairwise fun a b => Op.bytesLess a.path b.path = true
theorem setsB_iff (l : List SetC) : setsB (l.map SetC.r) = true ↔ SetsOk l := by
 unfold setsB
 rw [Bool.and_eq_true, Bool.and_eq_true, setsFrom_iff]
 simp only [decide_eq_true_eq, List.length_map, List.any_map]
 constructor
 ·rintro ⟨⟨h1, h2⟩, h3, h4, -⟩
  obtain ⟨x, hx, e⟩ := List.any_eq_true.1 h2
  exact ⟨h1, ⟨x, hx, by simpa [SetC.r] using e⟩, fun s hs => (setB_iff l s).1 (h3 _ (List.mem_map_of_mem hs)), List.pairwise_map.1 h4⟩
 ·rintro ⟨h1, ⟨x, hx, e⟩, h3, h4⟩
  refine ⟨⟨h1, List.any_eq_true.2 ⟨x, hx, by simpa [SetC.r] using e⟩⟩, fun s hs => ?_, List.pairwise_map.2 h4, fun q hq => by cases hq⟩
  obtain ⟨y, hy, rfl⟩ := List.mem_map.1 hs
  exact (setB_iff l y).2 (h3 y hy)
structure TenC.Ok (c : TenC) : Prop where
 nm : nameB c.nm = true
 quota : amt c.quota 0 = true
 next : amt c.next 1 = true
 sets : SetsOk c.sets
 grants : grantsB c.grants = true
 stages : stagesB (c.stages.map StageC.r) = true
 log : logB c.log = true
theorem TenC.E_ok (c : TenC) : c.E = 0 ↔ c.Ok := by
 unfold TenC.E tenE
 constructor
 ·intro h
  have hb : tenB c.r = true := by
   by_cases hb : tenB c.r = true
   ·exact hb
   ·rw [if_neg hb] at h; exact absurd h (by decide)
  unfold tenB at hb
  rw [Bool.and_eq_true, Bool.and_eq_true, Bool.and_eq_true, Bool.and_eq_true, Bool.and_eq_true, Bool.and_eq_true] at hb
  obtain ⟨⟨⟨⟨⟨⟨h1, h2⟩, h3⟩, h4⟩, h5⟩, h6⟩, h7⟩ := hb
  exact ⟨h1, h2, h3, (setsB_iff _).1 h4, h5, h6, h7⟩
 ·rintro ⟨h1, h2, h3, h4, h5, h6, h7⟩
  rw [if_pos]
  unfold tenB
  rw [Bool.and_eq_true, Bool.and_eq_true, Bool.and_eq_true, Bool.and_eq_true, Bool.and_eq_true, Bool.and_eq_true]
  exact ⟨⟨⟨⟨⟨⟨h1, h2⟩, h3⟩, (setsB_iff _).2 h4⟩, h5⟩, h6⟩, h7⟩
/-- sets in order: each is found by its path -/
theorem find_of_mem {l : List SetC} (h : l.Pairwise fun a b => Op.bytesLess a.path b.path = true) {x : SetC} (hx : x ∈ l) : l.find? (fun y => y.path == x.path) = some x := by
 induction l with
 | nil => cases hx
 | cons y r ih =>
  obtain ⟨h1, h2⟩ := List.pairwise_cons.1 h
  rcases List.mem_cons.1 hx with rfl | hx
  ·rw [List.find?_cons_of_pos (by simp)]
  ·rw [List.find?_cons_of_neg (by simpa using bl_ne (h1 x hx))]
   exact ih h2 hx
/-! ### a set less -/
theorem mem_at' {α : Type} {a b : List α} {x y : α} (h : y ∈ a ++ x :: b) : y = x ∨ y ∈ a ++ b := by
 rcases List.mem_append.1 h with h | h
 ·exact .inr (List.mem_append_left _ h)
 ·rcases List.mem_cons.1 h with h | h
  ·exact .inl h
  ·exact .inr (List.mem_append_right _ h)
theorem mem_drop_of {l : List SetC} {i : Nat} (hi : i < l.length) {x : SetC} (hx : x ∈ l) (hne : x.path ≠ (l[i]'hi).path) : x ∈ l.take i ++ l.drop (i + 1) := by
 have hl : l = l.take i ++ l[i]'hi :: l.drop (i + 1) := by
  conv => lhs; rw [← List.take_append_drop i l, List.drop_eq_getElem_cons hi]
 rw [hl] at hx
 rcases mem_at' hx with rfl | h
 ·exact absurd rfl hne
 ·exact h
theorem drop_sub (l : List SetC) (i : Nat) : (l.take i ++ l.drop (i + 1)).Sublist l := by
 by_cases hi : i < l.length
 ·conv => rhs; rw [← List.take_append_drop i l, List.drop_eq_getElem_cons hi]
  exact List.Sublist.append_left (List.sublist_cons_self _ _) _
 ·rw [List.drop_eq_nil_of_le (by omega), List.append_nil]
  exact List.take_sublist _ _
theorem dropS_ok (c : TenC) (i : Nat) (hi : i < c.sets.length) (h : c.Ok) (hp : (c.sets[i]'hi).path ≠ []) (hk : c.kids (c.sets[i]'hi).path = 0) (hc : c.clones (c.sets[i]'hi).path [] = 0) : (c.dropS i).Ok := by
 obtain ⟨h1, h2, h3, h4, h5, h6, h7⟩ := h
 refine ⟨h1, h2, h3, ?_, h5, h6, h7⟩
 show SetsOk (c.sets.take i ++ c.sets.drop (i + 1))
 have hsub := drop_sub c.sets i
 have hasc := h4.asc.sublist hsub
 refine ⟨Nat.le_trans hsub.length_le h4.len, ?_, fun s hs => ?_, hasc⟩
 ·obtain ⟨x, hx, e⟩ := h4.root
  exact ⟨x, mem_drop_of hi hx (by rw [e]; exact fun h => hp h.symm), e⟩
 ·have hsl := hsub.subset hs
  have ho := h4.each s hsl
  refine ⟨ho.path, fun u hu => ?_, ho.own, ho.body, ho.snaps, ?_⟩
  ·obtain ⟨x, hx, e⟩ := ho.par u hu
   refine ⟨x, mem_drop_of hi hx ?_, e⟩
   intro e2
   unfold TenC.kids at hk
   rw [List.length_eq_zero_iff, List.filter_eq_nil_iff] at hk
   exact hk s hsl (by rw [hu, ← e, e2]; simp)
  ·rcases ho.org with h | ⟨a, b, h1, h2, x, hf, y, hy, e⟩
   ·exact .inl h
   ·refine .inr ⟨a, b, h1, h2, x, ?_, y, hy, e⟩
    have hxm := List.mem_of_find?_eq_some hf
    have hxa : x.path = a := by simpa using List.find?_some hf
    have hne : x.path ≠ (c.sets[i]'hi).path := by
     intro e2
     unfold TenC.clones at hc
     rw [List.length_eq_zero_iff, List.filter_eq_nil_iff] at hc
     refine hc s hsl ?_
     unfold clP
     rw [h1]
     simp [← hxa, e2]
    rw [← hxa]
    exact find_of_mem hasc (mem_drop_of hi hxm hne)
theorem sum_sub {α : Type} (f : α → Nat) {l l' : List α} (h : l.Sublist l') : (l.map f).sum ≤ (l'.map f).sum := by
 induction h with
 | slnil => exact Nat.le_refl _
 | cons x _ ih => rw [List.map_cons, List.sum_cons]; omega
 | cons_cons x _ ih => rw [List.map_cons, List.map_cons, List.sum_cons, List.sum_cons]; omega
theorem dropS_charge (c : TenC) (i : Nat) : (c.dropS i).charge ≤ c.charge := by
 unfold TenC.charge
 have := sum_sub SetC.charge (drop_sub c.sets i)
 show ((c.sets.take i ++ c.sets.drop (i + 1)).map SetC.charge).sum + _ ≤ _
 exact Nat.add_le_add_right this _
/-- what a set that could be destroyed tells -/
theorem destroy_ok (c : TenC) (p : BS) (c2 : TenC) (h : (0, c2) = c.destroy p) : c.E = 0 ∧ c2.E = 0 ∧ c2.charge ≤ c.charge ∧ ∃ i, c2 = c.dropS i := by
 unfold TenC.destroy at h
 by_cases h1 : c.ask p ≠ 0
 ·rw [if_pos h1] at h
  injection h with h _
  exact absurd h.symm h1
 rw [if_neg h1] at h
 by_cases h2 : c.find p < 0
 ·rw [if_pos h2] at h
  injection h with h _
  cases h
 rw [if_neg h2] at h
 by_cases h3 : p = [] ∨ 0 < c.kids p + c.clones p [] ∨ (c.stages.any fun s => s.into == p) = true
 ·rw [if_pos h3] at h
  injection h with h _
  cases h
 rw [if_neg h3] at h
 split at h
 ·injection h with h _
  cases h
 ·injection h with _ h
  have hE : c.E = 0 := by
   unfold TenC.ask at h1
   rcases c.E_two with h6 | h6
   ·exact h6
   ·rw [if_pos h6] at h1
    exact absurd (by decide) h1
  have hne : p ≠ [] := fun e => h3 (.inl e)
  have hkc : c.kids p = 0 ∧ c.clones p [] = 0 := by
   have : ¬ 0 < c.kids p + c.clones p [] := fun e => h3 (.inr (.inl e))
   omega
  have hfi : ∃ k : Nat, ∃ hk : k < c.sets.length, c.find p = (k : Int) ∧ (c.sets[k]'hk).path = p := by
   rcases firstI_cases (fun s : SetC => s.path == p) c.sets with ⟨e1, e2⟩ | ⟨k, hk, e1, e2⟩
   ·have e1 : c.find p = -1 := e1
    omega
   ·exact ⟨k, hk, e1, by simpa using List.find?_some e2⟩
  obtain ⟨k, hk, e1, e2⟩ := hfi
  refine ⟨hE, ?_, ?_, k, ?_⟩
  ·rw [h, e1, Int.toNat_natCast]
   exact (TenC.E_ok _).2 (dropS_ok c k hk ((TenC.E_ok c).1 hE) (by rw [e2]; exact hne) (by rw [e2]; exact hkc.1) (by rw [e2]; exact hkc.2))
  ·rw [h]
   exact dropS_charge c _
  ·rw [h, e1, Int.toNat_natCast]
/-! ### a set turned -/
end Go.Proofs.YteafdncnnamakaaGreatDoor
