/-
  The plain law of pruning: one by one or at once, what is left is the same; as much less is charged; what is held stays; again nothing goes.
-/
import Derived.Test.YtcgclpcocdappaaGreatDoorPrnBaseGz
namespace Go.Proofs.YtcgclpcocdappaaGreatDoor
open Go.RowKit

theorem nodup_mem {l : List SnapC} (h : (l.map SnapC.nm).Nodup) {x y : SnapC} (hx : x ∈ l) (hy : y ∈ l) (he : x.nm = y.nm) : x = y := by
  have h1 := find_nodup h hx
  have h2 := find_nodup h hy
  rw [he, h2] at h1
  exact (Option.some.inj h1).symm
theorem not_one {a b : BS} (h : a ≠ b) : (!([b] : List BS).contains a) = true := by
  simp [h]
theorem filter_mid (a b : List SnapC) (y : SnapC) (h : ((a ++ y :: b).map SnapC.nm).Nodup) : (a ++ y :: b).filter (fun x => !([y.nm] : List BS).contains x.nm) = a ++ b := by
  rw [List.map_append, List.map_cons] at h
  obtain ⟨_, h2, h3⟩ := List.pairwise_append.1 h
  have h4 := (List.pairwise_cons.1 h2).1
  rw [List.filter_append, List.filter_cons_of_neg (by simp), List.filter_eq_self.2 (fun x hx => not_one (h3 _ (List.mem_map_of_mem hx) _ List.mem_cons_self)), List.filter_eq_self.2 (fun x hx => not_one fun e => h4 _ (List.mem_map_of_mem hx) e.symm)]
theorem clones_put (C : TenC) (k : Nat) (s s' : SetC) (p q : BS) (hs : C.sets[k]? = some s) (ho : s'.org = s.org) : (C.putS k s').clones p q = C.clones p q := by
  unfold TenC.clones
  show ((C.sets.set k s').filter _).length = _
  have key : ∀ l : List SetC, (l.filter fun s => clP p q s.org).length = ((l.map SetC.org).filter (clP p q)).length := fun l => by
    rw [List.filter_map, List.length_map]
    rfl
  rw [key, key, List.map_set, ho]
  have h : (C.sets.map SetC.org)[k]? = some s.org := by rw [List.getElem?_map, hs]; rfl
  obtain ⟨hk, e⟩ := List.getElem?_eq_some_iff.1 h
  rw [← e, List.set_getElem_self]
theorem getS_put (C : TenC) (k : Nat) (s s' : SetC) (hs : C.sets[k]? = some s) : (C.putS k s').sets[k]? = some s' := by
  obtain ⟨hk, _⟩ := List.getElem?_eq_some_iff.1 hs
  show (C.sets.set k s')[k]? = _
  rw [List.getElem?_set_self hk]
theorem without_nil (s : SetC) : s.without [] = s := by
  have h : s.snaps.filter (fun x => !([] : List BS).contains x.nm) = s.snaps := List.filter_eq_self.2 (fun x _ => rfl)
  unfold SetC.without
  rw [h]
theorem without_app (s : SetC) (A B : List BS) : (s.without A).without B = s.without (A ++ B) := by
  unfold SetC.without
  simp only
  rw [List.filter_filter]
  congr 1
  refine List.filter_congr fun x _ => ?_
  rw [show (A ++ B).contains x.nm = (A.contains x.nm || B.contains x.nm) from by simp]
  cases A.contains x.nm <;> cases B.contains x.nm <;> rfl
theorem unsnap_step (D : TenC) (k : Nat) (s : SetC) (p : BS) (y : SnapC) (hE : D.E = 0) (hf : D.find p = (k : Int)) (hs : D.sets[k]? = some s) (hp : s.path = p) (hy : y ∈ s.snaps) (ht : y.tags.length = 0) (hc : D.clones p y.nm = 0) :
    D.unsnap p y.nm = (0, D.putS k (s.without [y.nm])) := by
  have hmem : s ∈ D.sets := List.mem_of_getElem? hs
  have hok := ((TenC.E_ok D).1 hE).sets.each s hmem
  have hsn := (snapsB_iff _).1 hok.snaps
  have hfo := TenC.foundS_of D p y.nm hE (by rw [← hp]; exact hok.path) (hsn.each y hy).2 s hmem hp y hy rfl
  rcases findN_cases s y.nm with ⟨_, h4⟩ | ⟨j, hj, h4, h5⟩
  · exact absurd rfl (h4 y hy)
  have hz : s.snaps[j]'hj = y := nodup_mem hsn.nodup (List.getElem_mem hj) hy h5
  have hz2 : s.snaps[j]? = some y := by rw [List.getElem?_eq_getElem hj, hz]
  rw [hf, h4] at hfo
  rw [unsnap_at hfo hs hz2, if_neg (by omega), if_neg (by omega)]
  have e : s.snaps = s.snaps.take j ++ y :: s.snaps.drop (j + 1) := by
    rw [← hz, ← List.drop_eq_getElem_cons hj, List.take_append_drop]
  have hm := filter_mid (s.snaps.take j) (s.snaps.drop (j + 1)) y (by rw [← e]; exact hsn.nodup)
  rw [← e] at hm
  have hd : s.dropSnap j = s.without [y.nm] := by
    unfold SetC.dropSnap SetC.without
    rw [hm]
  rw [hd]
theorem prune_chain (C : TenC) (k : Nat) (s : SetC) (p : BS) (hE : C.E = 0) (hf : C.find p = (k : Int)) (hs : C.sets[k]? = some s) (hp : s.path = p) (G : List SnapC)
    (hG : ∀ y ∈ G, y ∈ s.snaps ∧ y.tags.length = 0 ∧ C.clones p y.nm = 0) (hn : (G.map SnapC.nm).Nodup) (j : Nat) (hj : j ≤ G.length) :
    (C.putS k (s.without ((G.map SnapC.nm).take j))).E = 0 ∧ ∀ hjl : j < G.length, (C.putS k (s.without ((G.map SnapC.nm).take j))).unsnap p (G[j]'hjl).nm = (0, C.putS k (s.without ((G.map SnapC.nm).take (j + 1)))) := by
  have step : ∀ j, (hjl : j < G.length) → (C.putS k (s.without ((G.map SnapC.nm).take j))).E = 0 → (C.putS k (s.without ((G.map SnapC.nm).take j))).unsnap p (G[j]'hjl).nm = (0, C.putS k (s.without ((G.map SnapC.nm).take (j + 1)))) := by
    intro j hjl hEj
    obtain ⟨h1, h2, h3⟩ := hG _ (List.getElem_mem hjl)
    have hlm : j < (G.map SnapC.nm).length := by rw [List.length_map]; exact hjl
    have hgj : (G.map SnapC.nm)[j]'hlm = (G[j]'hjl).nm := List.getElem_map ..
    have htk : (G.map SnapC.nm).take (j + 1) = (G.map SnapC.nm).take j ++ [(G[j]'hjl).nm] := by
      rw [List.take_succ_eq_append_getElem hlm, hgj]
    have hno : (G[j]'hjl).nm ∉ (G.map SnapC.nm).take j := by
      intro hm
      obtain ⟨i, hi, e⟩ := List.mem_iff_getElem.1 hm
      rw [List.length_take] at hi
      have e2 : (G.map SnapC.nm)[i]'(by omega) = (G.map SnapC.nm)[j]'hlm := by
        rw [hgj, ← e, List.getElem_take]
      exact List.pairwise_iff_getElem.1 hn i j (by omega) hlm (by omega) e2
    have hmem : (G[j]'hjl) ∈ (s.without ((G.map SnapC.nm).take j)).snaps := by
      refine List.mem_filter.2 ⟨h1, ?_⟩
      have : ((G.map SnapC.nm).take j).contains (G[j]'hjl).nm = false := by
        rw [Bool.eq_false_iff]
        intro hc
        exact hno (by simpa using hc)
      rw [this]
      rfl
    have hst := unsnap_step _ k _ p (G[j]'hjl) hEj (by rw [find_putP C p k s (s.without ((G.map SnapC.nm).take j)) hs rfl]; exact hf) (getS_put C k s _ hs) hp hmem h2 (by rw [clones_put C k s (s.without ((G.map SnapC.nm).take j)) _ _ hs rfl]; exact h3)
    rw [hst, putS_putS, without_app, htk]
  have hEs : ∀ j, j ≤ G.length → (C.putS k (s.without ((G.map SnapC.nm).take j))).E = 0 := by
    intro j
    induction j with
    | zero =>
      intro _
      rw [List.take_zero, without_nil, putS_same C k s hs]
      exact hE
    | succ j ih =>
      intro hj
      exact unsnap_ok _ p _ _ (step j (by omega) (ih (by omega))).symm
  exact ⟨hEs j hj, fun hjl => step j hjl (hEs j hj)⟩
/-! ### which go, which stay -/
theorem gone_mem (A B : List SnapC) (q : SnapC → Bool) (h : ((A ++ B).map SnapC.nm).Nodup) : (∀ x ∈ A, ((A.filter q).map SnapC.nm).contains x.nm = q x) ∧ ∀ x ∈ B, ((A.filter q).map SnapC.nm).contains x.nm = false := by
  refine ⟨fun x hx => ?_, fun x hx => ?_⟩
  · cases hq : q x with
    | true =>
      have : x.nm ∈ (A.filter q).map SnapC.nm := List.mem_map_of_mem (List.mem_filter.2 ⟨hx, hq⟩)
      simpa using this
    | false =>
      rw [Bool.eq_false_iff]
      intro hc
      have hc : x.nm ∈ (A.filter q).map SnapC.nm := by simpa using hc
      obtain ⟨y, hy, e⟩ := List.mem_map.1 hc
      obtain ⟨hy1, hy2⟩ := List.mem_filter.1 hy
      have := nodup_mem h (List.mem_append_left _ hy1) (List.mem_append_left _ hx) e
      rw [this, hq] at hy2
      cases hy2
  · rw [Bool.eq_false_iff]
    intro hc
    have hc : x.nm ∈ (A.filter q).map SnapC.nm := by simpa using hc
    obtain ⟨y, hy, e⟩ := List.mem_map.1 hc
    rw [List.map_append] at h
    exact (List.pairwise_append.1 h).2.2 _ (List.mem_map_of_mem (List.mem_filter.1 hy).1) _ (List.mem_map_of_mem hx) e
theorem kept_eq (A B : List SnapC) (q : SnapC → Bool) (h : ((A ++ B).map SnapC.nm).Nodup) : (A ++ B).filter (fun x => !((A.filter q).map SnapC.nm).contains x.nm) = A.filter (fun x => !q x) ++ B := by
  obtain ⟨h1, h2⟩ := gone_mem A B q h
  have e1 : A.filter (fun x => !((A.filter q).map SnapC.nm).contains x.nm) = A.filter fun x => !q x := List.filter_congr fun x hx => by rw [h1 x hx]
  have e2 : B.filter (fun x => !((A.filter q).map SnapC.nm).contains x.nm) = B := List.filter_eq_self.2 fun x hx => by rw [h2 x hx]; rfl
  rw [List.filter_append, e1, e2]
theorem sum_two (l : List SnapC) (q : SnapC → Bool) (f : SnapC → Nat) : ((l.filter q).map f).sum + ((l.filter fun x => !q x).map f).sum = (l.map f).sum := by
  induction l with
  | nil => rfl
  | cons x r ih =>
    rw [List.map_cons, List.sum_cons, ← ih]
    cases hq : q x with
    | true =>
      rw [List.filter_cons_of_pos hq, List.filter_cons_of_neg (by simp [hq]), List.map_cons, List.sum_cons]
      omega
    | false =>
      rw [List.filter_cons_of_neg (by simp [hq]), List.filter_cons_of_pos (by simp [hq]), List.map_cons, List.sum_cons]
      omega
theorem sum_set {α : Type} (f : α → Nat) : ∀ (l : List α) (k : Nat) (x y : α), l[k]? = some x → ((l.set k y).map f).sum + f x = (l.map f).sum + f y
  | [], k, x, y, h => by cases h
  | z :: r, 0, x, y, h => by
    have h : z = x := Option.some.inj h
    subst h
    simp only [List.set_cons_zero, List.map_cons, List.sum_cons]
    omega
  | z :: r, k + 1, x, y, h => by
    have ih := sum_set f r k x y h
    simp only [List.set_cons_succ, List.map_cons, List.sum_cons]
    omega
theorem charge_put (C : TenC) (k : Nat) (s s' : SetC) (hs : C.sets[k]? = some s) : (C.putS k s').charge + s.charge = C.charge + s'.charge := by
  have h := sum_set SetC.charge C.sets k s s' hs
  unfold TenC.charge
  show ((C.sets.set k s').map SetC.charge).sum + _ + _ = _
  show ((C.sets.set k s').map SetC.charge).sum + (C.stages.map _).sum + _ = _
  omega
theorem all_put (C : TenC) (k : Nat) (s s' : SetC) (hs : C.sets[k]? = some s) (h : heldLC s'.path s'.snaps = heldLC s.path s.snaps) : (C.putS k s').allC = C.allC := by
  unfold TenC.allC
  show (C.sets.set k s').flatMap _ = _
  rw [List.flatMap_def, List.flatMap_def, List.map_set, h]
  have e : (C.sets.map fun s => heldLC s.path s.snaps)[k]? = some (heldLC s.path s.snaps) := by rw [List.getElem?_map, hs]; rfl
  obtain ⟨hk, e⟩ := List.getElem?_eq_some_iff.1 e
  rw [← e, List.set_getElem_self]
/-- what a pruned tenant is -/
theorem prune_law (C : TenC) (p : BS) (keep : Int) (k : Nat) (s : SetC) (hE : C.E = 0) (hf : C.find p = (k : Int)) (hs : C.sets[k]? = some s) (hp : s.path = p) (h0 : 0 ≤ keep) (h16 : keep ≤ 16) :
    ∃ G : List SnapC, G = (s.snaps.take (lateN keep s.snaps.length)).filter (C.free p) ∧ C.old p keep = G.map SnapC.nm ∧ C.prune p keep = (0, G.length, C.putS k (s.without (G.map SnapC.nm))) ∧
      (C.putS k (s.without (G.map SnapC.nm))).prune p keep = (0, 0, C.putS k (s.without (G.map SnapC.nm))) ∧
      (C.putS k (s.without (G.map SnapC.nm))).charge + (G.map fun x => 1 + x.body.length).sum = C.charge ∧ (C.putS k (s.without (G.map SnapC.nm))).allC = C.allC ∧
      ∀ j, j ≤ G.length → (C.putS k (s.without ((G.map SnapC.nm).take j))).E = 0 ∧ ∀ hjl : j < G.length, (C.putS k (s.without ((G.map SnapC.nm).take j))).unsnap p (G[j]'hjl).nm = (0, C.putS k (s.without ((G.map SnapC.nm).take (j + 1)))) := by
  obtain ⟨l, hl⟩ : ∃ l, l = s.snaps := ⟨_, rfl⟩
  obtain ⟨late, hlate⟩ : ∃ q, q = lateN keep l.length := ⟨_, rfl⟩
  have hll : late ≤ l.length := by rw [hlate]; unfold lateN; omega
  obtain ⟨G, hG⟩ : ∃ G, G = (l.take late).filter (C.free p) := ⟨_, rfl⟩
  have hmem : s ∈ C.sets := List.mem_of_getElem? hs
  have hok := ((TenC.E_ok C).1 hE).sets.each s hmem
  have hnd : (l.map SnapC.nm).Nodup := by rw [hl]; exact ((snapsB_iff _).1 hok.snaps).nodup
  have hAB : l.take late ++ l.drop late = l := List.take_append_drop late l
  have hnd2 : ((l.take late ++ l.drop late).map SnapC.nm).Nodup := by rw [hAB]; exact hnd
  have hold : C.old p keep = G.map SnapC.nm := by
    unfold TenC.old
    rw [hf, if_neg (by omega), Int.toNat_natCast, hs]
    show C.oldS s keep = _
    unfold TenC.oldS TenC.oldK
    rw [← hl, ← hlate, Nat.min_eq_right hll, hp, ← hG]
  have hpr : C.prune p keep = (0, G.length, C.putS k (s.without (G.map SnapC.nm))) := by
    unfold TenC.prune
    rw [if_neg (by rw [hE]; decide), hf, if_neg (by omega), if_neg (by omega), Int.toNat_natCast, hs]
    simp only
    rw [hold, List.length_map]
  have hin : ∀ y ∈ G, y ∈ l.take late ∧ y.tags.length = 0 ∧ C.clones p y.nm = 0 := by
    intro y hy
    rw [hG] at hy
    obtain ⟨h1, h2⟩ := List.mem_filter.1 hy
    unfold TenC.free at h2
    rw [Bool.and_eq_true, decide_eq_true_eq, decide_eq_true_eq] at h2
    exact ⟨h1, h2.1, h2.2⟩
  have hkept : l.filter (fun x => !(G.map SnapC.nm).contains x.nm) = (l.take late).filter (fun x => !C.free p x) ++ l.drop late := by
    have := kept_eq (l.take late) (l.drop late) (C.free p) hnd2
    rw [hAB, ← hG] at this
    exact this
  have hch := prune_chain C k s p hE hf hs hp G (fun y hy => ⟨by rw [← hl]; exact List.mem_of_mem_take (hin y hy).1, (hin y hy).2⟩) (by
    have h1 : ((l.take late).map SnapC.nm).Nodup := by
      rw [List.map_append] at hnd2
      exact (List.pairwise_append.1 hnd2).1
    rw [hG]
    exact h1.sublist (List.filter_sublist.map _))
  refine ⟨G, by rw [hG, hlate, hl], hold, hpr, ?_, ?_, ?_, hch⟩
  · -- again nothing goes
    obtain ⟨D, hD⟩ : ∃ D, D = C.putS k (s.without (G.map SnapC.nm)) := ⟨_, rfl⟩
    have hED : D.E = 0 := by
      have := (hch G.length (Nat.le_refl _)).1
      rw [List.take_of_length_le (by rw [List.length_map]; exact Nat.le_refl _)] at this
      rw [hD]
      exact this
    have hfD : D.find p = (k : Int) := by rw [hD, find_putP C p k s (s.without (G.map SnapC.nm)) hs rfl]; exact hf
    have hsD : D.sets[k]? = some (s.without (G.map SnapC.nm)) := by rw [hD]; exact getS_put C k s _ hs
    have hfr : ∀ x, D.free p x = C.free p x := fun x => by
      unfold TenC.free
      rw [hD, clones_put C k s (s.without (G.map SnapC.nm)) _ _ hs rfl]
    have ho : D.old p keep = [] := by
      unfold TenC.old
      rw [hfD, if_neg (by omega), Int.toNat_natCast, hsD]
      show D.oldS (s.without (G.map SnapC.nm)) keep = _
      unfold TenC.oldS TenC.oldK
      rw [show (s.without (G.map SnapC.nm)).snaps = (l.take late).filter (fun x => !C.free p x) ++ l.drop late from by rw [← hkept, hl]; rfl, show (s.without (G.map SnapC.nm)).path = p from hp]
      obtain ⟨A, hA⟩ : ∃ A, A = (l.take late).filter (fun x => !C.free p x) := ⟨_, rfl⟩
      rw [← hA]
      have hle : min (A ++ l.drop late).length (lateN keep (A ++ l.drop late).length) ≤ A.length := by
        have h1 : (l.drop late).length = l.length - late := List.length_drop ..
        have h2 : late = l.length - min (max keep 0).toNat l.length := hlate
        have h3 : lateN keep (A ++ l.drop late).length = (A ++ l.drop late).length - min (max keep 0).toNat (A ++ l.drop late).length := rfl
        rw [List.length_append] at h3 ⊢
        omega
      rw [List.take_append_of_le_length hle, List.filter_eq_nil_iff.2, List.map_nil]
      intro x hx
      have hx := List.mem_of_mem_take hx
      rw [hA] at hx
      have := (List.mem_filter.1 hx).2
      rw [hfr x]
      simpa using this
    rw [← hD]
    unfold TenC.prune
    rw [if_neg (by rw [hED]; decide), hfD, if_neg (by omega), if_neg (by omega), Int.toNat_natCast, hsD]
    simp only
    rw [ho, without_nil, putS_same D k _ hsD]
    rfl
  · -- the charge
    have h1 := charge_put C k s (s.without (G.map SnapC.nm)) hs
    have h2 : (s.without (G.map SnapC.nm)).charge + (G.map fun x => 1 + x.body.length).sum = s.charge := by
      unfold SetC.charge
      show 1 + s.body.length + ((s.snaps.filter fun x => !(G.map SnapC.nm).contains x.nm).map _).sum + _ = _
      have h3 := sum_two s.snaps (fun x => (G.map SnapC.nm).contains x.nm) (fun x => 1 + x.body.length)
      have h4 : s.snaps.filter (fun x => (G.map SnapC.nm).contains x.nm) = G := by
        obtain ⟨g1, g2⟩ := gone_mem (l.take late) (l.drop late) (C.free p) hnd2
        rw [← hG] at g1 g2
        have e1 : (l.take late).filter (fun x => (G.map SnapC.nm).contains x.nm) = G := by
          conv => rhs; rw [hG]
          exact List.filter_congr g1
        have e2 : (l.drop late).filter (fun x => (G.map SnapC.nm).contains x.nm) = [] := List.filter_eq_nil_iff.2 fun x hx => by rw [g2 x hx]; simp
        rw [← hl]
        conv => lhs; rw [← hAB]
        rw [List.filter_append, e1, e2, List.append_nil]
      rw [h4] at h3
      omega
    omega
  · -- what is held
    refine all_put C k s _ hs ?_
    show heldLC s.path (s.snaps.filter _) = _
    unfold heldLC
    rw [List.filter_filter]
    congr 1
    refine List.filter_congr fun x hx => ?_
    by_cases ht : 0 < x.tags.length
    · have hc : (G.map SnapC.nm).contains x.nm = false := by
        rw [Bool.eq_false_iff]
        intro hc
        have hc : x.nm ∈ G.map SnapC.nm := by simpa using hc
        obtain ⟨y, hy, e⟩ := List.mem_map.1 hc
        have hxy := nodup_mem hnd (List.mem_of_mem_take (hin y hy).1) (by rw [hl]; exact hx) e
        have := (hin y hy).2.1
        rw [hxy] at this
        omega
      rw [hc]
      simp
    · simp [ht]
end Go.Proofs.YtcgclpcocdappaaGreatDoor
