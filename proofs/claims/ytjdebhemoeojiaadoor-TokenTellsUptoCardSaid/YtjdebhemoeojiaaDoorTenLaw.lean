/-
  Tenants: the plain law of what may be.
-/
import Derived.Test.YtjdebhemoeojiaaDoorTen
import Derived.Test.YtjdebhemoeojiaaDoorFirst
import Derived.Test.YtjdebhemoeojiaaDoorBk1
namespace Go.Proofs.YtjdebhemoeojiaaDoor
open Go.RowKit

/-! ### what stands under what -/
/-- what a path stands under, if any -/
def parB (s : BS) : Option BS := if s = [] ∨ pathB s = false then none else some (upL s)
def kidsL (l : List SetR) (p : BS) : List BS := (l.filter fun s => parB s.path == some p).map (·.path)
theorem sum_kids (qs : List BS) (hq : qs.Nodup) (l : List SetR) (h : ∀ s ∈ l, ∀ p, parB s.path = some p → p ∈ qs) :
    (qs.map fun q => (kidsL l q).length).sum = l.countP fun s => (parB s.path).isSome := by
  induction l with
  | nil =>
    have : (qs.map fun q => (kidsL [] q).length) = qs.map fun _ => 0 := by
      apply List.map_congr_left
      intro q _
      rfl
    rw [this]
    clear this hq h
    induction qs with
    | nil => rfl
    | cons q qs ih => rw [List.map_cons, List.sum_cons, ih]; rfl
  | cons s l ih =>
    have e : ∀ q, (kidsL (s :: l) q).length = (kidsL l q).length + if parB s.path = some q then 1 else 0 := by
      intro q
      unfold kidsL
      rw [List.filter_cons]
      by_cases hs : parB s.path = some q
      · rw [if_pos (by simpa using hs), if_pos hs]; simp
      · rw [if_neg (by simpa using hs), if_neg hs]; simp
    have e2 : (qs.map fun q => (kidsL (s :: l) q).length).sum = (qs.map fun q => (kidsL l q).length).sum + (qs.map fun q => if parB s.path = some q then 1 else 0).sum := by
      have : (qs.map fun q => (kidsL (s :: l) q).length) = qs.map fun q => (kidsL l q).length + if parB s.path = some q then 1 else 0 := List.map_congr_left fun q _ => e q
      rw [this]
      clear this ih h hq e
      induction qs with
      | nil => rfl
      | cons q qs ih => simp only [List.map_cons, List.sum_cons, ih]; omega
    rw [e2, ih (fun x hx => h x (List.mem_cons_of_mem _ hx)), List.countP_cons]
    congr 1
    cases hp : parB s.path with
    | none =>
      have : (qs.map fun q => if (none : Option BS) = some q then 1 else 0) = qs.map fun _ => 0 := List.map_congr_left fun q _ => by simp
      rw [this]
      clear this hq h e e2 ih
      induction qs with
      | nil => rfl
      | cons q qs ih => rw [List.map_cons, List.sum_cons, ih]; rfl
    | some p =>
      have hm := h s (List.mem_cons_self ..) p hp
      simp only [Option.some.injEq, Option.isSome_some, if_true]
      clear h e e2 ih hp
      induction qs with
      | nil => cases hm
      | cons q qs ih =>
        obtain ⟨h1, h2⟩ := List.nodup_cons.1 hq
        rw [List.map_cons, List.sum_cons]
        rcases List.mem_cons.1 hm with e | hm
        · subst e
          rw [if_pos rfl]
          have : (qs.map fun q => if p = q then 1 else 0) = qs.map fun _ => 0 := List.map_congr_left fun x hx => if_neg (fun e => h1 (by rw [e]; exact hx))
          rw [this]
          clear this ih hq h1 h2 hm
          induction qs with
          | nil => rfl
          | cons q qs ih => rw [List.map_cons, List.sum_cons]; omega
        · rw [if_neg (fun e => h1 (by rw [← e]; exact hm)), ih h2 hm]
theorem count_root (l : List SetR) (hq : (l.map (·.path)).Nodup) (hr : [] ∈ l.map (·.path)) (hp : ∀ s ∈ l, pathB s.path = true) :
    1 + l.countP (fun s => (parB s.path).isSome) = l.length := by
  have e : ∀ s ∈ l, (parB s.path).isSome = !(s.path == []) := by
    intro s hs
    unfold parB
    by_cases h : s.path = []
    · rw [if_pos (.inl h), h]; rfl
    · rw [if_neg (by rw [hp s hs]; simp [h])]
      simp [h]
  have e1 : l.countP (fun s => (parB s.path).isSome) = l.countP (fun s => !(s.path == [])) := List.countP_congr (fun s hs => by rw [e s hs])
  have e2 : l.countP (fun s => s.path == []) = 1 := by
    have h1 : (l.map (·.path)).count [] = 1 := by rw [hq.count, if_pos hr]
    rw [← h1, List.count, List.countP_map]
    rfl
  have e3 := List.length_eq_countP_add_countP (fun s : SetR => s.path == []) (l := l)
  rw [e1]
  have e4 : l.countP (fun s => !(s.path == [])) = l.countP (fun s => decide ¬(s.path == []) = true) := List.countP_congr (fun s _ => by simp)
  omega

/-! ### what may be -/
def unlikeF : List BS → List BS → Bool
  | _, [] => true
  | acc, x :: l => nameB x && !(acc.contains x) && unlikeF (acc ++ [x]) l
def unlikeB (l : List BS) : Bool := unlikeF [] l
/-- names, each behind the one ahead of it -/
def ascF : Option BS → List BS → Bool
  | _, [] => true
  | p, x :: l => nameB x && (match p with | none => true | some q => Op.bytesLess q x) && ascF (some x) l
def tagsB (l : List BS) : Bool := decide (l.length ≤ 4) && ascF none l
def snapsFrom : Option Int → List SnapR → Bool
  | _, [] => true
  | p, x :: l => amt x.gd 1 && (match p with | none => true | some q => decide (q < x.gd)) && okL x.body.l && propsB x.own.l && tagsB x.tags.l && snapsFrom (some x.gd) l
def snapsB (l : List SnapR) : Bool := decide (l.length ≤ 16) && snapsFrom none l && unlikeB (l.map (·.nm))
def findS (l : List SetR) (p : BS) : Int := firstI (fun s => s.path == p) l
def findN (l : List SnapR) (n : BS) : Int := firstI (fun s => s.nm == n) l
def splitL (l : BS) : Option (BS × BS) := match atL l with
  | some (p, n) => if (pathB p && nameB n) = true then some (p, n) else none
  | none => none
def originB (all : List SetR) (s : SetR) : Bool := s.org == [] || match splitL s.org with
  | none => false
  | some (p, n) => !(p == s.path) && match all.find? (fun x => x.path == p) with
    | none => false
    | some x => x.snaps.l.any fun y => y.nm == n
def setB (all : List SetR) (s : SetR) : Bool := pathB s.path && (match parB s.path with | none => true | some u => all.any fun x => x.path == u) && propsB s.own.l && okL s.body.l && snapsB s.snaps.l && originB all s
def setsFrom (all : List SetR) : Option BS → List SetR → Bool
  | _, [] => true
  | p, s :: l => setB all s && (match p with | none => true | some q => Op.bytesLess q s.path) && setsFrom all (some s.path) l
def setsB (l : List SetR) : Bool := decide (l.length ≤ 32) && (l.any fun x => x.path == []) && setsFrom l none l
def beginB (x : StageR) : Bool := decide (x.kind = 1) && nameB x.nm && amt x.frm 0 && amt x.gd 1 && propsB x.own.l && decide (x.ix = 0) && decide (x.ct = 0) && decide (x.dt = []) && smZ x.sm
def stageB (x : StageR) : Bool := !(x.into == []) && pathB x.into && beginB x && okL x.body.l && amt x.at_ 0 && amt x.nx 0
def stagesFrom : Option BS → List StageR → Bool
  | _, [] => true
  | p, s :: l => stageB s && (match p with | none => true | some q => Op.bytesLess q s.into) && stagesFrom (some s.into) l
def stagesB (l : List StageR) : Bool := decide (l.length ≤ 4) && stagesFrom none l
def entryB (x : EntryR) : Bool := (x.user == [] || nameB x.user) && pathB x.path && amt x.kind 0 && amt x.err 0
def logB (l : List EntryR) : Bool := decide (l.length ≤ 16) && l.all entryB
def tenB (t : TenR) : Bool := nameB t.nm && amt t.quota 0 && amt t.next 1 && setsB t.sets.l && grantsB t.grants.l && stagesB t.stages.l && logB t.log.l
def tenE (t : TenR) : Int := if tenB t = true then 0 else 9
theorem setsFrom_iff (all : List SetR) (p : Option BS) (l : List SetR) : setsFrom all p l = true ↔ (∀ s ∈ l, setB all s = true) ∧ (l.Pairwise fun a b => Op.bytesLess a.path b.path = true) ∧ ∀ q, p = some q → ∀ s ∈ l, Op.bytesLess q s.path = true := by
  induction l generalizing p with
  | nil => simp [setsFrom]
  | cons y l ih =>
    have e : setsFrom all p (y :: l) = (setB all y && (match p with | none => true | some q => Op.bytesLess q y.path) && setsFrom all (some y.path) l) := by cases p <;> rfl
    rw [e, Bool.and_eq_true, Bool.and_eq_true, ih]
    constructor
    · rintro ⟨⟨h1, h2⟩, h3, h4, h5⟩
      refine ⟨fun x hx => ?_, List.pairwise_cons.2 ⟨fun z hz => h5 _ rfl z hz, h4⟩, fun q hq x hx => ?_⟩
      · rcases List.mem_cons.1 hx with rfl | hx
        · exact h1
        · exact h3 x hx
      · subst hq
        rcases List.mem_cons.1 hx with rfl | hx
        · exact h2
        · exact bl_trans h2 (h5 _ rfl x hx)
    · rintro ⟨h1, h2, h3⟩
      obtain ⟨h4, h5⟩ := List.pairwise_cons.1 h2
      refine ⟨⟨h1 y (List.mem_cons_self ..), ?_⟩, fun x hx => h1 x (List.mem_cons_of_mem _ hx), h5, fun q hq x hx => ?_⟩
      · cases p with
        | none => rfl
        | some q => exact h3 q rfl y (List.mem_cons_self ..)
      · cases hq
        exact h4 x hx
theorem setB_path (all : List SetR) (s : SetR) (h : setB all s = true) : pathB s.path = true ∧ ∀ u, parB s.path = some u → u ∈ all.map (·.path) := by
  unfold setB at h
  simp only [Bool.and_eq_true] at h
  obtain ⟨⟨⟨⟨⟨h1, h2⟩, _⟩, _⟩, _⟩, _⟩ := h
  refine ⟨h1, fun u hu => ?_⟩
  rw [hu] at h2
  obtain ⟨x, hx, e⟩ := List.any_eq_true.1 h2
  exact List.mem_map.2 ⟨x, hx, by simpa using e⟩
/-- TreeKids, in plain lists -/
theorem kids_law (l : List SetR) (h : setsB l = true) : 1 + ((l.map (·.path)).map fun q => (kidsL l q).length).sum = l.length := by
  unfold setsB at h
  simp only [Bool.and_eq_true] at h
  obtain ⟨⟨_, h2⟩, h3⟩ := h
  obtain ⟨g1, g2, _⟩ := (setsFrom_iff l none l).1 h3
  have hq : (l.map (·.path)).Nodup := by
    refine List.pairwise_map.2 (g2.imp ?_)
    intro a b hab
    exact bl_ne hab
  rw [sum_kids _ hq l (fun s hs p hp => (setB_path l s (g1 s hs)).2 p hp)]
  refine count_root l hq ?_ (fun s hs => (setB_path l s (g1 s hs)).1)
  obtain ⟨x, hx, e⟩ := List.any_eq_true.1 h2
  exact List.mem_map.2 ⟨x, hx, by simpa using e⟩
end Go.Proofs.YtjdebhemoeojiaaDoor
