/-
  slices.Index, Contains, IsSorted at texts; tree.unlike, tree.tagged: by their contracts.
  tree.snaps, by its contract.
  tree.origin, by its contract.
  tree.begin, tree.stages: by their contracts.
  The page's amount, Find, Snap, tags, Parent, Split: by their contracts.
  tree.odd; slices.IndexFunc and ContainsFunc at entries: by their contracts.
  The page's Check of contents, as a callee that only draws.
  The page's Split, Begin, Entry, Stage, snaps: by their contracts.
-/
import Derived.Test.YtjdebhemoeojiaaDoorTenLaw2
import Derived.Test.YtjdebhemoeojiaaDoorPredK
import Derived.Test.YtjdebhemoeojiaaDoorSc
import Derived.Test.YtjdebhemoeojiaaDoorYPr
import Derived.Test.YtjdebhemoeojiaaDoorNmPar
import Derived.Test.YtjdebhemoeojiaaDoorCls2
import Derived.Test.YtjdebhemoeojiaaDoorWide
import Derived.Test.YtjdebhemoeojiaaDoorRfPth
import Derived.Test.YtjdebhemoeojiaaDoorBk1
namespace Go.Proofs.YtjdebhemoeojiaaDoor
open Go.RowKit

theorem scells_enc (l : List BS) : cellsK encS l = scells l := by
  unfold cellsK encS scells
  induction l with
  | nil => rfl
  | cons x l ih => rw [List.flatMap_cons, ih]; rfl
theorem any_contains (l : List BS) (x : BS) : l.any (fun y => y == x) = l.contains x := by
  rw [Bool.eq_iff_iff, List.any_eq_true, List.contains_iff_mem]
  exact ⟨fun ⟨y, hy, e⟩ => by rw [← (by simpa using e : y = x)]; exact hy, fun h => ⟨x, h, by simp⟩⟩
theorem sortF_iff (l : List BS) (p : Option BS) : sortF p l = true ↔ (∀ q x, p = some q → l[0]? = some x → Op.bytesLess x q = false) ∧ ∀ k x y, l[k]? = some x → l[k + 1]? = some y → Op.bytesLess y x = false := by
  induction l generalizing p with
  | nil => simp [sortF]
  | cons z l ih =>
    rw [sortF_cons, Bool.and_eq_true, ih]
    constructor
    · rintro ⟨h1, h2, h3⟩
      refine ⟨fun q x hq hx => ?_, fun k x y hx hy => ?_⟩
      · subst hq
        simp only [List.getElem?_cons_zero, Option.some.injEq] at hx
        subst hx
        simpa using h1
      · cases k with
        | zero =>
          simp only [List.getElem?_cons_zero, Option.some.injEq, Nat.zero_add, List.getElem?_cons_succ] at hx hy
          subst hx
          exact h2 _ y rfl hy
        | succ k => exact h3 k x y (by simpa using hx) (by simpa using hy)
    · rintro ⟨h1, h2⟩
      refine ⟨?_, fun q x hq hx => ?_, fun k x y hx hy => h2 (k + 1) x y (by simpa using hx) (by simpa using hy)⟩
      · cases p with
        | none => rfl
        | some q => simpa using h1 q z rfl (by simp)
      · cases hq
        exact h2 0 _ x (by simp) (by simpa using hx)
end Go.Proofs.YtjdebhemoeojiaaDoor
namespace Go.Proofs.YtjdebhemoeojiaaDoor
open Go.RowKit

theorem bcells_enc (l : List BlkT) : cellsK encB l = bcells l := rfl
theorem pcells_enc (l : List (BS × BS)) : cellsK encP l = pcells l := rfl
def prevD (l : List SnapR) (k : Nat) : Option Int := match k with
  | 0 => none
  | j + 1 => (l[j]?).map (·.gd)
theorem snap_at {w : World} {B n : Nat} {A : Option Addr} {l : List SnapR} (h : Reads w B 5 A n (cellsK encSnap l)) (hn : n = l.length) {i : Nat} (hi : i < n) :
    ∃ ad, A = some ad ∧ ad.block < B ∧ w.cell? (ad.add (i * 5)) = some (.string ⟨(l[i]'(by omega)).nm.toArray⟩) ∧ w.cell? ⟨(ad.add (i * 5)).block, (ad.add (i * 5)).off + 1, none⟩ = some (.int .i64 (l[i]'(by omega)).gd) ∧
      w.cell? ⟨(ad.add (i * 5)).block, (ad.add (i * 5)).off + 2, none⟩ = some (.slice (l[i]'(by omega)).body.A (l[i]'(by omega)).body.n (l[i]'(by omega)).body.c) ∧ w.cell? ⟨(ad.add (i * 5)).block, (ad.add (i * 5)).off + 3, none⟩ = some (.slice (l[i]'(by omega)).tags.A (l[i]'(by omega)).tags.n (l[i]'(by omega)).tags.c) ∧ w.cell? ⟨(ad.add (i * 5)).block, (ad.add (i * 5)).off + 4, none⟩ = some (.slice (l[i]'(by omega)).own.A (l[i]'(by omega)).own.n (l[i]'(by omega)).own.c) :=
  Reads.el5 (f0 := fun x : SnapR => .string ⟨x.nm.toArray⟩) (f1 := fun x => .int .i64 x.gd) (f2 := fun x => .slice x.body.A x.body.n x.body.c) (f3 := fun x => .slice x.tags.A x.tags.n x.tags.c) (f4 := fun x => .slice x.own.A x.own.n x.own.c) h hn hi
theorem names_push (l : List SnapR) (k : Nat) (x : SnapR) (h : l.take (k + 1) = l.take k ++ [x]) : scells ((l.take (k + 1)).map (·.nm)) = scells ((l.take k).map (·.nm)) ++ [strV x.nm] := by
  rw [h, List.map_append, scells_append]; rfl
end Go.Proofs.YtjdebhemoeojiaaDoor
namespace Go.Proofs.YtjdebhemoeojiaaDoor
open Go.RowKit

theorem set_at {w : World} {B n : Nat} {A : Option Addr} {l : List SetR} (h : Reads w B 5 A n (cellsK encSet l)) (hn : n = l.length) {i : Nat} (hi : i < n) :
    ∃ ad, A = some ad ∧ ad.block < B ∧ w.cell? (ad.add (i * 5)) = some (.string ⟨(l[i]'(by omega)).path.toArray⟩) ∧ w.cell? ⟨(ad.add (i * 5)).block, (ad.add (i * 5)).off + 1, none⟩ = some (.string ⟨(l[i]'(by omega)).org.toArray⟩) ∧
      w.cell? ⟨(ad.add (i * 5)).block, (ad.add (i * 5)).off + 2, none⟩ = some (.slice (l[i]'(by omega)).body.A (l[i]'(by omega)).body.n (l[i]'(by omega)).body.c) ∧ w.cell? ⟨(ad.add (i * 5)).block, (ad.add (i * 5)).off + 3, none⟩ = some (.slice (l[i]'(by omega)).snaps.A (l[i]'(by omega)).snaps.n (l[i]'(by omega)).snaps.c) ∧ w.cell? ⟨(ad.add (i * 5)).block, (ad.add (i * 5)).off + 4, none⟩ = some (.slice (l[i]'(by omega)).own.A (l[i]'(by omega)).own.n (l[i]'(by omega)).own.c) :=
  Reads.el5 (f0 := fun x : SetR => .string ⟨x.path.toArray⟩) (f1 := fun x => .string ⟨x.org.toArray⟩) (f2 := fun x => .slice x.body.A x.body.n x.body.c) (f3 := fun x => .slice x.snaps.A x.snaps.n x.snaps.c) (f4 := fun x => .slice x.own.A x.own.n x.own.c) h hn hi
theorem firstI_cases {α : Type} (p : α → Bool) (l : List α) : (firstI p l = -1 ∧ l.find? p = none) ∨ ∃ (k : Nat) (h : k < l.length), firstI p l = (k : Int) ∧ l.find? p = some (l[k]'h) := by
  cases hf : l.find? p with
  | none =>
    have h := List.find?_eq_none.1 hf
    refine .inl ⟨?_, rfl⟩
    unfold firstI
    rw [firstP_none p l (fun y hy => by simpa using h y hy), if_neg (Nat.lt_irrefl _)]
  | some x =>
    obtain ⟨hp, i, hi, e, hb⟩ := List.find?_eq_some_iff_getElem.1 hf
    refine .inr ⟨i, hi, ?_, by rw [e]⟩
    have : firstP p l = i := firstP_eq p l i x (fun y hy => by
      obtain ⟨j, hj, e2⟩ := List.mem_iff_getElem.1 hy
      rw [List.getElem_take] at e2
      have := hb j (by rw [List.length_take] at hj; omega)
      rw [e2] at this
      simpa using this) (by rw [List.getElem?_eq_getElem hi, e]) hp
    unfold firstI
    rw [this, if_pos hi]
theorem splitV_cases (l : BS) : (splitL l = none ∧ splitV l = .tuple #[.string ⟨#[]⟩, .string ⟨#[]⟩, .int .i64 31]) ∨ ∃ p n : BS, splitL l = some (p, n) ∧ splitV l = .tuple #[.string ⟨p.toArray⟩, .string ⟨n.toArray⟩, .int .i64 0] ∧ p.length ≤ l.length ∧ n.length ≤ l.length := by
  unfold splitL splitV
  cases h : atL l with
  | none => exact .inl ⟨rfl, rfl⟩
  | some pn =>
    obtain ⟨p, n⟩ := pn
    have := atL_len _ _ _ h
    by_cases hc : (pathB p && nameB n) = true
    · exact .inr ⟨p, n, by simp only [if_pos hc], by simp only [if_pos hc], by omega, by omega⟩
    · exact .inl ⟨by simp only [if_neg hc], by simp only [if_neg hc]⟩
def originP (all : List SetR) (sp so : BS) : Bool := so == [] || match splitL so with
  | none => false
  | some (p, n) => !(p == sp) && match all.find? (fun x => x.path == p) with
    | none => false
    | some x => x.snaps.l.any fun y => y.nm == n
theorem originB_P (all : List SetR) (s : SetR) : originB all s = originP all s.path s.org := rfl
end Go.Proofs.YtjdebhemoeojiaaDoor
namespace Go.Proofs.YtjdebhemoeojiaaDoor
open Go.RowKit

def beginP (kind : Int) (nm : BS) (frm gd : Int) (own : List (BS × BS)) (ix ct : Int) (dt : BS) (sm : Sm) : Bool := decide (kind = 1) && nameB nm && amt frm 0 && amt gd 1 && propsB own && decide (ix = 0) && decide (ct = 0) && decide (dt = []) && smZ sm
theorem beginB_P (x : StageR) : beginB x = beginP x.kind x.nm x.frm x.gd x.own.l x.ix x.ct x.dt x.sm := rfl
theorem Reads.el21 {α : Type} {f0 f1 f2 f3 f4 f5 f6 f7 f8 f9 f10 f11 f12 f13 f14 f15 f16 f17 f18 f19 f20 : α → Value} {w : World} {B n : Nat} {A : Option Addr} {l : List α} (h : Reads w B 21 A n (cellsK (fun x => [f0 x, f1 x, f2 x, f3 x, f4 x, f5 x, f6 x, f7 x, f8 x, f9 x, f10 x, f11 x, f12 x, f13 x, f14 x, f15 x, f16 x, f17 x, f18 x, f19 x, f20 x]) l)) (hn : n = l.length) {i : Nat} (hi : i < n) :
    ∃ ad, A = some ad ∧ ad.block < B ∧ w.cell? (ad.add (i * 21)) = some (f0 (l[i]'(by omega))) ∧ w.cell? ⟨(ad.add (i * 21)).block, (ad.add (i * 21)).off + 1, none⟩ = some (f1 (l[i]'(by omega))) ∧ w.cell? ⟨(ad.add (i * 21)).block, (ad.add (i * 21)).off + 2, none⟩ = some (f2 (l[i]'(by omega))) ∧ w.cell? ⟨(ad.add (i * 21)).block, (ad.add (i * 21)).off + 3, none⟩ = some (f3 (l[i]'(by omega))) ∧ w.cell? ⟨(ad.add (i * 21)).block, (ad.add (i * 21)).off + 4, none⟩ = some (f4 (l[i]'(by omega))) ∧ w.cell? ⟨(ad.add (i * 21)).block, (ad.add (i * 21)).off + 5, none⟩ = some (f5 (l[i]'(by omega))) ∧ w.cell? ⟨(ad.add (i * 21)).block, (ad.add (i * 21)).off + 6, none⟩ = some (f6 (l[i]'(by omega))) ∧ w.cell? ⟨(ad.add (i * 21)).block, (ad.add (i * 21)).off + 7, none⟩ = some (f7 (l[i]'(by omega))) ∧ w.cell? ⟨(ad.add (i * 21)).block, (ad.add (i * 21)).off + 8, none⟩ = some (f8 (l[i]'(by omega))) ∧ w.cell? ⟨(ad.add (i * 21)).block, (ad.add (i * 21)).off + 9, none⟩ = some (f9 (l[i]'(by omega))) ∧ w.cell? ⟨(ad.add (i * 21)).block, (ad.add (i * 21)).off + 10, none⟩ = some (f10 (l[i]'(by omega))) ∧ w.cell? ⟨(ad.add (i * 21)).block, (ad.add (i * 21)).off + 11, none⟩ = some (f11 (l[i]'(by omega))) ∧ w.cell? ⟨(ad.add (i * 21)).block, (ad.add (i * 21)).off + 12, none⟩ = some (f12 (l[i]'(by omega))) ∧ w.cell? ⟨(ad.add (i * 21)).block, (ad.add (i * 21)).off + 13, none⟩ = some (f13 (l[i]'(by omega))) ∧ w.cell? ⟨(ad.add (i * 21)).block, (ad.add (i * 21)).off + 14, none⟩ = some (f14 (l[i]'(by omega))) ∧ w.cell? ⟨(ad.add (i * 21)).block, (ad.add (i * 21)).off + 15, none⟩ = some (f15 (l[i]'(by omega))) ∧ w.cell? ⟨(ad.add (i * 21)).block, (ad.add (i * 21)).off + 16, none⟩ = some (f16 (l[i]'(by omega))) ∧ w.cell? ⟨(ad.add (i * 21)).block, (ad.add (i * 21)).off + 17, none⟩ = some (f17 (l[i]'(by omega))) ∧ w.cell? ⟨(ad.add (i * 21)).block, (ad.add (i * 21)).off + 18, none⟩ = some (f18 (l[i]'(by omega))) ∧ w.cell? ⟨(ad.add (i * 21)).block, (ad.add (i * 21)).off + 19, none⟩ = some (f19 (l[i]'(by omega))) ∧ w.cell? ⟨(ad.add (i * 21)).block, (ad.add (i * 21)).off + 20, none⟩ = some (f20 (l[i]'(by omega))) := by
  obtain ⟨ad, e, hb, hc⟩ := Reads.elK (k := 21) (fun _ => rfl) h hn hi
  refine ⟨ad, e, hb, ?_, ?_, ?_, ?_, ?_, ?_, ?_, ?_, ?_, ?_, ?_, ?_, ?_, ?_, ?_, ?_, ?_, ?_, ?_, ?_, ?_⟩
  · have := hc 0 (by omega); rwa [add_zero] at this
  · have := hc 1 (by omega); rwa [addr_add_succ] at this
  · have := hc 2 (by omega); rwa [addr_add_succ] at this
  · have := hc 3 (by omega); rwa [addr_add_succ] at this
  · have := hc 4 (by omega); rwa [addr_add_succ] at this
  · have := hc 5 (by omega); rwa [addr_add_succ] at this
  · have := hc 6 (by omega); rwa [addr_add_succ] at this
  · have := hc 7 (by omega); rwa [addr_add_succ] at this
  · have := hc 8 (by omega); rwa [addr_add_succ] at this
  · have := hc 9 (by omega); rwa [addr_add_succ] at this
  · have := hc 10 (by omega); rwa [addr_add_succ] at this
  · have := hc 11 (by omega); rwa [addr_add_succ] at this
  · have := hc 12 (by omega); rwa [addr_add_succ] at this
  · have := hc 13 (by omega); rwa [addr_add_succ] at this
  · have := hc 14 (by omega); rwa [addr_add_succ] at this
  · have := hc 15 (by omega); rwa [addr_add_succ] at this
  · have := hc 16 (by omega); rwa [addr_add_succ] at this
  · have := hc 17 (by omega); rwa [addr_add_succ] at this
  · have := hc 18 (by omega); rwa [addr_add_succ] at this
  · have := hc 19 (by omega); rwa [addr_add_succ] at this
  · have := hc 20 (by omega); rwa [addr_add_succ] at this
theorem stage_at {w : World} {B n : Nat} {A : Option Addr} {l : List StageR} (h : Reads w B 21 A n (cellsK encStage l)) (hn : n = l.length) {i : Nat} (hi : i < n) :
    ∃ ad, A = some ad ∧ ad.block < B ∧ w.cell? (ad.add (i * 21)) = some (.string ⟨(l[i]'(by omega)).into.toArray⟩) ∧ w.cell? ⟨(ad.add (i * 21)).block, (ad.add (i * 21)).off + 1, none⟩ = some (.int .i64 (l[i]'(by omega)).kind) ∧ w.cell? ⟨(ad.add (i * 21)).block, (ad.add (i * 21)).off + 2, none⟩ = some (.string ⟨(l[i]'(by omega)).nm.toArray⟩) ∧ w.cell? ⟨(ad.add (i * 21)).block, (ad.add (i * 21)).off + 3, none⟩ = some (.int .i64 (l[i]'(by omega)).frm) ∧ w.cell? ⟨(ad.add (i * 21)).block, (ad.add (i * 21)).off + 4, none⟩ = some (.int .i64 (l[i]'(by omega)).gd) ∧ w.cell? ⟨(ad.add (i * 21)).block, (ad.add (i * 21)).off + 5, none⟩ = some (.slice (l[i]'(by omega)).own.A (l[i]'(by omega)).own.n (l[i]'(by omega)).own.c) ∧ w.cell? ⟨(ad.add (i * 21)).block, (ad.add (i * 21)).off + 6, none⟩ = some (.int .i64 (l[i]'(by omega)).ix) ∧ w.cell? ⟨(ad.add (i * 21)).block, (ad.add (i * 21)).off + 7, none⟩ = some (.int .i64 (l[i]'(by omega)).ct) ∧ w.cell? ⟨(ad.add (i * 21)).block, (ad.add (i * 21)).off + 8, none⟩ = some (.string ⟨(l[i]'(by omega)).dt.toArray⟩) ∧ w.cell? ⟨(ad.add (i * 21)).block, (ad.add (i * 21)).off + 9, none⟩ = some (.int .u64 (l[i]'(by omega)).sm.a) ∧ w.cell? ⟨(ad.add (i * 21)).block, (ad.add (i * 21)).off + 10, none⟩ = some (.int .u64 (l[i]'(by omega)).sm.b) ∧ w.cell? ⟨(ad.add (i * 21)).block, (ad.add (i * 21)).off + 11, none⟩ = some (.int .u64 (l[i]'(by omega)).sm.c) ∧ w.cell? ⟨(ad.add (i * 21)).block, (ad.add (i * 21)).off + 12, none⟩ = some (.int .u64 (l[i]'(by omega)).sm.d) ∧ w.cell? ⟨(ad.add (i * 21)).block, (ad.add (i * 21)).off + 13, none⟩ = some (.slice (l[i]'(by omega)).body.A (l[i]'(by omega)).body.n (l[i]'(by omega)).body.c) ∧ w.cell? ⟨(ad.add (i * 21)).block, (ad.add (i * 21)).off + 14, none⟩ = some (.int .i64 (l[i]'(by omega)).at_) ∧ w.cell? ⟨(ad.add (i * 21)).block, (ad.add (i * 21)).off + 15, none⟩ = some (.int .i64 (l[i]'(by omega)).nx) ∧ w.cell? ⟨(ad.add (i * 21)).block, (ad.add (i * 21)).off + 16, none⟩ = some (.int .u64 (l[i]'(by omega)).sum.a) ∧ w.cell? ⟨(ad.add (i * 21)).block, (ad.add (i * 21)).off + 17, none⟩ = some (.int .u64 (l[i]'(by omega)).sum.b) ∧ w.cell? ⟨(ad.add (i * 21)).block, (ad.add (i * 21)).off + 18, none⟩ = some (.int .u64 (l[i]'(by omega)).sum.c) ∧ w.cell? ⟨(ad.add (i * 21)).block, (ad.add (i * 21)).off + 19, none⟩ = some (.int .u64 (l[i]'(by omega)).sum.d) ∧ w.cell? ⟨(ad.add (i * 21)).block, (ad.add (i * 21)).off + 20, none⟩ = some (.bool (l[i]'(by omega)).done) :=
  Reads.el21 (f0 := fun x : StageR => .string ⟨x.into.toArray⟩) (f1 := fun x : StageR => .int .i64 x.kind) (f2 := fun x : StageR => .string ⟨x.nm.toArray⟩) (f3 := fun x : StageR => .int .i64 x.frm) (f4 := fun x : StageR => .int .i64 x.gd) (f5 := fun x : StageR => .slice x.own.A x.own.n x.own.c) (f6 := fun x : StageR => .int .i64 x.ix) (f7 := fun x : StageR => .int .i64 x.ct) (f8 := fun x : StageR => .string ⟨x.dt.toArray⟩) (f9 := fun x : StageR => .int .u64 x.sm.a) (f10 := fun x : StageR => .int .u64 x.sm.b) (f11 := fun x : StageR => .int .u64 x.sm.c) (f12 := fun x : StageR => .int .u64 x.sm.d) (f13 := fun x : StageR => .slice x.body.A x.body.n x.body.c) (f14 := fun x : StageR => .int .i64 x.at_) (f15 := fun x : StageR => .int .i64 x.nx) (f16 := fun x : StageR => .int .u64 x.sum.a) (f17 := fun x : StageR => .int .u64 x.sum.b) (f18 := fun x : StageR => .int .u64 x.sum.c) (f19 := fun x : StageR => .int .u64 x.sum.d) (f20 := fun x : StageR => .bool x.done) h hn hi

def prevI (l : List StageR) (k : Nat) : Option BS := match k with
  | 0 => none
  | j + 1 => (l[j]?).map (·.into)
theorem stagesFrom_cons (p : Option BS) (s : StageR) (l : List StageR) : stagesFrom p (s :: l) = (stageB s && (match p with | none => true | some q => Op.bytesLess q s.into) && stagesFrom (some s.into) l) := by cases p <;> rfl
theorem stageB_eq (x : StageR) : stageB x = (!(x.into == []) && pathB x.into && beginP x.kind x.nm x.frm x.gd x.own.l x.ix x.ct x.dt x.sm && okL x.body.l && amt x.at_ 0 && amt x.nx 0) := rfl
end Go.Proofs.YtjdebhemoeojiaaDoor
namespace Go.Proofs.YtjdebhemoeojiaaDoor
open Go.RowKit

set_option maxRecDepth 100000 in
theorem refAmount_any (n k : Int) (w : World) : Calls Tryd.prog 58 #[.int .i64 n, .int .i64 k] w fun e w' => e = .returned (.bool (amt n k)) ∧ w' = w := by
  go_enter Tryd.func58, Tryd.ntmps58
  go_wp2_with fail
  all_goals go_ret
  all_goals refine ⟨congrArg Ending.returned (congrArg Value.bool ?_), rfl⟩
  all_goals unfold amt
  all_goals rw [Bool.eq_iff_iff]
  all_goals simp
  all_goals omega
theorem refAmountB_any (n k : Int) (w : World) : Calls Tryd.prog 58 #[.int .i64 n, .int .i64 k] w fun e w' => e = .returned (.bool (amt n k)) ∧ Below w.heap.size w w' := by
  refine (refAmount_any n k w).mono ?_
  rintro e w1 ⟨rfl, rfl⟩
  exact ⟨rfl, Below.refl _ _⟩
theorem refNameB_any (x : BS) (w : World) (hs : x.length ≤ 4000000000) : Calls Tryd.prog 40 #[.string ⟨x.toArray⟩] w fun e w' => e = .returned (.bool (nameB x)) ∧ Below w.heap.size w w' := by
  refine (refName_s ⟨x.toArray⟩ w (by show x.length ≤ _; omega)).mono ?_
  rintro e w1 ⟨rfl, rfl⟩
  exact ⟨rfl, Below.refl _ _⟩
def prevS (l : List BS) (k : Nat) : Option BS := match k with
  | 0 => none
  | j + 1 => l[j]?
def ParPost (l : BS) (w : World) (e : Ending) (w' : World) : Prop := Below w.heap.size w w' ∧
      ((l = [] ∨ pathB l = false) ∧ e = .returned (.tuple #[.string ⟨#[]⟩, .bool false]) ∨
       l ≠ [] ∧ pathB l = true ∧ e = .returned (.tuple #[.string ⟨(upL l).toArray⟩, .bool true]))
end Go.Proofs.YtjdebhemoeojiaaDoor
namespace Go.Proofs.YtjdebhemoeojiaaDoor
open Go.RowKit

def entryP (us : BS) (kd : Int) (pa : BS) (er : Int) : Bool := (us == [] || nameB us) && pathB pa && amt kd 0 && amt er 0
theorem entryB_P (x : EntryR) : entryB x = entryP x.user x.kind x.path x.err := rfl
end Go.Proofs.YtjdebhemoeojiaaDoor
namespace Go.Proofs.YtjdebhemoeojiaaDoor
open Go.RowKit

set_option maxRecDepth 100000 in
set_option maxHeartbeats 2000000 in
theorem rcheckq_any (l : BL) (n : Nat) (hnl : n = l.length) (A : Option Addr) (c : Nat) (w : World) (B : Nat) (hr : Reads w B 2 A n (bcells l)) (hn : n ≤ 140737488351232) :
    Calls Tryd.prog 57 #[.slice A n c] w fun e w' => e = .returned (.int .i64 (okE l)) ∧ ∃ q, w' = w.drewN q := by
  have HN := Lib.hid hnl
  clear hnl
  go_enter Tryd.func57, Tryd.ntmps57
  go_wp2_with fail
  go_loopw [3] (fun j wr => ∃ k q0 : Nat, k ≤ n ∧ j = .int .i64 (k : Int) ∧ Hid (okL l = okFrom (prevAt l k) (l.drop k)) ∧ wr = w.drewN q0) (fun j _ => n - (intOf j).toNat)
  case atStart => exact ⟨0, 0, Nat.zero_le _, rfl, rfl, rfl⟩
  case round =>
    obtain ⟨k, q0, hk, rfl, hok, rfl⟩ := hrel
    by_cases hlt : k < n
    · have hrw := hr
      obtain ⟨ad, rfl, hadB, c0, c1⟩ := hrw.blk2 HN.out hlt
      have hki : (k : Int) < (n : Int) := by omega
      have hkl : k < l.length := by have := HN.out; omega
      obtain ⟨x, hx⟩ : ∃ x, x = l[k]'hkl := ⟨_, rfl⟩
      rw [← hx] at c0 c1
      have hdr := List.drop_eq_getElem_cons hkl
      rw [← hx] at hdr
      have HX := Lib.hid hx
      have HDR := Lib.hid hdr
      obtain ⟨xi, xs⟩ := x
      simp only at c0 c1
      have hbad : Hid ((xi < 0 ∨ 1024 ≤ xi ∨ xs.length ≠ 16 ∨ (∃ y, prevAt l k = some y ∧ xi ≤ y)) → okE l = 9) := by
        intro h
        have hf : okL l = false := by
          rw [hok.out, HDR.out]
          cases hfv : okFrom (prevAt l k) ((xi, xs) :: l.drop (k + 1)) with
          | false => rfl
          | true =>
            exfalso
            simp only [okFrom, Bool.and_eq_true, decide_eq_true_eq] at hfv
            obtain ⟨⟨⟨⟨h1, h2⟩, h3⟩, h4⟩, _⟩ := hfv
            rcases h with h | h | h | ⟨y, hy, h⟩
            · omega
            · omega
            · exact h h3
            · rw [hy] at h4; simp at h4; omega
        unfold okE
        rw [hf]
        rfl
      have hgood : Hid ((0 ≤ xi ∧ xi < 1024 ∧ xs.length = 16 ∧ (∀ y, prevAt l k = some y → y < xi)) → okL l = okFrom (prevAt l (k + 1)) (l.drop (k + 1))) := by
        rintro ⟨h1, h2, h3, h4⟩
        rw [hok.out, HDR.out]
        have hp : prevAt l (k + 1) = some xi := by
          show (l[k]?).map (·.1) = _
          rw [List.getElem?_eq_getElem hkl, ← HX.out]
          rfl
        rw [hp]
        simp only [okFrom, h1, h2, h3, decide_true, Bool.true_and]
        cases hq : prevAt l k with
        | none => rfl
        | some y => simp [h4 y hq]
      clear hx hdr hok
      by_cases g1 : xi < 0
      · have HB := Lib.hid (hbad.out (.inl g1))
        clear hr hrw hbad hgood
        go_wp2_with fail
        go_big_quiet (fail)
        go_wp2_with fail
        go_ret
        exact ⟨by rw [HB.out]; rfl, q0 + nq, World.drewN_drewN _ _ _⟩
      by_cases g2 : 1024 ≤ xi
      · have HB := Lib.hid (hbad.out (.inr (.inl g2)))
        have d1 : decide (xi < 0) = false := by simp; omega
        have d2 : decide (1024 ≤ xi) = true := by simp; omega
        clear hr hrw hbad hgood g1 g2
        go_wp2_with fail
        go_big_quiet (fail)
        go_wp2_with fail
        go_ret
        exact ⟨by rw [HB.out]; rfl, q0 + nq, World.drewN_drewN _ _ _⟩
      by_cases g3 : xs.length = 16
      · have g1' : 0 ≤ xi := by omega
        have g2' : xi < 1024 := by omega
        have g3a : ((xs.length : Int) == 16) = true := by simp [g3]
        have g3b : ((xs.length : Int) != 16) = false := by simp [g3]
        have d1 : decide (xi < 0) = false := by simp; omega
        have d2 : decide (1024 ≤ xi) = false := by simp; omega
        rcases Nat.eq_zero_or_pos k with h0 | h0
        · have HG := Lib.hid (hgood.out ⟨g1', g2', g3, fun y hy => by subst h0; cases hy⟩)
          have d4 : decide ((0 : Int) < (k : Int)) = false := by simp; omega
          have d4' : decide (0 < k) = false := by simp; omega
          have H0 := Lib.hid h0
          clear hr hrw hbad hgood g1 g2 g3 h0
          go_wp2_with fail
          go_big_quiet (fail)
          go_wp2_with fail
          go_roundw
          case rel => exact ⟨k + 1, q0 + nq, by omega, by go_num, HG, rfl⟩
          case measure => simp [intOf]; omega
        · have d4 : decide ((0 : Int) < (k : Int)) = true := by simp; omega
          have d4' : decide (0 < k) = true := by simp; omega
          have hk1l : k - 1 < l.length := by omega
          obtain ⟨y, hy⟩ : ∃ y, y = (l[k - 1]'hk1l).1 := ⟨_, rfl⟩
          have hpv : prevAt l k = some y := by
            obtain ⟨j, rfl⟩ : ∃ j, k = j + 1 := ⟨k - 1, by omega⟩
            show (l[j]?).map (·.1) = _
            have hj : j < l.length := by simpa using hk1l
            rw [List.getElem?_eq_getElem hj, hy]
            rfl
          have hcp := (hrw.blk2 HN.out (k := k - 1) (by omega))
          obtain ⟨ad2, e2, -, c2, -⟩ := hcp
          injection e2 with e2
          subst e2
          rw [← hy] at c2
          have i1 : (0 : Int) ≤ (k : Int) - 1 := by omega
          have i2 : (k : Int) - 1 < (n : Int) := by omega
          have i3 : IntKind.i64.wrap ((k : Int) - 1) = (k : Int) - 1 := IntWalk.i64_in _ (by omega)
          have i4 : ((k : Int) - 1).toNat = k - 1 := by omega
          by_cases g5 : y < xi
          · have HG := Lib.hid (hgood.out ⟨g1', g2', g3, fun y' hy' => by rw [hpv] at hy'; cases hy'; exact g5⟩)
            have d5 : decide (xi ≤ y) = false := by simp; omega
            clear hr hrw hbad hgood g1 g2 g3 h0 hpv hy g5
            go_wp2_with fail
            go_big_quiet (fail)
            clear i3 i4
            go_wp2_with fail
            go_roundw
            case rel => exact ⟨k + 1, q0 + nq, by omega, by go_num, HG, rfl⟩
            case measure => simp [intOf]; omega
          · have HB := Lib.hid (hbad.out (.inr (.inr (.inr ⟨y, hpv, by omega⟩))))
            have d5 : decide (xi ≤ y) = true := by simp; omega
            clear hr hrw hbad hgood g1 g2 g3 h0 hpv hy g5
            go_wp2_with fail
            go_big_quiet (fail)
            clear i3 i4
            go_wp2_with fail
            go_ret
            exact ⟨by rw [HB.out]; rfl, q0 + nq, World.drewN_drewN _ _ _⟩
      · have g3a : ((xs.length : Int) == 16) = false := by simp; omega
        have g3b : ((xs.length : Int) != 16) = true := by simp; omega
        have g1' : 0 ≤ xi := by omega
        have g2' : xi < 1024 := by omega
        have HB := Lib.hid (hbad.out (.inr (.inr (.inl g3))))
        have d1 : decide (xi < 0) = false := by simp; omega
        have d2 : decide (1024 ≤ xi) = false := by simp; omega
        clear hr hrw hbad hgood g1 g2 g3
        go_wp2_with fail
        go_big_quiet (fail)
        go_wp2_with fail
        go_ret
        exact ⟨by rw [HB.out]; rfl, q0 + nq, World.drewN_drewN _ _ _⟩
    · obtain rfl : k = n := by omega
      have HF : Hid (okE l = 0) := by
        show _ = _
        unfold okE
        rw [hok.out, List.drop_of_length_le (by rw [HN.out]; exact Nat.le_refl _)]
        rfl
      clear hok hr
      go_wp2_with fail
      go_ret
      exact ⟨by rw [HF.out]; rfl, q0, rfl⟩

end Go.Proofs.YtjdebhemoeojiaaDoor
namespace Go.Proofs.YtjdebhemoeojiaaDoor
open Go.RowKit

theorem atL_at (l : BS) (k : Nat) (h : ∀ j, j < k → l[j]? ≠ some 64) (hk : l[k]? = some 64) : atL l = some (l.take k, l.drop (k + 1)) := by
  obtain ⟨hlt, hg⟩ := List.getElem?_eq_some_iff.1 hk
  have e : l = l.take k ++ 64 :: l.drop (k + 1) := by
    conv => lhs; rw [← List.take_append_drop k l, List.drop_eq_getElem_cons hlt, hg]
  conv => lhs; rw [e]
  refine atL_join _ _ ?_
  rintro c hc rfl
  obtain ⟨j, hj, e2⟩ := List.mem_iff_getElem.1 hc
  rw [List.getElem_take] at e2
  rw [List.length_take] at hj
  exact h j (by omega) (by rw [List.getElem?_eq_getElem (by omega), e2])
theorem refPropsB_any (l : List (BS × BS)) (n : Nat) (hnl : n = l.length) (A : Option Addr) (c : Nat) (w : World) (B : Nat) (hr : Reads w B 2 A n (pcells l)) (hn : n ≤ 1000000000000) (hv : ∀ x ∈ l, x.1.length ≤ 4000000000 ∧ x.2.length ≤ 4000000000) :
    Calls Tryd.prog 86 #[.slice A n c] w fun e w' => e = .returned (.int .i64 (if propsB l = true then 0 else 9)) ∧ Below w.heap.size w w' := by
  refine (refProps_any l n hnl A c w B hr (by omega) (fun x hx => by have := hv x hx; omega)).mono ?_
  rintro e w1 ⟨rfl, q, rfl⟩
  exact ⟨rfl, below_drewN (Below.refl _ _) q⟩
theorem refCheckB_any (l : List BlkT) (n : Nat) (hnl : n = l.length) (A : Option Addr) (c : Nat) (w : World) (B : Nat) (hr : Reads w B 2 A n (bcells l)) (hn : n ≤ 1000000000000) :
    Calls Tryd.prog 57 #[.slice A n c] w fun e w' => e = .returned (.int .i64 (if okL l = true then 0 else 9)) ∧ Below w.heap.size w w' := by
  refine (rcheckq_any l n hnl A c w B hr (by omega)).mono ?_
  rintro e w1 ⟨rfl, q, rfl⟩
  exact ⟨rfl, below_drewN (Below.refl _ _) q⟩
set_option maxRecDepth 100000 in
set_option maxHeartbeats 4000000 in
theorem refBegin_any (kind : Int) (nm : BS) (frm gd : Int) (ol : List (BS × BS)) (n : Nat) (hnl : n = ol.length) (A : Option Addr) (c : Nat) (ix ct : Int) (dt : BS) (sa sb sc sd : Int) (w : World) (B : Nat) (hr : Reads w B 2 A n (pcells ol)) (hB : B ≤ w.heap.size) (hn : n ≤ 1000000000000) (hnm : nm.length ≤ 4000000000) (hp : ∀ p ∈ ol, p.1.length ≤ 4000000000 ∧ p.2.length ≤ 4000000000) :
    Calls Tryd.prog 56 #[.agg #[.int .i64 kind, .string ⟨nm.toArray⟩, .int .i64 frm, .int .i64 gd, .slice A n c, .int .i64 ix, .int .i64 ct, .string ⟨dt.toArray⟩, .int .u64 sa, .int .u64 sb, .int .u64 sc, .int .u64 sd]] w fun e w' => e = .returned (.bool (beginP kind nm frm gd ol ix ct dt ⟨sa, sb, sc, sd⟩)) ∧ Below w.heap.size w w' := by
  have hb1 := (Below.refl w.heap.size w).alloc (Nat.le_refl _) (.cells #[.int .i64 kind, .string ⟨nm.toArray⟩, .int .i64 frm, .int .i64 gd, .slice A n c, .int .i64 ix, .int .i64 ct, .string ⟨dt.toArray⟩, .int .u64 sa, .int .u64 sb, .int .u64 sc, .int .u64 sd] 57)
  have kT := Blk.new w 57 #[.int .i64 kind, .string ⟨nm.toArray⟩, .int .i64 frm, .int .i64 gd, .slice A n c, .int .i64 ix, .int .i64 ct, .string ⟨dt.toArray⟩, .int .u64 sa, .int .u64 sb, .int .u64 sc, .int .u64 sd]
  obtain ⟨W1, hW1⟩ : ∃ W, W = w.alloc (.cells #[.int .i64 kind, .string ⟨nm.toArray⟩, .int .i64 frm, .int .i64 gd, .slice A n c, .int .i64 ix, .int .i64 ct, .string ⟨dt.toArray⟩, .int .u64 sa, .int .u64 sb, .int .u64 sc, .int .u64 sd] 57) := ⟨_, rfl⟩
  have hsz1 : W1.heap.size = w.heap.size + 1 := by rw [hW1]; simp
  rw [← hW1] at hb1 kT
  have hT := Lib.hid (fun (W' : World) (hB' : Below W1.heap.size W1 W') => (⟨(kT.below hB' (by omega)).cell 0, (kT.below hB' (by omega)).cell 1, (kT.below hB' (by omega)).cell 2, (kT.below hB' (by omega)).cell 3, (kT.below hB' (by omega)).cell 4, (kT.below hB' (by omega)).cell 5, (kT.below hB' (by omega)).cell 6, (kT.below hB' (by omega)).cell 7, (kT.below hB' (by omega)).cell 8, (kT.below hB' (by omega)).cell 9, (kT.below hB' (by omega)).cell 10, (kT.below hB' (by omega)).cell 11⟩ : W'.cell? ⟨w.heap.size, 0, none⟩ = some (.int .i64 kind) ∧ W'.cell? ⟨w.heap.size, 1, none⟩ = some (.string ⟨nm.toArray⟩) ∧ W'.cell? ⟨w.heap.size, 2, none⟩ = some (.int .i64 frm) ∧ W'.cell? ⟨w.heap.size, 3, none⟩ = some (.int .i64 gd) ∧ W'.cell? ⟨w.heap.size, 4, none⟩ = some (.slice A n c) ∧ W'.cell? ⟨w.heap.size, 5, none⟩ = some (.int .i64 ix) ∧ W'.cell? ⟨w.heap.size, 6, none⟩ = some (.int .i64 ct) ∧ W'.cell? ⟨w.heap.size, 7, none⟩ = some (.string ⟨dt.toArray⟩) ∧ W'.cell? ⟨w.heap.size, 8, none⟩ = some (.int .u64 sa) ∧ W'.cell? ⟨w.heap.size, 9, none⟩ = some (.int .u64 sb) ∧ W'.cell? ⟨w.heap.size, 10, none⟩ = some (.int .u64 sc) ∧ W'.cell? ⟨w.heap.size, 11, none⟩ = some (.int .u64 sd)))
  have hrw : ∀ W', Below W1.heap.size W1 W' → Reads W' B 2 A n (pcells ol) := fun W' hb => hr.below ((hb1.trans (hb.mono (by omega))).mono hB)
  have hN : Hid (∀ W, Below W1.heap.size W1 W → Calls Tryd.prog 40 #[.string ⟨nm.toArray⟩] W fun e W' => e = .returned (.bool (nameB nm)) ∧ Below W.heap.size W W') := fun W _ => refNameB_any nm W hnm
  have hA0 : Hid (∀ W, Below W1.heap.size W1 W → Calls Tryd.prog 58 #[.int .i64 frm, .int .i64 0] W fun e W' => e = .returned (.bool (amt frm 0)) ∧ Below W.heap.size W W') := fun W _ => refAmountB_any frm 0 W
  have hA1 : Hid (∀ W, Below W1.heap.size W1 W → Calls Tryd.prog 58 #[.int .i64 gd, .int .i64 1] W fun e W' => e = .returned (.bool (amt gd 1)) ∧ Below W.heap.size W W') := fun W _ => refAmountB_any gd 1 W
  have hPr : Hid (∀ W, Below W1.heap.size W1 W → Calls Tryd.prog 86 #[.slice A n c] W fun e W' => e = .returned (.int .i64 (if propsB ol = true then 0 else 9)) ∧ Below W.heap.size W W') := fun W hb => refPropsB_any ol n hnl A c W B (hrw W hb) hn hp
  have HV : Hid (beginP kind nm frm gd ol ix ct dt ⟨sa, sb, sc, sd⟩ = (decide (kind = 1) && (nameB nm && (amt frm 0 && (amt gd 1 && (propsB ol && (decide (ix = 0) && (decide (ct = 0) && (decide (dt = []) && decide (sa = 0 ∧ sb = 0 ∧ sc = 0 ∧ sd = 0)))))))))) := by
    show _ = _
    unfold beginP smZ
    simp only [Bool.and_assoc]
  obtain ⟨V, hV⟩ : ∃ V, V = beginP kind nm frm gd ol ix ct dt ⟨sa, sb, sc, sd⟩ := ⟨_, rfl⟩
  obtain ⟨bN, hbN⟩ : ∃ V, V = nameB nm := ⟨_, rfl⟩
  obtain ⟨bA, hbA⟩ : ∃ V, V = amt frm 0 := ⟨_, rfl⟩
  obtain ⟨bG, hbG⟩ : ∃ V, V = amt gd 1 := ⟨_, rfl⟩
  obtain ⟨bP, hbP⟩ : ∃ V, V = propsB ol := ⟨_, rfl⟩
  rw [← hV] at HV ⊢
  rw [← hbN] at HV hN
  rw [← hbA] at HV hA0
  rw [← hbG] at HV hA1
  rw [← hbP] at HV hPr
  have HB1 := Lib.hid hb1
  have HSZ1 := Lib.hid hsz1
  clear hV hbN hbA hbG hbP hr hrw hnl hb1 hsz1 kT hp
  have hW0 := Below.refl W1.heap.size W1
  by_cases hk : kind = 1
  · subst hk
    go_enter Tryd.func56, Tryd.ntmps56
    have hc := hN.out _ hW0
    cases bN with
    | false =>
      go_wp2_with fail
      rw [← hW1]
      refine hc.mono ?_
      clear hc
      rintro e w11 ⟨rfl, hbw11⟩
      have hWw11 := hW0.trans (hbw11.mono hW0.size)
      clear hbw11 
      obtain ⟨t0, t1, t2, t3, t4, t5, t6, t7, t8, t9, t10, t11⟩ := hT.out _ hWw11
      have HB : Hid (V = false) := by show _ = _; rw [HV.out]; rfl
      go_wp2_with fail
      go_ret
      exact ⟨by rw [HB.out]; rfl, HB1.out.trans (hWw11.mono (by have := HSZ1.out; omega))⟩
    | true =>
      go_wp2_with fail
      rw [← hW1]
      refine hc.mono ?_
      clear hc
      rintro e w11 ⟨rfl, hbw11⟩
      have hWw11 := hW0.trans (hbw11.mono hW0.size)
      clear hbw11 
      obtain ⟨t0, t1, t2, t3, t4, t5, t6, t7, t8, t9, t10, t11⟩ := hT.out _ hWw11
      have hc := hA0.out _ hWw11
      cases bA with
      | false =>
        go_wp2_with fail
        refine hc.mono ?_
        clear hc
        rintro e w12 ⟨rfl, hbw12⟩
        have hWw12 := hWw11.trans (hbw12.mono hWw11.size)
        clear hbw12 
        obtain ⟨t0, t1, t2, t3, t4, t5, t6, t7, t8, t9, t10, t11⟩ := hT.out _ hWw12
        have HB : Hid (V = false) := by show _ = _; rw [HV.out]; rfl
        go_wp2_with fail
        go_ret
        exact ⟨by rw [HB.out]; rfl, HB1.out.trans (hWw12.mono (by have := HSZ1.out; omega))⟩
      | true =>
        go_wp2_with fail
        refine hc.mono ?_
        clear hc
        rintro e w12 ⟨rfl, hbw12⟩
        have hWw12 := hWw11.trans (hbw12.mono hWw11.size)
        clear hbw12 
        obtain ⟨t0, t1, t2, t3, t4, t5, t6, t7, t8, t9, t10, t11⟩ := hT.out _ hWw12
        have hc := hA1.out _ hWw12
        cases bG with
        | false =>
          go_wp2_with fail
          refine hc.mono ?_
          clear hc
          rintro e w13 ⟨rfl, hbw13⟩
          have hWw13 := hWw12.trans (hbw13.mono hWw12.size)
          clear hbw13 
          obtain ⟨t0, t1, t2, t3, t4, t5, t6, t7, t8, t9, t10, t11⟩ := hT.out _ hWw13
          have HB : Hid (V = false) := by show _ = _; rw [HV.out]; rfl
          go_wp2_with fail
          go_ret
          exact ⟨by rw [HB.out]; rfl, HB1.out.trans (hWw13.mono (by have := HSZ1.out; omega))⟩
        | true =>
          go_wp2_with fail
          refine hc.mono ?_
          clear hc
          rintro e w13 ⟨rfl, hbw13⟩
          have hWw13 := hWw12.trans (hbw13.mono hWw12.size)
          clear hbw13 
          obtain ⟨t0, t1, t2, t3, t4, t5, t6, t7, t8, t9, t10, t11⟩ := hT.out _ hWw13
          have hc := hPr.out _ hWw13
          cases bP with
          | false =>
            rw [if_neg (by decide)] at hc
            go_wp2_with fail
            refine hc.mono ?_
            clear hc
            rintro e w14 ⟨rfl, hbw14⟩
            have hWw14 := hWw13.trans (hbw14.mono hWw13.size)
            clear hbw14 
            obtain ⟨t0, t1, t2, t3, t4, t5, t6, t7, t8, t9, t10, t11⟩ := hT.out _ hWw14
            have HB : Hid (V = false) := by show _ = _; rw [HV.out]; rfl
            go_wp2_with fail
            go_ret
            exact ⟨by rw [HB.out]; rfl, HB1.out.trans (hWw14.mono (by have := HSZ1.out; omega))⟩
          | true =>
            rw [if_pos rfl] at hc
            go_wp2_with fail
            refine hc.mono ?_
            clear hc
            rintro e w14 ⟨rfl, hbw14⟩
            have hWw14 := hWw13.trans (hbw14.mono hWw13.size)
            clear hbw14 
            obtain ⟨t0, t1, t2, t3, t4, t5, t6, t7, t8, t9, t10, t11⟩ := hT.out _ hWw14
            have HR : Hid (V = (decide (ix = 0) && (decide (ct = 0) && (decide (dt = []) && decide (sa = 0 ∧ sb = 0 ∧ sc = 0 ∧ sd = 0))))) := by show _ = _; rw [HV.out]; rfl
            have HBF := Lib.hid (HB1.out.trans (hWw14.mono (by have := HSZ1.out; omega)))
            by_cases z1 : ix = 0
            · by_cases z2 : ct = 0
              · by_cases z3 : dt = []
                · by_cases z4 : sa = 0
                  · by_cases z5 : sb = 0
                    · by_cases z6 : sc = 0
                      · by_cases z7 : sd = 0
                        · subst z1 z2 z3 z4 z5 z6 z7
                          go_wp2_with fail
                          go_ret
                          exact ⟨by rw [HR.out]; rfl, HBF.out⟩
                        · subst z1 z2 z3 z4 z5 z6
                          have HB : Hid (V = false) := by show _ = _; rw [HR.out]; simp [z7]
                          go_wp2_with fail
                          go_ret
                          exact ⟨by rw [HB.out]; simp, HBF.out⟩
                      · subst z1 z2 z3 z4 z5
                        have HB : Hid (V = false) := by show _ = _; rw [HR.out]; simp [z6]
                        go_wp2_with fail
                        go_ret
                        exact ⟨by rw [HB.out]; simp, HBF.out⟩
                    · subst z1 z2 z3 z4
                      have HB : Hid (V = false) := by show _ = _; rw [HR.out]; simp [z5]
                      go_wp2_with fail
                      go_ret
                      exact ⟨by rw [HB.out]; simp, HBF.out⟩
                  · subst z1 z2 z3
                    have HB : Hid (V = false) := by show _ = _; rw [HR.out]; simp [z4]
                    go_wp2_with fail
                    go_ret
                    exact ⟨by rw [HB.out]; simp, HBF.out⟩
                · subst z1 z2
                  have HB : Hid (V = false) := by show _ = _; rw [HR.out]; simp [z3]
                  have z3b : (dt == []) = false := by simpa using z3
                  have z3c : dt.isEmpty = false := by cases dt <;> simp_all
                  go_wp2_with fail
                  go_ret
                  exact ⟨by rw [HB.out]; rfl, HBF.out⟩
              · subst z1
                have z2b : (ct == 0) = false := by simpa using z2
                have HB : Hid (V = false) := by show _ = _; rw [HR.out]; simp [z2]
                go_wp2_with fail
                go_ret
                exact ⟨by rw [HB.out]; rfl, HBF.out⟩
            · have z1b : (ix == 0) = false := by simpa using z1
              have HB : Hid (V = false) := by show _ = _; rw [HR.out]; simp [z1]
              go_wp2_with fail
              go_ret
              exact ⟨by rw [HB.out]; rfl, HBF.out⟩
  · have hkb : (kind == 1) = false := by simpa using hk
    have HB : Hid (V = false) := by show _ = _; rw [HV.out, decide_eq_false hk]; rfl
    go_enter Tryd.func56, Tryd.ntmps56
    go_wp2_with fail
    rw [← hW1]
    go_ret
    exact ⟨by rw [HB.out]; rfl, HB1.out⟩
set_option maxRecDepth 100000 in
set_option maxHeartbeats 4000000 in
theorem refStage_any (into : BS) (kind : Int) (nm : BS) (frm gd : Int) (o1 : Option Addr) (o2 o3 : Nat) (ol : List (BS × BS)) (ix ct : Int) (dt : BS) (sa sb sc sd : Int) (b1 : Option Addr) (b2 b3 : Nat) (bl : List BlkT) (at_ nx ua ub uc ud : Int) (done : Bool) (w : World) (B : Nat) (hro : Reads w B 2 o1 o2 (pcells ol)) (hol : o2 = ol.length) (hrb : Reads w B 2 b1 b2 (bcells bl)) (hbl : b2 = bl.length) (hB : B ≤ w.heap.size)
    (hin : into.length ≤ 4000000000) (hnm : nm.length ≤ 4000000000) (ho2 : o2 ≤ 1000000000000) (hb2 : b2 ≤ 1000000000000) (hp : ∀ p ∈ ol, p.1.length ≤ 4000000000 ∧ p.2.length ≤ 4000000000) :
    Calls Tryd.prog 23 #[.agg #[.string ⟨into.toArray⟩, .int .i64 kind, .string ⟨nm.toArray⟩, .int .i64 frm, .int .i64 gd, .slice o1 o2 o3, .int .i64 ix, .int .i64 ct, .string ⟨dt.toArray⟩, .int .u64 sa, .int .u64 sb, .int .u64 sc, .int .u64 sd, .slice b1 b2 b3, .int .i64 at_, .int .i64 nx, .int .u64 ua, .int .u64 ub, .int .u64 uc, .int .u64 ud, .bool done]] w fun e w' => e = .returned (.bool (!(into == []) && pathB into && beginP kind nm frm gd ol ix ct dt ⟨sa, sb, sc, sd⟩ && okL bl && amt at_ 0 && amt nx 0)) ∧ Below w.heap.size w w' := by
  have hb1 := (Below.refl w.heap.size w).alloc (Nat.le_refl _) (.cells #[.string ⟨into.toArray⟩, .int .i64 kind, .string ⟨nm.toArray⟩, .int .i64 frm, .int .i64 gd, .slice o1 o2 o3, .int .i64 ix, .int .i64 ct, .string ⟨dt.toArray⟩, .int .u64 sa, .int .u64 sb, .int .u64 sc, .int .u64 sd, .slice b1 b2 b3, .int .i64 at_, .int .i64 nx, .int .u64 ua, .int .u64 ub, .int .u64 uc, .int .u64 ud, .bool done] 60)
  have kT := Blk.new w 60 #[.string ⟨into.toArray⟩, .int .i64 kind, .string ⟨nm.toArray⟩, .int .i64 frm, .int .i64 gd, .slice o1 o2 o3, .int .i64 ix, .int .i64 ct, .string ⟨dt.toArray⟩, .int .u64 sa, .int .u64 sb, .int .u64 sc, .int .u64 sd, .slice b1 b2 b3, .int .i64 at_, .int .i64 nx, .int .u64 ua, .int .u64 ub, .int .u64 uc, .int .u64 ud, .bool done]
  obtain ⟨W1, hW1⟩ : ∃ W, W = w.alloc (.cells #[.string ⟨into.toArray⟩, .int .i64 kind, .string ⟨nm.toArray⟩, .int .i64 frm, .int .i64 gd, .slice o1 o2 o3, .int .i64 ix, .int .i64 ct, .string ⟨dt.toArray⟩, .int .u64 sa, .int .u64 sb, .int .u64 sc, .int .u64 sd, .slice b1 b2 b3, .int .i64 at_, .int .i64 nx, .int .u64 ua, .int .u64 ub, .int .u64 uc, .int .u64 ud, .bool done] 60) := ⟨_, rfl⟩
  have hsz1 : W1.heap.size = w.heap.size + 1 := by rw [hW1]; simp
  rw [← hW1] at hb1 kT
  have hT := Lib.hid (fun (W' : World) (hB' : Below W1.heap.size W1 W') => (⟨(kT.below hB' (by omega)).cell 0, (kT.below hB' (by omega)).cell 1, (kT.below hB' (by omega)).cell 2, (kT.below hB' (by omega)).cell 3, (kT.below hB' (by omega)).cell 4, (kT.below hB' (by omega)).cell 5, (kT.below hB' (by omega)).cell 6, (kT.below hB' (by omega)).cell 7, (kT.below hB' (by omega)).cell 8, (kT.below hB' (by omega)).cell 9, (kT.below hB' (by omega)).cell 10, (kT.below hB' (by omega)).cell 11, (kT.below hB' (by omega)).cell 12, (kT.below hB' (by omega)).cell 13, (kT.below hB' (by omega)).cell 14, (kT.below hB' (by omega)).cell 15⟩ : W'.cell? ⟨w.heap.size, 0, none⟩ = some (.string ⟨into.toArray⟩) ∧ W'.cell? ⟨w.heap.size, 1, none⟩ = some (.int .i64 kind) ∧ W'.cell? ⟨w.heap.size, 2, none⟩ = some (.string ⟨nm.toArray⟩) ∧ W'.cell? ⟨w.heap.size, 3, none⟩ = some (.int .i64 frm) ∧ W'.cell? ⟨w.heap.size, 4, none⟩ = some (.int .i64 gd) ∧ W'.cell? ⟨w.heap.size, 5, none⟩ = some (.slice o1 o2 o3) ∧ W'.cell? ⟨w.heap.size, 6, none⟩ = some (.int .i64 ix) ∧ W'.cell? ⟨w.heap.size, 7, none⟩ = some (.int .i64 ct) ∧ W'.cell? ⟨w.heap.size, 8, none⟩ = some (.string ⟨dt.toArray⟩) ∧ W'.cell? ⟨w.heap.size, 9, none⟩ = some (.int .u64 sa) ∧ W'.cell? ⟨w.heap.size, 10, none⟩ = some (.int .u64 sb) ∧ W'.cell? ⟨w.heap.size, 11, none⟩ = some (.int .u64 sc) ∧ W'.cell? ⟨w.heap.size, 12, none⟩ = some (.int .u64 sd) ∧ W'.cell? ⟨w.heap.size, 13, none⟩ = some (.slice b1 b2 b3) ∧ W'.cell? ⟨w.heap.size, 14, none⟩ = some (.int .i64 at_) ∧ W'.cell? ⟨w.heap.size, 15, none⟩ = some (.int .i64 nx)))
  have hrw : ∀ W', Below W1.heap.size W1 W' → Reads W' B 2 o1 o2 (pcells ol) ∧ Reads W' B 2 b1 b2 (bcells bl) := fun W' hb => ⟨hro.below ((hb1.trans (hb.mono (by omega))).mono hB), hrb.below ((hb1.trans (hb.mono (by omega))).mono hB)⟩
  have hPa : Hid (∀ W, Below W1.heap.size W1 W → Calls Tryd.prog 54 #[.string ⟨into.toArray⟩] W fun e W' => e = .returned (.bool (pathB into)) ∧ Below W.heap.size W W') := fun W _ => refPath_any ⟨into.toArray⟩ W (by show into.length ≤ _; exact hin)
  have hBg : Hid (∀ W, Below W1.heap.size W1 W → Calls Tryd.prog 56 #[.agg #[.int .i64 kind, .string ⟨nm.toArray⟩, .int .i64 frm, .int .i64 gd, .slice o1 o2 o3, .int .i64 ix, .int .i64 ct, .string ⟨dt.toArray⟩, .int .u64 sa, .int .u64 sb, .int .u64 sc, .int .u64 sd]] W fun e W' => e = .returned (.bool (beginP kind nm frm gd ol ix ct dt ⟨sa, sb, sc, sd⟩)) ∧ Below W.heap.size W W') := fun W hb =>
    refBegin_any kind nm frm gd ol o2 hol o1 o3 ix ct dt sa sb sc sd W B (hrw W hb).1 (by have := hb.size; omega) ho2 hnm hp
  have hBk : Hid (∀ W, Below W1.heap.size W1 W → Calls Tryd.prog 57 #[.slice b1 b2 b3] W fun e W' => e = .returned (.int .i64 (if okL bl = true then 0 else 9)) ∧ Below W.heap.size W W') := fun W hb =>
    refCheckB_any bl b2 hbl b1 b3 W B (hrw W hb).2 hb2
  have hA0 : Hid (∀ W, Below W1.heap.size W1 W → Calls Tryd.prog 58 #[.int .i64 at_, .int .i64 0] W fun e W' => e = .returned (.bool (amt at_ 0)) ∧ Below W.heap.size W W') := fun W _ => refAmountB_any at_ 0 W
  have hA1 : Hid (∀ W, Below W1.heap.size W1 W → Calls Tryd.prog 58 #[.int .i64 nx, .int .i64 0] W fun e W' => e = .returned (.bool (amt nx 0)) ∧ Below W.heap.size W W') := fun W _ => refAmountB_any nx 0 W
  have HV : Hid ((!(into == []) && pathB into && beginP kind nm frm gd ol ix ct dt ⟨sa, sb, sc, sd⟩ && okL bl && amt at_ 0 && amt nx 0) = (!(into == []) && (pathB into && (beginP kind nm frm gd ol ix ct dt ⟨sa, sb, sc, sd⟩ && (okL bl && (amt at_ 0 && amt nx 0)))))) := by
    show _ = _
    simp only [Bool.and_assoc]
  obtain ⟨V, hV⟩ : ∃ V, V = (!(into == []) && pathB into && beginP kind nm frm gd ol ix ct dt ⟨sa, sb, sc, sd⟩ && okL bl && amt at_ 0 && amt nx 0) := ⟨_, rfl⟩
  obtain ⟨bPa, hbPa⟩ : ∃ b, b = pathB into := ⟨_, rfl⟩
  obtain ⟨bBg, hbBg⟩ : ∃ b, b = beginP kind nm frm gd ol ix ct dt ⟨sa, sb, sc, sd⟩ := ⟨_, rfl⟩
  obtain ⟨bB, hbB⟩ : ∃ b, b = okL bl := ⟨_, rfl⟩
  obtain ⟨bA, hbA⟩ : ∃ b, b = amt at_ 0 := ⟨_, rfl⟩
  obtain ⟨bX, hbX⟩ : ∃ b, b = amt nx 0 := ⟨_, rfl⟩
  rw [← hV] at HV ⊢
  rw [← hbPa] at HV hPa
  rw [← hbBg] at HV hBg
  rw [← hbB] at HV hBk
  rw [← hbA] at HV hA0
  rw [← hbX] at HV hA1
  have HB1 := Lib.hid hb1
  have HSZ1 := Lib.hid hsz1
  clear hV hbPa hbBg hbB hbA hbX hb1 hsz1 kT hro hrb hol hbl hrw hp
  have hW0 := Below.refl W1.heap.size W1
  by_cases hi : into = []
  · subst hi
    have HB : Hid (V = false) := by show _ = _; rw [HV.out]; rfl
    go_enter Tryd.func23, Tryd.ntmps23
    go_wp2_with fail
    rw [← hW1]
    go_ret
    exact ⟨by rw [HB.out]; rfl, HB1.out⟩
  · have hi1 : (into == []) = false := by simpa using hi
    have hi2 : into.isEmpty = false := by cases into <;> simp_all
    have HV : Hid (V = (bPa && (bBg && (bB && (bA && bX))))) := by show _ = _; rw [HV.out, hi1]; rfl
    clear hi
    go_enter Tryd.func23, Tryd.ntmps23
    have hc := hPa.out _ hW0
    cases bPa with
    | false =>
      go_wp2_with fail
      rw [← hW1]
      refine hc.mono ?_
      clear hc
      rintro e w11 ⟨rfl, hbw11⟩
      have hWw11 := hW0.trans (hbw11.mono hW0.size)
      clear hbw11 
      obtain ⟨q0, q1, q2, q3, q4, q5, q6, q7, q8, q9, q10, q11, q12, q13, q14, q15⟩ := hT.out _ hWw11
      have HB : Hid (V = false) := by show _ = _; rw [HV.out]; rfl
      go_wp2_with fail
      go_ret
      exact ⟨by rw [HB.out]; rfl, HB1.out.trans (hWw11.mono (by have := HSZ1.out; omega))⟩
    | true =>
      go_wp2_with fail
      rw [← hW1]
      refine hc.mono ?_
      clear hc
      rintro e w11 ⟨rfl, hbw11⟩
      have hWw11 := hW0.trans (hbw11.mono hW0.size)
      clear hbw11 
      obtain ⟨q0, q1, q2, q3, q4, q5, q6, q7, q8, q9, q10, q11, q12, q13, q14, q15⟩ := hT.out _ hWw11
      have hc := hBg.out _ hWw11
      cases bBg with
      | false =>
        go_wp2_with fail
        refine hc.mono ?_
        clear hc
        rintro e w12 ⟨rfl, hbw12⟩
        have hWw12 := hWw11.trans (hbw12.mono hWw11.size)
        clear hbw12 
        obtain ⟨q0, q1, q2, q3, q4, q5, q6, q7, q8, q9, q10, q11, q12, q13, q14, q15⟩ := hT.out _ hWw12
        have HB : Hid (V = false) := by show _ = _; rw [HV.out]; rfl
        go_wp2_with fail
        go_ret
        exact ⟨by rw [HB.out]; rfl, HB1.out.trans (hWw12.mono (by have := HSZ1.out; omega))⟩
      | true =>
        go_wp2_with fail
        refine hc.mono ?_
        clear hc
        rintro e w12 ⟨rfl, hbw12⟩
        have hWw12 := hWw11.trans (hbw12.mono hWw11.size)
        clear hbw12 
        obtain ⟨q0, q1, q2, q3, q4, q5, q6, q7, q8, q9, q10, q11, q12, q13, q14, q15⟩ := hT.out _ hWw12
        have hc := hBk.out _ hWw12
        cases bB with
        | false =>
          rw [if_neg (by decide)] at hc
          go_wp2_with fail
          refine hc.mono ?_
          clear hc
          rintro e w13 ⟨rfl, hbw13⟩
          have hWw13 := hWw12.trans (hbw13.mono hWw12.size)
          clear hbw13 
          obtain ⟨q0, q1, q2, q3, q4, q5, q6, q7, q8, q9, q10, q11, q12, q13, q14, q15⟩ := hT.out _ hWw13
          have HB : Hid (V = false) := by show _ = _; rw [HV.out]; rfl
          go_wp2_with fail
          go_ret
          exact ⟨by rw [HB.out]; rfl, HB1.out.trans (hWw13.mono (by have := HSZ1.out; omega))⟩
        | true =>
          rw [if_pos rfl] at hc
          go_wp2_with fail
          refine hc.mono ?_
          clear hc
          rintro e w13 ⟨rfl, hbw13⟩
          have hWw13 := hWw12.trans (hbw13.mono hWw12.size)
          clear hbw13 
          obtain ⟨q0, q1, q2, q3, q4, q5, q6, q7, q8, q9, q10, q11, q12, q13, q14, q15⟩ := hT.out _ hWw13
          have hc := hA0.out _ hWw13
          cases bA with
          | false =>
            go_wp2_with fail
            refine hc.mono ?_
            clear hc
            rintro e w14 ⟨rfl, hbw14⟩
            have hWw14 := hWw13.trans (hbw14.mono hWw13.size)
            clear hbw14 
            obtain ⟨q0, q1, q2, q3, q4, q5, q6, q7, q8, q9, q10, q11, q12, q13, q14, q15⟩ := hT.out _ hWw14
            have HB : Hid (V = false) := by show _ = _; rw [HV.out]; rfl
            go_wp2_with fail
            go_ret
            exact ⟨by rw [HB.out]; rfl, HB1.out.trans (hWw14.mono (by have := HSZ1.out; omega))⟩
          | true =>
            go_wp2_with fail
            refine hc.mono ?_
            clear hc
            rintro e w14 ⟨rfl, hbw14⟩
            have hWw14 := hWw13.trans (hbw14.mono hWw13.size)
            clear hbw14 
            obtain ⟨q0, q1, q2, q3, q4, q5, q6, q7, q8, q9, q10, q11, q12, q13, q14, q15⟩ := hT.out _ hWw14
            have hc := hA1.out _ hWw14
            cases bX with
            | false =>
              go_wp2_with fail
              refine hc.mono ?_
              clear hc
              rintro e w15 ⟨rfl, hbw15⟩
              have hWw15 := hWw14.trans (hbw15.mono hWw14.size)
              clear hbw15 
              obtain ⟨q0, q1, q2, q3, q4, q5, q6, q7, q8, q9, q10, q11, q12, q13, q14, q15⟩ := hT.out _ hWw15
              have HB : Hid (V = false) := by show _ = _; rw [HV.out]; rfl
              go_wp2_with fail
              go_ret
              exact ⟨by rw [HB.out]; rfl, HB1.out.trans (hWw15.mono (by have := HSZ1.out; omega))⟩
            | true =>
              go_wp2_with fail
              refine hc.mono ?_
              clear hc
              rintro e w15 ⟨rfl, hbw15⟩
              have hWw15 := hWw14.trans (hbw15.mono hWw14.size)
              clear hbw15 
              obtain ⟨q0, q1, q2, q3, q4, q5, q6, q7, q8, q9, q10, q11, q12, q13, q14, q15⟩ := hT.out _ hWw15
              have HB : Hid (V = true) := by show _ = _; rw [HV.out]; rfl
              go_wp2_with fail
              go_ret
              exact ⟨by rw [HB.out]; rfl, HB1.out.trans (hWw15.mono (by have := HSZ1.out; omega))⟩
end Go.Proofs.YtjdebhemoeojiaaDoor
