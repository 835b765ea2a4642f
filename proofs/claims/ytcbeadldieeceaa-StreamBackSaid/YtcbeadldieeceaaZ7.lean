/-
  props.Over, by its contract.
-/
import Derived.Shelf.SlIter.Nil
import Derived.Shelf.SortM.Plain
import Derived.Shelf.SortM.SortNone
import Derived.Maps.OwnSet
import Derived.Maps.StringElems
import Derived.Handy
import Derived.Test.YtcbeadldieeceaaRows
import Derived.Test.YtcbeadldieeceaaZ1
import Derived.Test.YtcbeadldieeceaaZ4
import Derived.Test.YtcbeadldieeceaaZ5
import Derived.Test.YtcbeadldieeceaaZ6
namespace Go.Proofs.Ytcbeadldieeceaa
open Go.RowKit Go.Maps Go.Sort Go.Shelf

/-! ### a map that reads as a list of properties -/
structure MapIs (D : DataW Unit) (F : PL) : Prop where
  has : ∀ n : BS, Maps.has D (.string n) = (getP F n).isSome
  at_ : ∀ (n v : BS), getP F n = some v → ∀ z, D.atKey (.string n) z = .lit (.string v)
theorem isKey_str (x : BS) : WideAt.IsKeyLit (.string x) := by trivial
theorem MapIs.nil : MapIs (.map []) [] := ⟨fun _ => rfl, fun _ _ h => by cases h⟩
theorem MapIs.put {D : DataW Unit} {F : PL} (h : MapIs D F) (hD : IsMap D) (hF : SortP F) (p : BS × BS) : MapIs (D.put (.string p.1) (.lit (.string p.2))) (putP p F) := by
  refine ⟨fun n => ?_, fun n v hv z => ?_⟩
  · rw [getP_putP p F hF]
    by_cases hn : p.1 = n
    · subst hn
      rw [if_pos rfl, has_put_same hD (isKey_str _)]
      rfl
    · rw [if_neg hn, has_put_other (by intro e; exact hn (by simpa using e.symm)), h.has]
  · rw [getP_putP p F hF] at hv
    by_cases hn : p.1 = n
    · subst hn
      rw [if_pos rfl] at hv
      injection hv with hv
      subst hv
      exact atKey_put_same hD (isKey_str _) _ z
    · rw [if_neg hn] at hv
      rw [atKey_put_other (by intro e; exact hn (by simpa using e.symm))]
      exact h.at_ n v hv z
theorem getP_mem (F : PL) (n : BS) : (getP F n).isSome = true ↔ n ∈ F.map (·.1) := by
  induction F with
  | nil => simp [getP_nil]
  | cons x F ih =>
    rw [getP_cons, List.map_cons, List.mem_cons]
    by_cases h : x.1 = n
    · rw [if_pos h]; simp [h]
    · rw [if_neg h, ih]
      constructor
      · exact .inr
      · rintro (e | e)
        · exact absurd e.symm h
        · exact e
theorem names_nodup (F : PL) (h : SortP F) : (F.map (·.1)).Nodup := by
  refine List.pairwise_map.2 (h.imp fun h => bl_ne h)
theorem names_perm {D : DataW Unit} {F : PL} (h : MapIs D F) (hF : SortP F) {w : World} {R : Value → Option (DataW Unit × List MemPlace)} {b n : Nat} (hown : w.ownsMap Try.prog 9 R b n D) : (strKeys D).Perm (F.map (·.1)) ∧ Maps.size D = F.length := by
  have law : Keyed Try.prog 9 := string_keyed Try.underlying9
  obtain ⟨es, hD, hpw, _⟩ := hown.entries law
  obtain ⟨es', hD', hko⟩ := hown.keysOf
  obtain rfl : es = es' := by rw [hD] at hD'; simpa using hD'
  have hp := perm_strKeys hpw (fun p hp => by obtain ⟨v, hv⟩ := hko p hp; obtain ⟨x, _, hx, _⟩ := Maps.keyOf_str Try.underlying9 hv; exact ⟨x, hx⟩) (names_nodup F hF) (fun x => by rw [← getP_mem, ← hD, h.has])
  rw [← hD] at hp
  refine ⟨hp.symm, ?_⟩
  have := hp.length_eq
  rw [List.length_map] at this
  rw [this, hD]
  show es.length = (es.map fun p => strOf p.1).length
  rw [List.length_map]
theorem names_sorted {F : PL} (hF : SortP F) {ss : List BS} (h : ss.Perm (F.map (·.1))) : ss.mergeSort (fun x y => decide (x ≤ y)) = F.map (·.1) := by
  rw [mergeSort_of_perm h]
  refine List.mergeSort_of_pairwise ?_
  refine List.pairwise_map.2 (hF.imp fun {x y} h => ?_)
  rw [bytesLess_eq, decide_eq_true_eq] at h
  exact decide_eq_true (List.le_of_lt h)

/-! ### slices.Sorted(maps.Keys(m)) -/
theorem wpList_lookup_own_str {P : Program} (w : World) {ops : Array Oper} {rest : List Oper} {o : Oper} {a : Act} {Q : Exit → Act → World → Prop}
    (hg : o.guard = none) (m x : Operand) (t : TypeId) (hop : o.op = Op.lookup t m x false)
    (k e : TypeId) (K : Keyed P k) (ht : P.underlying t = some (.map k e)) (he : P.underlying e = some .string) (hz : (zeroValue e).run P w = .ok (.string ByteArray.empty) w) (b n : Nat) (D : DataW Unit)
    (hm : a.eval m = .map (some b)) (hown : w.ownsMap P k (plainElem P e) b n D) (key : Value) (kl : Lit) (hx : a.eval x = key) (hkey : keyOf P k key = some kl) (v : BS) (hv : ∀ z, D.atKey kl z = .lit (.string v))
    (hK : wpList P ops Q rest (a.put o.dst (.string ⟨v.toArray⟩)) w) :
    wpList P ops Q (o :: rest) a w := by
  refine wpList_plain hg fun K' hK' => ?_
  have hz2 : plainElem (H := Unit) P e (.string ByteArray.empty) = some (.lit (.string []), []) := plainElem_string he (by decide)
  obtain ⟨u, ps, hrun, hu⟩ := hown.lookup K ht hz hz2 hkey
  obtain ⟨s, rfl, hs, _⟩ := plainElem_string_inv he hu
  rw [hv] at hs
  simp only [Prod.mk.injEq, DataW.lit.injEq, Lit.string.injEq] at hs
  have hsv : s = ⟨v.toArray⟩ := by rw [hs.1]
  rw [hsv] at hrun
  unfold Oper.wp
  simp [execOp, hop, hm, hx, hrun, Result.andThen]
  exact hK' _ _ hK

/-! ### Over -/
def strOk (l : PL) : Prop := ∀ x ∈ l, x.1.length ≤ 140737488351232 ∧ x.2.length ≤ 140737488351232
structure PropsIn (w : World) (B : Nat) (v : Value) (l : PL) : Prop where
  ex : ∃ A n c, v = .slice A n c ∧ n = l.length ∧ n ≤ 5000000000000 ∧ Reads w B 2 A n (pcells l)
  ok : strOk l
theorem PropsIn.below {w W : World} {B : Nat} {v : Value} {l : PL} (h : PropsIn w B v l) (hb : Below B w W) : PropsIn W B v l := by
  obtain ⟨A, n, c, rfl, hn, hm, hr⟩ := h.ex
  exact ⟨⟨A, n, c, rfl, hn, hm, hr.below hb⟩, h.ok⟩
def overE (ls : List PL) : Int := if ls.all propsB = true then (if 8 < (allP ls.flatten).length then 3 else 0) else 9
def OverPost (w : World) (F : PL) (E : Int) (e : Ending) (w' : World) : Prop :=
  ∃ v, e = .returned (.tuple #[v, .int .i64 E]) ∧ (if E = 0 then w'.ownsRow w.heap.size 91 2 v F.length (pcells F) else v = .slice none 0 0) ∧ Below w.heap.size w w'
theorem Try.infoP : (Try.prog.info? 91).map (fun i => (i.zero, i.size, i.bytes)) = some (some (.agg #[.string ByteArray.empty, .string ByteArray.empty]), 2, 32) := by kernel_rfl
theorem Try.lawS : Keyed Try.prog 9 := string_keyed Try.underlying9
theorem Try.zeroS (w : World) : (zeroValue 9).run Try.prog w = .ok (.string ByteArray.empty) w := by kernel_rfl
theorem pcells_one (l : PL) : ∀ u ∈ pcells l, u.oneCell' = true := by
  intro u hu
  simp only [pcells, List.mem_flatMap] at hu
  obtain ⟨x, _, hx⟩ := hu
  rcases List.mem_cons.1 hx with rfl | hx
  · rfl
  · rcases List.mem_cons.1 hx with rfl | hx
    · rfl
    · cases hx
theorem propsB_small (l : PL) (h : propsB l = true) : l.length ≤ 8 ∧ ∀ x ∈ l, x.1.length ≤ 16 ∧ x.2.length ≤ 32 := by
  unfold propsB at h
  rw [Bool.and_eq_true, decide_eq_true_eq] at h
  exact ⟨h.1, fun x hx => by obtain ⟨h1, h2⟩ := propsFrom_small _ _ h.2 x hx; exact ⟨nameB_len _ h1, valB_len _ h2⟩⟩
end Go.Proofs.Ytcbeadldieeceaa

/-
  props.Set, props.Unset, by their contracts.
-/
namespace Go.Proofs.Ytcbeadldieeceaa
open Go.RowKit

def cfN (nm : BS) : BS × BS → Int := fun x => cmpS x.1 nm
theorem cfN_asc (l : PL) (h : SortP l) (nm : BS) : SignAsc (cfN nm) l := by
  intro i j x y hij hx hy hlt
  unfold cfN at hlt ⊢
  rw [cmpS_neg] at hlt ⊢
  obtain ⟨hi, hxi⟩ := List.getElem?_eq_some_iff.1 hx
  obtain ⟨hj, hyj⟩ := List.getElem?_eq_some_iff.1 hy
  have := List.pairwise_iff_getElem.1 h i j hi hj hij
  rw [hxi, hyj] at this
  exact bl_trans this hlt
theorem putP_split (p : BS × BS) (l : PL) : SortP l → putP p l = l.take (posF (cfN p.1) l) ++ [p] ++ l.drop (posF (cfN p.1) l + if atF (cfN p.1) l = true then 1 else 0) := by
  induction l with
  | nil => intro _; rfl
  | cons x l ih =>
    intro hs
    obtain ⟨h1, h2⟩ := List.pairwise_cons.1 hs
    rw [posF_cons, atF_cons]
    unfold putP
    by_cases hn : cfN p.1 x < 0
    · have hb : Op.bytesLess x.1 p.1 = true := (cmpS_neg _ _).1 hn
      have hnb : ¬ Op.bytesLess p.1 x.1 = true := fun h => by
        have := bl_trans hb h
        rw [bl_irrefl] at this
        cases this
      rw [if_neg hnb, if_neg (fun e => bl_ne hb e.symm), if_pos hn, if_pos hn, ih h2, Nat.add_right_comm]
      rfl
    · rw [if_neg hn, if_neg hn]
      by_cases hz : x.1 = p.1
      · have hz0 : (cfN p.1 x == 0) = true := by rw [beq_iff_eq]; exact (cmpS_zero _ _).2 hz
        rw [if_neg (by rw [hz, bl_irrefl]; simp), if_pos hz.symm, hz0]
        rfl
      · have hz0 : (cfN p.1 x == 0) = false := by rw [beq_eq_false_iff_ne]; exact fun e => hz ((cmpS_zero _ _).1 e)
        have hb : Op.bytesLess p.1 x.1 = true := by
          refine bl_tri x.1 p.1 ?_ hz
          rw [← Bool.not_eq_true]
          exact fun h => hn ((cmpS_neg _ _).2 h)
        rw [if_pos hb, hz0]
        rfl
theorem atF_get (l : PL) (nm : BS) (hs : SortP l) : atF (cfN nm) l = (getP l nm).isSome := by
  induction l with
  | nil => rfl
  | cons x l ih =>
    obtain ⟨h1, h2⟩ := List.pairwise_cons.1 hs
    rw [atF_cons, getP_cons]
    by_cases hn : cfN nm x < 0
    · have hb : Op.bytesLess x.1 nm = true := (cmpS_neg _ _).1 hn
      rw [if_pos hn, if_neg (bl_ne hb), ih h2]
    · rw [if_neg hn]
      by_cases hz : x.1 = nm
      · rw [if_pos hz]
        show _ = true
        rw [beq_iff_eq]
        exact (cmpS_zero _ _).2 hz
      · rw [if_neg hz]
        have hb : Op.bytesLess nm x.1 = true := by
          refine bl_tri x.1 nm ?_ hz
          rw [← Bool.not_eq_true]
          exact fun h => hn ((cmpS_neg _ _).2 h)
        rw [getP_small (fun y hy => bl_trans hb (h1 y hy))]
        show _ = false
        rw [beq_eq_false_iff_ne]
        exact fun e => hz ((cmpS_zero _ _).1 e)
def dropP (nm : BS) (l : PL) : PL := l.filter fun x => !(x.1 == nm)
theorem dropP_split (nm : BS) (l : PL) : SortP l → atF (cfN nm) l = true → dropP nm l = l.take (posF (cfN nm) l) ++ l.drop (posF (cfN nm) l + 1) := by
  induction l with
  | nil => intro _ h; cases h
  | cons x l ih =>
    intro hs hat
    obtain ⟨h1, h2⟩ := List.pairwise_cons.1 hs
    rw [atF_cons] at hat
    rw [posF_cons]
    unfold dropP
    by_cases hn : cfN nm x < 0
    · have hb : Op.bytesLess x.1 nm = true := (cmpS_neg _ _).1 hn
      rw [if_pos hn] at hat
      rw [if_pos hn, List.filter_cons_of_pos (by simpa using bl_ne hb)]
      show x :: dropP nm l = _
      rw [ih h2 hat]
      rfl
    · rw [if_neg hn, beq_iff_eq] at hat
      have hx : x.1 = nm := (cmpS_zero _ _).1 hat
      rw [if_neg hn, List.filter_cons_of_neg (by simp [hx])]
      show dropP nm l = l
      unfold dropP
      rw [List.filter_eq_self]
      intro y hy
      have := bl_ne (h1 y hy)
      rw [hx] at this
      simpa using this.symm
def setE (l : PL) (nm tx : BS) : Int := if propsB l = true then (if nameB nm = true then (if valB tx = true then (if (getP l nm).isSome = false ∧ l.length = 8 then 3 else 0) else 9) else 31) else 9
def PPost (w : World) (F : PL) (E : Int) (e : Ending) (w' : World) : Prop :=
  ∃ v, e = .returned (.tuple #[v, .int .i64 E]) ∧ (if E = 0 then w'.ownsRow w.heap.size 91 2 v F.length (pcells F) else v = .slice none 0 0) ∧ Below w.heap.size w w'
theorem pcells_K (l : PL) : pcells l = cellsK (fun x : BS × BS => [strV x.1, strV x.2]) l := rfl
theorem pcells_take (l : PL) (k : Nat) : pcells (l.take k) = (pcells l).take (k * 2) := cellsK_take (enc := fun x : BS × BS => [strV x.1, strV x.2]) (fun _ => rfl) l k
theorem pcells_drop (l : PL) (k : Nat) : pcells (l.drop k) = (pcells l).drop (k * 2) := cellsK_drop (enc := fun x : BS × BS => [strV x.1, strV x.2]) (fun _ => rfl) l k
end Go.Proofs.Ytcbeadldieeceaa

/-
  props.Set, props.Unset, walked.
-/
namespace Go.Proofs.Ytcbeadldieeceaa
open Go.RowKit

theorem set_atP (l : PL) (p : Nat) (nm tx : BS) (h : (l[p]?).any (fun x => cfN nm x == 0) = true) : (pcells l).set (p * 2 + 1) (.string ⟨tx.toArray⟩) = pcells (l.take p ++ [(nm, tx)] ++ l.drop (p + 1)) := by
  cases hp : l[p]? with
  | none => rw [hp] at h; simp at h
  | some x =>
    rw [hp] at h
    have hx : x.1 = nm := (cmpS_zero _ _).1 (by simpa [cfN] using h)
    obtain ⟨hlt, hpx⟩ := List.getElem?_eq_some_iff.1 hp
    have hl : l = l.take p ++ [x] ++ l.drop (p + 1) := by
      conv => lhs; rw [← List.take_append_drop p l]
      rw [List.drop_eq_getElem_cons hlt, hpx]
      simp
    conv => lhs; rw [hl]
    rw [pcells_append, pcells_append, pcells_append, pcells_append, List.append_assoc, List.append_assoc]
    rw [List.set_append_right _ _ (by rw [pcells_length, List.length_take]; omega), pcells_length, List.length_take, Nat.min_eq_left (by omega), show p * 2 + 1 - p * 2 = 1 by omega]
    subst hx
    rfl

def unsetE (l : PL) (nm : BS) : Int := if propsB l = true then (if (getP l nm).isSome = true then 0 else 71) else 9
end Go.Proofs.Ytcbeadldieeceaa

/-
  A property's value, looked up: plain.
-/
namespace Go.Proofs.Ytcbeadldieeceaa
open Go.RowKit

def getV (l : PL) (n : BS) : Value := .tuple #[.string ⟨((getP l n).getD []).toArray⟩, .bool (getP l n).isSome]
theorem find_none {l : PL} {n : BS} (h : ∀ x ∈ l, x.1 ≠ n) : getP l n = none := by
  unfold getP
  rw [List.find?_eq_none.2]
  · rfl
  · intro x hx e
    exact h x hx (beq_iff_eq.1 e)
theorem find_at {l : PL} {n : BS} {k : Nat} {x : BS × BS} (h : ∀ y ∈ l.take k, y.1 ≠ n) (hx : l[k]? = some x) (he : x.1 = n) : getP l n = some x.2 := by
  obtain ⟨hk, hxk⟩ := List.getElem?_eq_some_iff.1 hx
  have : l = l.take k ++ x :: l.drop (k + 1) := by
    rw [← hxk, ← List.drop_eq_getElem_cons hk, List.take_append_drop]
  rw [this]
  clear this hx hxk hk
  generalize l.take k = a at h ⊢
  induction a with
  | nil => rw [List.nil_append, getP_cons, if_pos he]
  | cons y a ih => rw [List.cons_append, getP_cons, if_neg (h y (List.mem_cons_self ..)), ih (fun z hz => h z (List.mem_cons_of_mem _ hz))]
end Go.Proofs.Ytcbeadldieeceaa

/-
  A slice of strings in memory.
-/
namespace Go.Proofs.Ytcbeadldieeceaa
open Go.RowKit

def scells (l : List BS) : List Value := l.map strV
theorem scells_length (l : List BS) : (scells l).length = l.length := by simp [scells]
theorem scells_append (a b : List BS) : scells (a ++ b) = scells a ++ scells b := by simp [scells]
theorem scells_one (l : List BS) : ∀ u ∈ scells l, u.oneCell' = true := by
  intro u hu
  obtain ⟨z, _, rfl⟩ := List.mem_map.1 hu
  rfl
theorem strs_at {w : World} {B n : Nat} {A : Option Addr} {l : List BS} (h : Reads w B 1 A n (scells l)) (hn : n = l.length) {k : Nat} (hk : k < n) :
    ∃ ad, A = some ad ∧ ad.block < B ∧ w.cell? (ad.add k) = some (strV (l[k]'(by omega))) := by
  obtain ⟨ad, u, e, hB, hxu, hcell⟩ := h.at_ hk
  have hux : u = strV (l[k]'(by omega)) := by
    unfold scells at hxu
    rw [List.getElem?_map, List.getElem?_eq_getElem (by omega)] at hxu
    exact (Option.some.inj hxu).symm
  subst hux
  exact ⟨ad, e, hB, hcell⟩
theorem Try.infoS : (Try.prog.info? 9).map (fun i => (i.zero, i.size, i.bytes)) = some (some (.string ByteArray.empty), 1, 16) := by kernel_rfl
end Go.Proofs.Ytcbeadldieeceaa

/-
  props.Text; the reference's Prop; godownplain.Texts: by their contracts.
-/
namespace Go.Proofs.Ytcbeadldieeceaa
open Go.RowKit

theorem scells_pcells (l : PL) : pcells l = scells (ptexts l) := by
  induction l with
  | nil => rfl
  | cons x l ih =>
    show [strV x.1, strV x.2] ++ pcells l = scells ([x.1, x.2] ++ ptexts l)
    rw [ih, scells_append]
    rfl
set_option maxRecDepth 100000 in
set_option maxHeartbeats 1000000 in
theorem text_any (l : PL) (n : Nat) (hnl : n = l.length) (A : Option Addr) (c : Nat) (w : World) (B : Nat) (hr : Reads w B 2 A n (pcells l)) (hB : B ≤ w.heap.size) (hn : n ≤ 4398046511104) :
    Calls Try.prog 82 #[.slice A n c] w fun e w' => ∃ v, e = .returned v ∧ w'.ownsRow w.heap.size 9 1 v (2 * n) (scells (ptexts l)) ∧ Below w.heap.size w w' := by
  obtain ⟨i0, hi0, hz0, hz1, hz2⟩ := info_parts Try.infoS
  have HN := Lib.hid hnl
  rw [← scells_pcells]
  clear hnl
  go_enter Try.func82, Try.ntmps82
  go_wp2_with fail
  go_loopw [3, 8] (fun o i wr => ∃ (k : Nat) (A1 : Option Addr) (c1 : Nat), k ≤ n ∧ i = .int .i64 (k : Int) ∧ o = .slice A1 (2 * k) c1 ∧ wr.ownsRow w.heap.size 9 1 (.slice A1 (2 * k) c1) (2 * k) (pcells (l.take k)) ∧ Below w.heap.size w wr) (fun _ i _ => n - (intOf i).toNat)
  case atStart => exact ⟨0, none, 0, Nat.zero_le _, rfl, rfl, ⟨rfl, .inl ⟨rfl, rfl⟩⟩, Below.refl _ _⟩
  case round =>
    obtain ⟨k, A1, c1, hk, rfl, rfl, hown, hbw⟩ := hrel
    by_cases hlt : k < n
    · have hki : (k : Int) < (n : Int) := by omega
      have hkl : k < l.length := by have := HN.out; omega
      obtain ⟨ad, rfl, hadB, d0, d1⟩ := (hr.below (hbw.mono hB)).prop HN.out hlt
      obtain ⟨x, hx⟩ : ∃ x, x = l[k]'hkl := ⟨_, rfl⟩
      have htk := List.take_succ_eq_append_getElem hkl
      rw [← hx] at d0 d1 htk
      obtain ⟨xn, xv⟩ := x
      simp only [strV] at d0 d1
      have HT : Hid (pcells (l.take (k + 1)) = pcells (l.take k) ++ [.string ⟨xn.toArray⟩, .string ⟨xv.toArray⟩]) := by show _ = _; rw [htk, pcells_append]; rfl
      have hown2 := hown.alloc (.cells #[.string ⟨xn.toArray⟩, .string ⟨xv.toArray⟩] 91)
      have hbw2 := hbw.alloc hbw.size (.cells #[.string ⟨xn.toArray⟩, .string ⟨xv.toArray⟩] 91)
      have hsz2 := hbw2.size
      clear hx htk hr hown hbw
      go_wp2_with (at_builtin; (refine wpList_push _ rfl (.tmp 12) (.tmp 17) 23 rfl w.heap.size 9 i0 (.string ByteArray.empty) 1 16 Try.underlying23 hi0 hz0 hz1 hz2 rfl (by decide) (.slice A1 (2 * k) c1) (2 * k) (pcells (l.take k)) rfl hown2 2 #[.string ⟨xn.toArray⟩, .string ⟨xv.toArray⟩] 9 (by simp [Act.eval]) rfl (by simp [Value.oneCell']) (by unfold maxLen; omega) (by omega) hsz2 ?_); intro v4 w4 hown4 hb4 _)
      obtain ⟨A4, c4, rfl, _, _, _⟩ := own_form hown4
      have hb5 := hbw2.trans hb4
      have HO : Hid (w4.ownsRow w.heap.size 9 1 (.slice A4 (2 * (k + 1)) c4) (2 * (k + 1)) (pcells (l.take (k + 1)))) := by show World.ownsRow _ _ _ _ _ _ _; rw [HT.out]; exact hown4
      clear hown2 hown4 hbw2 hb4 d0 d1
      go_wp2_with fail
      go_roundw
      case rel => exact ⟨k + 1, A4, c4, by omega, by go_num, rfl, HO.out, hb5⟩
      case measure => simp [intOf]; omega
    · have hkn : k = n := by omega
      have HO : Hid (wr.ownsRow w.heap.size 9 1 (.slice A1 (2 * k) c1) (2 * n) (pcells l)) := by
        show World.ownsRow _ _ _ _ _ _ _
        rw [List.take_of_length_le (by have := HN.out; omega)] at hown
        rw [← hkn]
        exact hown
      clear hr hown hkn
      go_wp2_with fail
      go_ret
      exact ⟨_, rfl, HO.out, hbw⟩
end Go.Proofs.Ytcbeadldieeceaa

/-
  The reference's letter, Name, value, Props: by their contracts.
-/
namespace Go.Proofs.Ytcbeadldieeceaa
open Go.RowKit

set_option maxRecDepth 100000 in
theorem letter_any (c : UInt8) (w : World) : Calls Try.prog 89 #[.int .u8 (c.toNat : Int)] w fun e w' => e = .returned (.bool (okB c)) ∧ w' = w := by
  have hc : c.toNat < 256 := c.toNat_lt
  have hk := Lib.hid (okB_iff c)
  go_enter Try.func89, Try.ntmps89
  go_wp2
  all_goals go_ret
  all_goals refine ⟨congrArg Ending.returned (congrArg Value.bool ?_), rfl⟩
  all_goals rw [Bool.eq_iff_iff, hk.out]
  all_goals simp
  all_goals omega
theorem bget (s : ByteArray) (k : Nat) (h : k < s.size) : s.data.toList[k]'h = s[k]'h := rfl
set_option maxRecDepth 100000 in
set_option maxHeartbeats 1000000 in
theorem refName_s (s : ByteArray) (w : World) (hs : s.size ≤ 140737488351232) : Calls Try.prog 69 #[.string s] w fun e w' => e = .returned (.bool (nameB s.data.toList)) ∧ w' = w := by
  have hsz : s.data.toList.length = s.size := (Lib.size_eq s).symm
  go_enter Try.func69, Try.ntmps69
  go_wp2_with fail
  go_loopw [3] (fun i wr => ∃ k : Nat, k ≤ s.size ∧ i = .int .i64 (k : Int) ∧ Hid ((s.data.toList.take k).all okB = true) ∧ wr = w) (fun i _ => s.size - (intOf i).toNat)
  case atStart => exact ⟨0, Nat.zero_le _, rfl, rfl, rfl⟩
  case round =>
    obtain ⟨k, hk, rfl, hok, hww⟩ := hrel
    have hww := hww.symm
    subst hww
    by_cases hlt : k < s.size
    · have hki : (k : Int) < (s.size : Int) := by omega
      have hkl : k < s.data.toList.length := by omega
      have htk := List.take_succ_eq_append_getElem hkl
      have hg := bget s k hlt
      obtain ⟨y, hy⟩ : ∃ y, y = s[k]'hlt := ⟨_, rfl⟩
      rw [hg, ← hy] at htk
      have HT := Lib.hid htk
      have HM := Lib.hid (show y ∈ s.data.toList by rw [hy, ← hg]; exact List.getElem_mem _)
      have hc := letter_any y w
      obtain ⟨b, hb⟩ : ∃ b, b = okB y := ⟨_, rfl⟩
      rw [← hb] at hc
      have HBB := Lib.hid hb
      have hyv : ((s[k]'hlt).toNat : Int) = (y.toNat : Int) := by rw [hy]
      have HSZ := Lib.hid hsz
      clear htk hg hy hb hsz
      go_wp2_with fail
      refine hc.mono ?_
      clear hc
      rintro e w1 ⟨rfl, rfl⟩
      cases b with
      | true =>
        go_wp2_with fail
        go_roundw
        case rel =>
          refine ⟨k + 1, by omega, by go_num, ?_, trivial⟩
          show List.all _ _ = _
          rw [HT.out, List.all_append, hok.out]
          simp [HBB.out.symm]
        case measure => simp [intOf]; omega
      | false =>
        have HN : Hid (nameB s.data.toList = false) := by
          show _ = _
          unfold nameB
          have : s.data.toList.all okB = false := by
            rw [← Bool.not_eq_true, List.all_eq_true]
            intro h
            have := h y HM.out
            rw [← HBB.out] at this
            cases this
          rw [this, Bool.and_false]
        go_wp2_with fail
        go_ret
        exact ⟨by rw [HN.out]; rfl, rfl⟩
    · have HA : Hid (s.data.toList.all okB = true) := by
        show _ = _
        have := hok.out
        rwa [List.take_of_length_le (by omega)] at this
      have HN : Hid (nameB s.data.toList = (!(s.data.toList.isEmpty) && decide (s.data.toList.length ≤ 16))) := by
        show _ = _
        unfold nameB
        rw [HA.out, Bool.and_true]
      have HE : Hid (nameB s.data.toList = true ↔ 1 ≤ s.size ∧ s.size ≤ 16) := by
        show _ ↔ _
        rw [HN.out, Bool.and_eq_true, decide_eq_true_eq, hsz, Bool.not_eq_true']
        constructor
        · rintro ⟨h1, h2⟩
          refine ⟨?_, h2⟩
          rcases Nat.eq_zero_or_pos s.size with h | h
          · rw [← hsz] at h
            rw [List.eq_nil_of_length_eq_zero h] at h1
            cases h1
          · exact h
        · rintro ⟨h1, h2⟩
          refine ⟨?_, h2⟩
          rw [← Bool.not_eq_true, List.isEmpty_iff]
          intro e
          rw [e] at hsz
          simp at hsz
          omega
      clear hsz HA HN hok
      by_cases h1 : 1 ≤ s.size
      · have h1i : (1 : Int) ≤ (s.size : Int) := by omega
        by_cases h2 : s.size ≤ 16
        · have h2i : (s.size : Int) ≤ 16 := by omega
          have HV : Hid (nameB s.data.toList = true) := HE.out.2 ⟨h1, h2⟩
          go_wp2_with fail
          go_ret
          exact ⟨by rw [HV.out]; rfl, rfl⟩
        · have h2i : ¬ (s.size : Int) ≤ 16 := by omega
          have HV : Hid (nameB s.data.toList = false) := by show _ = _; rw [← Bool.not_eq_true, HE.out]; omega
          go_wp2_with fail
          go_ret
          exact ⟨by rw [HV.out]; rfl, rfl⟩
      · have h1i : ¬ (1 : Int) ≤ (s.size : Int) := by omega
        have HV : Hid (nameB s.data.toList = false) := by show _ = _; rw [← Bool.not_eq_true, HE.out]; omega
        go_wp2_with fail
        go_ret
        exact ⟨by rw [HV.out]; rfl, rfl⟩
theorem refName_any (n : BS) (w : World) (hs : n.length ≤ 140737488351232) : Calls Try.prog 69 #[.string ⟨n.toArray⟩] w fun e w' => e = .returned (.bool (nameB n)) ∧ w' = w := by
  have := refName_s ⟨n.toArray⟩ w (by show n.length ≤ _; exact hs)
  simpa using this
set_option maxRecDepth 100000 in
set_option maxHeartbeats 1000000 in
theorem refValue_s (s : ByteArray) (w : World) (hs : s.size ≤ 140737488351232) : Calls Try.prog 90 #[.string s] w fun e w' => e = .returned (.bool (valB s.data.toList)) ∧ w' = w := by
  have hsz : s.data.toList.length = s.size := (Lib.size_eq s).symm
  go_enter Try.func90, Try.ntmps90
  go_wp2_with fail
  go_loopw [3] (fun i wr => ∃ k : Nat, k ≤ s.size ∧ i = .int .i64 (k : Int) ∧ Hid (∀ c ∈ s.data.toList.take k, 32 ≤ c.toNat ∧ c.toNat ≤ 126) ∧ wr = w) (fun i _ => s.size - (intOf i).toNat)
  case atStart => exact ⟨0, Nat.zero_le _, rfl, (show ∀ c ∈ _, _ by simp), rfl⟩
  case round =>
    obtain ⟨k, hk, rfl, hok, hww⟩ := hrel
    have hww := hww.symm
    subst hww
    by_cases hlt : k < s.size
    · have hki : (k : Int) < (s.size : Int) := by omega
      have hkl : k < s.data.toList.length := by omega
      have htk := List.take_succ_eq_append_getElem hkl
      have hg := bget s k hlt
      obtain ⟨y, hy⟩ : ∃ y, y = s[k]'hlt := ⟨_, rfl⟩
      rw [hg, ← hy] at htk
      have HT := Lib.hid htk
      have HM := Lib.hid (show y ∈ s.data.toList by rw [hy, ← hg]; exact List.getElem_mem _)
      have hyv : ((s[k]'hlt).toNat : Int) = (y.toNat : Int) := by rw [hy]
      have hy256 := y.toNat_lt
      have HSZ := Lib.hid hsz
      have hbad : Hid ((y.toNat < 32 ∨ 126 < y.toNat) → valB s.data.toList = false) := by
        show _ → _
        intro h
        unfold valB
        have : s.data.toList.all (fun c => decide (32 ≤ c) && decide (c ≤ 126)) = false := by
          rw [← Bool.not_eq_true, List.all_eq_true]
          intro h2
          have h3 := h2 y HM.out
          simp only [Bool.and_eq_true, decide_eq_true_eq, UInt8.le_iff_toNat_le] at h3
          have e1 : (32 : UInt8).toNat = 32 := rfl
          have e2 : (126 : UInt8).toNat = 126 := rfl
          omega
        rw [this, Bool.and_false]
      clear htk hg hy hsz
      by_cases h1 : y.toNat < 32
      · have h1i : (y.toNat : Int) < 32 := by omega
        have HV := Lib.hid (hbad.out (.inl h1))
        go_wp2_with fail
        go_ret
        exact ⟨by rw [HV.out]; rfl, rfl⟩
      · have h1i : ¬ (y.toNat : Int) < 32 := by omega
        by_cases h2 : 126 < y.toNat
        · have h2i : (126 : Int) < (y.toNat : Int) := by omega
          have HV := Lib.hid (hbad.out (.inr h2))
          go_wp2_with fail
          go_ret
          exact ⟨by rw [HV.out]; rfl, rfl⟩
        · have h2i : ¬ (126 : Int) < (y.toNat : Int) := by omega
          go_wp2_with fail
          go_roundw
          case rel =>
            refine ⟨k + 1, by omega, by go_num, ?_, trivial⟩
            show ∀ c ∈ _, _
            intro c hc
            rw [HT.out, List.mem_append, List.mem_singleton] at hc
            rcases hc with hc | rfl
            · exact hok.out c hc
            · exact ⟨by omega, by omega⟩
          case measure => simp [intOf]; omega
    · have HV : Hid (valB s.data.toList = decide ((s.size : Int) ≤ 32)) := by
        show _ = _
        unfold valB
        have h := hok.out
        rw [List.take_of_length_le (by omega)] at h
        have : s.data.toList.all (fun c => decide (32 ≤ c) && decide (c ≤ 126)) = true := by
          rw [List.all_eq_true]
          intro c hc
          have := h c hc
          simp only [Bool.and_eq_true, decide_eq_true_eq, UInt8.le_iff_toNat_le]
          exact this
        rw [this, Bool.and_true, hsz]
        exact decide_eq_decide.2 (by omega)
      clear hsz hok
      go_wp2_with fail
      go_ret
      exact ⟨by rw [HV.out]; rfl, rfl⟩
theorem refValue_any (n : BS) (w : World) (hs : n.length ≤ 140737488351232) : Calls Try.prog 90 #[.string ⟨n.toArray⟩] w fun e w' => e = .returned (.bool (valB n)) ∧ w' = w := by
  have := refValue_s ⟨n.toArray⟩ w (by show n.length ≤ _; exact hs)
  simpa using this
end Go.Proofs.Ytcbeadldieeceaa

/-
  The reference's Props, SameProps: by their contracts.
-/
namespace Go.Proofs.Ytcbeadldieeceaa
open Go.RowKit

theorem quietN {P : Program} {f : FuncId} {args : Array Value} {w : World} {p m : Nat} {v : Value} (h : Calls P f args (w.drewN (p + m)) fun e w' => e = .returned v ∧ w' = w.drewN (p + m)) :
    Calls P f args (w.drewN (p + m)) fun e w'' => e = .returned v ∧ ∃ n, w'' = w.drewN (p + n) := h.mono fun _ _ ⟨h1, h2⟩ => ⟨h1, m, h2⟩
set_option maxRecDepth 100000 in
set_option maxHeartbeats 2000000 in
theorem refProps_any (l : PL) (n : Nat) (hnl : n = l.length) (A : Option Addr) (c : Nat) (w : World) (B : Nat) (hr : Reads w B 2 A n (pcells l)) (hn : n ≤ 5000000000000) (hv : ∀ x ∈ l, x.1.length ≤ 140737488351232 ∧ x.2.length ≤ 140737488351232) :
    Calls Try.prog 71 #[.slice A n c] w fun e w' => e = .returned (.int .i64 (propsE l)) ∧ ∃ q, w' = w.drewN q := by
  have HN := Lib.hid hnl
  obtain ⟨E, hE⟩ : ∃ E, E = propsE l := ⟨_, rfl⟩
  have hPE : Hid (∀ b, propsFrom none l = b → E = if b = true ∧ n ≤ 8 then 0 else 9) := by
    show ∀ b, _ → _
    rintro b rfl
    rw [hE]
    unfold propsE propsB
    rw [← hnl]
    by_cases h8 : n ≤ 8
    · simp [h8]
    · simp [h8]
  rw [← hE]
  clear hnl hE
  go_enter Try.func71, Try.ntmps71
  go_wp2_with fail
  go_loopw [3] (fun j wr => ∃ k : Nat, k ≤ n ∧ j = .int .i64 (k : Int) ∧ Hid (propsFrom none l = propsFrom (prevP l k) (l.drop k)) ∧ ∃ p, wr = w.drewN p) (fun j _ => n - (intOf j).toNat)
  case atStart => exact ⟨0, Nat.zero_le _, rfl, rfl, 0, rfl⟩
  case round =>
    obtain ⟨k, hk, rfl, hok, p, rfl⟩ := hrel
    by_cases hlt : k < n
    · obtain ⟨ad, rfl, hadB, c0, c1⟩ := hr.prop HN.out hlt
      have hki : (k : Int) < (n : Int) := by omega
      have hkl : k < l.length := by have := HN.out; omega
      obtain ⟨x, hx⟩ : ∃ x, x = l[k]'hkl := ⟨_, rfl⟩
      have hxl := hv x (by rw [hx]; exact List.getElem_mem _)
      rw [← hx] at c0 c1
      have hdr := List.drop_eq_getElem_cons hkl
      rw [← hx] at hdr
      have HX := Lib.hid hx
      have HDR := Lib.hid hdr
      obtain ⟨xn, xv⟩ := x
      simp only [strV] at c0 c1 hxl
      have hbad : Hid ((nameB xn = false ∨ valB xv = false ∨ (∃ y, prevP l k = some y ∧ Op.bytesLess y xn = false)) → E = 9) := by
        show _ → _
        intro h
        rw [hPE.out false]
        · rfl
        rw [hok.out, HDR.out, propsFrom_cons]
        rcases h with h | h | ⟨y, hy, h⟩
        · rw [h]; rfl
        · rw [h]; simp
        · rw [hy]; simp [h]
      have hgood : Hid (nameB xn = true → valB xv = true → (∀ y, prevP l k = some y → Op.bytesLess y xn = true) → propsFrom none l = propsFrom (prevP l (k + 1)) (l.drop (k + 1))) := by
        show _ → _ → _ → _
        intro h1 h2 h3
        rw [hok.out, HDR.out]
        have hp : prevP l (k + 1) = some xn := by
          show (l[k]?).map (·.1) = _
          rw [List.getElem?_eq_getElem hkl, ← HX.out]
          rfl
        rw [hp, propsFrom_cons, h1, h2]
        cases hq : prevP l k with
        | none => rfl
        | some y => simp [h3 y hq]
      have hN : ∀ m, Calls Try.prog 69 #[.string ⟨xn.toArray⟩] (w.drewN (p + m)) fun e W' => e = .returned (.bool (nameB xn)) ∧ ∃ n, W' = w.drewN (p + n) := fun m => quietN (refName_any xn _ hxl.1)
      have hV : ∀ m, Calls Try.prog 90 #[.string ⟨xv.toArray⟩] (w.drewN (p + m)) fun e W' => e = .returned (.bool (valB xv)) ∧ ∃ n, W' = w.drewN (p + n) := fun m => quietN (refValue_any xv _ hxl.2)
      clear hx hdr hok hxl hv
      obtain ⟨bn, hbn0⟩ : ∃ b, b = nameB xn := ⟨_, rfl⟩
      obtain ⟨bv, hbv0⟩ : ∃ b, b = valB xv := ⟨_, rfl⟩
      rw [← hbn0] at hbad hgood hN
      rw [← hbv0] at hbad hgood hV
      clear hbn0 hbv0
      cases bn with
      | false =>
        have HB := Lib.hid (hbad.out (.inl rfl))
        clear hr hbad hgood hV
        go_wp2_with fail
        go_big_quiet ((go_at_call 69; exact hN _))
        clear hN
        go_wp2_with fail
        go_ret
        exact ⟨by rw [HB.out]; rfl, _, World.drewN_drewN _ _ _⟩
      | true =>
        cases bv with
        | false =>
          have HB := Lib.hid (hbad.out (.inr (.inl rfl)))
          clear hr hbad hgood
          go_wp2_with fail
          go_big_quiet (first | (go_at_call 69; exact hN _) | (go_at_call 90; exact hV _))
          clear hN hV
          go_wp2_with fail
          go_ret
          exact ⟨by rw [HB.out]; rfl, _, World.drewN_drewN _ _ _⟩
        | true =>
          rcases Nat.eq_zero_or_pos k with h0 | h0
          · have HG := Lib.hid (hgood.out rfl rfl (fun y hy => by subst h0; cases hy))
            have d4 : decide ((0 : Int) < (k : Int)) = false := by simp; omega
            have d4' : decide (0 < k) = false := by simp; omega
            clear h0 hr hbad hgood
            go_wp2_with fail
            go_big_quiet (first | (go_at_call 69; exact hN _) | (go_at_call 90; exact hV _))
            clear hN hV
            go_wp2_with fail
            go_roundw
            case rel => exact ⟨k + 1, by omega, by go_num, HG, _, rfl⟩
            case measure => simp [intOf]; omega
          · have d4 : decide ((0 : Int) < (k : Int)) = true := by simp; omega
            have d4' : decide (0 < k) = true := by simp; omega
            have hk1l : k - 1 < l.length := by omega
            obtain ⟨y, hy⟩ : ∃ y, y = (l[k - 1]'hk1l).1 := ⟨_, rfl⟩
            have hpv : prevP l k = some y := by
              obtain ⟨j, rfl⟩ : ∃ j, k = j + 1 := ⟨k - 1, by omega⟩
              show (l[j]?).map (·.1) = _
              have hj : j < l.length := by simpa using hk1l
              rw [List.getElem?_eq_getElem hj, hy]
              rfl
            obtain ⟨ad2, e2, -, c2, -⟩ := (hr.prop HN.out (k := k - 1) (by omega))
            injection e2 with e2
            subst e2
            rw [← hy] at c2
            simp only [strV] at c2
            have i1 : (1 : Int) ≤ (k : Int) := by omega
            have i2 : (k : Int) - 1 < (n : Int) := by omega
            have i3 : IntKind.i64.wrap ((k : Int) - 1) = (k : Int) - 1 := IntWalk.i64_in _ (by omega)
            have i4 : ((k : Int) - 1).toNat = k - 1 := by omega
            have hleq := leqS 9 xn y
            cases hcmp : Op.bytesLess y xn with
            | true =>
              have HG := Lib.hid (hgood.out rfl rfl (fun y' hy' => by rw [hpv] at hy'; cases hy'; exact hcmp))
              have f1 : (Op.bytesLess xn y || xn == y) = false := by
                rw [Bool.or_eq_false_iff]
                refine ⟨?_, by simpa using (bl_ne hcmp).symm⟩
                rw [← Bool.not_eq_true]
                intro h
                have := bl_trans hcmp h
                rw [bl_irrefl] at this
                cases this
              rw [f1] at hleq
              clear hr hbad hgood h0 hpv hy hcmp f1
              go_wp2_with fail
              go_big_quiet (first | (go_at_call 69; exact hN _) | (go_at_call 90; exact hV _))
              clear hN hV hleq
              go_wp2_with fail
              go_roundw
              case rel => exact ⟨k + 1, by omega, by go_num, HG, _, rfl⟩
              case measure => simp [intOf]; omega
            | false =>
              have HB := Lib.hid (hbad.out (.inr (.inr ⟨y, hpv, hcmp⟩)))
              have f1 : (Op.bytesLess xn y || xn == y) = true := by
                by_cases e : xn = y
                · simp [e]
                · rw [bl_tri y xn hcmp (fun h => e h.symm)]; rfl
              rw [f1] at hleq
              clear hr hbad hgood h0 hpv hy hcmp f1
              go_wp2_with fail
              go_big_quiet (first | (go_at_call 69; exact hN _) | (go_at_call 90; exact hV _))
              clear hN hV hleq
              go_wp2_with fail
              go_ret
              exact ⟨by rw [HB.out]; rfl, _, World.drewN_drewN _ _ _⟩
    · have hkn : k = n := by omega
      have hF : Hid (E = if n ≤ 8 then 0 else 9) := by
        show _ = _
        rw [hPE.out true]
        · simp
        rw [hok.out, List.drop_of_length_le (by rw [hkn, HN.out]; exact Nat.le_refl _)]
        rfl
      clear hok hr hkn hPE
      by_cases h8 : n ≤ 8
      · have hi8 : ¬ (8 : Int) < (n : Int) := by omega
        have HV : Hid (E = 0) := by show _ = _; rw [hF.out, if_pos h8]
        clear hF
        go_wp2_with fail
        go_ret
        exact ⟨by rw [HV.out]; rfl, p, rfl⟩
      · have hi8 : (8 : Int) < (n : Int) := by omega
        have HV : Hid (E = 9) := by show _ = _; rw [hF.out, if_neg h8]
        clear hF
        go_wp2_with fail
        go_ret
        exact ⟨by rw [HV.out]; rfl, p, rfl⟩
set_option maxRecDepth 100000 in
set_option maxHeartbeats 1000000 in
theorem sameProps_any (a b : PL) (n m : Nat) (hna : n = a.length) (hmb : m = b.length) (A1 A2 : Option Addr) (c1 c2 : Nat) (w : World) (B1 B2 : Nat) (hr1 : Reads w B1 2 A1 n (pcells a)) (hr2 : Reads w B2 2 A2 m (pcells b)) (hn : n ≤ 5000000000000) (hm : m ≤ 5000000000000) :
    Calls Try.prog 16 #[.slice A1 n c1, .slice A2 m c2] w fun e w' => e = .returned (.bool (decide (a = b))) ∧ ∃ q, w' = w.drewN q := by
  have HN := Lib.hid hna
  have HM := Lib.hid hmb
  clear hna hmb
  by_cases hnm : n = m
  · subst hnm
    go_enter Try.func16, Try.ntmps16
    go_wp2_with fail
    go_loopw [5] (fun i wr => ∃ k : Nat, k ≤ n ∧ i = .int .i64 (k : Int) ∧ Hid (a.take k = b.take k) ∧ ∃ q, wr = w.drewN q) (fun i _ => n - (intOf i).toNat)
    case atStart => exact ⟨0, Nat.zero_le _, rfl, (show a.take 0 = b.take 0 by simp), 0, rfl⟩
    case round =>
      obtain ⟨k, hk, rfl, hok, q, rfl⟩ := hrel
      by_cases hlt : k < n
      · have hki : (k : Int) < (n : Int) := by omega
        have hka : k < a.length := by have := HN.out; omega
        have hkb : k < b.length := by have := HM.out; omega
        obtain ⟨ad1, rfl, _, hc1, hc1'⟩ := hr1.prop HN.out hlt
        obtain ⟨ad2, rfl, _, hc2, hc2'⟩ := hr2.prop HM.out hlt
        obtain ⟨x, hx⟩ : ∃ x, x = a[k]'hka := ⟨_, rfl⟩
        obtain ⟨y, hy⟩ : ∃ y, y = b[k]'hkb := ⟨_, rfl⟩
        rw [← hx] at hc1 hc1'
        rw [← hy] at hc2 hc2'
        have t1 := List.take_succ_eq_append_getElem hka
        have t2 := List.take_succ_eq_append_getElem hkb
        rw [← hx] at t1
        rw [← hy] at t2
        have T1 := Lib.hid t1
        have T2 := Lib.hid t2
        have X1 := Lib.hid hx
        have X2 := Lib.hid hy
        obtain ⟨xn, xv⟩ := x
        obtain ⟨yn, yv⟩ := y
        simp only [strV] at hc1 hc1' hc2 hc2'
        clear hx hy t1 t2 hr1 hr2
        by_cases hxy : xn = yn ∧ xv = yv
        · obtain ⟨rfl, rfl⟩ := hxy
          go_wp2_with fail
          go_region
          go_wp2_with fail
          go_roundw
          case rel =>
            refine ⟨k + 1, by omega, by go_num, ?_, q + 1, rfl⟩
            show a.take (k + 1) = b.take (k + 1)
            rw [T1.out, T2.out, hok.out]
          case measure => simp [intOf]; omega
        · have HD : Hid (decide (a = b) = false) := by
            show _ = _
            refine decide_eq_false (fun e => hxy ?_)
            have : (xn, xv) = (yn, yv) := by rw [X1.out, X2.out]; simp only [e]
            exact ⟨congrArg Prod.fst this, congrArg Prod.snd this⟩
          by_cases hxn : xn = yn
          · have hxv : ¬ xv = yv := fun e => hxy ⟨hxn, e⟩
            subst hxn
            clear hxy
            go_wp2_with fail
            go_region
            go_wp2_with fail
            go_ret
            exact ⟨by rw [HD.out]; rfl, q + 1, rfl⟩
          · clear hxy
            go_wp2_with fail
            go_region
            go_wp2_with fail
            go_ret
            exact ⟨by rw [HD.out]; rfl, q + 1, rfl⟩
      · have HD : Hid (decide (a = b) = true) := by
          show _ = _
          refine decide_eq_true ?_
          have := hok.out
          rwa [List.take_of_length_le (by have := HN.out; omega), List.take_of_length_le (by have := HM.out; omega)] at this
        clear hr1 hr2
        go_wp2_with fail
        go_ret
        exact ⟨by rw [HD.out]; rfl, q, rfl⟩
  · have hd : ((n : Int) != (m : Int)) = true := by simp; omega
    have HD : Hid (decide (a = b) = false) := by
      show _ = _
      refine decide_eq_false (fun e => hnm ?_)
      rw [HN.out, HM.out, e]
    clear hnm hr1 hr2
    go_enter Try.func16, Try.ntmps16
    go_wp2_with fail
    go_ret
    exact ⟨by rw [HD.out]; rfl, 0, rfl⟩
end Go.Proofs.Ytcbeadldieeceaa

/-
  The reference's put, Over: by their contracts.
-/
namespace Go.Proofs.Ytcbeadldieeceaa
open Go.RowKit

def leN (a b : BS) : Bool := Op.bytesLess a b || a == b
def rput (p : BS × BS) : Bool → PL → PL
  | d, [] => if d = true then [] else [p]
  | d, x :: l => (if (!d && leN p.1 x.1) = true then [p] else []) ++ (if x.1 = p.1 then [] else [x]) ++ rput p (d || leN p.1 x.1) l
theorem rput_cons (p : BS × BS) (d : Bool) (x : BS × BS) (l : PL) : rput p d (x :: l) = (if (!d && leN p.1 x.1) = true then [p] else []) ++ (if x.1 = p.1 then [] else [x]) ++ rput p (d || leN p.1 x.1) l := rfl
theorem rput_true (p : BS × BS) (l : PL) (h : ∀ x ∈ l, x.1 ≠ p.1) : rput p true l = l := by
  induction l with
  | nil => rfl
  | cons x l ih =>
    rw [rput_cons, if_neg (by simp), if_neg (h x (List.mem_cons_self ..)), Bool.true_or, ih (fun y hy => h y (List.mem_cons_of_mem _ hy))]
    rfl
theorem rput_put (p : BS × BS) (l : PL) (h : SortP l) : rput p false l = putP p l := by
  induction l with
  | nil => rfl
  | cons x l ih =>
    obtain ⟨h1, h2⟩ := List.pairwise_cons.1 h
    rw [rput_cons]
    unfold putP
    by_cases hp : Op.bytesLess p.1 x.1 = true
    · have hl : leN p.1 x.1 = true := by unfold leN; rw [hp]; rfl
      rw [if_pos hp, hl, if_pos (by rfl), if_neg (fun e => bl_ne hp e.symm), Bool.false_or, rput_true p l (fun y hy e => bl_ne (bl_trans hp (h1 y hy)) e.symm)]
      rfl
    rw [if_neg hp]
    by_cases hq : p.1 = x.1
    · have hl : leN p.1 x.1 = true := by unfold leN; rw [hq]; simp
      rw [if_pos hq, hl, if_pos (by rfl), if_pos hq.symm, Bool.false_or, rput_true p l (fun y hy e => bl_ne (h1 y hy) (by rw [e, hq]))]
      rfl
    · have hl : leN p.1 x.1 = false := by
        unfold leN
        rw [Bool.or_eq_false_iff]
        exact ⟨by simpa using hp, by simpa using hq⟩
      rw [if_neg hq, hl, if_neg (by decide), if_neg (fun e => hq e.symm), Bool.false_or, ih h2]
      rfl
structure PutS (h : Nat) (W0 W : World) (T : TypeId) (ad : Addr) (k : Nat) (xn xv pn pv : BS) (m : Nat) (A1 : Option Addr) (c1 : Nat) (O : PL) : Prop where
  c0 : W.cell? (ad.add (k * 2)) = some (.string ⟨xn.toArray⟩)
  e1 : W.cell? ⟨(ad.add (k * 2)).block, (ad.add (k * 2)).off + 1, none⟩ = some (.string ⟨xv.toArray⟩)
  p0 : W.cell? ⟨h, 0, none⟩ = some (.string ⟨pn.toArray⟩)
  p1 : W.cell? ⟨h, 1, none⟩ = some (.string ⟨pv.toArray⟩)
  hbw : Below (h + 1) W0 W
  hown : W.ownsRow (h + 1) T 2 (.slice A1 m c1) m (pcells O)
theorem PutS.drew {h : Nat} {W0 W : World} {T : TypeId} {ad : Addr} {k : Nat} {xn xv pn pv : BS} {m : Nat} {A1 : Option Addr} {c1 : Nat} {O : PL} (s : PutS h W0 W T ad k xn xv pn pv m A1 c1 O) : PutS h W0 W.drew T ad k xn xv pn pv m A1 c1 O :=
  ⟨s.c0, s.e1, s.p0, s.p1, s.hbw.drew, s.hown⟩
theorem PutS.push {h : Nat} {W0 W W' : World} {T : TypeId} {ad : Addr} {k : Nat} {xn xv pn pv : BS} {m m' : Nat} {A1 A2 : Option Addr} {c1 c2 : Nat} {O O' : PL} (s : PutS h W0 W T ad k xn xv pn pv m A1 c1 O) (hb : Below (h + 1) W W') (had : ad.block < h + 1) (ho : W'.ownsRow (h + 1) T 2 (.slice A2 m' c2) m' (pcells O')) : PutS h W0 W' T ad k xn xv pn pv m' A2 c2 O' :=
  ⟨(hb.cell (by rw [block_of_add]; exact had)).trans s.c0, (hb.cell (p := ⟨(ad.add (k * 2)).block, (ad.add (k * 2)).off + 1, none⟩) (by show (ad.add (k * 2)).block < _; rw [block_of_add]; exact had)).trans s.e1, (hb.cell (p := ⟨h, 0, none⟩) (by show h < h + 1; omega)).trans s.p0, (hb.cell (p := ⟨h, 1, none⟩) (by show h < h + 1; omega)).trans s.p1, s.hbw.trans hb, ho⟩
end Go.Proofs.Ytcbeadldieeceaa

/-
  The reference's Prop, Text, Set, Unset; props.Same: by their contracts.
-/
namespace Go.Proofs.Ytcbeadldieeceaa
open Go.RowKit

set_option maxRecDepth 100000 in
set_option maxHeartbeats 1000000 in
theorem sameP_any (a b : PL) (n m : Nat) (hna : n = a.length) (hmb : m = b.length) (A1 A2 : Option Addr) (c1 c2 : Nat) (w : World) (B1 B2 : Nat) (hr1 : Reads w B1 2 A1 n (pcells a)) (hr2 : Reads w B2 2 A2 m (pcells b)) (hn : n ≤ 5000000000000) (hm : m ≤ 5000000000000) :
    Calls Try.prog 103 #[.slice A1 n c1, .slice A2 m c2] w fun e w' => e = .returned (.bool (decide (a = b))) ∧ ∃ q, w' = w.drewN q := by
  have HN := Lib.hid hna
  have HM := Lib.hid hmb
  clear hna hmb
  by_cases hnm : n = m
  · subst hnm
    go_enter Try.func103, Try.ntmps103
    go_wp2_with fail
    go_loopw [13] (fun i wr => ∃ k : Nat, k ≤ n ∧ i = .int .i64 (k : Int) ∧ Hid (a.take k = b.take k) ∧ ∃ q, wr = w.drewN q) (fun i _ => n - (intOf i).toNat)
    case atStart => exact ⟨0, Nat.zero_le _, rfl, (show a.take 0 = b.take 0 by simp), 0, rfl⟩
    case round =>
      obtain ⟨k, hk, rfl, hok, q, rfl⟩ := hrel
      by_cases hlt : k < n
      · have hki : (k : Int) < (n : Int) := by omega
        have hka : k < a.length := by have := HN.out; omega
        have hkb : k < b.length := by have := HM.out; omega
        obtain ⟨ad1, rfl, _, hc1, hc1'⟩ := hr1.prop HN.out hlt
        obtain ⟨ad2, rfl, _, hc2, hc2'⟩ := hr2.prop HM.out hlt
        obtain ⟨x, hx⟩ : ∃ x, x = a[k]'hka := ⟨_, rfl⟩
        obtain ⟨y, hy⟩ : ∃ y, y = b[k]'hkb := ⟨_, rfl⟩
        rw [← hx] at hc1 hc1'
        rw [← hy] at hc2 hc2'
        have t1 := List.take_succ_eq_append_getElem hka
        have t2 := List.take_succ_eq_append_getElem hkb
        rw [← hx] at t1
        rw [← hy] at t2
        have T1 := Lib.hid t1
        have T2 := Lib.hid t2
        have X1 := Lib.hid hx
        have X2 := Lib.hid hy
        obtain ⟨xn, xv⟩ := x
        obtain ⟨yn, yv⟩ := y
        simp only [strV] at hc1 hc1' hc2 hc2'
        clear hx hy t1 t2 hr1 hr2
        by_cases hxy : xn = yn ∧ xv = yv
        · obtain ⟨rfl, rfl⟩ := hxy
          go_wp2_with fail
          go_region
          go_wp2_with fail
          go_roundw
          case rel =>
            refine ⟨k + 1, by omega, by go_num, ?_, q + 1, rfl⟩
            show a.take (k + 1) = b.take (k + 1)
            rw [T1.out, T2.out, hok.out]
          case measure => simp [intOf]; omega
        · have HD : Hid (decide (a = b) = false) := by
            show _ = _
            refine decide_eq_false (fun e => hxy ?_)
            have : (xn, xv) = (yn, yv) := by rw [X1.out, X2.out]; simp only [e]
            exact ⟨congrArg Prod.fst this, congrArg Prod.snd this⟩
          by_cases hxn : xn = yn
          · have hxv : ¬ xv = yv := fun e => hxy ⟨hxn, e⟩
            subst hxn
            clear hxy
            go_wp2_with fail
            go_region
            go_wp2_with fail
            go_ret
            exact ⟨by rw [HD.out]; rfl, q + 1, rfl⟩
          · clear hxy
            go_wp2_with fail
            go_region
            go_wp2_with fail
            go_ret
            exact ⟨by rw [HD.out]; rfl, q + 1, rfl⟩
      · have HD : Hid (decide (a = b) = true) := by
          show _ = _
          refine decide_eq_true ?_
          have := hok.out
          rwa [List.take_of_length_le (by have := HN.out; omega), List.take_of_length_le (by have := HM.out; omega)] at this
        clear hr1 hr2
        go_wp2_with fail
        go_ret
        exact ⟨by rw [HD.out]; rfl, q, rfl⟩
  · have hd : ((n : Int) != (m : Int)) = true := by simp; omega
    have HD : Hid (decide (a = b) = false) := by
      show _ = _
      refine decide_eq_false (fun e => hnm ?_)
      rw [HN.out, HM.out, e]
    clear hnm hr1 hr2
    go_enter Try.func103, Try.ntmps103
    go_wp2_with fail
    go_ret
    exact ⟨by rw [HD.out]; rfl, 0, rfl⟩
set_option maxRecDepth 100000 in
theorem psame_any (a b : PL) (n m : Nat) (hna : n = a.length) (hmb : m = b.length) (A1 A2 : Option Addr) (c1 c2 : Nat) (w : World) (B1 B2 : Nat) (hr1 : Reads w B1 2 A1 n (pcells a)) (hr2 : Reads w B2 2 A2 m (pcells b)) (hn : n ≤ 5000000000000) (hm : m ≤ 5000000000000) :
    Calls Try.prog 94 #[.slice A1 n c1, .slice A2 m c2] w fun e w' => e = .returned (.bool (decide (a = b))) ∧ ∃ q, w' = w.drewN q := by
  have hs := sameP_any a b n m hna hmb A1 A2 c1 c2 w B1 B2 hr1 hr2 hn hm
  clear hna hmb hr1 hr2
  go_enter Try.func94, Try.ntmps94
  go_wp2_with fail
  refine hs.mono ?_
  rintro e w1 ⟨rfl, q, rfl⟩
  go_wp2_with fail
  go_ret
  exact ⟨rfl, q, rfl⟩

set_option maxRecDepth 100000 in
set_option maxHeartbeats 1000000 in
theorem refText_any (l : PL) (n : Nat) (hnl : n = l.length) (A : Option Addr) (c : Nat) (w : World) (B : Nat) (hr : Reads w B 2 A n (pcells l)) (hB : B ≤ w.heap.size) (hn : n ≤ 4398046511104) :
    Calls Try.prog 31 #[.slice A n c] w fun e w' => ∃ v, e = .returned v ∧ w'.ownsRow w.heap.size 9 1 v (2 * n) (scells (ptexts l)) ∧ Below w.heap.size w w' := by
  obtain ⟨i0, hi0, hz0, hz1, hz2⟩ := info_parts Try.infoS
  have HN := Lib.hid hnl
  rw [← scells_pcells]
  clear hnl
  go_enter Try.func31, Try.ntmps31
  go_wp2_with fail
  go_loopw [3, 4] (fun o i wr => ∃ (k : Nat) (A1 : Option Addr) (c1 : Nat), k ≤ n ∧ i = .int .i64 (k : Int) ∧ o = .slice A1 (2 * k) c1 ∧ wr.ownsRow w.heap.size 9 1 (.slice A1 (2 * k) c1) (2 * k) (pcells (l.take k)) ∧ Below w.heap.size w wr) (fun _ i _ => n - (intOf i).toNat)
  case atStart => exact ⟨0, none, 0, Nat.zero_le _, rfl, rfl, ⟨rfl, .inl ⟨rfl, rfl⟩⟩, Below.refl _ _⟩
  case round =>
    obtain ⟨k, A1, c1, hk, rfl, rfl, hown, hbw⟩ := hrel
    by_cases hlt : k < n
    · have hki : (k : Int) < (n : Int) := by omega
      have hkl : k < l.length := by have := HN.out; omega
      obtain ⟨ad, rfl, hadB, d0, d1⟩ := (hr.below (hbw.mono hB)).prop HN.out hlt
      obtain ⟨x, hx⟩ : ∃ x, x = l[k]'hkl := ⟨_, rfl⟩
      have htk := List.take_succ_eq_append_getElem hkl
      rw [← hx] at d0 d1 htk
      obtain ⟨xn, xv⟩ := x
      simp only [strV] at d0 d1
      have HT : Hid (pcells (l.take (k + 1)) = pcells (l.take k) ++ [.string ⟨xn.toArray⟩, .string ⟨xv.toArray⟩]) := by show _ = _; rw [htk, pcells_append]; rfl
      have HOWN := Lib.hid (own_drew (hown.alloc (.cells #[.string ⟨xn.toArray⟩, .string ⟨xv.toArray⟩] 9)))
      have hbw2 := hbw.alloc hbw.size (.cells #[.string ⟨xn.toArray⟩, .string ⟨xv.toArray⟩] 9)
      have hbw3 := hbw2.drew
      have hsz3 := hbw3.size
      have HB := Lib.hid hbw3
      have hr1 := (Reads.lit wr #[.string ⟨xn.toArray⟩, .string ⟨xv.toArray⟩] 9 (n := 2) (size := 1) rfl).drew
      have h1c : ∀ u ∈ (#[.string ⟨xn.toArray⟩, .string ⟨xv.toArray⟩] : Array Value).toList, u.oneCell' = true := by simp [Value.oneCell']
      have hq1 : 2 * k + 2 ≤ maxLen := by unfold maxLen; omega
      have hq2 : (2 * k + 2) * 16 ≤ 140737488355328 := by omega
      clear hx htk hr hown hbw2 hbw3
      go_wp2_with fail
      go_region_law (refine step_append_any _ rfl (.tmp 11) (.tmp 22) 23 rfl w.heap.size 9 i0 (.string ByteArray.empty) 1 16 Try.underlying23 hi0 hz0 hz1 hz2 rfl (by decide) (.slice A1 (2 * k) c1) (2 * k) (pcells (l.take k)) ?hs HOWN.out _ (some ⟨wr.heap.size, 0, none⟩) 2 2 _ ?hx hr1 h1c hq1 hq2 hsz3 ?_; (case hs => first | rfl | simp [Act.eval] | simp [Act.eval, Act.put]); (case hx => first | rfl | simp [Act.eval] | simp [Act.eval, Act.put]); intro v2 w2 hown2 hg2 _; have hbe2 := Lib.hid (HB.out.grown hg2 hsz3 (fun k hk => (HOWN.out.lt k hk).1)); obtain ⟨A2, cc2, rfl, _, _, _⟩ := own_form hown2; have hown2' := Lib.hid hown2; clear hown2 hg2 d0 d1 hr1 h1c)
      all_goals
        have HO : Hid (w2.ownsRow w.heap.size 9 1 (.slice A2 (2 * (k + 1)) cc2) (2 * (k + 1)) (pcells (l.take (k + 1)))) := by show World.ownsRow _ _ _ _ _ _ _; rw [HT.out]; exact hown2'.out
        go_wp2_with fail
        go_roundw
        case rel => exact ⟨k + 1, A2, cc2, by omega, by go_num, rfl, HO.out, hbe2.out⟩
        case measure => simp [intOf]; omega
    · have hkn : k = n := by omega
      have HO : Hid (wr.ownsRow w.heap.size 9 1 (.slice A1 (2 * k) c1) (2 * n) (pcells l)) := by
        show World.ownsRow _ _ _ _ _ _ _
        rw [List.take_of_length_le (by have := HN.out; omega)] at hown
        rw [← hkn]
        exact hown
      clear hr hown hkn
      go_wp2_with fail
      go_ret
      exact ⟨_, rfl, HO.out, hbw⟩

end Go.Proofs.Ytcbeadldieeceaa

/-
  record.Same, the reference's SameRecord: by their contracts.
-/
namespace Go.Proofs.Ytcbeadldieeceaa
open Go.RowKit

def rcCells (r : Rc) (o : Value) : Array Value := #[.int .i64 r.kind, .string ⟨r.nm.toArray⟩, .int .i64 r.frm, .int .i64 r.gd, o, .int .i64 r.ix, .int .i64 r.ct, .string ⟨r.dt.toArray⟩, .int .u64 r.sm.a, .int .u64 r.sm.b, .int .u64 r.sm.c, .int .u64 r.sm.d]
def rcV (r : Rc) (o : Value) : Value := .agg (rcCells r o)
def smB (s t : Sm) : Bool := s.a == t.a && s.b == t.b && s.c == t.c && s.d == t.d
theorem smB_iff (s t : Sm) : smB s t = true ↔ s = t := by
  obtain ⟨a, b, c, d⟩ := s
  obtain ⟨a', b', c', d'⟩ := t
  simp [smB, and_assoc]
def sameR (r s : Rc) : Bool := r.kind == s.kind && r.nm == s.nm && r.frm == s.frm && r.gd == s.gd && r.ix == s.ix && r.ct == s.ct && r.dt == s.dt && smB r.sm s.sm && decide (r.own = s.own)
theorem sameR_iff (r s : Rc) : sameR r s = true ↔ r = s := by
  obtain ⟨a, b, c, d, e, f, g, h, i⟩ := r
  obtain ⟨a', b', c', d', e', f', g', h', i'⟩ := s
  simp only [sameR, Bool.and_eq_true, beq_iff_eq, decide_eq_true_eq, smB_iff, Rc.mk.injEq]
  constructor
  · rintro ⟨⟨⟨⟨⟨⟨⟨⟨h1, h2⟩, h3⟩, h4⟩, h5⟩, h6⟩, h7⟩, h8⟩, h9⟩
    exact ⟨h1, h2, h3, h4, h9, h5, h6, h7, h8⟩
  · rintro ⟨h1, h2, h3, h4, h9, h5, h6, h7, h8⟩
    exact ⟨⟨⟨⟨⟨⟨⟨⟨h1, h2⟩, h3⟩, h4⟩, h5⟩, h6⟩, h7⟩, h8⟩, h9⟩
theorem blk12 {w : World} {g : Nat} {t : TypeId} {c0 c1 c2 c3 c4 c5 c6 c7 c8 c9 c10 c11 : Value} (h : Blk w g t #[c0, c1, c2, c3, c4, c5, c6, c7, c8, c9, c10, c11]) :
    w.cell? ⟨g, 0, none⟩ = some c0 ∧ w.cell? ⟨g, 1, none⟩ = some c1 ∧ w.cell? ⟨g, 2, none⟩ = some c2 ∧ w.cell? ⟨g, 3, none⟩ = some c3 ∧ w.cell? ⟨g, 4, none⟩ = some c4 ∧ w.cell? ⟨g, 5, none⟩ = some c5 ∧ w.cell? ⟨g, 6, none⟩ = some c6 ∧ w.cell? ⟨g, 7, none⟩ = some c7 ∧
      w.cell? ⟨g, 8, none⟩ = some c8 ∧ w.cell? ⟨g, 9, none⟩ = some c9 ∧ w.cell? ⟨g, 10, none⟩ = some c10 ∧ w.cell? ⟨g, 11, none⟩ = some c11 :=
  ⟨by simpa using h.cell 0, by simpa using h.cell 1, by simpa using h.cell 2, by simpa using h.cell 3, by simpa using h.cell 4, by simpa using h.cell 5, by simpa using h.cell 6, by simpa using h.cell 7, by simpa using h.cell 8, by simpa using h.cell 9, by simpa using h.cell 10, by simpa using h.cell 11⟩

set_option maxRecDepth 100000 in
set_option maxHeartbeats 4000000 in
theorem rsame_any (r s : Rc) (n m : Nat) (hn : n = r.own.length) (hm : m = s.own.length) (A1 A2 : Option Addr) (c1 c2 : Nat) (w : World) (B1 B2 : Nat) (hB1 : B1 ≤ w.heap.size) (hB2 : B2 ≤ w.heap.size) (hr1 : Reads w B1 2 A1 n (pcells r.own)) (hr2 : Reads w B2 2 A2 m (pcells s.own)) (hn5 : n ≤ 5000000000000) (hm5 : m ≤ 5000000000000) :
    Calls Try.prog 74 #[rcV r (.slice A1 n c1), rcV s (.slice A2 m c2)] w fun e w' => e = .returned (.bool (sameR r s)) ∧ Below w.heap.size w w' := by
  obtain ⟨R, hR⟩ : ∃ R, R = sameR r s := ⟨_, rfl⟩
  rw [← hR]
  have HR := Lib.hid hR
  clear hR
  obtain ⟨rk, rn, rf, rg, ro, ri, rc, rd, ⟨ra, rb, rx, ry⟩⟩ := r
  obtain ⟨sk, sn, sf, sg, so, si, sc, sd, ⟨sa, sb, sx, sy⟩⟩ := s
  simp only [] at hn hm hr1 hr2
  show Calls _ _ #[.agg #[.int .i64 rk, .string ⟨rn.toArray⟩, .int .i64 rf, .int .i64 rg, .slice A1 n c1, .int .i64 ri, .int .i64 rc, .string ⟨rd.toArray⟩, .int .u64 ra, .int .u64 rb, .int .u64 rx, .int .u64 ry], .agg #[.int .i64 sk, .string ⟨sn.toArray⟩, .int .i64 sf, .int .i64 sg, .slice A2 m c2, .int .i64 si, .int .i64 sc, .string ⟨sd.toArray⟩, .int .u64 sa, .int .u64 sb, .int .u64 sx, .int .u64 sy]] _ _
  have hcs := fun W (hb : Below w.heap.size w W) => psame_any ro so n m hn hm A1 A2 c1 c2 W B1 B2 (hr1.below (hb.mono hB1)) (hr2.below (hb.mono hB2)) hn5 hm5
  have HC := Lib.hid hcs
  clear hn hm hr1 hr2 hB1 hB2 hcs
  go_enter Try.func74, Try.ntmps74
  go_wp2_with fail
  refine (HC.out _ (((Below.refl _ w).alloc (Nat.le_refl _) _).alloc (by simp) _)).mono ?_
  · rintro e w3 ⟨rfl, q, rfl⟩
    have HF : Hid (R = decide (ro = so)) := by
      show _ = _
      rw [HR.out, Bool.eq_iff_iff, sameR_iff, decide_eq_true_eq]
      simp_all
    go_wp2_with fail
    go_ret
    exact ⟨by rw [HF.out]; rfl, below_drewN (((Below.refl _ w).alloc (Nat.le_refl _) _).alloc (by simp) _) q⟩
  all_goals
    go_ret
    refine ⟨?_, (((Below.refl _ w).alloc (Nat.le_refl _) _).alloc (by simp) _)⟩
    have HF : R = false := by
      rw [HR.out, ← Bool.not_eq_true, sameR_iff]
      intro h
      simp_all
    rw [HF]
    rfl

end Go.Proofs.Ytcbeadldieeceaa
