/-
  props.Over, by its contract.
  A property's value, looked up: plain.
  The reference's Props, SameProps: by their contracts.
  The reference's put, Over: by their contracts.
  slices.Delete of one element, at elements of 2 cells, by its contract.
  slices.Clone at elements of 2 cells, by its contract.
  slices.Insert of one element into a row of the call's own, by its contract.
  props.Set, props.Unset, by their contracts.
  props.Set, props.Unset, walked.
  The reference's Prop, Text, Set, Unset; props.Same: by their contracts.
-/
import Derived.Test.YtjdebhemoeojiaaDoorPrLaw
import Derived.Test.YtjdebhemoeojiaaDoorPrCheck
import Derived.Shelf.SlIter.Nil
import Derived.Shelf.SortM.Plain
import Derived.Shelf.SortM.SortNone
import Derived.Maps.OwnSet
import Derived.Maps.StringElems
import Derived.Handy
import Derived.Test.YtjdebhemoeojiaaDoorRefNm
import Derived.Test.YtjdebhemoeojiaaDoorAppendK
import Derived.Test.YtjdebhemoeojiaaDoorRows
import Derived.Lib.Hide
import Derived.Deep.RegionLaw
import Derived.Test.YtjdebhemoeojiaaDoorBase
import Derived.Test.YtjdebhemoeojiaaDoorShift
import Derived.Lib.AppendZeros
import Derived.Test.YtjdebhemoeojiaaDoorCmpS
import Derived.Test.YtjdebhemoeojiaaDoorCells
import Derived.Test.YtjdebhemoeojiaaDoorFrame
import Derived.Test.YtjdebhemoeojiaaDoorSc
namespace Go.Proofs.YtjdebhemoeojiaaDoor
open Go.RowKit Go.Maps Go.Sort Go.Shelf

/-! ### a map that reads as a list of properties -/
structure MapIs (D : DataW Unit) (F : PL) : Prop where
  has : ∀ n : BS, Maps.has D (.string n) = (getP F n).isSome
  at_ : ∀ (n v : BS), getP F n = some v → ∀ z, D.atKey (.string n) z = .lit (.string v)
theorem isKey_str (x : BS) : WideAt.IsKeyLit (.string x) := by trivial
theorem MapIs.nil : MapIs (.map []) [] := ⟨fun _ => rfl, fun _ _ h => by cases h⟩
theorem MapIs.put {D : DataW Unit} {F : PL} (h : MapIs D F) (hD : IsMap D) (hF : SortP F) (p : BS × BS) : MapIs (D.put (.string p.1) (.lit (.string p.2))) (putP p F) := by
  refine ⟨fun n => ?_, fun n v hv z => ?_⟩
  · rw [getP_putP p F hF]
    by_cases hn : p.1 = n
    · subst hn
      rw [if_pos rfl, has_put_same hD (isKey_str _)]
      rfl
    · rw [if_neg hn, has_put_other (by intro e; exact hn (by simpa using e.symm)), h.has]
  · rw [getP_putP p F hF] at hv
    by_cases hn : p.1 = n
    · subst hn
      rw [if_pos rfl] at hv
      injection hv with hv
      subst hv
      exact atKey_put_same hD (isKey_str _) _ z
    · rw [if_neg hn] at hv
      rw [atKey_put_other (by intro e; exact hn (by simpa using e.symm))]
      exact h.at_ n v hv z
theorem getP_mem (F : PL) (n : BS) : (getP F n).isSome = true ↔ n ∈ F.map (·.1) := by
  induction F with
  | nil => simp [getP_nil]
  | cons x F ih =>
    rw [getP_cons, List.map_cons, List.mem_cons]
    by_cases h : x.1 = n
    · rw [if_pos h]; simp [h]
    · rw [if_neg h, ih]
      constructor
      · exact .inr
      · rintro (e | e)
        · exact absurd e.symm h
        · exact e
theorem names_nodup (F : PL) (h : SortP F) : (F.map (·.1)).Nodup := by
  refine List.pairwise_map.2 (h.imp fun h => bl_ne h)
theorem names_perm {D : DataW Unit} {F : PL} (h : MapIs D F) (hF : SortP F) {w : World} {R : Value → Option (DataW Unit × List MemPlace)} {b n : Nat} (hown : w.ownsMap Tryd.prog 9 R b n D) : (strKeys D).Perm (F.map (·.1)) ∧ Maps.size D = F.length := by
  have law : Keyed Tryd.prog 9 := string_keyed Tryd.underlying9
  obtain ⟨es, hD, hpw, _⟩ := hown.entries law
  obtain ⟨es', hD', hko⟩ := hown.keysOf
  obtain rfl : es = es' := by rw [hD] at hD'; simpa using hD'
  have hp := perm_strKeys hpw (fun p hp => by obtain ⟨v, hv⟩ := hko p hp; obtain ⟨x, _, hx, _⟩ := Maps.keyOf_str Tryd.underlying9 hv; exact ⟨x, hx⟩) (names_nodup F hF) (fun x => by rw [← getP_mem, ← hD, h.has])
  rw [← hD] at hp
  refine ⟨hp.symm, ?_⟩
  have := hp.length_eq
  rw [List.length_map] at this
  rw [this, hD]
  show es.length = (es.map fun p => strOf p.1).length
  rw [List.length_map]
theorem names_sorted {F : PL} (hF : SortP F) {ss : List BS} (h : ss.Perm (F.map (·.1))) : ss.mergeSort (fun x y => decide (x ≤ y)) = F.map (·.1) := by
  rw [mergeSort_of_perm h]
  refine List.mergeSort_of_pairwise ?_
  refine List.pairwise_map.2 (hF.imp fun {x y} h => ?_)
  rw [bytesLess_eq, decide_eq_true_eq] at h
  exact decide_eq_true (List.le_of_lt h)

/-! ### slices.Sorted(maps.Keys(m)) -/
theorem wpList_lookup_own_str {P : Program} (w : World) {ops : Array Oper} {rest : List Oper} {o : Oper} {a : Act} {Q : Exit → Act → World → Prop}
    (hg : o.guard = none) (m x : Operand) (t : TypeId) (hop : o.op = Op.lookup t m x false)
    (k e : TypeId) (K : Keyed P k) (ht : P.underlying t = some (.map k e)) (he : P.underlying e = some .string) (hz : (zeroValue e).run P w = .ok (.string ByteArray.empty) w) (b n : Nat) (D : DataW Unit)
    (hm : a.eval m = .map (some b)) (hown : w.ownsMap P k (plainElem P e) b n D) (key : Value) (kl : Lit) (hx : a.eval x = key) (hkey : keyOf P k key = some kl) (v : BS) (hv : ∀ z, D.atKey kl z = .lit (.string v))
    (hK : wpList P ops Q rest (a.put o.dst (.string ⟨v.toArray⟩)) w) :
    wpList P ops Q (o :: rest) a w := by
  refine wpList_plain hg fun K' hK' => ?_
  have hz2 : plainElem (H := Unit) P e (.string ByteArray.empty) = some (.lit (.string []), []) := plainElem_string he (by decide)
  obtain ⟨u, ps, hrun, hu⟩ := hown.lookup K ht hz hz2 hkey
  obtain ⟨s, rfl, hs, _⟩ := plainElem_string_inv he hu
  rw [hv] at hs
  simp only [Prod.mk.injEq, DataW.lit.injEq, Lit.string.injEq] at hs
  have hsv : s = ⟨v.toArray⟩ := by rw [hs.1]
  rw [hsv] at hrun
  unfold Oper.wp
  simp [execOp, hop, hm, hx, hrun, Result.andThen]
  exact hK' _ _ hK

/-! ### Over -/
def strOk (l : PL) : Prop := ∀ x ∈ l, x.1.length ≤ 140737488351232 ∧ x.2.length ≤ 140737488351232
structure PropsIn (w : World) (B : Nat) (v : Value) (l : PL) : Prop where
  ex : ∃ A n c, v = .slice A n c ∧ n = l.length ∧ n ≤ 5000000000000 ∧ Reads w B 2 A n (pcells l)
  ok : strOk l
theorem PropsIn.below {w W : World} {B : Nat} {v : Value} {l : PL} (h : PropsIn w B v l) (hb : Below B w W) : PropsIn W B v l := by
  obtain ⟨A, n, c, rfl, hn, hm, hr⟩ := h.ex
  exact ⟨⟨A, n, c, rfl, hn, hm, hr.below hb⟩, h.ok⟩
def overE (ls : List PL) : Int := if ls.all propsB = true then (if 8 < (allP ls.flatten).length then 3 else 0) else 9
def OverPost (w : World) (F : PL) (E : Int) (e : Ending) (w' : World) : Prop :=
  ∃ v, e = .returned (.tuple #[v, .int .i64 E]) ∧ (if E = 0 then w'.ownsRow w.heap.size 144 2 v F.length (pcells F) else v = .slice none 0 0) ∧ Below w.heap.size w w'
theorem Tryd.infoP : (Tryd.prog.info? 144).map (fun i => (i.zero, i.size, i.bytes)) = some (some (.agg #[.string ByteArray.empty, .string ByteArray.empty]), 2, 32) := by kernel_rfl
theorem Tryd.lawS : Keyed Tryd.prog 9 := string_keyed Tryd.underlying9
theorem Tryd.zeroS (w : World) : (zeroValue 9).run Tryd.prog w = .ok (.string ByteArray.empty) w := by kernel_rfl
theorem pcells_one (l : PL) : ∀ u ∈ pcells l, u.oneCell' = true := by
  intro u hu
  simp only [pcells, List.mem_flatMap] at hu
  obtain ⟨x, _, hx⟩ := hu
  rcases List.mem_cons.1 hx with rfl | hx
  · rfl
  · rcases List.mem_cons.1 hx with rfl | hx
    · rfl
    · cases hx
theorem propsB_small (l : PL) (h : propsB l = true) : l.length ≤ 8 ∧ ∀ x ∈ l, x.1.length ≤ 16 ∧ x.2.length ≤ 32 := by
  unfold propsB at h
  rw [Bool.and_eq_true, decide_eq_true_eq] at h
  exact ⟨h.1, fun x hx => by obtain ⟨h1, h2⟩ := propsFrom_small _ _ h.2 x hx; exact ⟨nameB_len _ h1, valB_len _ h2⟩⟩
end Go.Proofs.YtjdebhemoeojiaaDoor
namespace Go.Proofs.YtjdebhemoeojiaaDoor
open Go.RowKit

def getV (l : PL) (n : BS) : Value := .tuple #[.string ⟨((getP l n).getD []).toArray⟩, .bool (getP l n).isSome]
theorem find_none {l : PL} {n : BS} (h : ∀ x ∈ l, x.1 ≠ n) : getP l n = none := by
  unfold getP
  rw [List.find?_eq_none.2]
  · rfl
  · intro x hx e
    exact h x hx (beq_iff_eq.1 e)
theorem find_at {l : PL} {n : BS} {k : Nat} {x : BS × BS} (h : ∀ y ∈ l.take k, y.1 ≠ n) (hx : l[k]? = some x) (he : x.1 = n) : getP l n = some x.2 := by
  obtain ⟨hk, hxk⟩ := List.getElem?_eq_some_iff.1 hx
  have : l = l.take k ++ x :: l.drop (k + 1) := by
    rw [← hxk, ← List.drop_eq_getElem_cons hk, List.take_append_drop]
  rw [this]
  clear this hx hxk hk
  generalize l.take k = a at h ⊢
  induction a with
  | nil => rw [List.nil_append, getP_cons, if_pos he]
  | cons y a ih => rw [List.cons_append, getP_cons, if_neg (h y (List.mem_cons_self ..)), ih (fun z hz => h z (List.mem_cons_of_mem _ hz))]
end Go.Proofs.YtjdebhemoeojiaaDoor
namespace Go.Proofs.YtjdebhemoeojiaaDoor
open Go.RowKit

theorem quietN {P : Program} {f : FuncId} {args : Array Value} {w : World} {p m : Nat} {v : Value} (h : Calls P f args (w.drewN (p + m)) fun e w' => e = .returned v ∧ w' = w.drewN (p + m)) :
    Calls P f args (w.drewN (p + m)) fun e w'' => e = .returned v ∧ ∃ n, w'' = w.drewN (p + n) := h.mono fun _ _ ⟨h1, h2⟩ => ⟨h1, m, h2⟩
set_option maxRecDepth 100000 in
set_option maxHeartbeats 2000000 in
theorem refProps_any (l : PL) (n : Nat) (hnl : n = l.length) (A : Option Addr) (c : Nat) (w : World) (B : Nat) (hr : Reads w B 2 A n (pcells l)) (hn : n ≤ 5000000000000) (hv : ∀ x ∈ l, x.1.length ≤ 140737488351232 ∧ x.2.length ≤ 140737488351232) :
    Calls Tryd.prog 86 #[.slice A n c] w fun e w' => e = .returned (.int .i64 (propsE l)) ∧ ∃ q, w' = w.drewN q := by
  have HN := Lib.hid hnl
  obtain ⟨E, hE⟩ : ∃ E, E = propsE l := ⟨_, rfl⟩
  have hPE : Hid (∀ b, propsFrom none l = b → E = if b = true ∧ n ≤ 8 then 0 else 9) := by
    show ∀ b, _ → _
    rintro b rfl
    rw [hE]
    unfold propsE propsB
    rw [← hnl]
    by_cases h8 : n ≤ 8
    · simp [h8]
    · simp [h8]
  rw [← hE]
  clear hnl hE
  go_enter Tryd.func86, Tryd.ntmps86
  go_wp2_with fail
  go_loopw [3] (fun j wr => ∃ k : Nat, k ≤ n ∧ j = .int .i64 (k : Int) ∧ Hid (propsFrom none l = propsFrom (prevP l k) (l.drop k)) ∧ ∃ p, wr = w.drewN p) (fun j _ => n - (intOf j).toNat)
  case atStart => exact ⟨0, Nat.zero_le _, rfl, rfl, 0, rfl⟩
  case round =>
    obtain ⟨k, hk, rfl, hok, p, rfl⟩ := hrel
    by_cases hlt : k < n
    · obtain ⟨ad, rfl, hadB, c0, c1⟩ := hr.prop HN.out hlt
      have hki : (k : Int) < (n : Int) := by omega
      have hkl : k < l.length := by have := HN.out; omega
      obtain ⟨x, hx⟩ : ∃ x, x = l[k]'hkl := ⟨_, rfl⟩
      have hxl := hv x (by rw [hx]; exact List.getElem_mem _)
      rw [← hx] at c0 c1
      have hdr := List.drop_eq_getElem_cons hkl
      rw [← hx] at hdr
      have HX := Lib.hid hx
      have HDR := Lib.hid hdr
      obtain ⟨xn, xv⟩ := x
      simp only [strV] at c0 c1 hxl
      have hbad : Hid ((nameB xn = false ∨ valB xv = false ∨ (∃ y, prevP l k = some y ∧ Op.bytesLess y xn = false)) → E = 9) := by
        show _ → _
        intro h
        rw [hPE.out false]
        · rfl
        rw [hok.out, HDR.out, propsFrom_cons]
        rcases h with h | h | ⟨y, hy, h⟩
        · rw [h]; rfl
        · rw [h]; simp
        · rw [hy]; simp [h]
      have hgood : Hid (nameB xn = true → valB xv = true → (∀ y, prevP l k = some y → Op.bytesLess y xn = true) → propsFrom none l = propsFrom (prevP l (k + 1)) (l.drop (k + 1))) := by
        show _ → _ → _ → _
        intro h1 h2 h3
        rw [hok.out, HDR.out]
        have hp : prevP l (k + 1) = some xn := by
          show (l[k]?).map (·.1) = _
          rw [List.getElem?_eq_getElem hkl, ← HX.out]
          rfl
        rw [hp, propsFrom_cons, h1, h2]
        cases hq : prevP l k with
        | none => rfl
        | some y => simp [h3 y hq]
      have hN : ∀ m, Calls Tryd.prog 40 #[.string ⟨xn.toArray⟩] (w.drewN (p + m)) fun e W' => e = .returned (.bool (nameB xn)) ∧ ∃ n, W' = w.drewN (p + n) := fun m => quietN (refName_any xn _ hxl.1)
      have hV : ∀ m, Calls Tryd.prog 108 #[.string ⟨xv.toArray⟩] (w.drewN (p + m)) fun e W' => e = .returned (.bool (valB xv)) ∧ ∃ n, W' = w.drewN (p + n) := fun m => quietN (refValue_any xv _ hxl.2)
      clear hx hdr hok hxl hv
      obtain ⟨bn, hbn0⟩ : ∃ b, b = nameB xn := ⟨_, rfl⟩
      obtain ⟨bv, hbv0⟩ : ∃ b, b = valB xv := ⟨_, rfl⟩
      rw [← hbn0] at hbad hgood hN
      rw [← hbv0] at hbad hgood hV
      clear hbn0 hbv0
      cases bn with
      | false =>
        have HB := Lib.hid (hbad.out (.inl rfl))
        clear hr hbad hgood hV
        go_wp2_with fail
        go_big_quiet ((go_at_call 40; exact hN _))
        clear hN
        go_wp2_with fail
        go_ret
        exact ⟨by rw [HB.out]; rfl, _, World.drewN_drewN _ _ _⟩
      | true =>
        cases bv with
        | false =>
          have HB := Lib.hid (hbad.out (.inr (.inl rfl)))
          clear hr hbad hgood
          go_wp2_with fail
          go_big_quiet (first | (go_at_call 40; exact hN _) | (go_at_call 108; exact hV _))
          clear hN hV
          go_wp2_with fail
          go_ret
          exact ⟨by rw [HB.out]; rfl, _, World.drewN_drewN _ _ _⟩
        | true =>
          rcases Nat.eq_zero_or_pos k with h0 | h0
          · have HG := Lib.hid (hgood.out rfl rfl (fun y hy => by subst h0; cases hy))
            have d4 : decide ((0 : Int) < (k : Int)) = false := by simp; omega
            have d4' : decide (0 < k) = false := by simp; omega
            clear h0 hr hbad hgood
            go_wp2_with fail
            go_big_quiet (first | (go_at_call 40; exact hN _) | (go_at_call 108; exact hV _))
            clear hN hV
            go_wp2_with fail
            go_roundw
            case rel => exact ⟨k + 1, by omega, by go_num, HG, _, rfl⟩
            case measure => simp [intOf]; omega
          · have d4 : decide ((0 : Int) < (k : Int)) = true := by simp; omega
            have d4' : decide (0 < k) = true := by simp; omega
            have hk1l : k - 1 < l.length := by omega
            obtain ⟨y, hy⟩ : ∃ y, y = (l[k - 1]'hk1l).1 := ⟨_, rfl⟩
            have hpv : prevP l k = some y := by
              obtain ⟨j, rfl⟩ : ∃ j, k = j + 1 := ⟨k - 1, by omega⟩
              show (l[j]?).map (·.1) = _
              have hj : j < l.length := by simpa using hk1l
              rw [List.getElem?_eq_getElem hj, hy]
              rfl
            obtain ⟨ad2, e2, -, c2, -⟩ := (hr.prop HN.out (k := k - 1) (by omega))
            injection e2 with e2
            subst e2
            rw [← hy] at c2
            simp only [strV] at c2
            have i1 : (1 : Int) ≤ (k : Int) := by omega
            have i2 : (k : Int) - 1 < (n : Int) := by omega
            have i3 : IntKind.i64.wrap ((k : Int) - 1) = (k : Int) - 1 := IntWalk.i64_in _ (by omega)
            have i4 : ((k : Int) - 1).toNat = k - 1 := by omega
            have hleq := leqS 9 xn y
            cases hcmp : Op.bytesLess y xn with
            | true =>
              have HG := Lib.hid (hgood.out rfl rfl (fun y' hy' => by rw [hpv] at hy'; cases hy'; exact hcmp))
              have f1 : (Op.bytesLess xn y || xn == y) = false := by
                rw [Bool.or_eq_false_iff]
                refine ⟨?_, by simpa using (bl_ne hcmp).symm⟩
                rw [← Bool.not_eq_true]
                intro h
                have := bl_trans hcmp h
                rw [bl_irrefl] at this
                cases this
              rw [f1] at hleq
              clear hr hbad hgood h0 hpv hy hcmp f1
              go_wp2_with fail
              go_big_quiet (first | (go_at_call 40; exact hN _) | (go_at_call 108; exact hV _))
              clear hN hV hleq
              go_wp2_with fail
              go_roundw
              case rel => exact ⟨k + 1, by omega, by go_num, HG, _, rfl⟩
              case measure => simp [intOf]; omega
            | false =>
              have HB := Lib.hid (hbad.out (.inr (.inr ⟨y, hpv, hcmp⟩)))
              have f1 : (Op.bytesLess xn y || xn == y) = true := by
                by_cases e : xn = y
                · simp [e]
                · rw [bl_tri y xn hcmp (fun h => e h.symm)]; rfl
              rw [f1] at hleq
              clear hr hbad hgood h0 hpv hy hcmp f1
              go_wp2_with fail
              go_big_quiet (first | (go_at_call 40; exact hN _) | (go_at_call 108; exact hV _))
              clear hN hV hleq
              go_wp2_with fail
              go_ret
              exact ⟨by rw [HB.out]; rfl, _, World.drewN_drewN _ _ _⟩
    · have hkn : k = n := by omega
      have hF : Hid (E = if n ≤ 8 then 0 else 9) := by
        show _ = _
        rw [hPE.out true]
        · simp
        rw [hok.out, List.drop_of_length_le (by rw [hkn, HN.out]; exact Nat.le_refl _)]
        rfl
      clear hok hr hkn hPE
      by_cases h8 : n ≤ 8
      · have hi8 : ¬ (8 : Int) < (n : Int) := by omega
        have HV : Hid (E = 0) := by show _ = _; rw [hF.out, if_pos h8]
        clear hF
        go_wp2_with fail
        go_ret
        exact ⟨by rw [HV.out]; rfl, p, rfl⟩
      · have hi8 : (8 : Int) < (n : Int) := by omega
        have HV : Hid (E = 9) := by show _ = _; rw [hF.out, if_neg h8]
        clear hF
        go_wp2_with fail
        go_ret
        exact ⟨by rw [HV.out]; rfl, p, rfl⟩
end Go.Proofs.YtjdebhemoeojiaaDoor
namespace Go.Proofs.YtjdebhemoeojiaaDoor
open Go.RowKit

def leN (a b : BS) : Bool := Op.bytesLess a b || a == b
def rput (p : BS × BS) : Bool → PL → PL
  | d, [] => if d = true then [] else [p]
  | d, x :: l => (if (!d && leN p.1 x.1) = true then [p] else []) ++ (if x.1 = p.1 then [] else [x]) ++ rput p (d || leN p.1 x.1) l
theorem rput_cons (p : BS × BS) (d : Bool) (x : BS × BS) (l : PL) : rput p d (x :: l) = (if (!d && leN p.1 x.1) = true then [p] else []) ++ (if x.1 = p.1 then [] else [x]) ++ rput p (d || leN p.1 x.1) l := rfl
theorem rput_true (p : BS × BS) (l : PL) (h : ∀ x ∈ l, x.1 ≠ p.1) : rput p true l = l := by
  induction l with
  | nil => rfl
  | cons x l ih =>
    rw [rput_cons, if_neg (by simp), if_neg (h x (List.mem_cons_self ..)), Bool.true_or, ih (fun y hy => h y (List.mem_cons_of_mem _ hy))]
    rfl
theorem rput_put (p : BS × BS) (l : PL) (h : SortP l) : rput p false l = putP p l := by
  induction l with
  | nil => rfl
  | cons x l ih =>
    obtain ⟨h1, h2⟩ := List.pairwise_cons.1 h
    rw [rput_cons]
    unfold putP
    by_cases hp : Op.bytesLess p.1 x.1 = true
    · have hl : leN p.1 x.1 = true := by unfold leN; rw [hp]; rfl
      rw [if_pos hp, hl, if_pos (by rfl), if_neg (fun e => bl_ne hp e.symm), Bool.false_or, rput_true p l (fun y hy e => bl_ne (bl_trans hp (h1 y hy)) e.symm)]
      rfl
    rw [if_neg hp]
    by_cases hq : p.1 = x.1
    · have hl : leN p.1 x.1 = true := by unfold leN; rw [hq]; simp
      rw [if_pos hq, hl, if_pos (by rfl), if_pos hq.symm, Bool.false_or, rput_true p l (fun y hy e => bl_ne (h1 y hy) (by rw [e, hq]))]
      rfl
    · have hl : leN p.1 x.1 = false := by
        unfold leN
        rw [Bool.or_eq_false_iff]
        exact ⟨by simpa using hp, by simpa using hq⟩
      rw [if_neg hq, hl, if_neg (by decide), if_neg (fun e => hq e.symm), Bool.false_or, ih h2]
      rfl
structure PutS (h : Nat) (W0 W : World) (T : TypeId) (ad : Addr) (k : Nat) (xn xv pn pv : BS) (m : Nat) (A1 : Option Addr) (c1 : Nat) (O : PL) : Prop where
  c0 : W.cell? (ad.add (k * 2)) = some (.string ⟨xn.toArray⟩)
  e1 : W.cell? ⟨(ad.add (k * 2)).block, (ad.add (k * 2)).off + 1, none⟩ = some (.string ⟨xv.toArray⟩)
  p0 : W.cell? ⟨h, 0, none⟩ = some (.string ⟨pn.toArray⟩)
  p1 : W.cell? ⟨h, 1, none⟩ = some (.string ⟨pv.toArray⟩)
  hbw : Below (h + 1) W0 W
  hown : W.ownsRow (h + 1) T 2 (.slice A1 m c1) m (pcells O)
theorem PutS.drew {h : Nat} {W0 W : World} {T : TypeId} {ad : Addr} {k : Nat} {xn xv pn pv : BS} {m : Nat} {A1 : Option Addr} {c1 : Nat} {O : PL} (s : PutS h W0 W T ad k xn xv pn pv m A1 c1 O) : PutS h W0 W.drew T ad k xn xv pn pv m A1 c1 O :=
  ⟨s.c0, s.e1, s.p0, s.p1, s.hbw.drew, s.hown⟩
theorem PutS.push {h : Nat} {W0 W W' : World} {T : TypeId} {ad : Addr} {k : Nat} {xn xv pn pv : BS} {m m' : Nat} {A1 A2 : Option Addr} {c1 c2 : Nat} {O O' : PL} (s : PutS h W0 W T ad k xn xv pn pv m A1 c1 O) (hb : Below (h + 1) W W') (had : ad.block < h + 1) (ho : W'.ownsRow (h + 1) T 2 (.slice A2 m' c2) m' (pcells O')) : PutS h W0 W' T ad k xn xv pn pv m' A2 c2 O' :=
  ⟨(hb.cell (by rw [block_of_add]; exact had)).trans s.c0, (hb.cell (p := ⟨(ad.add (k * 2)).block, (ad.add (k * 2)).off + 1, none⟩) (by show (ad.add (k * 2)).block < _; rw [block_of_add]; exact had)).trans s.e1, (hb.cell (p := ⟨h, 0, none⟩) (by show h < h + 1; omega)).trans s.p0, (hb.cell (p := ⟨h, 1, none⟩) (by show h < h + 1; omega)).trans s.p1, s.hbw.trans hb, ho⟩
end Go.Proofs.YtjdebhemoeojiaaDoor
namespace Go.Proofs.YtjdebhemoeojiaaDoor
open Go.RowKit

theorem Tryd.delP_size : (Tryd.prog.info? 144).map (·.size) = some 2 := by kernel_rfl
theorem Tryd.delP_zero (w : World) : (zeroValue 144).run Tryd.prog w = .ok (.agg #[.string ByteArray.empty, .string ByteArray.empty]) w := by kernel_rfl
theorem delP_splice (cur : List Value) (n i c0 : Nat) (xs : List Value) (hx : cur.take (n * 2) = xs) (hi : i < n) (hn : n ≤ c0) (hl : cur.length = c0 * 2) (zs : List Value) (hz : zs.length = 1 * 2) :
    (splice (splice cur (i * 2) (xs.drop ((i + 1) * 2))) ((n - 1) * 2) zs).take ((n - 1) * 2) = xs.take (i * 2) ++ xs.drop ((i + 1) * 2) ∧ (splice (splice cur (i * 2) (xs.drop ((i + 1) * 2))) ((n - 1) * 2) zs).length = c0 * 2 := by
  have hxl : xs.length = n * 2 := by rw [← hx, List.length_take]; omega
  have hdl : (xs.drop ((i + 1) * 2)).length = (n - 1 - i) * 2 := by rw [List.length_drop, hxl]; omega
  have h1 : (splice cur (i * 2) (xs.drop ((i + 1) * 2))).length = c0 * 2 := by
    unfold splice
    simp only [List.length_append, List.length_take, List.length_drop] at hdl ⊢
    omega
  refine ⟨?_, ?_⟩
  · have e1 : (splice (splice cur (i * 2) (xs.drop ((i + 1) * 2))) ((n - 1) * 2) zs).take ((n - 1) * 2) = (splice cur (i * 2) (xs.drop ((i + 1) * 2))).take ((n - 1) * 2) := by
      show List.take _ (List.take _ (splice cur (i * 2) (xs.drop ((i + 1) * 2))) ++ (zs ++ _)) = _
      rw [List.take_append_of_le_length (by rw [List.length_take, h1]; omega), List.take_take, Nat.min_self]
    rw [e1]
    have hc : cur.take (i * 2) = xs.take (i * 2) := by rw [← hx, List.take_take, Nat.min_eq_left (by omega)]
    have hL : (xs.take (i * 2) ++ xs.drop ((i + 1) * 2)).length = (n - 1) * 2 := by rw [List.length_append, List.length_take, hdl, hxl]; omega
    show List.take _ (cur.take (i * 2) ++ (xs.drop ((i + 1) * 2) ++ _)) = _
    rw [hc, ← List.append_assoc, List.take_append_of_le_length (by rw [hL]; exact Nat.le_refl _)]
    exact List.take_of_length_le (by rw [hL]; exact Nat.le_refl _)
  · show (List.take _ (splice cur (i * 2) (xs.drop ((i + 1) * 2))) ++ (zs ++ List.drop _ _)).length = _
    rw [List.length_append, List.length_append, List.length_take, List.length_drop, h1, hz]
    omega
end Go.Proofs.YtjdebhemoeojiaaDoor
namespace Go.Proofs.YtjdebhemoeojiaaDoor
open Go.RowKit

theorem Tryd.cloneP_info : (Tryd.prog.info? 144).map (fun i => (i.zero, i.size, i.bytes)) = some (some (.agg #[.string ByteArray.empty, .string ByteArray.empty]), 2, 32) := by kernel_rfl
end Go.Proofs.YtjdebhemoeojiaaDoor
namespace Go.Proofs.YtjdebhemoeojiaaDoor
open Go.RowKit

theorem Tryd.insP_info : (Tryd.prog.info? 144).map (fun i => (i.zero, i.size, i.bytes)) = some (some (.agg #[.string ByteArray.empty, .string ByteArray.empty]), 2, 32) := by kernel_rfl
theorem Tryd.insP_size : (Tryd.prog.info? 144).map (·.size) = some 2 := by kernel_rfl
section
variable (news : Array Value) (hnl : news.size = 2) (h1n : ∀ u ∈ news.toList, u.oneCell' = true) (xs : List Value) (h1x : ∀ u ∈ xs, u.oneCell' = true) (vb : Nat) (T : TypeId) (base n i : Nat)
end
end Go.Proofs.YtjdebhemoeojiaaDoor
namespace Go.Proofs.YtjdebhemoeojiaaDoor
open Go.RowKit

def cfN (nm : BS) : BS × BS → Int := fun x => cmpS x.1 nm
theorem cfN_asc (l : PL) (h : SortP l) (nm : BS) : SignAsc (cfN nm) l := by
  intro i j x y hij hx hy hlt
  unfold cfN at hlt ⊢
  rw [cmpS_neg] at hlt ⊢
  obtain ⟨hi, hxi⟩ := List.getElem?_eq_some_iff.1 hx
  obtain ⟨hj, hyj⟩ := List.getElem?_eq_some_iff.1 hy
  have := List.pairwise_iff_getElem.1 h i j hi hj hij
  rw [hxi, hyj] at this
  exact bl_trans this hlt
theorem putP_split (p : BS × BS) (l : PL) : SortP l → putP p l = l.take (posF (cfN p.1) l) ++ [p] ++ l.drop (posF (cfN p.1) l + if atF (cfN p.1) l = true then 1 else 0) := by
  induction l with
  | nil => intro _; rfl
  | cons x l ih =>
    intro hs
    obtain ⟨h1, h2⟩ := List.pairwise_cons.1 hs
    rw [posF_cons, atF_cons]
    unfold putP
    by_cases hn : cfN p.1 x < 0
    · have hb : Op.bytesLess x.1 p.1 = true := (cmpS_neg _ _).1 hn
      have hnb : ¬ Op.bytesLess p.1 x.1 = true := fun h => by
        have := bl_trans hb h
        rw [bl_irrefl] at this
        cases this
      rw [if_neg hnb, if_neg (fun e => bl_ne hb e.symm), if_pos hn, if_pos hn, ih h2, Nat.add_right_comm]
      rfl
    · rw [if_neg hn, if_neg hn]
      by_cases hz : x.1 = p.1
      · have hz0 : (cfN p.1 x == 0) = true := by rw [beq_iff_eq]; exact (cmpS_zero _ _).2 hz
        rw [if_neg (by rw [hz, bl_irrefl]; simp), if_pos hz.symm, hz0]
        rfl
      · have hz0 : (cfN p.1 x == 0) = false := by rw [beq_eq_false_iff_ne]; exact fun e => hz ((cmpS_zero _ _).1 e)
        have hb : Op.bytesLess p.1 x.1 = true := by
          refine bl_tri x.1 p.1 ?_ hz
          rw [← Bool.not_eq_true]
          exact fun h => hn ((cmpS_neg _ _).2 h)
        rw [if_pos hb, hz0]
        rfl
theorem atF_get (l : PL) (nm : BS) (hs : SortP l) : atF (cfN nm) l = (getP l nm).isSome := by
  induction l with
  | nil => rfl
  | cons x l ih =>
    obtain ⟨h1, h2⟩ := List.pairwise_cons.1 hs
    rw [atF_cons, getP_cons]
    by_cases hn : cfN nm x < 0
    · have hb : Op.bytesLess x.1 nm = true := (cmpS_neg _ _).1 hn
      rw [if_pos hn, if_neg (bl_ne hb), ih h2]
    · rw [if_neg hn]
      by_cases hz : x.1 = nm
      · rw [if_pos hz]
        show _ = true
        rw [beq_iff_eq]
        exact (cmpS_zero _ _).2 hz
      · rw [if_neg hz]
        have hb : Op.bytesLess nm x.1 = true := by
          refine bl_tri x.1 nm ?_ hz
          rw [← Bool.not_eq_true]
          exact fun h => hn ((cmpS_neg _ _).2 h)
        rw [getP_small (fun y hy => bl_trans hb (h1 y hy))]
        show _ = false
        rw [beq_eq_false_iff_ne]
        exact fun e => hz ((cmpS_zero _ _).1 e)
def dropP (nm : BS) (l : PL) : PL := l.filter fun x => !(x.1 == nm)
theorem dropP_split (nm : BS) (l : PL) : SortP l → atF (cfN nm) l = true → dropP nm l = l.take (posF (cfN nm) l) ++ l.drop (posF (cfN nm) l + 1) := by
  induction l with
  | nil => intro _ h; cases h
  | cons x l ih =>
    intro hs hat
    obtain ⟨h1, h2⟩ := List.pairwise_cons.1 hs
    rw [atF_cons] at hat
    rw [posF_cons]
    unfold dropP
    by_cases hn : cfN nm x < 0
    · have hb : Op.bytesLess x.1 nm = true := (cmpS_neg _ _).1 hn
      rw [if_pos hn] at hat
      rw [if_pos hn, List.filter_cons_of_pos (by simpa using bl_ne hb)]
      show x :: dropP nm l = _
      rw [ih h2 hat]
      rfl
    · rw [if_neg hn, beq_iff_eq] at hat
      have hx : x.1 = nm := (cmpS_zero _ _).1 hat
      rw [if_neg hn, List.filter_cons_of_neg (by simp [hx])]
      show dropP nm l = l
      unfold dropP
      rw [List.filter_eq_self]
      intro y hy
      have := bl_ne (h1 y hy)
      rw [hx] at this
      simpa using this.symm
def setE (l : PL) (nm tx : BS) : Int := if propsB l = true then (if nameB nm = true then (if valB tx = true then (if (getP l nm).isSome = false ∧ l.length = 8 then 3 else 0) else 9) else 31) else 9
def PPost (w : World) (F : PL) (E : Int) (e : Ending) (w' : World) : Prop :=
  ∃ v, e = .returned (.tuple #[v, .int .i64 E]) ∧ (if E = 0 then w'.ownsRow w.heap.size 144 2 v F.length (pcells F) else v = .slice none 0 0) ∧ Below w.heap.size w w'
theorem pcells_K (l : PL) : pcells l = cellsK (fun x : BS × BS => [strV x.1, strV x.2]) l := rfl
theorem pcells_take (l : PL) (k : Nat) : pcells (l.take k) = (pcells l).take (k * 2) := cellsK_take (enc := fun x : BS × BS => [strV x.1, strV x.2]) (fun _ => rfl) l k
theorem pcells_drop (l : PL) (k : Nat) : pcells (l.drop k) = (pcells l).drop (k * 2) := cellsK_drop (enc := fun x : BS × BS => [strV x.1, strV x.2]) (fun _ => rfl) l k
end Go.Proofs.YtjdebhemoeojiaaDoor
namespace Go.Proofs.YtjdebhemoeojiaaDoor
open Go.RowKit

theorem set_atP (l : PL) (p : Nat) (nm tx : BS) (h : (l[p]?).any (fun x => cfN nm x == 0) = true) : (pcells l).set (p * 2 + 1) (.string ⟨tx.toArray⟩) = pcells (l.take p ++ [(nm, tx)] ++ l.drop (p + 1)) := by
  cases hp : l[p]? with
  | none => rw [hp] at h; simp at h
  | some x =>
    rw [hp] at h
    have hx : x.1 = nm := (cmpS_zero _ _).1 (by simpa [cfN] using h)
    obtain ⟨hlt, hpx⟩ := List.getElem?_eq_some_iff.1 hp
    have hl : l = l.take p ++ [x] ++ l.drop (p + 1) := by
      conv => lhs; rw [← List.take_append_drop p l]
      rw [List.drop_eq_getElem_cons hlt, hpx]
      simp
    conv => lhs; rw [hl]
    rw [pcells_append, pcells_append, pcells_append, pcells_append, List.append_assoc, List.append_assoc]
    rw [List.set_append_right _ _ (by rw [pcells_length, List.length_take]; omega), pcells_length, List.length_take, Nat.min_eq_left (by omega), show p * 2 + 1 - p * 2 = 1 by omega]
    subst hx
    rfl

def unsetE (l : PL) (nm : BS) : Int := if propsB l = true then (if (getP l nm).isSome = true then 0 else 71) else 9
end Go.Proofs.YtjdebhemoeojiaaDoor
namespace Go.Proofs.YtjdebhemoeojiaaDoor
open Go.RowKit

set_option maxRecDepth 100000 in
set_option maxHeartbeats 1000000 in
theorem sameP_any (a b : PL) (n m : Nat) (hna : n = a.length) (hmb : m = b.length) (A1 A2 : Option Addr) (c1 c2 : Nat) (w : World) (B1 B2 : Nat) (hr1 : Reads w B1 2 A1 n (pcells a)) (hr2 : Reads w B2 2 A2 m (pcells b)) (hn : n ≤ 5000000000000) (hm : m ≤ 5000000000000) :
    Calls Tryd.prog 133 #[.slice A1 n c1, .slice A2 m c2] w fun e w' => e = .returned (.bool (decide (a = b))) ∧ ∃ q, w' = w.drewN q := by
  have HN := Lib.hid hna
  have HM := Lib.hid hmb
  clear hna hmb
  by_cases hnm : n = m
  · subst hnm
    go_enter Tryd.func133, Tryd.ntmps133
    go_wp2_with fail
    go_loopw [13] (fun i wr => ∃ k : Nat, k ≤ n ∧ i = .int .i64 (k : Int) ∧ Hid (a.take k = b.take k) ∧ ∃ q, wr = w.drewN q) (fun i _ => n - (intOf i).toNat)
    case atStart => exact ⟨0, Nat.zero_le _, rfl, (show a.take 0 = b.take 0 by simp), 0, rfl⟩
    case round =>
      obtain ⟨k, hk, rfl, hok, q, rfl⟩ := hrel
      by_cases hlt : k < n
      · have hki : (k : Int) < (n : Int) := by omega
        have hka : k < a.length := by have := HN.out; omega
        have hkb : k < b.length := by have := HM.out; omega
        obtain ⟨ad1, rfl, _, hc1, hc1'⟩ := hr1.prop HN.out hlt
        obtain ⟨ad2, rfl, _, hc2, hc2'⟩ := hr2.prop HM.out hlt
        obtain ⟨x, hx⟩ : ∃ x, x = a[k]'hka := ⟨_, rfl⟩
        obtain ⟨y, hy⟩ : ∃ y, y = b[k]'hkb := ⟨_, rfl⟩
        rw [← hx] at hc1 hc1'
        rw [← hy] at hc2 hc2'
        have t1 := List.take_succ_eq_append_getElem hka
        have t2 := List.take_succ_eq_append_getElem hkb
        rw [← hx] at t1
        rw [← hy] at t2
        have T1 := Lib.hid t1
        have T2 := Lib.hid t2
        have X1 := Lib.hid hx
        have X2 := Lib.hid hy
        obtain ⟨xn, xv⟩ := x
        obtain ⟨yn, yv⟩ := y
        simp only [strV] at hc1 hc1' hc2 hc2'
        clear hx hy t1 t2 hr1 hr2
        by_cases hxy : xn = yn ∧ xv = yv
        · obtain ⟨rfl, rfl⟩ := hxy
          go_wp2_with fail
          go_region
          go_wp2_with fail
          go_roundw
          case rel =>
            refine ⟨k + 1, by omega, by go_num, ?_, q + 1, rfl⟩
            show a.take (k + 1) = b.take (k + 1)
            rw [T1.out, T2.out, hok.out]
          case measure => simp [intOf]; omega
        · have HD : Hid (decide (a = b) = false) := by
            show _ = _
            refine decide_eq_false (fun e => hxy ?_)
            have : (xn, xv) = (yn, yv) := by rw [X1.out, X2.out]; simp only [e]
            exact ⟨congrArg Prod.fst this, congrArg Prod.snd this⟩
          by_cases hxn : xn = yn
          · have hxv : ¬ xv = yv := fun e => hxy ⟨hxn, e⟩
            subst hxn
            clear hxy
            go_wp2_with fail
            go_region
            go_wp2_with fail
            go_ret
            exact ⟨by rw [HD.out]; rfl, q + 1, rfl⟩
          · clear hxy
            go_wp2_with fail
            go_region
            go_wp2_with fail
            go_ret
            exact ⟨by rw [HD.out]; rfl, q + 1, rfl⟩
      · have HD : Hid (decide (a = b) = true) := by
          show _ = _
          refine decide_eq_true ?_
          have := hok.out
          rwa [List.take_of_length_le (by have := HN.out; omega), List.take_of_length_le (by have := HM.out; omega)] at this
        clear hr1 hr2
        go_wp2_with fail
        go_ret
        exact ⟨by rw [HD.out]; rfl, q, rfl⟩
  · have hd : ((n : Int) != (m : Int)) = true := by simp; omega
    have HD : Hid (decide (a = b) = false) := by
      show _ = _
      refine decide_eq_false (fun e => hnm ?_)
      rw [HN.out, HM.out, e]
    clear hnm hr1 hr2
    go_enter Tryd.func133, Tryd.ntmps133
    go_wp2_with fail
    go_ret
    exact ⟨by rw [HD.out]; rfl, 0, rfl⟩
set_option maxRecDepth 100000 in
theorem psame_any (a b : PL) (n m : Nat) (hna : n = a.length) (hmb : m = b.length) (A1 A2 : Option Addr) (c1 c2 : Nat) (w : World) (B1 B2 : Nat) (hr1 : Reads w B1 2 A1 n (pcells a)) (hr2 : Reads w B2 2 A2 m (pcells b)) (hn : n ≤ 5000000000000) (hm : m ≤ 5000000000000) :
    Calls Tryd.prog 124 #[.slice A1 n c1, .slice A2 m c2] w fun e w' => e = .returned (.bool (decide (a = b))) ∧ ∃ q, w' = w.drewN q := by
  have hs := sameP_any a b n m hna hmb A1 A2 c1 c2 w B1 B2 hr1 hr2 hn hm
  clear hna hmb hr1 hr2
  go_enter Tryd.func124, Tryd.ntmps124
  go_wp2_with fail
  refine hs.mono ?_
  rintro e w1 ⟨rfl, q, rfl⟩
  go_wp2_with fail
  go_ret
  exact ⟨rfl, q, rfl⟩

end Go.Proofs.YtjdebhemoeojiaaDoor
