/-
  props.Over, by its contract.
  A property's value, looked up: plain.
  The page's Prop, by its contract.
  slices.Reverse at lists of properties: the row is turned in place.
  tree.Props: a set's properties with what it inherits.
  The page's Check as a number: two values; what it tells of the sets.
  tree.New at the page's example; the law's alive; the walk of the law TreeKids.
  The law TreeInherits: a set has each property of its own, and of those that it has none of its own what the one that it stands under has.
-/
import Derived.Test.YtbppdlhbjddhjaaGreatDoorLayS
import Derived.Test.YtbppdlhbjddhjaaGreatDoorPrLaw
import Derived.Test.YtbppdlhbjddhjaaGreatDoorPrCheck
import Derived.Shelf.SlIter.Nil
import Derived.Shelf.SortM.Plain
import Derived.Shelf.SortM.SortNone
import Derived.Maps.OwnSet
import Derived.Maps.StringElems
import Derived.Handy
import Derived.Test.YtbppdlhbjddhjaaGreatDoorRefPr
import Derived.Test.YtbppdlhbjddhjaaGreatDoorBase
import Derived.Test.YtbppdlhbjddhjaaGreatDoorRows
import Derived.Test.YtbppdlhbjddhjaaGreatDoorRcLaw
import Derived.Laws.OwnMore
import Derived.Test.YtbppdlhbjddhjaaGreatDoorTrChk
import Derived.Test.YtbppdlhbjddhjaaGreatDoorTrFind
import Derived.Test.YtbppdlhbjddhjaaGreatDoorNmPar
import Derived.Test.YtbppdlhbjddhjaaGreatDoorRfTr4
import Derived.Test.YtbppdlhbjddhjaaGreatDoorWide2
namespace Go.Proofs.YtbppdlhbjddhjaaGreatDoor
open Go.RowKit Go.Maps Go.Sort Go.Shelf

/-! ### a map that reads as a list of properties -/
structure MapIs (D : DataW Unit) (F : PL) : Prop where
  has : ∀ n : BS, Maps.has D (.string n) = (getP F n).isSome
  at_ : ∀ (n v : BS), getP F n = some v → ∀ z, D.atKey (.string n) z = .lit (.string v)
theorem isKey_str (x : BS) : WideAt.IsKeyLit (.string x) := by trivial
theorem MapIs.nil : MapIs (.map []) [] := ⟨fun _ => rfl, fun _ _ h => by cases h⟩
theorem MapIs.put {D : DataW Unit} {F : PL} (h : MapIs D F) (hD : IsMap D) (hF : SortP F) (p : BS × BS) : MapIs (D.put (.string p.1) (.lit (.string p.2))) (putP p F) := by
  refine ⟨fun n => ?_, fun n v hv z => ?_⟩
  · rw [getP_putP p F hF]
    by_cases hn : p.1 = n
    · subst hn
      rw [if_pos rfl, has_put_same hD (isKey_str _)]
      rfl
    · rw [if_neg hn, has_put_other (by intro e; exact hn (by simpa using e.symm)), h.has]
  · rw [getP_putP p F hF] at hv
    by_cases hn : p.1 = n
    · subst hn
      rw [if_pos rfl] at hv
      injection hv with hv
      subst hv
      exact atKey_put_same hD (isKey_str _) _ z
    · rw [if_neg hn] at hv
      rw [atKey_put_other (by intro e; exact hn (by simpa using e.symm))]
      exact h.at_ n v hv z
theorem getP_mem (F : PL) (n : BS) : (getP F n).isSome = true ↔ n ∈ F.map (·.1) := by
  induction F with
  | nil => simp [getP_nil]
  | cons x F ih =>
    rw [getP_cons, List.map_cons, List.mem_cons]
    by_cases h : x.1 = n
    · rw [if_pos h]; simp [h]
    · rw [if_neg h, ih]
      constructor
      · exact .inr
      · rintro (e | e)
        · exact absurd e.symm h
        · exact e
theorem names_nodup (F : PL) (h : SortP F) : (F.map (·.1)).Nodup := by
  refine List.pairwise_map.2 (h.imp fun h => bl_ne h)
theorem names_perm {D : DataW Unit} {F : PL} (h : MapIs D F) (hF : SortP F) {w : World} {R : Value → Option (DataW Unit × List MemPlace)} {b n : Nat} (hown : w.ownsMap Tryz.prog 9 R b n D) : (strKeys D).Perm (F.map (·.1)) ∧ Maps.size D = F.length := by
  have law : Keyed Tryz.prog 9 := string_keyed Tryz.underlying9
  obtain ⟨es, hD, hpw, _⟩ := hown.entries law
  obtain ⟨es', hD', hko⟩ := hown.keysOf
  obtain rfl : es = es' := by rw [hD] at hD'; simpa using hD'
  have hp := perm_strKeys hpw (fun p hp => by obtain ⟨v, hv⟩ := hko p hp; obtain ⟨x, _, hx, _⟩ := Maps.keyOf_str Tryz.underlying9 hv; exact ⟨x, hx⟩) (names_nodup F hF) (fun x => by rw [← getP_mem, ← hD, h.has])
  rw [← hD] at hp
  refine ⟨hp.symm, ?_⟩
  have := hp.length_eq
  rw [List.length_map] at this
  rw [this, hD]
  show es.length = (es.map fun p => strOf p.1).length
  rw [List.length_map]
theorem names_sorted {F : PL} (hF : SortP F) {ss : List BS} (h : ss.Perm (F.map (·.1))) : ss.mergeSort (fun x y => decide (x ≤ y)) = F.map (·.1) := by
  rw [mergeSort_of_perm h]
  refine List.mergeSort_of_pairwise ?_
  refine List.pairwise_map.2 (hF.imp fun {x y} h => ?_)
  rw [bytesLess_eq, decide_eq_true_eq] at h
  exact decide_eq_true (List.le_of_lt h)

/-! ### slices.Sorted(maps.Keys(m)) -/
theorem Tryz.sortsS (m : Nat) : AnyZ.SortsIn Tryz.prog Tryz.sortedS_ren Fence.wide m :=
  ⟨fun blk off cap ss W hH hblk hsz => callsIn_wide.2 (AnyM.slices_Sort_string Tryz.sortS blk off cap ss W hH hblk hsz),
   fun p cap W => callsIn_wide.2 (AnyM.slices_Sort_string_none Tryz.sortS p cap W)⟩
theorem keysS_any (mb : Option Nat) (W : World) : Calls Tryz.prog 129 #[.map mb] W fun e w' => e = .returned (.func (.func 161) #[] #[.pointer (some ⟨W.heap.size, 0, none⟩)]) ∧ w' = W.alloc (.cells #[.map mb] 154) :=
  (callsIn_wide (n := 5)).1 (AnyZ.keys_in Tryz.keysS Fence.wide 5 trivial rfl mb W)
theorem sortedS_any (b nn : Nat) (D0 : DataW Unit) (F : PL) (hI : MapIs D0 F) (hF : SortP F) (R : Value → Option (DataW Unit × List MemPlace)) (w : World) (hown : w.ownsMap Tryz.prog 9 R b nn D0) (hmax : F.length ≤ 1000000) :
    Calls Tryz.prog 128 #[.func (.func 161) #[] #[.pointer (some ⟨w.heap.size, 0, none⟩)]] (w.alloc (.cells #[.map (some b)] 154)) fun e w' => ∃ v, e = .returned v ∧
      w'.ownsRow w.heap.size 9 1 v F.length (F.map fun x => strV x.1) ∧ Below w.heap.size w w' := by
  obtain ⟨hperm, hsz⟩ := names_perm hI hF hown
  have hbl := hown.lt
  have hseq : SeqGives Fence.wide 2 Tryz.prog 161 #[.pointer (some ⟨w.heap.size, 0, none⟩)] encStr (fun ss => ss.Perm (strKeys D0)) (Maps.size D0) (w.alloc (.cells #[.map (some b)] 154)) :=
    AnyZ.keys_gives (ρ := Tryz.keysS_ren) { Tryz.keysS with } Fence.wide _ trivial rfl (by omega) w.heap.size b nn D0 _ (by simp) (by simp) (by
      obtain ⟨es, clock, hb, Ft, hs, hD⟩ := hown
      exact ⟨es, clock, (Below.heap_alloc _ _ b hbl).trans hb, Ft, hs, hD⟩)
  have cS := AnyZ.sorted_in Tryz.sortedS Fence.wide 5 trivial trivial trivial trivial rfl (by omega) (Tryz.sortsS _) (enters_of Tryz.func160 (by kernel_rfl) rfl) 161 #[.pointer (some ⟨w.heap.size, 0, none⟩)] trivial (enters_of Tryz.func161 (by kernel_rfl) rfl) _ _ (by unfold maxLen; omega) (by omega) _ hseq
  change CallsIn _ _ Tryz.prog 128 _ _ _ at cS
  refine ((callsIn_wide (n := 5)).1 cS).mono ?_
  rintro e w' ⟨v, ss, rfl, hS, hrow, _, hb⟩
  have hp := hS.trans hperm
  have hsl : ss.length = F.length := by rw [hp.length_eq, List.length_map]
  rw [names_sorted hF hp, hsl, List.map_map] at hrow
  exact ⟨v, rfl, own_mono hrow (by simp), ((Below.refl _ w).alloc (Nat.le_refl _) _).trans (hb.mono (by simp))⟩
theorem wpList_lookup_own_str {P : Program} (w : World) {ops : Array Oper} {rest : List Oper} {o : Oper} {a : Act} {Q : Exit → Act → World → Prop}
    (hg : o.guard = none) (m x : Operand) (t : TypeId) (hop : o.op = Op.lookup t m x false)
    (k e : TypeId) (K : Keyed P k) (ht : P.underlying t = some (.map k e)) (he : P.underlying e = some .string) (hz : (zeroValue e).run P w = .ok (.string ByteArray.empty) w) (b n : Nat) (D : DataW Unit)
    (hm : a.eval m = .map (some b)) (hown : w.ownsMap P k (plainElem P e) b n D) (key : Value) (kl : Lit) (hx : a.eval x = key) (hkey : keyOf P k key = some kl) (v : BS) (hv : ∀ z, D.atKey kl z = .lit (.string v))
    (hK : wpList P ops Q rest (a.put o.dst (.string ⟨v.toArray⟩)) w) :
    wpList P ops Q (o :: rest) a w := by
  refine wpList_plain hg fun K' hK' => ?_
  have hz2 : plainElem (H := Unit) P e (.string ByteArray.empty) = some (.lit (.string []), []) := plainElem_string he (by decide)
  obtain ⟨u, ps, hrun, hu⟩ := hown.lookup K ht hz hz2 hkey
  obtain ⟨s, rfl, hs, _⟩ := plainElem_string_inv he hu
  rw [hv] at hs
  simp only [Prod.mk.injEq, DataW.lit.injEq, Lit.string.injEq] at hs
  have hsv : s = ⟨v.toArray⟩ := by rw [hs.1]
  rw [hsv] at hrun
  unfold Oper.wp
  simp [execOp, hop, hm, hx, hrun, Result.andThen]
  exact hK' _ _ hK

/-! ### Over -/
def strOk (l : PL) : Prop := ∀ x ∈ l, x.1.length ≤ 140737488351232 ∧ x.2.length ≤ 140737488351232
structure PropsIn (w : World) (B : Nat) (v : Value) (l : PL) : Prop where
  ex : ∃ A n c, v = .slice A n c ∧ n = l.length ∧ n ≤ 5000000000000 ∧ Reads w B 2 A n (pcells l)
  ok : strOk l
theorem PropsIn.below {w W : World} {B : Nat} {v : Value} {l : PL} (h : PropsIn w B v l) (hb : Below B w W) : PropsIn W B v l := by
  obtain ⟨A, n, c, rfl, hn, hm, hr⟩ := h.ex
  exact ⟨⟨A, n, c, rfl, hn, hm, hr.below hb⟩, h.ok⟩
def overE (ls : List PL) : Int := if ls.all propsB = true then (if 8 < (allP ls.flatten).length then 3 else 0) else 9
def OverPost (w : World) (F : PL) (E : Int) (e : Ending) (w' : World) : Prop :=
  ∃ v, e = .returned (.tuple #[v, .int .i64 E]) ∧ (if E = 0 then w'.ownsRow w.heap.size 87 2 v F.length (pcells F) else v = .slice none 0 0) ∧ Below w.heap.size w w'
theorem Tryz.infoP : (Tryz.prog.info? 87).map (fun i => (i.zero, i.size, i.bytes)) = some (some (.agg #[.string ByteArray.empty, .string ByteArray.empty]), 2, 32) := by kernel_rfl
theorem Tryz.lawS : Keyed Tryz.prog 9 := string_keyed Tryz.underlying9
theorem Tryz.zeroS (w : World) : (zeroValue 9).run Tryz.prog w = .ok (.string ByteArray.empty) w := by kernel_rfl
theorem pcells_one (l : PL) : ∀ u ∈ pcells l, u.oneCell' = true := by
  intro u hu
  simp only [pcells, List.mem_flatMap] at hu
  obtain ⟨x, _, hx⟩ := hu
  rcases List.mem_cons.1 hx with rfl | hx
  · rfl
  · rcases List.mem_cons.1 hx with rfl | hx
    · rfl
    · cases hx
theorem propsB_small (l : PL) (h : propsB l = true) : l.length ≤ 8 ∧ ∀ x ∈ l, x.1.length ≤ 16 ∧ x.2.length ≤ 32 := by
  unfold propsB at h
  rw [Bool.and_eq_true, decide_eq_true_eq] at h
  exact ⟨h.1, fun x hx => by obtain ⟨h1, h2⟩ := propsFrom_small _ _ h.2 x hx; exact ⟨nameB_len _ h1, valB_len _ h2⟩⟩
set_option maxRecDepth 100000 in
set_option maxHeartbeats 2000000 in
theorem over_any (ls : List (Value × PL)) (n : Nat) (hnl : n = ls.length) (A : Option Addr) (c : Nat) (w : World) (B : Nat) (hr : Reads w B 1 A n (ls.map (·.1))) (hB : B ≤ w.heap.size)
    (hin : ∀ p ∈ ls, PropsIn w B p.1 p.2) (hn : n ≤ 1000000) :
    Calls Tryz.prog 78 #[.slice A n c] w (OverPost w (allP (ls.map (·.2)).flatten) (overE (ls.map (·.2)))) := by
  have hmm := @run_makeMap Tryz.prog
  obtain ⟨i0, hi0, hz0, hz1, hz2⟩ := info_parts Tryz.infoP
  have HN := Lib.hid hnl
  have HI := Lib.hid hin
  obtain ⟨F, hF⟩ : ∃ F, F = allP (ls.map (·.2)).flatten := ⟨_, rfl⟩
  obtain ⟨E, hE⟩ : ∃ E, E = overE (ls.map (·.2)) := ⟨_, rfl⟩
  rw [← hF, ← hE]
  have HF := Lib.hid hF
  have HEE := Lib.hid hE
  clear hnl hin hF hE
  go_enter Tryz.func78, Tryz.ntmps78
  go_wp2_with fail
  go_loopw [16] (fun i wr => ∃ (k : Nat) (D : DataW Unit) (m : Nat), k ≤ n ∧ m ≤ 8 * k ∧ i = .int .i64 (k : Int) ∧ wr.ownsMap Tryz.prog 9 (plainElem Tryz.prog 9) w.heap.size m D ∧ Hid (MapIs D (allP ((ls.take k).map (·.2)).flatten) ∧ (ls.take k).all (fun p => propsB p.2) = true) ∧ Below w.heap.size w wr)
    (fun i _ => n - (intOf i).toNat)
  case atStart => exact ⟨0, .map [], 0, Nat.zero_le _, Nat.zero_le _, rfl, World.ownsMap_made _ _ _ _, ⟨MapIs.nil, rfl⟩, (Below.refl _ _).alloc (Nat.le_refl _) _⟩
  case round =>
    obtain ⟨k, D, m, hk, hm8, rfl, hown, hI, hbw⟩ := hrel
    by_cases hlt : k < n
    · have hki : (k : Int) < (n : Int) := by omega
      have hkl : k < ls.length := by have := HN.out; omega
      obtain ⟨ad, u, rfl, _, hxu, hcell⟩ := (hr.below (hbw.mono hB)).at_ hlt
      obtain ⟨p, hp⟩ : ∃ p, p = ls[k]'hkl := ⟨_, rfl⟩
      have hup : u = p.1 := by
        rw [List.getElem?_map, List.getElem?_eq_getElem hkl] at hxu
        rw [hp]
        exact (Option.some.inj hxu).symm
      subst hup
      have hpl : p ∈ ls := by rw [hp]; exact List.getElem_mem _
      have htk := List.take_succ_eq_append_getElem hkl
      rw [← hp] at htk
      obtain ⟨⟨A2, n2, c2, hpv, hn2, hn2m, hr2⟩, hsok⟩ := HI.out p hpl
      obtain ⟨pv, l2⟩ := p
      simp only at hpv hn2 hr2 hsok hcell
      subst hpv
      have hck := checkP_any l2 n2 hn2 A2 c2 wr B (hr2.below (hbw.mono hB)) (Nat.le_trans hB hbw.size) (by omega) (fun x hx => (hsok x hx).2)
      have HPL := Lib.hid hpl
      have HTK := Lib.hid htk
      have HN2 := Lib.hid hn2
      clear hp hpl htk hxu hr hn2
      obtain ⟨b, hb⟩ : ∃ b, b = propsB l2 := ⟨_, rfl⟩
      have hPE : propsE l2 = if b = true then 0 else 9 := by rw [hb]; rfl
      rw [hPE] at hck
      have HBB := Lib.hid hb
      clear hPE hb
      cases b with
      | false =>
        have hE : Hid (E = 9) := by
          show _ = _
          rw [HEE.out]
          unfold overE
          rw [if_neg]
          rw [List.all_eq_true]
          intro h
          have := h l2 (List.mem_map.2 ⟨_, HPL.out, rfl⟩)
          rw [← HBB.out] at this
          cases this
        rw [if_neg (by simp)] at hck
        clear hr2 hown
        go_wp2_with fail
        refine hck.mono ?_
        clear hck
        rintro e w1 ⟨rfl, hb1⟩
        have hb2 := hbw.trans (hb1.mono hbw.size)
        go_wp2_with fail
        go_ret2
        exact ⟨.slice none 0 0, by rw [hE.out]; rfl, by rw [hE.out, if_neg (by decide)], hb2⟩
      | true =>
        rw [if_pos rfl] at hck
        obtain ⟨hl8, hsm⟩ := propsB_small l2 HBB.out.symm
        have hn8 : n2 ≤ 8 := by have := HN2.out; omega
        have HSM := Lib.hid hsm
        clear hsm hl8 hsok
        go_wp2_with fail
        refine hck.mono ?_
        clear hck
        rintro e w1 ⟨rfl, hb1⟩
        have hbw1 := hbw.trans (hb1.mono hbw.size)
        have hown1 : w1.ownsMap Tryz.prog 9 (plainElem Tryz.prog 9) w.heap.size m D := hown.kept (row := none) ⟨hb1.os, hb1.tape, hb1.output, hb1.size, fun j hj _ => hb1.block j hj⟩ (by simp)
        clear hown hb1
        go_wp2_with fail
        obtain ⟨pre, hpre⟩ : ∃ pre, pre = ((ls.take k).map (·.2)).flatten := ⟨_, rfl⟩
        rw [← hpre] at hI
        have HPRE : Hid (((ls.take (k + 1)).map (·.2)).flatten = pre ++ l2) := by show _ = _; rw [HTK.out, hpre]; simp
        have HALL : Hid ((ls.take (k + 1)).all (fun p => propsB p.2) = true) := by show _ = _; rw [HTK.out, List.all_append, hI.out.2]; simp [HBB.out.symm]
        have hI0 := Lib.hid hI.out.1
        clear hI hpre
        go_loopw [27] (fun i wr => ∃ (j : Nat) (D : DataW Unit) (m : Nat), j ≤ n2 ∧ m ≤ 8 * k + j ∧ i = .int .i64 (j : Int) ∧ wr.ownsMap Tryz.prog 9 (plainElem Tryz.prog 9) w.heap.size m D ∧ Hid (MapIs D (allP (pre ++ l2.take j))) ∧ Below w.heap.size w wr)
          (fun i _ => n2 - (intOf i).toNat)
        case atStart => exact ⟨0, D, m, Nat.zero_le _, by omega, rfl, hown1, (show MapIs D _ by rw [List.take_zero, List.append_nil]; exact hI0.out), hbw1⟩
        case round =>
          clear hown1 hm8 hI0
          obtain ⟨j, D, m, hj, hmj, rfl, hown, hIj, hbw2⟩ := hrel
          by_cases hlt2 : j < n2
          · have hji : (j : Int) < (n2 : Int) := by omega
            have hjl : j < l2.length := by have := HN2.out; omega
            obtain ⟨ad2, rfl, hadB, c0, c1⟩ := (hr2.below (hbw2.mono hB)).prop HN2.out hlt2
            obtain ⟨x, hx⟩ : ∃ x, x = l2[j]'hjl := ⟨_, rfl⟩
            have hxs := HSM.out x (by rw [hx]; exact List.getElem_mem _)
            have htk2 := List.take_succ_eq_append_getElem hjl
            rw [← hx] at c0 c1 htk2
            have hDp : Hid (∀ (hD : IsMap D), MapIs (D.put (.string x.1) (.lit (.string x.2))) (allP (pre ++ l2.take (j + 1)))) := by
              show ∀ _, _
              intro hD
              rw [htk2, ← List.append_assoc, allP_snoc]
              exact hIj.out.put hD (sort_allP _) x
            obtain ⟨xn, xv⟩ := x
            simp only [strV] at c0 c1 hxs hDp
            have hkey : keyOf Tryz.prog 9 (.string ⟨xn.toArray⟩) = some (.string xn) := Go.WideMaps.keyOf_string_mk Tryz.underlying9 (by show xn.length ≤ maxLen; unfold maxLen; omega)
            have hval : plainElem (H := Unit) Tryz.prog 9 (.string ⟨xv.toArray⟩) = some (.lit (.string xv), []) := plainElem_string Tryz.underlying9 (by show xv.length ≤ maxLen; unfold maxLen; omega)
            have hmx : m < maxLen := by unfold maxLen; omega
            have hIM := hown.isMap
            have HD2 := Lib.hid (hDp.out hIM)
            have hown2 := hown.alloc (.cells #[.string ⟨xn.toArray⟩, .string ⟨xv.toArray⟩] 87)
            have hbw3 := hbw2.alloc hbw2.size (.cells #[.string ⟨xn.toArray⟩, .string ⟨xv.toArray⟩] 87)
            clear hx htk2 hr2 hown hDp hIM hxs
            go_wp2_with (first
              | (at_mapUpdate; refine wpList_mapUpdate_own _ rfl _ _ _ 154 rfl 9 9 Tryz.lawS Tryz.underlying154 _ w.heap.size _ _ rfl hown2 hmx _ _ _ rfl rfl hkey _ [] hval ?_)
              | go_in)
            intro w2 hown3 hgrow
            have R1 := hbw3.grown hgrow hbw3.size (fun j hj => by cases hj; exact Nat.le_refl _)
            clear hgrow hown2 c0 c1
            go_wp2_with fail
            go_roundw
            case rel => exact ⟨j + 1, _, m + 1, by omega, by omega, by go_num, hown3, HD2, R1⟩
            case measure => simp [intOf]; omega
          · have hjn : j = n2 := by omega
            have HI2 : Hid (MapIs D (allP ((ls.take (k + 1)).map (·.2)).flatten) ∧ (ls.take (k + 1)).all (fun p => propsB p.2) = true) := by
              refine ⟨?_, HALL.out⟩
              rw [HPRE.out]
              have := hIj.out
              rwa [List.take_of_length_le (by have := HN2.out; omega)] at this
            clear hr2 hjn
            go_wp2_with fail
            go_roundw
            case rel => exact ⟨k + 1, D, m, by omega, by omega, by go_num, hown, HI2, hbw2⟩
            case measure => simp [intOf]; omega
    · have hkn : k = n := by omega
      have hall : ls.take k = ls := List.take_of_length_le (by have := HN.out; omega)
      obtain ⟨hI1, hI2⟩ := hI.out
      rw [hall] at hI1 hI2
      have hsF : SortP F := by rw [HF.out]; exact sort_allP _
      rw [← HF.out] at hI1
      obtain ⟨hperm, hsz⟩ := names_perm hI1 hsF hown
      have HE : Hid (E = if 8 < F.length then 3 else 0) := by
        show _ = _
        rw [HEE.out]
        unfold overE
        rw [if_pos (by rw [List.all_map]; exact hI2), HF.out]
      have HI2 := Lib.hid hI2
      clear hall hI hI2 hr hkn hperm
      have HI1 := Lib.hid hI1
      have HSF := Lib.hid hsF
      clear hI1 hsF
      obtain ⟨q, hq⟩ : ∃ q, q = F.length := ⟨_, rfl⟩
      rw [← hq] at hsz HE
      have HQ := Lib.hid hq
      clear hq
      by_cases hq8 : 8 < q
      · have HE3 : Hid (E = 3) := by show _ = _; rw [HE.out, if_pos hq8]
        have hi8 : (8 : Int) < (q : Int) := by omega
        clear HE
        go_wp2_with (at_len; refine wpList_len_own _ rfl _ 154 rfl 9 9 Tryz.underlying154 _ w.heap.size _ D rfl hown ?_)
        go_ret2
        exact ⟨.slice none 0 0, by rw [HE3.out]; rfl, by rw [HE3.out, if_neg (by decide)], hbw⟩
      · have HE0 : Hid (E = 0) := by show _ = _; rw [HE.out, if_neg hq8]
        have hi8 : ¬ (8 : Int) < (q : Int) := by omega
        have hk1 := fun W => keysS_any (some w.heap.size) W
        have hk2 := sortedS_any w.heap.size _ D F HI1.out HSF.out _ wr hown (by have := HQ.out; omega)
        rw [← HQ.out] at hk2
        have hmlt := hown.lt
        clear HE
        go_wp2_with (at_len; refine wpList_len_own _ rfl _ 154 rfl 9 9 Tryz.underlying154 _ w.heap.size _ D rfl hown ?_)
        refine (hk1 _).mono ?_
        rintro e w1 ⟨rfl, rfl⟩
        go_wp2_with fail
        refine hk2.mono ?_
        rintro e w2 ⟨v, rfl, hrow, hb⟩
        have hown2 : w2.ownsMap Tryz.prog 9 (plainElem Tryz.prog 9) w.heap.size m D := hown.kept (row := none) ⟨hb.os, hb.tape, hb.output, hb.size, fun j hj _ => hb.block j hj⟩ (by simp)
        have hb2 := hbw.trans (hb.mono hbw.size)
        obtain ⟨A3, c3, rfl, h31, _, r3⟩ := own_form hrow
        have hml2 := hown2.lt
        have hs2 := hb2.size
        have HOWN := Lib.hid hown2
        clear hown hown2 hrow hk1 hk2 hb hmlt hbw hsz
        go_wp2_with fail
        go_loopw [10, 45] (fun o i wr => ∃ (j : Nat) (A1 : Option Addr) (c1 : Nat), j ≤ q ∧ i = .int .i64 (j : Int) ∧ o = .slice A1 j c1 ∧ wr.ownsRow w2.heap.size 87 2 (.slice A1 j c1) j (pcells (F.take j)) ∧ Below w2.heap.size w2 wr)
          (fun _ i _ => q - (intOf i).toNat)
        case atStart => exact ⟨0, none, 0, Nat.zero_le _, rfl, rfl, ⟨rfl, .inl ⟨rfl, rfl⟩⟩, Below.refl _ _⟩
        case round =>
          obtain ⟨j, A1, c1, hj, rfl, rfl, hro, hbj⟩ := hrel
          by_cases hlt2 : j < q
          · have hji : (j : Int) < (q : Int) := by omega
            have hjl : j < F.length := by have := HQ.out; omega
            obtain ⟨ad, u, rfl, _, hxu, hcell⟩ := (r3.below hbj).at_ hlt2
            obtain ⟨x, hx⟩ : ∃ x, x = F[j]'hjl := ⟨_, rfl⟩
            have hux : u = strV x.1 := by
              rw [List.getElem?_map, List.getElem?_eq_getElem hjl] at hxu
              rw [hx]
              exact (Option.some.inj hxu).symm
            subst hux
            have htk := List.take_succ_eq_append_getElem hjl
            rw [← hx] at htk
            have hget : getP F x.1 = some x.2 := by
              have hm : x ∈ F := by rw [hx]; exact List.getElem_mem _
              obtain ⟨n1, hn1⟩ := Option.isSome_iff_exists.1 ((getP_mem F x.1).2 (List.mem_map_of_mem hm))
              rw [hn1]
              congr 1
              unfold getP at hn1
              obtain ⟨y, hy, hyv⟩ := Option.map_eq_some_iff.1 hn1
              have h1 := List.mem_of_find?_eq_some hy
              have h2 : y.1 = x.1 := beq_iff_eq.1 (List.find?_some (p := fun z : BS × BS => z.1 == x.1) hy)
              have h3 : y = x := by
                obtain ⟨a, ha, hya⟩ := List.getElem_of_mem h1
                obtain ⟨b, hb, hxb⟩ := List.getElem_of_mem hm
                have hpw := List.pairwise_iff_getElem.1 HSF.out
                have hab : a = b := by
                  rcases Nat.lt_trichotomy a b with h | h | h
                  · exact absurd (by rw [hya, hxb]; exact h2) (bl_ne (hpw a b ha hb h))
                  · exact h
                  · exact absurd (by rw [hya, hxb]; exact h2.symm) (bl_ne (hpw b a hb ha h))
                subst hab
                rw [← hya, ← hxb]
              rw [← hyv, h3]
            have hat := HI1.out.at_ x.1 x.2 hget
            obtain ⟨xn, xv⟩ := x
            simp only [strV] at hcell hat
            have HT : Hid (pcells (F.take (j + 1)) = pcells (F.take j) ++ [.string ⟨xn.toArray⟩, .string ⟨xv.toArray⟩]) := by show _ = _; rw [htk, pcells_append]; rfl
            have hxl : xn.length ≤ maxLen := by
              have h1 := HF.out
              have hsmall : ∀ (L : PL), (∀ y ∈ L, y.1.length ≤ 16) → ∀ y ∈ allP L, y.1.length ≤ 16 := by
                intro L hL
                induction L using snoc_ind with
                | h0 => intro y hy; cases hy
                | h1 L p ih =>
                  intro y hy
                  rw [allP_snoc] at hy
                  rcases mem_putP p _ y hy with rfl | hy
                  · exact hL _ (by simp)
                  · exact ih (fun z hz => hL z (by simp [hz])) y hy
              have h2 := hsmall (ls.map (·.2)).flatten (by
                intro y hy
                obtain ⟨l2, hl2, hy2⟩ := List.mem_flatten.1 hy
                obtain ⟨p, hp, rfl⟩ := List.mem_map.1 hl2
                exact ((propsB_small p.2 (List.all_eq_true.1 HI2.out p hp)).2 y hy2).1) (xn, xv) (by rw [← h1, hx]; exact List.getElem_mem _)
              unfold maxLen
              simp only at h2
              omega
            have hkey : keyOf Tryz.prog 9 (.string ⟨xn.toArray⟩) = some (.string xn) := Go.WideMaps.keyOf_string_mk Tryz.underlying9 hxl
            have hownj : wr.ownsMap Tryz.prog 9 (plainElem Tryz.prog 9) w.heap.size m D := HOWN.out.kept (row := none) ⟨hbj.os, hbj.tape, hbj.output, hbj.size, fun i hi _ => hbj.block i hi⟩ (by simp)
            have hsj := hbj.size
            clear hx htk hxu hget hxl r3
            go_wp2_with (first
              | (at_lookup; refine wpList_lookup_own_str _ rfl _ _ 154 rfl 9 9 Tryz.lawS Tryz.underlying154 Tryz.underlying9 (Tryz.zeroS _) w.heap.size m D rfl hownj _ _ rfl hkey xv hat ?_)
              | (at_builtin; (refine wpList_push _ rfl (.tmp 49) (.tmp 55) 52 rfl w2.heap.size 87 i0 (.agg #[.string ByteArray.empty, .string ByteArray.empty]) 2 32 Tryz.underlying52 hi0 hz0 hz1 hz2 rfl (by decide) (.slice A1 j c1) j (pcells (F.take j)) rfl hro 1 #[.string ⟨xn.toArray⟩, .string ⟨xv.toArray⟩] 87 rfl rfl (by simp [Value.oneCell']) (by unfold maxLen; omega) (by omega) hsj ?_); intro v4 w4 hown4 hb4 hg4))
            obtain ⟨A4, c4, rfl, _, _, _⟩ := own_form hown4
            have hb5 := hbj.trans hb4
            have HO : Hid (w4.ownsRow w2.heap.size 87 2 (.slice A4 (j + 1) c4) (j + 1) (pcells (F.take (j + 1)))) := by show World.ownsRow _ _ _ _ _ _ _; rw [HT.out]; exact hown4
            clear hown4 hb4 hg4 hownj hro hbj
            go_wp2_with fail
            go_roundw
            case rel => exact ⟨j + 1, A4, c4, by omega, by go_num, rfl, HO.out, hb5⟩
            case measure => simp [intOf]; omega
          · have hjq : j = q := by omega
            have HT : Hid (pcells (F.take j) = pcells F ∧ j = F.length) := ⟨by rw [List.take_of_length_le (by have := HQ.out; omega)], by have := HQ.out; omega⟩
            have hbb := hb2.trans (hbj.mono hs2)
            clear r3 hjq
            go_wp2_with fail
            go_ret2
            refine ⟨_, by rw [HE0.out]; rfl, ?_, hbb⟩
            rw [if_pos HE0.out]
            have := own_mono hro hs2
            rw [HT.out.1] at this
            rw [← HT.out.2]
            exact this
end Go.Proofs.YtbppdlhbjddhjaaGreatDoor
namespace Go.Proofs.YtbppdlhbjddhjaaGreatDoor
open Go.RowKit

def getV (l : PL) (n : BS) : Value := .tuple #[.string ⟨((getP l n).getD []).toArray⟩, .bool (getP l n).isSome]
theorem find_none {l : PL} {n : BS} (h : ∀ x ∈ l, x.1 ≠ n) : getP l n = none := by
  unfold getP
  rw [List.find?_eq_none.2]
  · rfl
  · intro x hx e
    exact h x hx (beq_iff_eq.1 e)
theorem find_at {l : PL} {n : BS} {k : Nat} {x : BS × BS} (h : ∀ y ∈ l.take k, y.1 ≠ n) (hx : l[k]? = some x) (he : x.1 = n) : getP l n = some x.2 := by
  obtain ⟨hk, hxk⟩ := List.getElem?_eq_some_iff.1 hx
  have : l = l.take k ++ x :: l.drop (k + 1) := by
    rw [← hxk, ← List.drop_eq_getElem_cons hk, List.take_append_drop]
  rw [this]
  clear this hx hxk hk
  generalize l.take k = a at h ⊢
  induction a with
  | nil => rw [List.nil_append, getP_cons, if_pos he]
  | cons y a ih => rw [List.cons_append, getP_cons, if_neg (h y (List.mem_cons_self ..)), ih (fun z hz => h z (List.mem_cons_of_mem _ hz))]
end Go.Proofs.YtbppdlhbjddhjaaGreatDoor
namespace Go.Proofs.YtbppdlhbjddhjaaGreatDoor
open Go.RowKit

set_option maxRecDepth 100000 in
set_option maxHeartbeats 1000000 in
theorem refProp_any (l : PL) (nm : BS) (n : Nat) (hnl : n = l.length) (A : Option Addr) (c : Nat) (w : World) (B : Nat) (hr : Reads w B 2 A n (pcells l)) (hn : n ≤ 5000000000000) :
    Calls Tryz.prog 29 #[.slice A n c, .string ⟨nm.toArray⟩] w fun e w' => e = .returned (getV l nm) ∧ ∃ q, w' = w.drewN q := by
  have HN := Lib.hid hnl
  obtain ⟨V, hV⟩ : ∃ V, V = getV l nm := ⟨_, rfl⟩
  rw [← hV]
  have HV := Lib.hid hV
  clear hnl hV
  go_enter Tryz.func29, Tryz.ntmps29
  go_wp2_with fail
  go_loopw [6] (fun i wr => ∃ k : Nat, k ≤ n ∧ i = .int .i64 (k : Int) ∧ Hid (∀ y ∈ l.take k, y.1 ≠ nm) ∧ ∃ q, wr = w.drewN q) (fun i _ => n - (intOf i).toNat)
  case atStart => exact ⟨0, Nat.zero_le _, rfl, (show ∀ y ∈ _, _ by simp), 0, rfl⟩
  case round =>
    obtain ⟨k, hk, rfl, hno, q, rfl⟩ := hrel
    by_cases hlt : k < n
    · have hki : (k : Int) < (n : Int) := by omega
      have hkl : k < l.length := by have := HN.out; omega
      obtain ⟨ad, rfl, hadB, c0, c1⟩ := hr.prop HN.out hlt
      obtain ⟨x, hx⟩ : ∃ x, x = l[k]'hkl := ⟨_, rfl⟩
      rw [← hx] at c0 c1
      have htk := List.take_succ_eq_append_getElem hkl
      rw [← hx] at htk
      have HTK := Lib.hid htk
      have HX := Lib.hid (show l[k]? = some x by rw [hx]; exact List.getElem?_eq_getElem _)
      obtain ⟨xn, xv⟩ := x
      simp only [strV] at c0 c1
      clear hx htk hr
      by_cases hxn : xn = nm
      · have hd : (xn == nm) = true := by simp [hxn]
        have hG := find_at hno.out HX.out hxn
        have HVV : Hid (V = .tuple #[.string ⟨xv.toArray⟩, .bool true]) := by show _ = _; rw [HV.out]; unfold getV; rw [hG]; rfl
        clear hxn hG
        go_wp2_with fail
        go_ret2
        exact ⟨by rw [HVV.out]; rfl, q, rfl⟩
      · have hd : (xn == nm) = false := by simp [hxn]
        have HX2 := Lib.hid hxn
        clear hxn
        go_wp2_with fail
        go_roundw
        case rel =>
          refine ⟨k + 1, by omega, by go_num, ?_, q, rfl⟩
          show ∀ y ∈ _, _
          intro y hy
          rw [HTK.out, List.mem_append, List.mem_singleton] at hy
          rcases hy with hy | rfl
          · exact hno.out y hy
          · exact HX2.out
        case measure => simp [intOf]; omega
    · have HVV : Hid (V = .tuple #[.string ByteArray.empty, .bool false]) := by
        show _ = _
        rw [HV.out]
        unfold getV
        have := hno.out
        rw [List.take_of_length_le (by have := HN.out; omega)] at this
        rw [find_none this]
        rfl
      clear hr
      go_wp2_with fail
      go_ret2
      exact ⟨by rw [HVV.out]; rfl, q, rfl⟩

end Go.Proofs.YtbppdlhbjddhjaaGreatDoor
namespace Go.Proofs.YtbppdlhbjddhjaaGreatDoor
open Go.RowKit

/-- the first k and the last k of a list have changed places -/
def RevTo (xs ys : List Value) (k : Nat) : Prop := ys.length = xs.length ∧ ∀ q, q < xs.length → ys[q]? = if q < k ∨ xs.length - 1 - q < k then xs[xs.length - 1 - q]? else xs[q]?
theorem RevTo.start (xs : List Value) : RevTo xs xs 0 := ⟨rfl, fun q _ => by rw [if_neg (by omega)]⟩
theorem RevTo.step {xs ys : List Value} {k : Nat} (h : RevTo xs ys k) (hk : k < xs.length - 1 - k) {a b : Value} (ha : ys[k]? = some a) (hb : ys[xs.length - 1 - k]? = some b) : RevTo xs ((ys.set k b).set (xs.length - 1 - k) a) (k + 1) := by
  have h1 : xs[k]? = some a := by rw [← ha, h.2 k (by omega), if_neg (by omega)]
  have h2 : xs[xs.length - 1 - k]? = some b := by rw [← hb, h.2 _ (by omega), if_neg (by omega)]
  refine ⟨by simp [h.1], fun q hq => ?_⟩
  have hl := h.1
  rw [List.getElem?_set, List.getElem?_set]
  by_cases e1 : xs.length - 1 - k = q
  · rw [if_pos e1, if_pos (by rw [List.length_set]; omega), if_pos (by omega), ← h1]
    congr 1
    omega
  · rw [if_neg e1]
    by_cases e2 : k = q
    · rw [if_pos e2, if_pos (by omega), if_pos (by omega), ← h2, e2]
    · rw [if_neg e2, h.2 q hq]
      by_cases e3 : q < k ∨ xs.length - 1 - q < k
      · rw [if_pos e3, if_pos (by omega)]
      · rw [if_neg e3, if_neg (by omega)]
theorem RevTo.done {xs ys : List Value} {k : Nat} (h : RevTo xs ys k) (hk : ¬ (k : Int) < (xs.length : Int) - 1 - k) : ys = xs.reverse := by
  apply List.ext_getElem?
  intro q
  by_cases hq : q < xs.length
  · rw [h.2 q hq, List.getElem?_reverse hq]
    by_cases e3 : q < k ∨ xs.length - 1 - q < k
    · rw [if_pos e3]
    · rw [if_neg e3]
      congr 1
      omega
  · rw [List.getElem?_eq_none (by rw [h.1]; omega), List.getElem?_eq_none (by rw [List.length_reverse]; omega)]
theorem RevTo.slices {xs ys : List Value} {k : Nat} (h : RevTo xs ys k) (hs : ∀ v ∈ xs, ∃ A n c, v = Value.slice A n c) : ∀ v ∈ ys, ∃ A n c, v = Value.slice A n c := by
  intro v hv
  obtain ⟨q, hq, rfl⟩ := List.getElem_of_mem hv
  have h1 := h.2 q (by rw [← h.1]; exact hq)
  rw [List.getElem?_eq_getElem hq] at h1
  split at h1
  · exact hs _ (List.mem_of_getElem? h1.symm)
  · exact hs _ (List.mem_of_getElem? h1.symm)
set_option maxRecDepth 100000 in
set_option maxHeartbeats 2000000 in
theorem reverse_any (xs : List Value) (hs : ∀ v ∈ xs, ∃ A n c, v = Value.slice A n c) (v0 : Value) (base : Nat) (w : World) (hown : w.ownsRow base 52 1 v0 xs.length xs) (hn : xs.length ≤ 1000000) :
    Calls Tryz.prog 77 #[v0] w fun e w' => e = .returned (.tuple #[]) ∧ w'.ownsRow base 52 1 v0 xs.length xs.reverse ∧ w.grownBy w' v0.ownBlock := by
  obtain ⟨A, c, rfl, hnc, _, _⟩ := own_form hown
  obtain ⟨n, hnl⟩ : ∃ n, n = xs.length := ⟨_, rfl⟩
  have HNL := Lib.hid hnl
  rw [← hnl] at hown hn hnc ⊢
  have HO : Hid (w.ownsRow base 52 1 (.slice A n c) n xs) := hown
  have hsub : IntKind.i64.wrap ((n : Int) - 1) = (n : Int) - 1 := IntWalk.i64_in _ (by omega)
  clear hnl hown
  go_enter Tryz.func77, Tryz.ntmps77
  go_wp2_with fail
  go_loopw [2, 3] (fun a b wr => ∃ (k : Nat) (ys : List Value), k ≤ n ∧ 2 * k ≤ n + 1 ∧ a = .int .i64 (k : Int) ∧ b = .int .i64 ((n : Int) - 1 - k) ∧ Hid (RevTo xs ys k) ∧ Hid (wr.ownsRow base 52 1 (.slice A n c) n ys) ∧ Hid (w.grownBy wr (Value.ownBlock (.slice A n c)))) (fun a _ _ => n - (intOf a).toNat)
  case atStart => exact ⟨0, xs, Nat.zero_le _, by omega, rfl, by simp, RevTo.start xs, HO.out, ⟨rfl, rfl, rfl, Nat.le_refl _, fun _ _ _ => rfl⟩⟩
  case round =>
    clear HO
    obtain ⟨k, ys, hk, hk2, rfl, rfl, HV, HO, HG⟩ := hrel
    by_cases hlt : (k : Int) < (n : Int) - 1 - k
    · have hn0 : 0 < n := by omega
      have hj : ((n : Int) - 1 - k) = ((n - 1 - k : Nat) : Int) := by omega
      have hlk : k < n - 1 - k := by omega
      rw [hj] at hlt
      have hl : ys.length = n := by rw [HV.out.1, HNL.out]
      obtain ⟨a, ha⟩ : ∃ a, ys[k]? = some a := ⟨_, List.getElem?_eq_getElem (by omega)⟩
      obtain ⟨b, hb⟩ : ∃ b, ys[n - 1 - k]? = some b := ⟨_, List.getElem?_eq_getElem (by omega)⟩
      obtain ⟨a1, a2, a3, rfl⟩ := HV.out.slices hs _ (List.mem_of_getElem? ha)
      obtain ⟨b1, b2, b3, rfl⟩ := HV.out.slices hs _ (List.mem_of_getElem? hb)
      have HST := Lib.hid (HNL.out ▸ HV.out.step (by rw [← HNL.out]; exact hlk) ha (by rw [← HNL.out]; exact hb) : RevTo xs ((ys.set k (.slice b1 b2 b3)).set (n - 1 - k) (.slice a1 a2 a3)) (k + 1))
      rcases HO.out.2 with ⟨h0, h1⟩ | ⟨g, cap, cur, hv, _⟩
      · omega
      · injection hv with hA _ hC
        subst hA hC
        have hca : wr.cell? ⟨g, k, none⟩ = some (.slice a1 a2 a3) := by have := HO.out.cells rfl k _ ha; simpa [addr_add0] using this
        have hcb : wr.cell? ⟨g, n - 1 - k, none⟩ = some (.slice b1 b2 b3) := by have := HO.out.cells rfl (n - 1 - k) _ hb; simpa [addr_add0] using this
        have hfa := HO.out.frozenAt k
        have hfb := HO.out.frozenAt (n - 1 - k)
        have s1 := (World.ownsRow.drew HO.out).stored k (.slice b1 b2 b3)
        have s2 := s1.1.stored (n - 1 - k) (.slice a1 a2 a3)
        have HO2 := Lib.hid s2.1
        have HG2 := Lib.hid (show w.grownBy _ (some g) from ⟨(s2.2.os.trans s1.2.os).trans HG.out.os, (s2.2.tape.trans s1.2.tape).trans HG.out.tape, (s2.2.output.trans s1.2.output).trans HG.out.output, Nat.le_trans HG.out.size (Nat.le_trans s1.2.size s2.2.size), fun q hq hne => ((s2.2.block q (Nat.lt_of_lt_of_le hq (Nat.le_trans HG.out.size s1.2.size)) hne).trans (s1.2.block q (Nat.lt_of_lt_of_le hq HG.out.size) hne)).trans (HG.out.block q hq hne)⟩)
        clear ha hb s1 s2 HO
        have hj2 : ((n - 1 - k : Nat) : Int) < (n : Int) := by omega
        have hki : (k : Int) < (n : Int) := by omega
        rw [hj]
        have hne1 : ¬ (n - 1 - k = k) := by omega
        clear hj hs
        go_wp2_with fail
        go_region
        go_wp2_with fail
        go_roundw
        case rel => exact ⟨k + 1, _, by omega, by omega, by go_num, by (congr 1; omega), HST.out, HO2.out, HG2.out⟩
        case measure => simp [intOf]; omega
    · have hdone : ys = xs.reverse := HV.out.done (by rw [← HNL.out]; exact hlt)
      subst hdone
      go_wp2_with fail
      go_end0
      exact ⟨rfl, HO.out, HG.out⟩
end Go.Proofs.YtbppdlhbjddhjaaGreatDoor
namespace Go.Proofs.YtbppdlhbjddhjaaGreatDoor
open Go.RowKit

def ownAt (l : List SetR) (p : BS) : Option (FS (BS × BS)) := (l.find? fun s => s.path == p).map (·.own)
/-- a path, and all that it stands under -/
def upsL : Nat → BS → List BS
  | 0, _ => []
  | f + 1, p => p :: (match parB p with | some u => upsL f u | none => [])
def chainL (l : List SetR) (f : Nat) (p : BS) : List (FS (BS × BS)) := (upsL f p).filterMap (ownAt l)
theorem upL_lt (p : BS) (h : p ≠ []) : (upL p).length < p.length := by
  unfold upL
  rw [List.length_take]
  cases hl : lastS p with
  | none => simp; exact List.length_pos_iff.2 h
  | some k => have := (lastS_some p k hl).1; simp; omega
theorem parB_len {p u : BS} (h : parB p = some u) : u.length < p.length ∧ p ≠ [] ∧ pathB p = true ∧ u = upL p := by
  unfold parB at h
  split at h
  · cases h
  · rename_i hh
    cases h
    have hne : p ≠ [] := fun e => hh (.inl e)
    exact ⟨upL_lt p hne, hne, by simpa using fun e => hh (.inr e), rfl⟩
theorem chainL_succ (l : List SetR) (f : Nat) (p : BS) : chainL l (f + 1) p = (ownAt l p).toList ++ (match parB p with | some u => chainL l f u | none => []) := by
  unfold chainL
  rw [upsL, List.filterMap_cons]
  cases ownAt l p with
  | none => cases parB p <;> rfl
  | some o => cases parB p <;> rfl
theorem upsL_fuel : ∀ (f g : Nat) (p : BS), p.length < f → p.length < g → upsL f p = upsL g p
  | 0, _, _, h, _ => absurd h (by omega)
  | _, 0, _, _, h => absurd h (by omega)
  | f + 1, g + 1, p, h1, h2 => by
    rw [upsL, upsL]
    cases hp : parB p with
    | none => rfl
    | some u =>
      have := (parB_len hp).1
      simp only
      rw [upsL_fuel f g u (by omega) (by omega)]
theorem upsL_len : ∀ (f : Nat) (p : BS), (upsL f p).length ≤ 1 + (if pathB p = true ∧ p ≠ [] then (partsL p).length else 0)
  | 0, _ => by simp [upsL]
  | f + 1, p => by
    rw [upsL]
    cases hp : parB p with
    | none => simp
    | some u =>
      obtain ⟨h1, h2, h3, h4⟩ := parB_len hp
      have ih := upsL_len f u
      rw [if_pos ⟨h3, h2⟩]
      simp only [List.length_cons]
      have hpos : 1 ≤ (partsL p).length := List.length_pos_iff.2 (partsL_ne p)
      split at ih
      · rename_i hu
        have hk : ∃ k, lastS p = some k := by
          cases hl : lastS p with
          | none => rw [h4, upL, hl] at hu; exact absurd (by simp) hu.2
          | some k => exact ⟨k, rfl⟩
        obtain ⟨k, hk⟩ := hk
        have h5 := (lastS_some p k hk).2.2
        have h6 : upL p = p.take k := by rw [upL, hk]; rfl
        rw [h4, h6] at ih
        rw [h4, h6]
        have : (partsL p).length = (partsL (p.take k)).length + 1 := by rw [h5]; simp
        omega
      · omega
theorem chain_small (l : List SetR) (f : Nat) (p : BS) : (chainL l f p).length ≤ 5 := by
  have h1 : (chainL l f p).length ≤ (upsL f p).length := List.length_filterMap_le _ _
  have h2 := upsL_len f p
  split at h2
  · rename_i h
    have h3 : (partsL p).length ≤ 4 := by
      have := h.1
      unfold pathB at this
      simp only [Bool.or_eq_true, Bool.and_eq_true, decide_eq_true_eq] at this
      rcases this with h4 | h4
      · exact absurd (List.isEmpty_iff.1 h4) h.2
      · exact h4.1
    omega
  · omega
theorem chain_mem {l : List SetR} {f : Nat} {p : BS} {s : FS (BS × BS)} (h : s ∈ chainL l f p) : ∃ x ∈ l, s = x.own := by
  obtain ⟨q, _, hq⟩ := List.mem_filterMap.1 h
  unfold ownAt at hq
  cases hf : l.find? (fun s => s.path == q) with
  | none => rw [hf] at hq; cases hq
  | some x =>
    rw [hf] at hq
    cases hq
    exact ⟨x, List.mem_of_find?_eq_some hf, rfl⟩
def inhL (l : List SetR) (p : BS) : List PL := ((chainL l (p.length + 1) p).reverse).map (·.l)
def inhE (l : List SetR) (p : BS) : Int := if (ownAt l p).isNone = true then 71 else overE (inhL l p)
def upMeas : Value → Value → Nat
  | .string s, .bool true => s.size + 1
  | _, _ => 0
theorem find_own (l : List SetR) (p : BS) : (findS l p = -1 ∧ ownAt l p = none) ∨ ∃ (k : Nat) (h : k < l.length), findS l p = (k : Int) ∧ ownAt l p = some (l[k]'h).own := by
  unfold findS ownAt
  rcases firstI_cases (fun s : SetR => s.path == p) l with ⟨h1, h2⟩ | ⟨k, h, h1, h2⟩
  · exact .inl ⟨h1, by rw [h2]; rfl⟩
  · exact .inr ⟨k, h, h1, by rw [h2]; rfl⟩
theorem Tryz.infoPL : (Tryz.prog.info? 52).map (fun i => (i.zero, i.size, i.bytes)) = some (some (.slice none 0 0), 1, 24) := by kernel_rfl
theorem own_snoc {w : World} {base : Nat} {A : Option Addr} {c : Nat} (acc : List (FS (BS × BS))) (o : FS (BS × BS)) (h : w.ownsRow base 52 1 (.slice A (acc.length + 1) c) (acc.length + 1) (acc.map FS.val ++ [o.val])) : w.ownsRow base 52 1 (.slice A (acc ++ [o]).length c) (acc ++ [o]).length ((acc ++ [o]).map FS.val) := by
  rw [List.length_append, List.map_append]
  exact h
set_option maxRecDepth 100000 in
set_option maxHeartbeats 4000000 in
theorem tprops_any (t : TenR) (p : BS) (w : World) (B : Nat) (hr : t.rd w B) (hB : B ≤ w.heap.size) (hz : t.sz) (hp : p.length ≤ 4000000000) (hmx : HasMax w) :
    Calls Tryz.prog 26 #[t.val, .string ⟨p.toArray⟩] w (OverPost w (allP (inhL t.sets.l p).flatten) (inhE t.sets.l p)) := by
  obtain ⟨nm, quota, next, ⟨s1, s2, s3, sl⟩, ⟨ga, gb, gc, gl⟩, ⟨t1, t2, t3, tl⟩, ⟨l1, l2, l3, ll⟩⟩ := t
  show Calls Tryz.prog 26 #[.agg #[.string ⟨nm.toArray⟩, .int .i64 quota, .int .i64 next, .slice s1 s2 s3, .slice ga gb gc, .slice t1 t2 t3, .slice l1 l2 l3], .string ⟨p.toArray⟩] w (OverPost w (allP (inhL sl p).flatten) (inhE sl p))
  obtain ⟨i0, hi0, hz0, hz1, hz2⟩ := info_parts Tryz.infoPL
  have hb1 := (Below.refl w.heap.size w).alloc (Nat.le_refl _) (.cells #[.string ⟨nm.toArray⟩, .int .i64 quota, .int .i64 next, .slice s1 s2 s3, .slice ga gb gc, .slice t1 t2 t3, .slice l1 l2 l3] 27)
  have kT := Blk.new w 27 #[.string ⟨nm.toArray⟩, .int .i64 quota, .int .i64 next, .slice s1 s2 s3, .slice ga gb gc, .slice t1 t2 t3, .slice l1 l2 l3]
  obtain ⟨W1, hW1⟩ : ∃ W, W = w.alloc (.cells #[.string ⟨nm.toArray⟩, .int .i64 quota, .int .i64 next, .slice s1 s2 s3, .slice ga gb gc, .slice t1 t2 t3, .slice l1 l2 l3] 27) := ⟨_, rfl⟩
  have hsz1 : W1.heap.size = w.heap.size + 1 := by rw [hW1]; simp
  rw [← hW1] at hb1 kT
  have HSN : Hid (s2 = sl.length) := hr.sets.1
  have hrw : Hid (∀ W', Below W1.heap.size W1 W' → TenR.rd W' B ⟨nm, quota, next, ⟨s1, s2, s3, sl⟩, ⟨ga, gb, gc, gl⟩, ⟨t1, t2, t3, tl⟩, ⟨l1, l2, l3, ll⟩⟩ ∧ w.heap.size < W'.heap.size ∧ HasMax W' ∧ Below w.heap.size w W') := by
    show ∀ W', _ → _
    intro W' h
    have h1 := hb1.trans (h.mono (by omega))
    exact ⟨TenR.rd.below hr (h1.mono hB), by have := h.size; omega, hmx.below h1, h1⟩
  have hFD : Hid (∀ q W, Below W1.heap.size W1 W → Calls Tryz.prog 28 #[.agg #[.string ⟨nm.toArray⟩, .int .i64 quota, .int .i64 next, .slice s1 s2 s3, .slice ga gb gc, .slice t1 t2 t3, .slice l1 l2 l3], .string ⟨List.toArray q⟩] W fun e w' => e = .returned (.int .i64 (findS sl q)) ∧ Below W.heap.size W w') := by
    show ∀ q W, _ → _
    intro q W h
    obtain ⟨r1, r2, r3, r4⟩ := hrw.out W h
    exact find_any _ _ _ _ _ _ sl s2 HSN.out s1 s3 q W B r1.sets.2.2 (by omega) (by have := hz.sets; simp only at this; omega)
  have HB1 := Lib.hid hb1
  have KT := Lib.hid kT
  have HZ := Lib.hid hz
  have HSZ1 := Lib.hid hsz1
  obtain ⟨b, hb⟩ : ∃ b, b = w.heap.size := ⟨_, rfl⟩
  have HBB := Lib.hid hb
  obtain ⟨c0, c1, c2, c3, c4, c5, c6⟩ := (⟨kT.cell 0, kT.cell 1, kT.cell 2, kT.cell 3, kT.cell 4, kT.cell 5, kT.cell 6⟩ : W1.cell? ⟨w.heap.size, 0, none⟩ = some (.string ⟨nm.toArray⟩) ∧ W1.cell? ⟨w.heap.size, 1, none⟩ = some (.int .i64 quota) ∧ W1.cell? ⟨w.heap.size, 2, none⟩ = some (.int .i64 next) ∧ W1.cell? ⟨w.heap.size, 3, none⟩ = some (.slice s1 s2 s3) ∧ W1.cell? ⟨w.heap.size, 4, none⟩ = some (.slice ga gb gc) ∧ W1.cell? ⟨w.heap.size, 5, none⟩ = some (.slice t1 t2 t3) ∧ W1.cell? ⟨w.heap.size, 6, none⟩ = some (.slice l1 l2 l3))
  have hfd := hFD.out p W1 (Below.refl _ _)
  have hcase := find_own sl p
  clear hb1 kT hz hr hmx hsz1 hb
  go_enter Tryz.func26, Tryz.ntmps26
  go_wp2_with fail
  rw [← hW1] at *
  clear hW1
  refine hfd.mono ?_
  clear hfd c0 c1 c2 c3 c4 c5 c6
  rintro e w2 ⟨rfl, hb2⟩
  have HB2 := Lib.hid hb2
  clear hb2
  rcases hcase with ⟨hf, ho⟩ | ⟨k0, hk0, hf, ho⟩
  · rw [hf]
    go_wp2_with fail
    go_ret2
    have he : inhE sl p = 71 := by unfold inhE; rw [ho]; rfl
    exact ⟨.slice none 0 0, by rw [he]; rfl, by rw [he]; rfl, HB1.out.trans (HB2.out.mono (by have := HSZ1.out; omega))⟩
  · rw [hf]
    have hge : ¬ ((k0 : Nat) : Int) < 0 := by omega
    have HE : Hid (inhE sl p = overE (inhL sl p)) := by show _ = _; unfold inhE; rw [ho]; rfl
    have HT : Hid (chainL sl (p.length + 1) p = chainL sl (p.length + 1) p) := rfl
    obtain ⟨T, hT⟩ : ∃ T, T = chainL sl (p.length + 1) p := ⟨_, rfl⟩
    have HTE := Lib.hid hT
    have hTl : T.length ≤ 5 := by rw [hT]; exact chain_small _ _ _
    have HP0 : Hid (p.length + 1 ≤ 4000000001) := by show _ ≤ _; omega
    clear hf ho hT HT
    go_wp2_with fail
    go_loopw [6, 7, 8] (fun o u i wr => ∃ (acc : List (FS (BS × BS))) (A : Option Addr) (c : Nat), o = .slice A acc.length c ∧ Hid (wr.ownsRow W1.heap.size 52 1 (.slice A acc.length c) acc.length (acc.map FS.val)) ∧ Hid (Below W1.heap.size W1 wr) ∧ ((∃ (q : BS) (f : Nat), u = .string ⟨q.toArray⟩ ∧ i = .bool true ∧ q.length < f ∧ q.length ≤ 4000000000 ∧ Hid (acc ++ chainL sl f q = T)) ∨ ∃ us, u = .string us ∧ i = .bool false ∧ Hid (acc = T))) (fun _ u i _ => upMeas u i)
    case atStart => exact ⟨[], none, 0, rfl, World.ownsRow_nil _ _ _ _, HB2.out, .inl ⟨p, p.length + 1, rfl, rfl, by omega, hp, by rw [HTE.out]; rfl⟩⟩
    case round =>
      clear HB2
      obtain ⟨acc, A, c, rfl, HO, HB, hcase⟩ := hrel
      obtain ⟨d0, d1, d2, d3, d4, d5, d6⟩ := (⟨(KT.out.below HB.out KT.out.lt).cell 0, (KT.out.below HB.out KT.out.lt).cell 1, (KT.out.below HB.out KT.out.lt).cell 2, (KT.out.below HB.out KT.out.lt).cell 3, (KT.out.below HB.out KT.out.lt).cell 4, (KT.out.below HB.out KT.out.lt).cell 5, (KT.out.below HB.out KT.out.lt).cell 6⟩ : wr.cell? ⟨w.heap.size, 0, none⟩ = some (.string ⟨nm.toArray⟩) ∧ wr.cell? ⟨w.heap.size, 1, none⟩ = some (.int .i64 quota) ∧ wr.cell? ⟨w.heap.size, 2, none⟩ = some (.int .i64 next) ∧ wr.cell? ⟨w.heap.size, 3, none⟩ = some (.slice s1 s2 s3) ∧ wr.cell? ⟨w.heap.size, 4, none⟩ = some (.slice ga gb gc) ∧ wr.cell? ⟨w.heap.size, 5, none⟩ = some (.slice t1 t2 t3) ∧ wr.cell? ⟨w.heap.size, 6, none⟩ = some (.slice l1 l2 l3))
      rcases hcase with ⟨q, f, rfl, rfl, hqf, hq4, HC⟩ | ⟨us, rfl, rfl, HC⟩
      · obtain ⟨f, rfl⟩ : ∃ f', f = f' + 1 := ⟨f - 1, by omega⟩
        have hC2 := HC.out
        rw [chainL_succ] at hC2
        have HC := Lib.hid hC2
        have hal : acc.length + 1 ≤ 1000000 := by
          have := congrArg List.length hC2
          simp at this
          omega
        clear hC2
        have hfd := hFD.out q wr HB.out
        have hpar : Hid (∀ W, Below W1.heap.size W1 W → Calls Tryz.prog 58 #[.string ⟨q.toArray⟩] W fun e w' => Below W.heap.size W w' ∧ ((parB q = none ∧ e = .returned (.tuple #[.string ⟨#[]⟩, .bool false])) ∨ ∃ u, parB q = some u ∧ e = .returned (.tuple #[.string ⟨u.toArray⟩, .bool true]))) := by
          show ∀ W, _ → _
          intro W hW
          refine (parent_any ⟨q.toArray⟩ W (by simpa [ByteArray.size] using hq4) (hrw.out W hW).2.2.1).mono ?_
          rintro e w' ⟨h1, h2⟩
          refine ⟨h1, ?_⟩
          rcases h2 with ⟨h3, rfl⟩ | ⟨h3, h4, rfl⟩
          · refine .inl ⟨?_, rfl⟩
            unfold parB
            rw [if_pos (by simpa using h3)]
          · refine .inr ⟨upL q, ?_, rfl⟩
            unfold parB
            rw [if_neg (by simp at h3 h4; simp [h3, h4])]
        go_wp2_with fail
        refine hfd.mono ?_
        clear hfd d0 d1 d2 d3 d4 d5 d6
        rintro e w3 ⟨rfl, hb3⟩
        have HB3 := Lib.hid (HB.out.trans (hb3.mono HB.out.size))
        have HO3 := Lib.hid (own_below HO.out hb3)
        clear hb3 HO HB
        rcases find_own sl q with ⟨hf, ho⟩ | ⟨k1, hk1, hf, ho⟩
        · rw [hf]
          rw [ho] at HC
          clear hf ho
          go_wp2_with fail
          refine (hpar.out w3 HB3.out).mono ?_
          rintro e w6 ⟨hb6, ⟨hpn, rfl⟩ | ⟨u, hpu, rfl⟩⟩
          · have HB6 := Lib.hid (HB3.out.trans (hb6.mono HB3.out.size))
            have HO6 := Lib.hid (own_below HO3.out hb6)
            have HC6 : Hid (acc = T) := by
              have h := HC.out
              rw [hpn] at h
              show _ = _
              rw [← h]
              simp
            clear hb6 hpn HC HO3 HB3 hpar
            go_wp2_with fail
            go_roundw
            case rel => exact ⟨acc, A, c, rfl, HO6.out, HB6.out, .inr ⟨_, rfl, rfl, HC6.out⟩⟩
            case measure => simp [upMeas]
          · have hul := (parB_len hpu).1
            have HB6 := Lib.hid (HB3.out.trans (hb6.mono HB3.out.size))
            have HO6 := Lib.hid (own_below HO3.out hb6)
            have HC6 : Hid (acc ++ chainL sl f u = T) := by
              have h := HC.out
              rw [hpu] at h
              show _ = _
              rw [← h]
              simp
            clear hb6 hpu HC HO3 HB3 hpar
            go_wp2_with fail
            go_roundw
            case rel => exact ⟨acc, A, c, rfl, HO6.out, HB6.out, .inl ⟨u, f, rfl, rfl, by omega, by omega, HC6.out⟩⟩
            case measure => simp [upMeas, ByteArray.size]; omega
        · rw [hf]
          rw [ho] at HC
          clear hf ho
          have hk0 : (0 : Int) ≤ (k1 : Int) := by omega
          have hki : (k1 : Int) < (s2 : Int) := by have := HSN.out; omega
          have hks : k1 < s2 := by have := HSN.out; omega
          obtain ⟨ad, hsa, hadB, -, -, -, -, q4⟩ := set_at (hrw.out w3 HB3.out).1.sets.2.2 HSN.out hks
          simp only at hsa
          subst hsa
          obtain ⟨o, hoo⟩ : ∃ o, o = (sl[k1]'hk1).own := ⟨_, rfl⟩
          rw [← hoo] at q4 HC
          clear hoo hadB
          obtain ⟨oA, on, oc, ol⟩ := o
          simp only at q4
          have e3 := (KT.out.below HB3.out KT.out.lt).cell 3
          simp only [List.getElem?_toArray, List.getElem?_cons_succ, List.getElem?_cons_zero] at e3
          have HBS : Hid (W1.heap.size ≤ w3.heap.size) := HB3.out.size
          go_wp2_with (at_builtin; (refine wpList_push w3 rfl (.tmp 26) (.tmp 33) _ rfl W1.heap.size 52 i0 _ 1 24 Tryz.underlying115 hi0 hz0 hz1 hz2 rfl (by omega) (.slice A acc.length c) acc.length _ rfl HO3.out 1 #[.slice oA on oc] _ rfl rfl (by simp [Value.oneCell']) (by unfold maxLen; omega) (by omega) HBS.out ?_); intro v5 w5 ho5 hb5 hg5; obtain ⟨A5, c5, rfl, _⟩ := own_form ho5; have HO5 := Lib.hid (own_snoc acc ⟨oA, on, oc, ol⟩ ho5); have HB5 := Lib.hid (HB3.out.trans hb5); clear ho5 hb5 hg5 HO3 HB3 e3 q4)
          refine (hpar.out w5 HB5.out).mono ?_
          rintro e w6 ⟨hb6, ⟨hpn, rfl⟩ | ⟨u, hpu, rfl⟩⟩
          · have HB6 := Lib.hid (HB5.out.trans (hb6.mono HB5.out.size))
            have HO6 := Lib.hid (own_below HO5.out hb6)
            have HC6 : Hid ((acc ++ [(⟨oA, on, oc, ol⟩ : FS (BS × BS))]) = T) := by
              have h := HC.out
              rw [hpn] at h
              show _ = _
              rw [← h]
              simp
            clear hb6 hpn HC HO5 HB5 hpar
            go_wp2_with fail
            go_roundw
            case rel => exact ⟨acc ++ [(⟨oA, on, oc, ol⟩ : FS (BS × BS))], A5, c5, by rw [List.length_append]; rfl, HO6, HB6, .inr ⟨_, rfl, rfl, HC6⟩⟩
            case measure => simp [upMeas]
          · have hul := (parB_len hpu).1
            have HB6 := Lib.hid (HB5.out.trans (hb6.mono HB5.out.size))
            have HO6 := Lib.hid (own_below HO5.out hb6)
            have HC6 : Hid ((acc ++ [(⟨oA, on, oc, ol⟩ : FS (BS × BS))]) ++ chainL sl f u = T) := by
              have h := HC.out
              rw [hpu] at h
              show _ = _
              rw [← h]
              simp
            clear hb6 hpu HC HO5 HB5 hpar
            go_wp2_with fail
            go_roundw
            case rel => exact ⟨acc ++ [(⟨oA, on, oc, ol⟩ : FS (BS × BS))], A5, c5, by rw [List.length_append]; rfl, HO6, HB6, .inl ⟨u, f, rfl, rfl, by omega, by omega, HC6⟩⟩
            case measure => simp [upMeas, ByteArray.size]; omega
      · obtain rfl : acc = T := HC.out
        clear HC
        have hown : wr.ownsRow W1.heap.size 52 1 (.slice A acc.length c) (acc.map FS.val).length (acc.map FS.val) := by rw [List.length_map]; exact HO.out
        have hrev := reverse_any (acc.map FS.val) (fun v hv => by obtain ⟨s, _, rfl⟩ := List.mem_map.1 hv; exact ⟨_, _, _, rfl⟩) _ _ wr hown (by rw [List.length_map]; omega)
        clear hown
        go_wp2_with fail
        refine hrev.mono ?_
        clear hrev d0 d1 d2 d3 d4 d5 d6
        rintro e w4 ⟨rfl, ho4, hg4⟩
        rw [List.length_map, ← List.map_reverse] at ho4
        have hb4 : Below W1.heap.size W1 w4 := HB.out.grown hg4 HB.out.size (fun g hg => (HO.out.lt g hg).1)
        have hr4 := Reads.of_own ho4
        have hov := over_any (acc.reverse.map fun s => (s.val, s.l)) acc.length (by simp) A c w4 w4.heap.size (by rw [List.map_map]; exact hr4) (Nat.le_refl _) (fun x hx => ?_) (by omega)
        rotate_left
        · obtain ⟨s, hs, rfl⟩ := List.mem_map.1 hx
          have hs2 : s ∈ chainL sl (p.length + 1) p := by rw [← HTE.out]; exact List.mem_reverse.1 hs
          obtain ⟨y, hy, rfl⟩ := chain_mem hs2
          have h1 := ((hrw.out w4 hb4).1.eachS y hy).own
          have h2 := HZ.out.eachS y hy
          exact ⟨⟨_, _, _, rfl, h1.1, by have := h2.own; omega, h1.2.2.more (by have := (hrw.out w4 hb4).2.1; omega)⟩, fun z hz => by have := h2.props z hz; omega⟩
        · have hl : (acc.reverse.map fun s : FS (BS × BS) => (s.val, s.l)).map (·.2) = inhL sl p := by rw [List.map_map, HTE.out]; rfl
          rw [hl] at hov
          have HB4 := Lib.hid hb4
          clear hr4 ho4 hg4 hb4 HO HB
          go_wp2_with fail
          refine hov.mono ?_
          clear hov
          rintro e w5 ⟨v, rfl, hc5, hb5⟩
          have HC5 := Lib.hid hc5
          have HB5 := Lib.hid hb5
          clear hc5 hb5
          go_wp2_with fail
          go_ret2
          refine ⟨v, by rw [HE.out]; rfl, ?_, HB1.out.trans ((HB4.out.trans (HB5.out.mono HB4.out.size)).mono (by have := HSZ1.out; omega))⟩
          rw [HE.out]
          have h := HC5.out
          split
          · rename_i h0
            rw [if_pos h0] at h
            exact own_mono h (by have := HB4.out.size; have := HSZ1.out; omega)
          · rename_i h0
            rw [if_neg h0] at h
            exact h
end Go.Proofs.YtbppdlhbjddhjaaGreatDoor
namespace Go.Proofs.YtbppdlhbjddhjaaGreatDoor
open Go.RowKit

theorem tenE_sets (t : TenR) (h : tenE t = 0) : setsB t.sets.l = true := by
  unfold tenE at h
  split at h
  · rename_i hb
    unfold tenB at hb
    simp only [Bool.and_eq_true] at hb
    exact hb.1.1.1.2
  · cases h
theorem tenE_two (t : TenR) : tenE t = 0 ∨ tenE t = 9 := by unfold tenE; split <;> simp
end Go.Proofs.YtbppdlhbjddhjaaGreatDoor
namespace Go.Proofs.YtbppdlhbjddhjaaGreatDoor
open Go.RowKit

def set0 : SetR := ⟨[], [], ⟨none, 0, 0, []⟩, ⟨none, 0, 0, []⟩, ⟨none, 0, 0, []⟩⟩
def ten0 (g : Nat) : TenR := ⟨[97], 5, 1, ⟨some ⟨g, 0, none⟩, 1, 1, [set0]⟩, ⟨none, 0, 0, []⟩, ⟨none, 0, 0, []⟩, ⟨none, 0, 0, []⟩⟩
theorem ten0_ok (g : Nat) : tenE (ten0 g) = 0 := by
  show (if tenB (ten0 g) = true then (0 : Int) else 9) = 0
  rw [if_pos]
  show tenB (ten0 0) = true
  decide +kernel
theorem ten0_sz (g : Nat) : (ten0 g).sz where
  nm := by show (1 : Nat) ≤ 4000000000; decide
  sets := by show (1 : Nat) ≤ 1000000000000; decide
  eachS := by
    intro y hy
    rw [show (ten0 g).sets.l = [set0] from rfl, List.mem_singleton] at hy
    subst hy
    exact ⟨by decide, by decide, by decide, by decide, (fun y hy => by cases hy), by decide, (fun y hy => by cases hy)⟩
  grants := by show (0 : Nat) ≤ 1000000000000; decide
  eachG := fun y hy => by cases hy
  stages := by show (0 : Nat) ≤ 1000000000000; decide
  eachT := fun y hy => by cases hy
  log := by show (0 : Nat) ≤ 1000000000000; decide
  eachL := fun y hy => by cases hy
theorem ten0_rd (g : Nat) (w : World) (B : Nat) (h : Reads w B 5 (some ⟨g, 0, none⟩) 1 (cellsK encSet [set0])) : (ten0 g).rd w B where
  sets := ⟨rfl, Nat.le_refl _, h⟩
  eachS := by
    intro y hy
    rw [show (ten0 g).sets.l = [set0] from rfl, List.mem_singleton] at hy
    subst hy
    exact ⟨⟨rfl, by decide, Reads.none_⟩, ⟨rfl, by decide, Reads.none_⟩, (fun y hy => by cases hy), ⟨rfl, by decide, Reads.none_⟩⟩
  grants := ⟨rfl, Nat.le_refl _, Reads.none_⟩
  stages := ⟨rfl, Nat.le_refl _, Reads.none_⟩
  eachG := fun y hy => by cases hy
  log := ⟨rfl, Nat.le_refl _, Reads.none_⟩
def NewPost (w : World) (e : Ending) (w' : World) : Prop := ∃ g, e = .returned (.tuple #[(ten0 g).val, .int .i64 0]) ∧ g < w'.heap.size ∧ Reads w' w'.heap.size 5 (some ⟨g, 0, none⟩) 1 (cellsK encSet [set0]) ∧ Below w.heap.size w w'
set_option maxRecDepth 100000 in
set_option maxHeartbeats 1000000 in
theorem new0_any (w : World) : Calls Tryz.prog 30 #[.string ⟨#[97]⟩, .int .i64 5] w (NewPost w) := by
  have hN := fun W => name_any ⟨#[97]⟩ W
  rw [show nameB (ByteArray.mk #[97]).data.toList = true by decide +kernel] at hN
  have hA := fun W => amount_any 5 0 W
  rw [show amt 5 0 = true by decide] at hA
  go_enter Tryz.func30, Tryz.ntmps30
  go_wp2_with fail
  refine (hN _).mono ?_
  rintro e w1 ⟨rfl, hb1⟩
  go_wp2_with fail
  refine (hA _).mono ?_
  rintro e w2 ⟨rfl, rfl⟩
  have hlt : w.heap.size < w2.heap.size := by have := hb1.size; simp at this; omega
  have kB := ((Blk.new w 27 #[.string ⟨#[]⟩, .int .i64 0, .int .i64 0, .slice none 0 0, .slice none 0 0, .slice none 0 0, .slice none 0 0]).below hb1 (by simp)).alloc (.cells #[.string ⟨#[]⟩, .string ⟨#[]⟩, .slice none 0 0, .slice none 0 0, .slice none 0 0] 61)
  have kR := Blk.new w2 61 #[.string ⟨#[]⟩, .string ⟨#[]⟩, .slice none 0 0, .slice none 0 0, .slice none 0 0]
  have hb0 := ((Below.refl w.heap.size w).alloc (Nat.le_refl _) (.cells #[.string ⟨#[]⟩, .int .i64 0, .int .i64 0, .slice none 0 0, .slice none 0 0, .slice none 0 0, .slice none 0 0] 27)).trans (hb1.mono (by simp))
  have hb3 := hb0.alloc hb0.size (.cells #[.string ⟨#[]⟩, .string ⟨#[]⟩, .slice none 0 0, .slice none 0 0, .slice none 0 0] 61)
  have hth := kB.there 7 (by decide)
  have kB2 := Blk.setCells (g := w.heap.size) [.string ⟨#[97]⟩, .int .i64 5, .int .i64 1, .slice (some ⟨w2.heap.size, 0, none⟩) 1 1, .slice none 0 0, .slice none 0 0, .slice none 0 0] _ [] [.string ⟨#[]⟩, .int .i64 0, .int .i64 0, .slice none 0 0, .slice none 0 0, .slice none 0 0, .slice none 0 0] rfl kB
  have kR2 := Blk.setCells_far (g := w2.heap.size) (g' := w.heap.size) (by omega) [.string ⟨#[97]⟩, .int .i64 5, .int .i64 1, .slice (some ⟨w2.heap.size, 0, none⟩) 1 1, .slice none 0 0, .slice none 0 0, .slice none 0 0] _ 0 kR
  have hb4 := below_setCells (g := w.heap.size) (Nat.le_refl _) [.string ⟨#[97]⟩, .int .i64 5, .int .i64 1, .slice (some ⟨w2.heap.size, 0, none⟩) 1 1, .slice none 0 0, .slice none 0 0, .slice none 0 0] _ 0 hb3
  have hsz := size_setCells (g := w.heap.size) [.string ⟨#[97]⟩, .int .i64 5, .int .i64 1, .slice (some ⟨w2.heap.size, 0, none⟩) 1 1, .slice none 0 0, .slice none 0 0, .slice none 0 0] (w2.alloc (.cells #[.string ⟨#[]⟩, .string ⟨#[]⟩, .slice none 0 0, .slice none 0 0, .slice none 0 0] 61)) 0
  have HTH := Lib.hid hth
  simp only [List.length_nil, List.nil_append] at kB2
  obtain ⟨W4, hW4⟩ : ∃ W, W = (w2.alloc (.cells #[.string ⟨#[]⟩, .string ⟨#[]⟩, .slice none 0 0, .slice none 0 0, .slice none 0 0] 61)).setCells w.heap.size 0 [.string ⟨#[97]⟩, .int .i64 5, .int .i64 1, .slice (some ⟨w2.heap.size, 0, none⟩) 1 1, .slice none 0 0, .slice none 0 0, .slice none 0 0] := ⟨_, rfl⟩
  rw [← hW4] at kB2 kR2 hb4 hsz
  have HKR := Lib.hid kR2
  have HB4 := Lib.hid hb4
  have HS4 := Lib.hid (show w2.heap.size < W4.heap.size by rw [hsz]; simp)
  have d0 := kB2.cell 0
  have d1 := kB2.cell 1
  have d2 := kB2.cell 2
  have d3 := kB2.cell 3
  have d4 := kB2.cell 4
  have d5 := kB2.cell 5
  have d6 := kB2.cell 6
  simp only [List.getElem?_toArray, List.getElem?_cons_succ, List.getElem?_cons_zero] at d0 d1 d2 d3 d4 d5 d6
  have HD := Lib.hid (show _ ∧ _ ∧ _ ∧ _ ∧ _ ∧ _ ∧ _ from ⟨d0, d1, d2, d3, d4, d5, d6⟩)
  clear kB kR hb0 hb3 hth kB2 kR2 hb4 hsz hb1 hN hA d0 d1 d2 d3 d4 d5 d6
  have hW5 : W4 = (w2.alloc (.cells #[.string ⟨#[]⟩, .string ⟨#[]⟩, .slice none 0 0, .slice none 0 0, .slice none 0 0] 61)).setCells w.heap.size 0 (#[.string ⟨#[97]⟩, .int .i64 5, .int .i64 1, .slice (some ⟨w2.heap.size, 0, none⟩) 1 1, .slice none 0 0, .slice none 0 0, .slice none 0 0] : Array Value).toList := hW4
  clear hW4
  go_wp2_with (refine wpList_store_mid rfl 27 (.tmp 4) (.tmp 24) rfl w.heap.size 0 #[.string ⟨#[97]⟩, .int .i64 5, .int .i64 1, .slice (some ⟨w2.heap.size, 0, none⟩) 1 1, .slice none 0 0, .slice none 0 0, .slice none 0 0] rfl rfl HTH.out (by kernel_rfl) (by simp [Value.oneCell']) ?_; rw [← hW5]; clear hW5)
  obtain ⟨d0, d1, d2, d3, d4, d5, d6⟩ := HD.out
  clear HTH
  refine bodyPost_ret (v := .tuple #[.agg #[.string ⟨#[97]⟩, .int .i64 5, .int .i64 1, .slice (some ⟨w2.heap.size, 0, none⟩) 1 1, .slice none 0 0, .slice none 0 0, .slice none 0 0], .int .i64 0]) (by simp [results, Tryz.results30, go_sem, d0, d1, d2, d3, d4, d5, d6]) rfl ⟨w2.heap.size, rfl, HS4.out, ?_, HB4.out⟩
  exact (Reads.of_blk (n := 1) (size := 5) HKR.out (cellsK encSet [set0]) rfl (fun j u h => by rw [show cellsK encSet [set0] = [.string ⟨#[]⟩, .string ⟨#[]⟩, .slice none 0 0, .slice none 0 0, .slice none 0 0] from rfl] at h; simpa using h)).more (by have := HS4.out; omega)
def LivePost (w : World) (e : Ending) (w' : World) : Prop := e = .returned (.bool true) ∧ Below w.heap.size w w'
theorem num14_any (n : Int) (w : World) : Calls Tryz.prog 27 #[.int .i64 n] w fun e w' => e = .returned (.int .i64 n) ∧ w' = w := by
  go_enter Tryz.func27, Tryz.ntmps27
  go_wp2_with fail
  go_ret
  exact ⟨rfl, rfl⟩
set_option maxRecDepth 100000 in
set_option maxHeartbeats 2000000 in
theorem alive14_any (w : World) (hmx : HasMax w) : Calls Tryz.prog 7 #[] w fun e w' => e = .returned (.bool true) ∧ Below w.heap.size w w' := by
  go_enter Tryz.func7, Tryz.ntmps7
  go_wp2_with fail
  refine (new0_any _).mono ?_
  rintro e w1 ⟨g, rfl, hg, hrd, hb1⟩
  have hv : (ten0 g).val = .agg #[.string ⟨#[97]⟩, .int .i64 5, .int .i64 1, .slice (some ⟨g, 0, none⟩) 1 1, .slice none 0 0, .slice none 0 0, .slice none 0 0] := rfl
  rw [hv]
  obtain ⟨W1, hW1⟩ : ∃ W, W = w1.alloc (.cells #[.string ⟨#[97]⟩, .int .i64 5, .int .i64 1, .slice (some ⟨g, 0, none⟩) 1 1, .slice none 0 0, .slice none 0 0, .slice none 0 0] 27) := ⟨_, rfl⟩
  have hb2 := hb1.alloc hb1.size (.cells #[.string ⟨#[97]⟩, .int .i64 5, .int .i64 1, .slice (some ⟨g, 0, none⟩) 1 1, .slice none 0 0, .slice none 0 0, .slice none 0 0] 27)
  have kB := Blk.new w1 27 #[.string ⟨#[97]⟩, .int .i64 5, .int .i64 1, .slice (some ⟨g, 0, none⟩) 1 1, .slice none 0 0, .slice none 0 0, .slice none 0 0]
  have hr1 := hrd.alloc (Nat.le_refl _) (.cells #[.string ⟨#[97]⟩, .int .i64 5, .int .i64 1, .slice (some ⟨g, 0, none⟩) 1 1, .slice none 0 0, .slice none 0 0, .slice none 0 0] 27)
  rw [← hW1] at hb2 kB hr1
  have hsz : W1.heap.size = w1.heap.size + 1 := by rw [hW1]; simp
  have hc := tcheck_any (ten0 g) W1 w1.heap.size (ten0_rd g W1 _ hr1) (by omega) (ten0_sz g) (hmx.below hb2)
  rw [ten0_ok, hv] at hc
  have hf := Lib.hid (fun W (hb : Below W1.heap.size W1 W) => find_any (.string ⟨#[97]⟩) (.int .i64 5) (.int .i64 1) (.slice none 0 0) (.slice none 0 0) (.slice none 0 0) [set0] 1 rfl (some ⟨g, 0, none⟩) 1 [] W w1.heap.size (hr1.below (hb.mono (by omega))) (by have := hb.size; omega) (by decide))
  rw [show findS [set0] [] = 0 by decide +kernel] at hf
  have hC := Lib.hid hc
  have HB2 := Lib.hid hb2
  have HSZ := Lib.hid hsz
  have HKB := Lib.hid kB
  clear hrd hb1 hb2 kB hr1 hc hsz hv
  go_wp2_with fail
  rw [← hW1]
  refine (num14_any _ _).mono ?_
  rintro e w2 ⟨rfl, hw2⟩
  have hw2 := hw2.symm
  subst hw2
  obtain ⟨e0, e1, e2, e3, e4, e5, e6⟩ := (⟨HKB.out.cell 0, HKB.out.cell 1, HKB.out.cell 2, HKB.out.cell 3, HKB.out.cell 4, HKB.out.cell 5, HKB.out.cell 6⟩ : _ ∧ _ ∧ _ ∧ _ ∧ _ ∧ _ ∧ _)
  simp only [List.getElem?_toArray, List.getElem?_cons_succ, List.getElem?_cons_zero] at e0 e1 e2 e3 e4 e5 e6
  clear hW1
  go_wp2_with fail
  refine hC.out.mono ?_
  clear hC e0 e1 e2 e3 e4 e5 e6
  rintro e w3 ⟨rfl, hb3⟩
  have hk3 := HKB.out.below hb3 (by have := HSZ.out; omega)
  obtain ⟨e0, e1, e2, e3, e4, e5, e6⟩ := (⟨hk3.cell 0, hk3.cell 1, hk3.cell 2, hk3.cell 3, hk3.cell 4, hk3.cell 5, hk3.cell 6⟩ : _ ∧ _ ∧ _ ∧ _ ∧ _ ∧ _ ∧ _)
  simp only [List.getElem?_toArray, List.getElem?_cons_succ, List.getElem?_cons_zero] at e0 e1 e2 e3 e4 e5 e6
  have hfc := hf.out _ hb3
  have HB3 := Lib.hid (HB2.out.trans (hb3.mono HB2.out.size))
  clear hk3 hb3 hf
  go_wp2_with fail
  refine hfc.mono ?_
  clear hfc
  rintro e w4 ⟨rfl, hb4⟩
  have HB4 := Lib.hid (HB3.out.trans (hb4.mono HB3.out.size))
  clear hb4 e0 e1 e2 e3 e4 e5 e6
  go_wp2_with fail
  go_ret
  exact ⟨rfl, HB4.out⟩
end Go.Proofs.YtbppdlhbjddhjaaGreatDoor
namespace Go.Proofs.YtbppdlhbjddhjaaGreatDoor
open Go.RowKit

theorem lastS_snoc (s : BS) (c : UInt8) : lastS (s ++ [c]) = if c = 47 then some s.length else lastS s := by
  induction s with
  | nil => simp [lastS]
  | cons a r ih =>
    rw [List.cons_append, lastS, ih]
    by_cases hc : c = 47
    · simp [hc]
    · simp [hc, lastS]
/-- the path up to its last slash among the first k octets -/
def upT (p : BS) (k : Nat) : BS := p.take ((lastS (p.take k)).getD 0)
theorem upT_step (p : BS) (k : Nat) (y : UInt8) (h : p[k]? = some y) : upT p (k + 1) = if y = 47 then p.take k else upT p k := by
  have hk := (List.getElem?_eq_some_iff.1 h).1
  unfold upT
  rw [List.take_add_one, h, Option.toList_some, lastS_snoc]
  split
  · simp [List.length_take]
  · rfl
theorem upT_all (p : BS) : upT p p.length = upL p := by unfold upT upL; rw [List.take_length]
theorem inh_law (l : List SetR) (p : BS) (hs : setsB l = true) (hp : p ≠ []) (o : FS (BS × BS)) (hf : ownAt l p = some o) (hE : inhE l p = 0) (n : BS) :
    getP (allP (inhL l p).flatten) n = (getP o.l n).or (getP (allP (inhL l (upL p)).flatten) n) := by
  have hpath : pathB p = true := by
    unfold ownAt at hf
    cases hx : l.find? (fun s => s.path == p) with
    | none => rw [hx] at hf; cases hf
    | some x =>
      have h1 := List.find?_some hx
      have h2 := List.mem_of_find?_eq_some hx
      have h3 : x.path = p := by simpa using h1
      unfold setsB at hs
      simp only [Bool.and_eq_true] at hs
      rw [← h3]
      exact (setB_path l x (((setsFrom_iff l none l).1 hs.2).1 x h2)).1
  have hpar : parB p = some (upL p) := by unfold parB; rw [if_neg (by simp [hp, hpath])]
  have hlt := (parB_len hpar).1
  have hch : chainL l (p.length + 1) p = o :: chainL l ((upL p).length + 1) (upL p) := by
    rw [chainL_succ, hf, hpar]
    simp only [Option.toList_some, List.cons_append, List.nil_append]
    unfold chainL
    rw [upsL_fuel p.length ((upL p).length + 1) (upL p) hlt (by omega)]
  have hL : inhL l p = inhL l (upL p) ++ [o.l] := by
    unfold inhL
    rw [hch]
    simp
  have hS : SortP o.l := by
    unfold inhE at hE
    rw [hf] at hE
    simp only [Option.isNone_some, Bool.false_eq_true, if_false] at hE
    unfold overE at hE
    split at hE
    · rename_i hall
      rw [hL] at hall
      simp only [List.all_append, Bool.and_eq_true] at hall
      have := hall.2
      simp at this
      exact propsB_sort _ this
    · cases hE
  rw [hL, List.flatten_append]
  have : ([o.l] : List PL).flatten = o.l := by simp
  rw [this]
  exact allP_over _ _ hS n
theorem over_len {l : List SetR} {p : BS} (h : inhE l p = 0) : (allP (inhL l p).flatten).length ≤ 8 := by
  unfold inhE at h
  split at h
  · cases h
  · unfold overE at h
    split at h
    · split at h
      · cases h
      · omega
    · cases h
/-- the page's Prop at a list, its answer named -/
theorem refPropV_any (l : PL) (nm : BS) (n : Nat) (hnl : n = l.length) (A : Option Addr) (c : Nat) (w : World) (B : Nat) (hr : Reads w B 2 A n (pcells l)) (hn : n ≤ 5000000000000) (g : BS) (b : Bool) (hg : g = (getP l nm).getD []) (hb : b = (getP l nm).isSome) :
    Calls Tryz.prog 29 #[.slice A n c, .string ⟨nm.toArray⟩] w fun e w' => e = .returned (.tuple #[.string ⟨g.toArray⟩, .bool b]) ∧ Below w.heap.size w w' := by
  refine (refProp_any l nm n hnl A c w B hr hn).mono ?_
  rintro e w1 ⟨rfl, q, rfl⟩
  exact ⟨by rw [hg, hb]; rfl, below_drewN (Below.refl _ _) q⟩
set_option maxRecDepth 100000 in
set_option maxHeartbeats 8000000 in
theorem treeInherits_any (t : TenR) (p n : BS) (w : World) (hr : t.rd w w.heap.size) (hz : t.sz) (hp : p.length ≤ 4000000000) (hmx : HasMax w) :
    Calls Tryz.prog 6 #[t.val, .string ⟨p.toArray⟩, .string ⟨n.toArray⟩] w fun e w' => e = .returned (.bool true) ∧ Below w.heap.size w w' := by
  have h2 := tenE_two t
  have hS : tenE t = 0 → setsB t.sets.l = true := tenE_sets t
  obtain ⟨nm, quota, next, ⟨s1, s2, s3, sl⟩, ⟨ga, gb, gc, gl⟩, ⟨t1, t2, t3, tl⟩, ⟨l1, l2, l3, ll⟩⟩ := t
  show Calls Tryz.prog 6 #[.agg #[.string ⟨nm.toArray⟩, .int .i64 quota, .int .i64 next, .slice s1 s2 s3, .slice ga gb gc, .slice t1 t2 t3, .slice l1 l2 l3], .string ⟨p.toArray⟩, .string ⟨n.toArray⟩] w _
  simp only at hS
  obtain ⟨s, hs⟩ : ∃ s : ByteArray, s = ⟨p.toArray⟩ := ⟨_, rfl⟩
  have HSP := Lib.hid (show s.data.toList = p by rw [hs])
  rw [← hs]
  have hb1 := (Below.refl w.heap.size w).alloc (Nat.le_refl _) (.cells #[.string ⟨nm.toArray⟩, .int .i64 quota, .int .i64 next, .slice s1 s2 s3, .slice ga gb gc, .slice t1 t2 t3, .slice l1 l2 l3] 27)
  have kT := Blk.new w 27 #[.string ⟨nm.toArray⟩, .int .i64 quota, .int .i64 next, .slice s1 s2 s3, .slice ga gb gc, .slice t1 t2 t3, .slice l1 l2 l3]
  obtain ⟨W1, hW1⟩ : ∃ W, W = w.alloc (.cells #[.string ⟨nm.toArray⟩, .int .i64 quota, .int .i64 next, .slice s1 s2 s3, .slice ga gb gc, .slice t1 t2 t3, .slice l1 l2 l3] 27) := ⟨_, rfl⟩
  have hsz1 : W1.heap.size = w.heap.size + 1 := by rw [hW1]; simp
  rw [← hW1] at hb1 kT
  have hT := Lib.hid (fun (W' : World) (hB' : Below W1.heap.size W1 W') => (⟨(kT.below hB' (by omega)).cell 0, (kT.below hB' (by omega)).cell 1, (kT.below hB' (by omega)).cell 2, (kT.below hB' (by omega)).cell 3, (kT.below hB' (by omega)).cell 4, (kT.below hB' (by omega)).cell 5, (kT.below hB' (by omega)).cell 6⟩ : W'.cell? ⟨w.heap.size, 0, none⟩ = some (.string ⟨nm.toArray⟩) ∧ W'.cell? ⟨w.heap.size, 1, none⟩ = some (.int .i64 quota) ∧ W'.cell? ⟨w.heap.size, 2, none⟩ = some (.int .i64 next) ∧ W'.cell? ⟨w.heap.size, 3, none⟩ = some (.slice s1 s2 s3) ∧ W'.cell? ⟨w.heap.size, 4, none⟩ = some (.slice ga gb gc) ∧ W'.cell? ⟨w.heap.size, 5, none⟩ = some (.slice t1 t2 t3) ∧ W'.cell? ⟨w.heap.size, 6, none⟩ = some (.slice l1 l2 l3)))
  have hrw : Hid (∀ W', Below W1.heap.size W1 W' → TenR.rd W' w.heap.size ⟨nm, quota, next, ⟨s1, s2, s3, sl⟩, ⟨ga, gb, gc, gl⟩, ⟨t1, t2, t3, tl⟩, ⟨l1, l2, l3, ll⟩⟩ ∧ w.heap.size < W'.heap.size ∧ HasMax W') := by
    show ∀ W', _ → _
    intro W' h
    have h1 := hb1.trans (h.mono (by omega))
    exact ⟨TenR.rd.below hr h1, by have := h.size; omega, hmx.below h1⟩
  have hRC : Hid (∀ W, Below W1.heap.size W1 W → Calls Tryz.prog 22 #[.agg #[.string ⟨nm.toArray⟩, .int .i64 quota, .int .i64 next, .slice s1 s2 s3, .slice ga gb gc, .slice t1 t2 t3, .slice l1 l2 l3]] W fun e w' => e = .returned (.int .i64 (tenE ⟨nm, quota, next, ⟨s1, s2, s3, sl⟩, ⟨ga, gb, gc, gl⟩, ⟨t1, t2, t3, tl⟩, ⟨l1, l2, l3, ll⟩⟩)) ∧ Below W.heap.size W w') := fun W hb =>
    rcheck14_any ⟨nm, quota, next, ⟨s1, s2, s3, sl⟩, ⟨ga, gb, gc, gl⟩, ⟨t1, t2, t3, tl⟩, ⟨l1, l2, l3, ll⟩⟩ W w.heap.size (hrw.out W hb).1 (by have := (hrw.out W hb).2.1; omega) hz
  have hPR : Hid (∀ q : BS, q.length ≤ 4000000000 → ∀ W, Below W1.heap.size W1 W → Calls Tryz.prog 26 #[.agg #[.string ⟨nm.toArray⟩, .int .i64 quota, .int .i64 next, .slice s1 s2 s3, .slice ga gb gc, .slice t1 t2 t3, .slice l1 l2 l3], .string ⟨q.toArray⟩] W (OverPost W (allP (inhL sl q).flatten) (inhE sl q))) := fun q hq W hb =>
    tprops_any ⟨nm, quota, next, ⟨s1, s2, s3, sl⟩, ⟨ga, gb, gc, gl⟩, ⟨t1, t2, t3, tl⟩, ⟨l1, l2, l3, ll⟩⟩ q W w.heap.size (hrw.out W hb).1 (by have := (hrw.out W hb).2.1; omega) hz hq (hrw.out W hb).2.2
  have hFD : Hid (∀ W, Below W1.heap.size W1 W → Calls Tryz.prog 28 #[.agg #[.string ⟨nm.toArray⟩, .int .i64 quota, .int .i64 next, .slice s1 s2 s3, .slice ga gb gc, .slice t1 t2 t3, .slice l1 l2 l3], .string s] W fun e w' => e = .returned (.int .i64 (findS sl p)) ∧ Below W.heap.size W w') := by
    show ∀ W, _ → _
    intro W h
    obtain ⟨r1, r2, _⟩ := hrw.out W h
    rw [hs]
    exact find_any _ _ _ _ _ _ sl s2 hr.sets.1 s1 s3 p W w.heap.size r1.sets.2.2 (by omega) (by have := hz.sets; simp only at this; omega)
  have hpr := hPR.out p hp
  rw [← hs] at hpr
  have hPS := Lib.hid hpr
  clear hpr
  have HSL := Lib.hid (show s2 = sl.length from hr.sets.1)
  have HZ := Lib.hid hz
  have hal := alive14_any W1 (hmx.below hb1)
  have HE2 := Lib.hid h2
  have HSB := Lib.hid hS
  have HB1 := Lib.hid hb1
  have HSZ1 := Lib.hid hsz1
  have HP := Lib.hid hp
  have HS := Lib.hid hs
  clear hb1 hsz1 kT hr hz h2 hS hmx hs hp
  go_enter Tryz.func6, Tryz.ntmps6
  go_wp2_with fail
  rw [← hW1]
  clear hW1
  refine hal.mono ?_
  clear hal
  rintro e w2 ⟨rfl, hW2⟩
  obtain ⟨c0, c1, c2, c3, c4, c5, c6⟩ := hT.out _ hW2
  have hc := hPS.out _ hW2
  go_wp2_with fail
  refine hc.mono ?_
  clear hc c0 c1 c2 c3 c4 c5 c6
  rintro e w3 ⟨v, rfl, hv, hb3⟩
  have HW3 := Lib.hid (hW2.trans (hb3.mono hW2.size))
  have HV := Lib.hid hv
  clear hv hb3 hW2
  obtain ⟨E, hE⟩ : ∃ E, E = inhE sl p := ⟨_, rfl⟩
  rw [← hE] at HV ⊢
  have HE := Lib.hid hE
  clear hE
  by_cases hE0 : E = 0
  · subst hE0
    have hv := HV.out
    rw [if_pos rfl] at hv
    obtain ⟨F, hF⟩ : ∃ F, F = allP (inhL sl p).flatten := ⟨_, rfl⟩
    rw [← hF] at hv
    have hFl : F.length ≤ 8 := by rw [hF]; exact over_len HE.out.symm
    have HF := Lib.hid hF
    obtain ⟨lA, lc, rfl, _⟩ := own_form hv
    have HR3 := Lib.hid (Reads.of_own hv)
    have hown : ∃ (k : Nat) (h : k < sl.length), findS sl p = (k : Int) ∧ ownAt sl p = some (sl[k]'h).own := by
      rcases find_own sl p with ⟨_, h⟩ | h
      · have := HE.out
        unfold inhE at this
        rw [h] at this
        cases this
      · exact h
    obtain ⟨k, hkl, hfk, hok⟩ := hown
    have hfd := hFD
    rw [hfk] at hfd
    have HOK := Lib.hid hok
    have hk0 : (0 : Int) ≤ (k : Int) := by omega
    clear hv hF HV hFD hfk hok
    go_wp2_with fail
    refine (num14_any 0 _).mono ?_
    rintro e w3' ⟨rfl, hw⟩
    rw [hw]
    clear hw w3'
    obtain ⟨c0, c1, c2, c3, c4, c5, c6⟩ := hT.out _ HW3.out
    have hc := hRC.out _ HW3.out
    go_wp2_with fail
    refine hc.mono ?_
    clear hc hRC c0 c1 c2 c3 c4 c5 c6
    rintro e w4 ⟨rfl, hb4⟩
    have HW4 := Lib.hid (HW3.out.trans (hb4.mono HW3.out.size))
    have HR4 := Lib.hid (HR3.out.below hb4)
    have HG4 := Lib.hid hb4.size
    clear hb4 HR3 HW3
    rcases HE2.out with h0 | h9
    · rw [h0]
      have hsb := HSB.out h0
      by_cases hp0 : p = []
      · have hse : s = ⟨#[]⟩ := by rw [HS.out, hp0]
        subst hse
        go_wp2_with fail
        refine (num14_any 0 _).mono ?_
        rintro e w4' ⟨rfl, hw⟩
        rw [hw]
        clear hw w4'
        obtain ⟨c0, c1, c2, c3, c4, c5, c6⟩ := hT.out _ HW4.out
        have hc := hfd.out _ HW4.out
        go_wp2_with fail
        refine hc.mono ?_
        rintro e w5 ⟨rfl, hb5⟩
        go_wp2_with fail
        go_ret
        exact ⟨rfl, HB1.out.trans ((HW4.out.trans (hb5.mono HW4.out.size)).mono (by have := HSZ1.out; omega))⟩
      · have hie2 : s.toList ≠ [] := by rw [toList_data s, HSP.out]; exact hp0
        have hie : s.toList.isEmpty = false := by rw [toList_data s, HSP.out]; simpa using hp0
        have hsz : s.size = p.length := by rw [Lib.size_eq s, HSP.out]
        have HSZ := Lib.hid hsz
        have HP0 := Lib.hid hp0
        have HSB2 := Lib.hid hsb
        have hs4 : s.size ≤ 4000000000 := by rw [hsz]; exact HP.out
        clear hsz hp0 hsb
        go_wp2_with fail
        go_loopw [9, 10] (fun u i wr => ∃ k' : Nat, k' ≤ s.size ∧ u = .string ⟨(upT p k').toArray⟩ ∧ i = .int .i64 (k' : Int) ∧ wr = w4) (fun _ i _ => s.size - (intOf i).toNat)
        case atStart => exact ⟨0, Nat.zero_le _, rfl, rfl, rfl⟩
        case round =>
          obtain ⟨k', hk', rfl, rfl, hww⟩ := hrel
          have hww := hww.symm
          subst hww
          by_cases hks : k' < s.size
          · have hki : (k' : Int) < (s.size : Int) := by omega
            have hkl2 : k' < s.data.toList.length := by rw [HSP.out, ← HSZ.out]; exact hks
            obtain ⟨y, hy⟩ : ∃ y, y = s[k']'hks := ⟨_, rfl⟩
            have HY := Lib.hid (show p[k']? = some y by rw [← HSP.out, List.getElem?_eq_getElem hkl2, bget s k' hks, hy])
            have hyv : ((s[k']'hks).toNat : Int) = (y.toNat : Int) := by rw [hy]
            have hlt := y.toNat_lt
            clear hy hkl2
            by_cases h47 : (y.toNat : Int) = 47
            · have hy47 : y = 47 := by
                apply UInt8.toNat_inj.1
                have e : (47 : UInt8).toNat = 47 := rfl
                omega
              have HU : Hid (s.extract 0 k' = ⟨(upT p (k' + 1)).toArray⟩) := by
                show _ = _
                apply eq_mk
                rw [Lib.extract_from_zero, HSP.out, upT_step p k' y HY.out, if_pos hy47]
              have hks2 : (k' : Int) ≤ (s.size : Int) := by omega
              clear hy47
              go_wp2_with fail
              go_roundw
              case rel => exact ⟨k' + 1, by omega, by rw [HU.out], by go_num, trivial⟩
              case measure => simp [intOf]; omega
            · have hyb : ((y.toNat : Int) == 47) = false := by simpa using h47
              have HU : Hid (upT p (k' + 1) = upT p k') := by
                show _ = _
                rw [upT_step p k' y HY.out, if_neg]
                rintro rfl
                exact h47 rfl
              go_wp2_with fail
              go_roundw
              case rel => exact ⟨k' + 1, by omega, by rw [HU.out], by go_num, trivial⟩
              case measure => simp [intOf]; omega
          · obtain rfl : k' = s.size := by omega
            have hU : upT p s.size = upL p := by rw [HSZ.out, upT_all]
            rw [hU]
            have hul : (upL p).length ≤ 4000000000 := by unfold upL; rw [List.length_take]; have := HSZ.out; omega
            obtain ⟨c0, c1, c2, c3, c4, c5, c6⟩ := hT.out _ HW4.out
            have hc := hPR.out (upL p) hul _ HW4.out
            clear hU hul hPR hPS
            go_wp2_with fail
            refine hc.mono ?_
            clear hc c0 c1 c2 c3 c4 c5 c6
            rintro e w5 ⟨v2, rfl, hv2, hb5⟩
            have HW5 := Lib.hid (HW4.out.trans (hb5.mono HW4.out.size))
            have HR5 := Lib.hid (HR4.out.below (hb5.mono HG4.out))
            have HG5 := Lib.hid (Nat.le_trans HG4.out hb5.size)
            have HV2 := Lib.hid hv2
            obtain ⟨E2, hE2⟩ : ∃ E, E = inhE sl (upL p) := ⟨_, rfl⟩
            obtain ⟨G, hG⟩ : ∃ G, G = allP (inhL sl (upL p)).flatten := ⟨_, rfl⟩
            rw [← hE2, ← hG] at HV2
            rw [← hE2]
            have HE2' := Lib.hid hE2
            have HGG := Lib.hid hG
            obtain ⟨g1, hg1⟩ : ∃ g, g = (getP F n).getD [] := ⟨_, rfl⟩
            obtain ⟨b1, hb1⟩ : ∃ b, b = (getP F n).isSome := ⟨_, rfl⟩
            have hc := refPropV_any F n F.length rfl lA lc w5 _ HR5.out (by omega) g1 b1 hg1 hb1
            have Hg1 := Lib.hid hg1
            have Hb1 := Lib.hid hb1
            clear hv2 hb5 hE2 hG hg1 hb1 HR4 HW4 HG4
            go_wp2_with fail
            refine hc.mono ?_
            clear hc
            rintro e w6 ⟨rfl, hb6⟩
            have HW6 := Lib.hid (HW5.out.trans (hb6.mono HW5.out.size))
            have HG6 := Lib.hid hb6
            clear hb6
            have hks0 : k < s2 := by have := HSL.out; omega
            have hki0 : (k : Int) < (s2 : Int) := by omega
            obtain ⟨ad, hsa, hadB, -, -, -, -, q4⟩ := set_at (hrw.out w6 HW6.out).1.sets.2.2 HSL.out hks0
            simp only at hsa
            subst hsa
            have HFN : Hid (∀ W, Below W1.heap.size W1 W → W.cell? ⟨(ad.add (k * 5)).block, (ad.add (k * 5)).off + 4, none⟩ = some (.slice (sl[k]'hkl).own.A (sl[k]'hkl).own.n (sl[k]'hkl).own.c) ∧ (sl[k]'hkl).own.rd W w.heap.size 2 encP) := by
              show ∀ W, _ → _
              intro W hW
              obtain ⟨ad', e', -, -, -, -, -, q'⟩ := set_at (hrw.out W hW).1.sets.2.2 HSL.out hks0
              injection e' with e'
              subst e'
              exact ⟨q', ((hrw.out W hW).1.eachS _ (List.getElem_mem hkl)).own⟩
            have hon := (HZ.out.eachS _ (List.getElem_mem hkl)).own
            obtain ⟨o, hoo⟩ : ∃ o, o = (sl[k]'hkl).own := ⟨_, rfl⟩
            rw [← hoo] at q4 HFN hon HOK
            clear hoo hadB
            have hlaw := Lib.hid (inh_law sl p HSB2.out HP0.out o HOK.out HE.out.symm n)
            obtain ⟨oA, on, oc, ol⟩ := o
            simp only at q4 HFN hon hlaw
            obtain ⟨g3, hg3⟩ : ∃ g, g = (getP ol n).getD [] := ⟨_, rfl⟩
            obtain ⟨b3, hb3⟩ : ∃ b, b = (getP ol n).isSome := ⟨_, rfl⟩
            have hPO : Hid (∀ W, Below W1.heap.size W1 W → Calls Tryz.prog 29 #[.slice oA on oc, .string ⟨n.toArray⟩] W fun e w' => e = .returned (.tuple #[.string ⟨g3.toArray⟩, .bool b3]) ∧ Below W.heap.size W w') := fun W hW => refPropV_any ol n on (HFN.out W hW).2.1 oA oc W _ (HFN.out W hW).2.2.2 (by omega) g3 b3 hg3 hb3
            have Hg3 := Lib.hid hg3
            have Hb3 := Lib.hid hb3
            clear hg3 hb3 hrw
            go_wp2_with fail
            have HBd := Lib.hid HW6.out.drew
            have HG6 := Lib.hid (HG6.out.trans (Below.refl _ _).drew)
            obtain ⟨c0, c1, c2, c3, c4, c5, c6⟩ := hT.out _ HBd.out
            have q4 := (HFN.out _ HBd.out).1
            go_region_law (first | (go_simp; with_reducible refine (hfd.out _ HBd.out).mono ?_; rintro e w8 ⟨rfl, hb8⟩; have HG6 := Lib.hid (HG6.out.trans (hb8.mono HG6.out.size)); have HBd := Lib.hid (HBd.out.trans (hb8.mono HBd.out.size)); obtain ⟨c0, c1, c2, c3, c4, c5, c6⟩ := hT.out _ HBd.out; have q4 := (HFN.out _ HBd.out).1; clear hb8) | (go_simp; with_reducible refine (hPO.out _ HBd.out).mono ?_; rintro e w9 ⟨rfl, hb9⟩; have HG6 := Lib.hid (HG6.out.trans (hb9.mono HG6.out.size)); have HBd := Lib.hid (HBd.out.trans (hb9.mono HBd.out.size)); obtain ⟨c0, c1, c2, c3, c4, c5, c6⟩ := hT.out _ HBd.out; have q4 := (HFN.out _ HBd.out).1; clear hb9))
            all_goals
              clear c0 c1 c2 c3 c4 c5 c6 q4 hPO hfd
              have hl2 := hlaw.out
              rw [← HF.out, ← HGG.out] at hl2
              cases b3 with
              | true =>
                have hsome : getP F n = getP ol n := by
                  rw [hl2]
                  have h := Hb3.out
                  cases hg : getP ol n with
                  | none => rw [hg] at h; cases h
                  | some x => rfl
                have hgg : g1 = g3 := by rw [Hg1.out, Hg3.out, hsome]
                have hbb : b1 = true := by rw [Hb1.out, hsome, ← Hb3.out]
                subst hgg hbb
                clear hsome hl2
                go_wp2_with fail
                refine (num14_any E2 _).mono ?_
                rintro e w10' ⟨rfl, hw⟩
                rw [hw]
                clear hw w10'
                by_cases hE20 : E2 = 0
                · subst hE20
                  go_wp2_with fail
                  go_ret
                  exact ⟨rfl, HB1.out.trans (HBd.out.mono (by have := HSZ1.out; omega))⟩
                · have hEb : (E2 != 0) = true := by simpa using hE20
                  go_wp2_with fail
                  go_ret
                  exact ⟨rfl, HB1.out.trans (HBd.out.mono (by have := HSZ1.out; omega))⟩
              | false =>
                have hnone : getP ol n = none := by
                  have h := Hb3.out
                  cases hg : getP ol n with
                  | none => rfl
                  | some x => rw [hg] at h; cases h
                by_cases hE20 : E2 = 0
                · subst hE20
                  have hv2 := HV2.out
                  rw [if_pos rfl] at hv2
                  obtain ⟨uA, uc, rfl, _⟩ := own_form hv2
                  have hGl : G.length ≤ 8 := by rw [HGG.out]; exact over_len HE2'.out.symm
                  have hc := refPropV_any G n G.length rfl uA uc _ _ ((Reads.of_own hv2).below HG6.out) (by omega) g1 b1 (by rw [Hg1.out, hl2, hnone]; rfl) (by rw [Hb1.out, hl2, hnone]; rfl)
                  clear hl2 hnone hv2
                  go_wp2_with fail
                  refine hc.mono ?_
                  clear hc
                  rintro e w11 ⟨rfl, hb11⟩
                  go_wp2_with fail
                  refine (num14_any 0 _).mono ?_
                  rintro e w10' ⟨rfl, hw⟩
                  rw [hw]
                  clear hw w10'
                  go_wp2_with fail
                  go_ret
                  exact ⟨rfl, HB1.out.trans ((HBd.out.trans (hb11.mono HBd.out.size)).mono (by have := HSZ1.out; omega))⟩
                · have hv2 := HV2.out
                  rw [if_neg hE20] at hv2
                  subst hv2
                  have hEb : (E2 != 0) = true := by simpa using hE20
                  have hc : ∀ W, Calls Tryz.prog 29 #[.slice none 0 0, .string ⟨n.toArray⟩] W fun e w' => e = .returned (.tuple #[.string ⟨#[]⟩, .bool false]) ∧ Below W.heap.size W w' := fun W => refPropV_any [] n 0 rfl none 0 W 0 ⟨rfl, fun h => absurd h (by omega)⟩ (by omega) [] false rfl rfl
                  clear hl2 hnone
                  go_wp2_with fail
                  refine (hc _).mono ?_
                  clear hc
                  rintro e w11 ⟨rfl, hb11⟩
                  go_wp2_with fail
                  refine (num14_any E2 _).mono ?_
                  rintro e w10' ⟨rfl, hw⟩
                  rw [hw]
                  clear hw w10'
                  go_wp2_with fail
                  go_ret
                  exact ⟨rfl, HB1.out.trans ((HBd.out.trans (hb11.mono HBd.out.size)).mono (by have := HSZ1.out; omega))⟩
    · rw [h9]
      go_wp2_with fail
      refine (num14_any 0 _).mono ?_
      rintro e w4' ⟨rfl, hw⟩
      rw [hw]
      clear hw w4'
      obtain ⟨c0, c1, c2, c3, c4, c5, c6⟩ := hT.out _ HW4.out
      have hc := hfd.out _ HW4.out
      go_wp2_with fail
      refine hc.mono ?_
      rintro e w5 ⟨rfl, hb5⟩
      go_wp2_with fail
      go_ret
      exact ⟨rfl, HB1.out.trans ((HW4.out.trans (hb5.mono HW4.out.size)).mono (by have := HSZ1.out; omega))⟩
  · have hv := HV.out
    rw [if_neg hE0] at hv
    subst hv
    have hEb : (E != 0) = true := by simpa using hE0
    clear HV
    go_wp2_with fail
    refine (num14_any E _).mono ?_
    rintro e w3' ⟨rfl, hw⟩
    rw [hw]
    clear hw w3'
    go_wp2_with fail
    refine (num14_any E _).mono ?_
    rintro e w3' ⟨rfl, hw⟩
    rw [hw]
    clear hw w3'
    go_wp2_with fail
    go_ret
    exact ⟨rfl, HB1.out.trans (HW3.out.mono (by have := HSZ1.out; omega))⟩
end Go.Proofs.YtbppdlhbjddhjaaGreatDoor
