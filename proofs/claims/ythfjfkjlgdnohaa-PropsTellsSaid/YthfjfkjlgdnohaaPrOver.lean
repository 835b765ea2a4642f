/-
  props.Over, by its contract.
-/
import Derived.Test.YthfjfkjlgdnohaaLayS
import Derived.Test.YthfjfkjlgdnohaaPrLaw
import Derived.Test.YthfjfkjlgdnohaaPrCheck
import Derived.Shelf.SlIter.Nil
import Derived.Shelf.SortM.Plain
import Derived.Shelf.SortM.SortNone
import Derived.Maps.OwnSet
import Derived.Maps.StringElems
import Derived.Handy
namespace Go.Proofs.Ythfjfkjlgdnohaa
open Go.RowKit Go.Maps Go.Sort Go.Shelf

/-! ### a map that reads as a list of properties -/
structure MapIs (D : DataW Unit) (F : PL) : Prop where
  has : ∀ n : BS, Maps.has D (.string n) = (getP F n).isSome
  at_ : ∀ (n v : BS), getP F n = some v → ∀ z, D.atKey (.string n) z = .lit (.string v)
theorem isKey_str (x : BS) : WideAt.IsKeyLit (.string x) := by trivial
theorem MapIs.nil : MapIs (.map []) [] := ⟨fun _ => rfl, fun _ _ h => by cases h⟩
theorem MapIs.put {D : DataW Unit} {F : PL} (h : MapIs D F) (hD : IsMap D) (hF : SortP F) (p : BS × BS) : MapIs (D.put (.string p.1) (.lit (.string p.2))) (putP p F) := by
  refine ⟨fun n => ?_, fun n v hv z => ?_⟩
  · rw [getP_putP p F hF]
    by_cases hn : p.1 = n
    · subst hn
      rw [if_pos rfl, has_put_same hD (isKey_str _)]
      rfl
    · rw [if_neg hn, has_put_other (by intro e; exact hn (by simpa using e.symm)), h.has]
  · rw [getP_putP p F hF] at hv
    by_cases hn : p.1 = n
    · subst hn
      rw [if_pos rfl] at hv
      injection hv with hv
      subst hv
      exact atKey_put_same hD (isKey_str _) _ z
    · rw [if_neg hn] at hv
      rw [atKey_put_other (by intro e; exact hn (by simpa using e.symm))]
      exact h.at_ n v hv z
theorem getP_mem (F : PL) (n : BS) : (getP F n).isSome = true ↔ n ∈ F.map (·.1) := by
  induction F with
  | nil => simp [getP_nil]
  | cons x F ih =>
    rw [getP_cons, List.map_cons, List.mem_cons]
    by_cases h : x.1 = n
    · rw [if_pos h]; simp [h]
    · rw [if_neg h, ih]
      constructor
      · exact .inr
      · rintro (e | e)
        · exact absurd e.symm h
        · exact e
theorem names_nodup (F : PL) (h : SortP F) : (F.map (·.1)).Nodup := by
  refine List.pairwise_map.2 (h.imp fun h => bl_ne h)
theorem names_perm {D : DataW Unit} {F : PL} (h : MapIs D F) (hF : SortP F) {w : World} {R : Value → Option (DataW Unit × List MemPlace)} {b n : Nat} (hown : w.ownsMap Try.prog 9 R b n D) : (strKeys D).Perm (F.map (·.1)) ∧ Maps.size D = F.length := by
  have law : Keyed Try.prog 9 := string_keyed Try.underlying9
  obtain ⟨es, hD, hpw, _⟩ := hown.entries law
  obtain ⟨es', hD', hko⟩ := hown.keysOf
  obtain rfl : es = es' := by rw [hD] at hD'; simpa using hD'
  have hp := perm_strKeys hpw (fun p hp => by obtain ⟨v, hv⟩ := hko p hp; obtain ⟨x, _, hx, _⟩ := Maps.keyOf_str Try.underlying9 hv; exact ⟨x, hx⟩) (names_nodup F hF) (fun x => by rw [← getP_mem, ← hD, h.has])
  rw [← hD] at hp
  refine ⟨hp.symm, ?_⟩
  have := hp.length_eq
  rw [List.length_map] at this
  rw [this, hD]
  show es.length = (es.map fun p => strOf p.1).length
  rw [List.length_map]
theorem names_sorted {F : PL} (hF : SortP F) {ss : List BS} (h : ss.Perm (F.map (·.1))) : ss.mergeSort (fun x y => decide (x ≤ y)) = F.map (·.1) := by
  rw [mergeSort_of_perm h]
  refine List.mergeSort_of_pairwise ?_
  refine List.pairwise_map.2 (hF.imp fun {x y} h => ?_)
  rw [bytesLess_eq, decide_eq_true_eq] at h
  exact decide_eq_true (List.le_of_lt h)

/-! ### slices.Sorted(maps.Keys(m)) -/
theorem Try.sortsS (m : Nat) : AnyZ.SortsIn Try.prog Try.sortedS_ren Fence.wide m :=
  ⟨fun blk off cap ss W hH hblk hsz => callsIn_wide.2 (AnyM.slices_Sort_string Try.sortS blk off cap ss W hH hblk hsz),
   fun p cap W => callsIn_wide.2 (AnyM.slices_Sort_string_none Try.sortS p cap W)⟩
theorem keysS_any (mb : Option Nat) (W : World) : Calls Try.prog 67 #[.map mb] W fun e w' => e = .returned (.func (.func 103) #[] #[.pointer (some ⟨W.heap.size, 0, none⟩)]) ∧ w' = W.alloc (.cells #[.map mb] 97) :=
  (callsIn_wide (n := 5)).1 (AnyZ.keys_in Try.keysS Fence.wide 5 trivial rfl mb W)
theorem sortedS_any (b nn : Nat) (D0 : DataW Unit) (F : PL) (hI : MapIs D0 F) (hF : SortP F) (R : Value → Option (DataW Unit × List MemPlace)) (w : World) (hown : w.ownsMap Try.prog 9 R b nn D0) (hmax : F.length ≤ 1000000) :
    Calls Try.prog 66 #[.func (.func 103) #[] #[.pointer (some ⟨w.heap.size, 0, none⟩)]] (w.alloc (.cells #[.map (some b)] 97)) fun e w' => ∃ v, e = .returned v ∧
      w'.ownsRow w.heap.size 9 1 v F.length (F.map fun x => strV x.1) ∧ Below w.heap.size w w' := by
  obtain ⟨hperm, hsz⟩ := names_perm hI hF hown
  have hbl := hown.lt
  have hseq : SeqGives Fence.wide 2 Try.prog 103 #[.pointer (some ⟨w.heap.size, 0, none⟩)] encStr (fun ss => ss.Perm (strKeys D0)) (Maps.size D0) (w.alloc (.cells #[.map (some b)] 97)) :=
    AnyZ.keys_gives (ρ := Try.keysS_ren) { Try.keysS with } Fence.wide _ trivial rfl (by omega) w.heap.size b nn D0 _ (by simp) (by simp) (by
      obtain ⟨es, clock, hb, Ft, hs, hD⟩ := hown
      exact ⟨es, clock, (Below.heap_alloc _ _ b hbl).trans hb, Ft, hs, hD⟩)
  have cS := AnyZ.sorted_in Try.sortedS Fence.wide 5 trivial trivial trivial trivial rfl (by omega) (Try.sortsS _) (enters_of Try.func102 (by kernel_rfl) rfl) 103 #[.pointer (some ⟨w.heap.size, 0, none⟩)] trivial (enters_of Try.func103 (by kernel_rfl) rfl) _ _ (by unfold maxLen; omega) (by omega) _ hseq
  change CallsIn _ _ Try.prog 66 _ _ _ at cS
  refine ((callsIn_wide (n := 5)).1 cS).mono ?_
  rintro e w' ⟨v, ss, rfl, hS, hrow, _, hb⟩
  have hp := hS.trans hperm
  have hsl : ss.length = F.length := by rw [hp.length_eq, List.length_map]
  rw [names_sorted hF hp, hsl, List.map_map] at hrow
  exact ⟨v, rfl, own_mono hrow (by simp), ((Below.refl _ w).alloc (Nat.le_refl _) _).trans (hb.mono (by simp))⟩
theorem wpList_lookup_own_str {P : Program} (w : World) {ops : Array Oper} {rest : List Oper} {o : Oper} {a : Act} {Q : Exit → Act → World → Prop}
    (hg : o.guard = none) (m x : Operand) (t : TypeId) (hop : o.op = Op.lookup t m x false)
    (k e : TypeId) (K : Keyed P k) (ht : P.underlying t = some (.map k e)) (he : P.underlying e = some .string) (hz : (zeroValue e).run P w = .ok (.string ByteArray.empty) w) (b n : Nat) (D : DataW Unit)
    (hm : a.eval m = .map (some b)) (hown : w.ownsMap P k (plainElem P e) b n D) (key : Value) (kl : Lit) (hx : a.eval x = key) (hkey : keyOf P k key = some kl) (v : BS) (hv : ∀ z, D.atKey kl z = .lit (.string v))
    (hK : wpList P ops Q rest (a.put o.dst (.string ⟨v.toArray⟩)) w) :
    wpList P ops Q (o :: rest) a w := by
  refine wpList_plain hg fun K' hK' => ?_
  have hz2 : plainElem (H := Unit) P e (.string ByteArray.empty) = some (.lit (.string []), []) := plainElem_string he (by decide)
  obtain ⟨u, ps, hrun, hu⟩ := hown.lookup K ht hz hz2 hkey
  obtain ⟨s, rfl, hs, _⟩ := plainElem_string_inv he hu
  rw [hv] at hs
  simp only [Prod.mk.injEq, DataW.lit.injEq, Lit.string.injEq] at hs
  have hsv : s = ⟨v.toArray⟩ := by rw [hs.1]
  rw [hsv] at hrun
  unfold Oper.wp
  simp [execOp, hop, hm, hx, hrun, Result.andThen]
  exact hK' _ _ hK

/-! ### Over -/
def strOk (l : PL) : Prop := ∀ x ∈ l, x.1.length ≤ 140737488351232 ∧ x.2.length ≤ 140737488351232
structure PropsIn (w : World) (B : Nat) (v : Value) (l : PL) : Prop where
  ex : ∃ A n c, v = .slice A n c ∧ n = l.length ∧ n ≤ 5000000000000 ∧ Reads w B 2 A n (pcells l)
  ok : strOk l
theorem PropsIn.below {w W : World} {B : Nat} {v : Value} {l : PL} (h : PropsIn w B v l) (hb : Below B w W) : PropsIn W B v l := by
  obtain ⟨A, n, c, rfl, hn, hm, hr⟩ := h.ex
  exact ⟨⟨A, n, c, rfl, hn, hm, hr.below hb⟩, h.ok⟩
def overE (ls : List PL) : Int := if ls.all propsB = true then (if 8 < (allP ls.flatten).length then 3 else 0) else 9
def OverPost (w : World) (F : PL) (E : Int) (e : Ending) (w' : World) : Prop :=
  ∃ v, e = .returned (.tuple #[v, .int .i64 E]) ∧ (if E = 0 then w'.ownsRow w.heap.size 99 2 v F.length (pcells F) else v = .slice none 0 0) ∧ Below w.heap.size w w'
theorem Try.infoP : (Try.prog.info? 99).map (fun i => (i.zero, i.size, i.bytes)) = some (some (.agg #[.string ByteArray.empty, .string ByteArray.empty]), 2, 32) := by kernel_rfl
theorem Try.lawS : Keyed Try.prog 9 := string_keyed Try.underlying9
theorem Try.zeroS (w : World) : (zeroValue 9).run Try.prog w = .ok (.string ByteArray.empty) w := by kernel_rfl
theorem pcells_one (l : PL) : ∀ u ∈ pcells l, u.oneCell' = true := by
  intro u hu
  simp only [pcells, List.mem_flatMap] at hu
  obtain ⟨x, _, hx⟩ := hu
  rcases List.mem_cons.1 hx with rfl | hx
  · rfl
  · rcases List.mem_cons.1 hx with rfl | hx
    · rfl
    · cases hx
theorem propsB_small (l : PL) (h : propsB l = true) : l.length ≤ 8 ∧ ∀ x ∈ l, x.1.length ≤ 16 ∧ x.2.length ≤ 32 := by
  unfold propsB at h
  rw [Bool.and_eq_true, decide_eq_true_eq] at h
  exact ⟨h.1, fun x hx => by obtain ⟨h1, h2⟩ := propsFrom_small _ _ h.2 x hx; exact ⟨nameB_len _ h1, valB_len _ h2⟩⟩
set_option maxRecDepth 100000 in
set_option maxHeartbeats 2000000 in
theorem over_any (ls : List (Value × PL)) (n : Nat) (hnl : n = ls.length) (A : Option Addr) (c : Nat) (w : World) (B : Nat) (hr : Reads w B 1 A n (ls.map (·.1))) (hB : B ≤ w.heap.size)
    (hin : ∀ p ∈ ls, PropsIn w B p.1 p.2) (hn : n ≤ 1000000) :
    Calls Try.prog 24 #[.slice A n c] w (OverPost w (allP (ls.map (·.2)).flatten) (overE (ls.map (·.2)))) := by
  have hmm := @run_makeMap Try.prog
  obtain ⟨i0, hi0, hz0, hz1, hz2⟩ := info_parts Try.infoP
  have HN := Lib.hid hnl
  have HI := Lib.hid hin
  obtain ⟨F, hF⟩ : ∃ F, F = allP (ls.map (·.2)).flatten := ⟨_, rfl⟩
  obtain ⟨E, hE⟩ : ∃ E, E = overE (ls.map (·.2)) := ⟨_, rfl⟩
  rw [← hF, ← hE]
  have HF := Lib.hid hF
  have HEE := Lib.hid hE
  clear hnl hin hF hE
  go_enter Try.func24, Try.ntmps24
  go_wp2_with fail
  go_loopw [16] (fun i wr => ∃ (k : Nat) (D : DataW Unit) (m : Nat), k ≤ n ∧ m ≤ 8 * k ∧ i = .int .i64 (k : Int) ∧ wr.ownsMap Try.prog 9 (plainElem Try.prog 9) w.heap.size m D ∧ Hid (MapIs D (allP ((ls.take k).map (·.2)).flatten) ∧ (ls.take k).all (fun p => propsB p.2) = true) ∧ Below w.heap.size w wr)
    (fun i _ => n - (intOf i).toNat)
  case atStart => exact ⟨0, .map [], 0, Nat.zero_le _, Nat.zero_le _, rfl, World.ownsMap_made _ _ _ _, ⟨MapIs.nil, rfl⟩, (Below.refl _ _).alloc (Nat.le_refl _) _⟩
  case round =>
    obtain ⟨k, D, m, hk, hm8, rfl, hown, hI, hbw⟩ := hrel
    by_cases hlt : k < n
    · have hki : (k : Int) < (n : Int) := by omega
      have hkl : k < ls.length := by have := HN.out; omega
      obtain ⟨ad, u, rfl, _, hxu, hcell⟩ := (hr.below (hbw.mono hB)).at_ hlt
      obtain ⟨p, hp⟩ : ∃ p, p = ls[k]'hkl := ⟨_, rfl⟩
      have hup : u = p.1 := by
        rw [List.getElem?_map, List.getElem?_eq_getElem hkl] at hxu
        rw [hp]
        exact (Option.some.inj hxu).symm
      subst hup
      have hpl : p ∈ ls := by rw [hp]; exact List.getElem_mem _
      have htk := List.take_succ_eq_append_getElem hkl
      rw [← hp] at htk
      obtain ⟨⟨A2, n2, c2, hpv, hn2, hn2m, hr2⟩, hsok⟩ := HI.out p hpl
      obtain ⟨pv, l2⟩ := p
      simp only at hpv hn2 hr2 hsok hcell
      subst hpv
      have hck := checkP_any l2 n2 hn2 A2 c2 wr B (hr2.below (hbw.mono hB)) (Nat.le_trans hB hbw.size) (by omega) (fun x hx => (hsok x hx).2)
      have HPL := Lib.hid hpl
      have HTK := Lib.hid htk
      have HN2 := Lib.hid hn2
      clear hp hpl htk hxu hr hn2
      obtain ⟨b, hb⟩ : ∃ b, b = propsB l2 := ⟨_, rfl⟩
      have hPE : propsE l2 = if b = true then 0 else 9 := by rw [hb]; rfl
      rw [hPE] at hck
      have HBB := Lib.hid hb
      clear hPE hb
      cases b with
      | false =>
        have hE : Hid (E = 9) := by
          show _ = _
          rw [HEE.out]
          unfold overE
          rw [if_neg]
          rw [List.all_eq_true]
          intro h
          have := h l2 (List.mem_map.2 ⟨_, HPL.out, rfl⟩)
          rw [← HBB.out] at this
          cases this
        rw [if_neg (by simp)] at hck
        clear hr2 hown
        go_wp2_with fail
        refine hck.mono ?_
        clear hck
        rintro e w1 ⟨rfl, hb1⟩
        have hb2 := hbw.trans (hb1.mono hbw.size)
        go_wp2_with fail
        go_ret2
        exact ⟨.slice none 0 0, by rw [hE.out]; rfl, by rw [hE.out, if_neg (by decide)], hb2⟩
      | true =>
        rw [if_pos rfl] at hck
        obtain ⟨hl8, hsm⟩ := propsB_small l2 HBB.out.symm
        have hn8 : n2 ≤ 8 := by have := HN2.out; omega
        have HSM := Lib.hid hsm
        clear hsm hl8 hsok
        go_wp2_with fail
        refine hck.mono ?_
        clear hck
        rintro e w1 ⟨rfl, hb1⟩
        have hbw1 := hbw.trans (hb1.mono hbw.size)
        have hown1 : w1.ownsMap Try.prog 9 (plainElem Try.prog 9) w.heap.size m D := hown.kept (row := none) ⟨hb1.os, hb1.tape, hb1.output, hb1.size, fun j hj _ => hb1.block j hj⟩ (by simp)
        clear hown hb1
        go_wp2_with fail
        obtain ⟨pre, hpre⟩ : ∃ pre, pre = ((ls.take k).map (·.2)).flatten := ⟨_, rfl⟩
        rw [← hpre] at hI
        have HPRE : Hid (((ls.take (k + 1)).map (·.2)).flatten = pre ++ l2) := by show _ = _; rw [HTK.out, hpre]; simp
        have HALL : Hid ((ls.take (k + 1)).all (fun p => propsB p.2) = true) := by show _ = _; rw [HTK.out, List.all_append, hI.out.2]; simp [HBB.out.symm]
        have hI0 := Lib.hid hI.out.1
        clear hI hpre
        go_loopw [27] (fun i wr => ∃ (j : Nat) (D : DataW Unit) (m : Nat), j ≤ n2 ∧ m ≤ 8 * k + j ∧ i = .int .i64 (j : Int) ∧ wr.ownsMap Try.prog 9 (plainElem Try.prog 9) w.heap.size m D ∧ Hid (MapIs D (allP (pre ++ l2.take j))) ∧ Below w.heap.size w wr)
          (fun i _ => n2 - (intOf i).toNat)
        case atStart => exact ⟨0, D, m, Nat.zero_le _, by omega, rfl, hown1, (show MapIs D _ by rw [List.take_zero, List.append_nil]; exact hI0.out), hbw1⟩
        case round =>
          clear hown1 hm8 hI0
          obtain ⟨j, D, m, hj, hmj, rfl, hown, hIj, hbw2⟩ := hrel
          by_cases hlt2 : j < n2
          · have hji : (j : Int) < (n2 : Int) := by omega
            have hjl : j < l2.length := by have := HN2.out; omega
            obtain ⟨ad2, rfl, hadB, c0, c1⟩ := (hr2.below (hbw2.mono hB)).prop HN2.out hlt2
            obtain ⟨x, hx⟩ : ∃ x, x = l2[j]'hjl := ⟨_, rfl⟩
            have hxs := HSM.out x (by rw [hx]; exact List.getElem_mem _)
            have htk2 := List.take_succ_eq_append_getElem hjl
            rw [← hx] at c0 c1 htk2
            have hDp : Hid (∀ (hD : IsMap D), MapIs (D.put (.string x.1) (.lit (.string x.2))) (allP (pre ++ l2.take (j + 1)))) := by
              show ∀ _, _
              intro hD
              rw [htk2, ← List.append_assoc, allP_snoc]
              exact hIj.out.put hD (sort_allP _) x
            obtain ⟨xn, xv⟩ := x
            simp only [strV] at c0 c1 hxs hDp
            have hkey : keyOf Try.prog 9 (.string ⟨xn.toArray⟩) = some (.string xn) := Go.WideMaps.keyOf_string_mk Try.underlying9 (by show xn.length ≤ maxLen; unfold maxLen; omega)
            have hval : plainElem (H := Unit) Try.prog 9 (.string ⟨xv.toArray⟩) = some (.lit (.string xv), []) := plainElem_string Try.underlying9 (by show xv.length ≤ maxLen; unfold maxLen; omega)
            have hmx : m < maxLen := by unfold maxLen; omega
            have hIM := hown.isMap
            have HD2 := Lib.hid (hDp.out hIM)
            have hown2 := hown.alloc (.cells #[.string ⟨xn.toArray⟩, .string ⟨xv.toArray⟩] 99)
            have hbw3 := hbw2.alloc hbw2.size (.cells #[.string ⟨xn.toArray⟩, .string ⟨xv.toArray⟩] 99)
            clear hx htk2 hr2 hown hDp hIM hxs
            go_wp2_with (first
              | (at_mapUpdate; refine wpList_mapUpdate_own _ rfl _ _ _ 97 rfl 9 9 Try.lawS Try.underlying97 _ w.heap.size _ _ rfl hown2 hmx _ _ _ rfl rfl hkey _ [] hval ?_)
              | go_in)
            intro w2 hown3 hgrow
            have R1 := hbw3.grown hgrow hbw3.size (fun j hj => by cases hj; exact Nat.le_refl _)
            clear hgrow hown2 c0 c1
            go_wp2_with fail
            go_roundw
            case rel => exact ⟨j + 1, _, m + 1, by omega, by omega, by go_num, hown3, HD2, R1⟩
            case measure => simp [intOf]; omega
          · have hjn : j = n2 := by omega
            have HI2 : Hid (MapIs D (allP ((ls.take (k + 1)).map (·.2)).flatten) ∧ (ls.take (k + 1)).all (fun p => propsB p.2) = true) := by
              refine ⟨?_, HALL.out⟩
              rw [HPRE.out]
              have := hIj.out
              rwa [List.take_of_length_le (by have := HN2.out; omega)] at this
            clear hr2 hjn
            go_wp2_with fail
            go_roundw
            case rel => exact ⟨k + 1, D, m, by omega, by omega, by go_num, hown, HI2, hbw2⟩
            case measure => simp [intOf]; omega
    · have hkn : k = n := by omega
      have hall : ls.take k = ls := List.take_of_length_le (by have := HN.out; omega)
      obtain ⟨hI1, hI2⟩ := hI.out
      rw [hall] at hI1 hI2
      have hsF : SortP F := by rw [HF.out]; exact sort_allP _
      rw [← HF.out] at hI1
      obtain ⟨hperm, hsz⟩ := names_perm hI1 hsF hown
      have HE : Hid (E = if 8 < F.length then 3 else 0) := by
        show _ = _
        rw [HEE.out]
        unfold overE
        rw [if_pos (by rw [List.all_map]; exact hI2), HF.out]
      have HI2 := Lib.hid hI2
      clear hall hI hI2 hr hkn hperm
      have HI1 := Lib.hid hI1
      have HSF := Lib.hid hsF
      clear hI1 hsF
      obtain ⟨q, hq⟩ : ∃ q, q = F.length := ⟨_, rfl⟩
      rw [← hq] at hsz HE
      have HQ := Lib.hid hq
      clear hq
      by_cases hq8 : 8 < q
      · have HE3 : Hid (E = 3) := by show _ = _; rw [HE.out, if_pos hq8]
        have hi8 : (8 : Int) < (q : Int) := by omega
        clear HE
        go_wp2_with (at_len; refine wpList_len_own _ rfl _ 97 rfl 9 9 Try.underlying97 _ w.heap.size _ D rfl hown ?_)
        go_ret2
        exact ⟨.slice none 0 0, by rw [HE3.out]; rfl, by rw [HE3.out, if_neg (by decide)], hbw⟩
      · have HE0 : Hid (E = 0) := by show _ = _; rw [HE.out, if_neg hq8]
        have hi8 : ¬ (8 : Int) < (q : Int) := by omega
        have hk1 := fun W => keysS_any (some w.heap.size) W
        have hk2 := sortedS_any w.heap.size _ D F HI1.out HSF.out _ wr hown (by have := HQ.out; omega)
        rw [← HQ.out] at hk2
        have hmlt := hown.lt
        clear HE
        go_wp2_with (at_len; refine wpList_len_own _ rfl _ 97 rfl 9 9 Try.underlying97 _ w.heap.size _ D rfl hown ?_)
        refine (hk1 _).mono ?_
        rintro e w1 ⟨rfl, rfl⟩
        go_wp2_with fail
        refine hk2.mono ?_
        rintro e w2 ⟨v, rfl, hrow, hb⟩
        have hown2 : w2.ownsMap Try.prog 9 (plainElem Try.prog 9) w.heap.size m D := hown.kept (row := none) ⟨hb.os, hb.tape, hb.output, hb.size, fun j hj _ => hb.block j hj⟩ (by simp)
        have hb2 := hbw.trans (hb.mono hbw.size)
        obtain ⟨A3, c3, rfl, h31, _, r3⟩ := own_form hrow
        have hml2 := hown2.lt
        have hs2 := hb2.size
        have HOWN := Lib.hid hown2
        clear hown hown2 hrow hk1 hk2 hb hmlt hbw hsz
        go_wp2_with fail
        go_loopw [10, 45] (fun o i wr => ∃ (j : Nat) (A1 : Option Addr) (c1 : Nat), j ≤ q ∧ i = .int .i64 (j : Int) ∧ o = .slice A1 j c1 ∧ wr.ownsRow w2.heap.size 99 2 (.slice A1 j c1) j (pcells (F.take j)) ∧ Below w2.heap.size w2 wr)
          (fun _ i _ => q - (intOf i).toNat)
        case atStart => exact ⟨0, none, 0, Nat.zero_le _, rfl, rfl, ⟨rfl, .inl ⟨rfl, rfl⟩⟩, Below.refl _ _⟩
        case round =>
          obtain ⟨j, A1, c1, hj, rfl, rfl, hro, hbj⟩ := hrel
          by_cases hlt2 : j < q
          · have hji : (j : Int) < (q : Int) := by omega
            have hjl : j < F.length := by have := HQ.out; omega
            obtain ⟨ad, u, rfl, _, hxu, hcell⟩ := (r3.below hbj).at_ hlt2
            obtain ⟨x, hx⟩ : ∃ x, x = F[j]'hjl := ⟨_, rfl⟩
            have hux : u = strV x.1 := by
              rw [List.getElem?_map, List.getElem?_eq_getElem hjl] at hxu
              rw [hx]
              exact (Option.some.inj hxu).symm
            subst hux
            have htk := List.take_succ_eq_append_getElem hjl
            rw [← hx] at htk
            have hget : getP F x.1 = some x.2 := by
              have hm : x ∈ F := by rw [hx]; exact List.getElem_mem _
              obtain ⟨n1, hn1⟩ := Option.isSome_iff_exists.1 ((getP_mem F x.1).2 (List.mem_map_of_mem hm))
              rw [hn1]
              congr 1
              unfold getP at hn1
              obtain ⟨y, hy, hyv⟩ := Option.map_eq_some_iff.1 hn1
              have h1 := List.mem_of_find?_eq_some hy
              have h2 : y.1 = x.1 := beq_iff_eq.1 (List.find?_some (p := fun z : BS × BS => z.1 == x.1) hy)
              have h3 : y = x := by
                obtain ⟨a, ha, hya⟩ := List.getElem_of_mem h1
                obtain ⟨b, hb, hxb⟩ := List.getElem_of_mem hm
                have hpw := List.pairwise_iff_getElem.1 HSF.out
                have hab : a = b := by
                  rcases Nat.lt_trichotomy a b with h | h | h
                  · exact absurd (by rw [hya, hxb]; exact h2) (bl_ne (hpw a b ha hb h))
                  · exact h
                  · exact absurd (by rw [hya, hxb]; exact h2.symm) (bl_ne (hpw b a hb ha h))
                subst hab
                rw [← hya, ← hxb]
              rw [← hyv, h3]
            have hat := HI1.out.at_ x.1 x.2 hget
            obtain ⟨xn, xv⟩ := x
            simp only [strV] at hcell hat
            have HT : Hid (pcells (F.take (j + 1)) = pcells (F.take j) ++ [.string ⟨xn.toArray⟩, .string ⟨xv.toArray⟩]) := by show _ = _; rw [htk, pcells_append]; rfl
            have hxl : xn.length ≤ maxLen := by
              have h1 := HF.out
              have hsmall : ∀ (L : PL), (∀ y ∈ L, y.1.length ≤ 16) → ∀ y ∈ allP L, y.1.length ≤ 16 := by
                intro L hL
                induction L using snoc_ind with
                | h0 => intro y hy; cases hy
                | h1 L p ih =>
                  intro y hy
                  rw [allP_snoc] at hy
                  rcases mem_putP p _ y hy with rfl | hy
                  · exact hL _ (by simp)
                  · exact ih (fun z hz => hL z (by simp [hz])) y hy
              have h2 := hsmall (ls.map (·.2)).flatten (by
                intro y hy
                obtain ⟨l2, hl2, hy2⟩ := List.mem_flatten.1 hy
                obtain ⟨p, hp, rfl⟩ := List.mem_map.1 hl2
                exact ((propsB_small p.2 (List.all_eq_true.1 HI2.out p hp)).2 y hy2).1) (xn, xv) (by rw [← h1, hx]; exact List.getElem_mem _)
              unfold maxLen
              simp only at h2
              omega
            have hkey : keyOf Try.prog 9 (.string ⟨xn.toArray⟩) = some (.string xn) := Go.WideMaps.keyOf_string_mk Try.underlying9 hxl
            have hownj : wr.ownsMap Try.prog 9 (plainElem Try.prog 9) w.heap.size m D := HOWN.out.kept (row := none) ⟨hbj.os, hbj.tape, hbj.output, hbj.size, fun i hi _ => hbj.block i hi⟩ (by simp)
            have hsj := hbj.size
            clear hx htk hxu hget hxl r3
            go_wp2_with (first
              | (at_lookup; refine wpList_lookup_own_str _ rfl _ _ 97 rfl 9 9 Try.lawS Try.underlying97 Try.underlying9 (Try.zeroS _) w.heap.size m D rfl hownj _ _ rfl hkey xv hat ?_)
              | (at_builtin; (refine wpList_push _ rfl (.tmp 49) (.tmp 55) 22 rfl w2.heap.size 99 i0 (.agg #[.string ByteArray.empty, .string ByteArray.empty]) 2 32 Try.underlying22 hi0 hz0 hz1 hz2 rfl (by decide) (.slice A1 j c1) j (pcells (F.take j)) rfl hro 1 #[.string ⟨xn.toArray⟩, .string ⟨xv.toArray⟩] 99 rfl rfl (by simp [Value.oneCell']) (by unfold maxLen; omega) (by omega) hsj ?_); intro v4 w4 hown4 hb4 hg4))
            obtain ⟨A4, c4, rfl, _, _, _⟩ := own_form hown4
            have hb5 := hbj.trans hb4
            have HO : Hid (w4.ownsRow w2.heap.size 99 2 (.slice A4 (j + 1) c4) (j + 1) (pcells (F.take (j + 1)))) := by show World.ownsRow _ _ _ _ _ _ _; rw [HT.out]; exact hown4
            clear hown4 hb4 hg4 hownj hro hbj
            go_wp2_with fail
            go_roundw
            case rel => exact ⟨j + 1, A4, c4, by omega, by go_num, rfl, HO.out, hb5⟩
            case measure => simp [intOf]; omega
          · have hjq : j = q := by omega
            have HT : Hid (pcells (F.take j) = pcells F ∧ j = F.length) := ⟨by rw [List.take_of_length_le (by have := HQ.out; omega)], by have := HQ.out; omega⟩
            have hbb := hb2.trans (hbj.mono hs2)
            clear r3 hjq
            go_wp2_with fail
            go_ret2
            refine ⟨_, by rw [HE0.out]; rfl, ?_, hbb⟩
            rw [if_pos HE0.out]
            have := own_mono hro hs2
            rw [HT.out.1] at this
            rw [← HT.out.2]
            exact this
end Go.Proofs.Ythfjfkjlgdnohaa
