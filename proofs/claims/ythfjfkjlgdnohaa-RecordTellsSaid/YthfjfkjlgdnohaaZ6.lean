/-
  props.Over, by its contract.
-/
import Derived.Shelf.SlIter.Nil
import Derived.Shelf.SortM.Plain
import Derived.Shelf.SortM.SortNone
import Derived.Maps.OwnSet
import Derived.Maps.StringElems
import Derived.Handy
import Derived.Test.YthfjfkjlgdnohaaRows
import Derived.ProofKit
import Derived.OpenShut
import Derived.ShutString
import Derived.ChangeOld
import Derived.Carry
import Derived.SizedLaws
import Derived.JoinedCond
import Derived.Deep.CondSized
import Derived.Deep.Slices
import Derived.Deep.Fields
import Derived.Lib.SmallJoins
import Derived.Test.YthfjfkjlgdnohaaZ1
import Derived.Test.YthfjfkjlgdnohaaZ3
import Derived.Test.YthfjfkjlgdnohaaZ4
import Derived.Test.YthfjfkjlgdnohaaZ5
namespace Go.Proofs.Ythfjfkjlgdnohaa
open Go.RowKit Go.Maps Go.Sort Go.Shelf

/-! ### a map that reads as a list of properties -/
structure MapIs (D : DataW Unit) (F : PL) : Prop where
  has : ∀ n : BS, Maps.has D (.string n) = (getP F n).isSome
  at_ : ∀ (n v : BS), getP F n = some v → ∀ z, D.atKey (.string n) z = .lit (.string v)
theorem isKey_str (x : BS) : WideAt.IsKeyLit (.string x) := by trivial
theorem MapIs.nil : MapIs (.map []) [] := ⟨fun _ => rfl, fun _ _ h => by cases h⟩
theorem MapIs.put {D : DataW Unit} {F : PL} (h : MapIs D F) (hD : IsMap D) (hF : SortP F) (p : BS × BS) : MapIs (D.put (.string p.1) (.lit (.string p.2))) (putP p F) := by
  refine ⟨fun n => ?_, fun n v hv z => ?_⟩
  · rw [getP_putP p F hF]
    by_cases hn : p.1 = n
    · subst hn
      rw [if_pos rfl, has_put_same hD (isKey_str _)]
      rfl
    · rw [if_neg hn, has_put_other (by intro e; exact hn (by simpa using e.symm)), h.has]
  · rw [getP_putP p F hF] at hv
    by_cases hn : p.1 = n
    · subst hn
      rw [if_pos rfl] at hv
      injection hv with hv
      subst hv
      exact atKey_put_same hD (isKey_str _) _ z
    · rw [if_neg hn] at hv
      rw [atKey_put_other (by intro e; exact hn (by simpa using e.symm))]
      exact h.at_ n v hv z
theorem getP_mem (F : PL) (n : BS) : (getP F n).isSome = true ↔ n ∈ F.map (·.1) := by
  induction F with
  | nil => simp [getP_nil]
  | cons x F ih =>
    rw [getP_cons, List.map_cons, List.mem_cons]
    by_cases h : x.1 = n
    · rw [if_pos h]; simp [h]
    · rw [if_neg h, ih]
      constructor
      · exact .inr
      · rintro (e | e)
        · exact absurd e.symm h
        · exact e
theorem names_nodup (F : PL) (h : SortP F) : (F.map (·.1)).Nodup := by
  refine List.pairwise_map.2 (h.imp fun h => bl_ne h)
theorem names_perm {D : DataW Unit} {F : PL} (h : MapIs D F) (hF : SortP F) {w : World} {R : Value → Option (DataW Unit × List MemPlace)} {b n : Nat} (hown : w.ownsMap Try.prog 9 R b n D) : (strKeys D).Perm (F.map (·.1)) ∧ Maps.size D = F.length := by
  have law : Keyed Try.prog 9 := string_keyed Try.underlying9
  obtain ⟨es, hD, hpw, _⟩ := hown.entries law
  obtain ⟨es', hD', hko⟩ := hown.keysOf
  obtain rfl : es = es' := by rw [hD] at hD'; simpa using hD'
  have hp := perm_strKeys hpw (fun p hp => by obtain ⟨v, hv⟩ := hko p hp; obtain ⟨x, _, hx, _⟩ := Maps.keyOf_str Try.underlying9 hv; exact ⟨x, hx⟩) (names_nodup F hF) (fun x => by rw [← getP_mem, ← hD, h.has])
  rw [← hD] at hp
  refine ⟨hp.symm, ?_⟩
  have := hp.length_eq
  rw [List.length_map] at this
  rw [this, hD]
  show es.length = (es.map fun p => strOf p.1).length
  rw [List.length_map]
theorem names_sorted {F : PL} (hF : SortP F) {ss : List BS} (h : ss.Perm (F.map (·.1))) : ss.mergeSort (fun x y => decide (x ≤ y)) = F.map (·.1) := by
  rw [mergeSort_of_perm h]
  refine List.mergeSort_of_pairwise ?_
  refine List.pairwise_map.2 (hF.imp fun {x y} h => ?_)
  rw [bytesLess_eq, decide_eq_true_eq] at h
  exact decide_eq_true (List.le_of_lt h)

/-! ### slices.Sorted(maps.Keys(m)) -/
theorem Try.sortsS (m : Nat) : AnyZ.SortsIn Try.prog Try.sortedS_ren Fence.wide m :=
  ⟨fun blk off cap ss W hH hblk hsz => callsIn_wide.2 (AnyM.slices_Sort_string Try.sortS blk off cap ss W hH hblk hsz),
   fun p cap W => callsIn_wide.2 (AnyM.slices_Sort_string_none Try.sortS p cap W)⟩
theorem keysS_any (mb : Option Nat) (W : World) : Calls Try.prog 67 #[.map mb] W fun e w' => e = .returned (.func (.func 103) #[] #[.pointer (some ⟨W.heap.size, 0, none⟩)]) ∧ w' = W.alloc (.cells #[.map mb] 97) :=
  (callsIn_wide (n := 5)).1 (AnyZ.keys_in Try.keysS Fence.wide 5 trivial rfl mb W)
theorem sortedS_any (b nn : Nat) (D0 : DataW Unit) (F : PL) (hI : MapIs D0 F) (hF : SortP F) (R : Value → Option (DataW Unit × List MemPlace)) (w : World) (hown : w.ownsMap Try.prog 9 R b nn D0) (hmax : F.length ≤ 1000000) :
    Calls Try.prog 66 #[.func (.func 103) #[] #[.pointer (some ⟨w.heap.size, 0, none⟩)]] (w.alloc (.cells #[.map (some b)] 97)) fun e w' => ∃ v, e = .returned v ∧
      w'.ownsRow w.heap.size 9 1 v F.length (F.map fun x => strV x.1) ∧ Below w.heap.size w w' := by
  obtain ⟨hperm, hsz⟩ := names_perm hI hF hown
  have hbl := hown.lt
  have hseq : SeqGives Fence.wide 2 Try.prog 103 #[.pointer (some ⟨w.heap.size, 0, none⟩)] encStr (fun ss => ss.Perm (strKeys D0)) (Maps.size D0) (w.alloc (.cells #[.map (some b)] 97)) :=
    AnyZ.keys_gives (ρ := Try.keysS_ren) { Try.keysS with } Fence.wide _ trivial rfl (by omega) w.heap.size b nn D0 _ (by simp) (by simp) (by
      obtain ⟨es, clock, hb, Ft, hs, hD⟩ := hown
      exact ⟨es, clock, (Below.heap_alloc _ _ b hbl).trans hb, Ft, hs, hD⟩)
  have cS := AnyZ.sorted_in Try.sortedS Fence.wide 5 trivial trivial trivial trivial rfl (by omega) (Try.sortsS _) (enters_of Try.func102 (by kernel_rfl) rfl) 103 #[.pointer (some ⟨w.heap.size, 0, none⟩)] trivial (enters_of Try.func103 (by kernel_rfl) rfl) _ _ (by unfold maxLen; omega) (by omega) _ hseq
  change CallsIn _ _ Try.prog 66 _ _ _ at cS
  refine ((callsIn_wide (n := 5)).1 cS).mono ?_
  rintro e w' ⟨v, ss, rfl, hS, hrow, _, hb⟩
  have hp := hS.trans hperm
  have hsl : ss.length = F.length := by rw [hp.length_eq, List.length_map]
  rw [names_sorted hF hp, hsl, List.map_map] at hrow
  exact ⟨v, rfl, own_mono hrow (by simp), ((Below.refl _ w).alloc (Nat.le_refl _) _).trans (hb.mono (by simp))⟩
theorem wpList_lookup_own_str {P : Program} (w : World) {ops : Array Oper} {rest : List Oper} {o : Oper} {a : Act} {Q : Exit → Act → World → Prop}
    (hg : o.guard = none) (m x : Operand) (t : TypeId) (hop : o.op = Op.lookup t m x false)
    (k e : TypeId) (K : Keyed P k) (ht : P.underlying t = some (.map k e)) (he : P.underlying e = some .string) (hz : (zeroValue e).run P w = .ok (.string ByteArray.empty) w) (b n : Nat) (D : DataW Unit)
    (hm : a.eval m = .map (some b)) (hown : w.ownsMap P k (plainElem P e) b n D) (key : Value) (kl : Lit) (hx : a.eval x = key) (hkey : keyOf P k key = some kl) (v : BS) (hv : ∀ z, D.atKey kl z = .lit (.string v))
    (hK : wpList P ops Q rest (a.put o.dst (.string ⟨v.toArray⟩)) w) :
    wpList P ops Q (o :: rest) a w := by
  refine wpList_plain hg fun K' hK' => ?_
  have hz2 : plainElem (H := Unit) P e (.string ByteArray.empty) = some (.lit (.string []), []) := plainElem_string he (by decide)
  obtain ⟨u, ps, hrun, hu⟩ := hown.lookup K ht hz hz2 hkey
  obtain ⟨s, rfl, hs, _⟩ := plainElem_string_inv he hu
  rw [hv] at hs
  simp only [Prod.mk.injEq, DataW.lit.injEq, Lit.string.injEq] at hs
  have hsv : s = ⟨v.toArray⟩ := by rw [hs.1]
  rw [hsv] at hrun
  unfold Oper.wp
  simp [execOp, hop, hm, hx, hrun, Result.andThen]
  exact hK' _ _ hK

/-! ### Over -/
def strOk (l : PL) : Prop := ∀ x ∈ l, x.1.length ≤ 140737488351232 ∧ x.2.length ≤ 140737488351232
structure PropsIn (w : World) (B : Nat) (v : Value) (l : PL) : Prop where
  ex : ∃ A n c, v = .slice A n c ∧ n = l.length ∧ n ≤ 5000000000000 ∧ Reads w B 2 A n (pcells l)
  ok : strOk l
theorem PropsIn.below {w W : World} {B : Nat} {v : Value} {l : PL} (h : PropsIn w B v l) (hb : Below B w W) : PropsIn W B v l := by
  obtain ⟨A, n, c, rfl, hn, hm, hr⟩ := h.ex
  exact ⟨⟨A, n, c, rfl, hn, hm, hr.below hb⟩, h.ok⟩
def overE (ls : List PL) : Int := if ls.all propsB = true then (if 8 < (allP ls.flatten).length then 3 else 0) else 9
def OverPost (w : World) (F : PL) (E : Int) (e : Ending) (w' : World) : Prop :=
  ∃ v, e = .returned (.tuple #[v, .int .i64 E]) ∧ (if E = 0 then w'.ownsRow w.heap.size 99 2 v F.length (pcells F) else v = .slice none 0 0) ∧ Below w.heap.size w w'
theorem Try.infoP : (Try.prog.info? 99).map (fun i => (i.zero, i.size, i.bytes)) = some (some (.agg #[.string ByteArray.empty, .string ByteArray.empty]), 2, 32) := by kernel_rfl
theorem Try.lawS : Keyed Try.prog 9 := string_keyed Try.underlying9
theorem Try.zeroS (w : World) : (zeroValue 9).run Try.prog w = .ok (.string ByteArray.empty) w := by kernel_rfl
theorem pcells_one (l : PL) : ∀ u ∈ pcells l, u.oneCell' = true := by
  intro u hu
  simp only [pcells, List.mem_flatMap] at hu
  obtain ⟨x, _, hx⟩ := hu
  rcases List.mem_cons.1 hx with rfl | hx
  · rfl
  · rcases List.mem_cons.1 hx with rfl | hx
    · rfl
    · cases hx
theorem propsB_small (l : PL) (h : propsB l = true) : l.length ≤ 8 ∧ ∀ x ∈ l, x.1.length ≤ 16 ∧ x.2.length ≤ 32 := by
  unfold propsB at h
  rw [Bool.and_eq_true, decide_eq_true_eq] at h
  exact ⟨h.1, fun x hx => by obtain ⟨h1, h2⟩ := propsFrom_small _ _ h.2 x hx; exact ⟨nameB_len _ h1, valB_len _ h2⟩⟩
set_option maxRecDepth 100000 in
set_option maxHeartbeats 2000000 in
theorem over_any (ls : List (Value × PL)) (n : Nat) (hnl : n = ls.length) (A : Option Addr) (c : Nat) (w : World) (B : Nat) (hr : Reads w B 1 A n (ls.map (·.1))) (hB : B ≤ w.heap.size)
    (hin : ∀ p ∈ ls, PropsIn w B p.1 p.2) (hn : n ≤ 1000000) :
    Calls Try.prog 24 #[.slice A n c] w (OverPost w (allP (ls.map (·.2)).flatten) (overE (ls.map (·.2)))) := by
  have hmm := @run_makeMap Try.prog
  obtain ⟨i0, hi0, hz0, hz1, hz2⟩ := info_parts Try.infoP
  have HN := Lib.hid hnl
  have HI := Lib.hid hin
  obtain ⟨F, hF⟩ : ∃ F, F = allP (ls.map (·.2)).flatten := ⟨_, rfl⟩
  obtain ⟨E, hE⟩ : ∃ E, E = overE (ls.map (·.2)) := ⟨_, rfl⟩
  rw [← hF, ← hE]
  have HF := Lib.hid hF
  have HEE := Lib.hid hE
  clear hnl hin hF hE
  go_enter Try.func24, Try.ntmps24
  go_wp2_with fail
  go_loopw [16] (fun i wr => ∃ (k : Nat) (D : DataW Unit) (m : Nat), k ≤ n ∧ m ≤ 8 * k ∧ i = .int .i64 (k : Int) ∧ wr.ownsMap Try.prog 9 (plainElem Try.prog 9) w.heap.size m D ∧ Hid (MapIs D (allP ((ls.take k).map (·.2)).flatten) ∧ (ls.take k).all (fun p => propsB p.2) = true) ∧ Below w.heap.size w wr)
    (fun i _ => n - (intOf i).toNat)
  case atStart => exact ⟨0, .map [], 0, Nat.zero_le _, Nat.zero_le _, rfl, World.ownsMap_made _ _ _ _, ⟨MapIs.nil, rfl⟩, (Below.refl _ _).alloc (Nat.le_refl _) _⟩
  case round =>
    obtain ⟨k, D, m, hk, hm8, rfl, hown, hI, hbw⟩ := hrel
    by_cases hlt : k < n
    · have hki : (k : Int) < (n : Int) := by omega
      have hkl : k < ls.length := by have := HN.out; omega
      obtain ⟨ad, u, rfl, _, hxu, hcell⟩ := (hr.below (hbw.mono hB)).at_ hlt
      obtain ⟨p, hp⟩ : ∃ p, p = ls[k]'hkl := ⟨_, rfl⟩
      have hup : u = p.1 := by
        rw [List.getElem?_map, List.getElem?_eq_getElem hkl] at hxu
        rw [hp]
        exact (Option.some.inj hxu).symm
      subst hup
      have hpl : p ∈ ls := by rw [hp]; exact List.getElem_mem _
      have htk := List.take_succ_eq_append_getElem hkl
      rw [← hp] at htk
      obtain ⟨⟨A2, n2, c2, hpv, hn2, hn2m, hr2⟩, hsok⟩ := HI.out p hpl
      obtain ⟨pv, l2⟩ := p
      simp only at hpv hn2 hr2 hsok hcell
      subst hpv
      have hck := checkP_any l2 n2 hn2 A2 c2 wr B (hr2.below (hbw.mono hB)) (Nat.le_trans hB hbw.size) (by omega) (fun x hx => (hsok x hx).2)
      have HPL := Lib.hid hpl
      have HTK := Lib.hid htk
      have HN2 := Lib.hid hn2
      clear hp hpl htk hxu hr hn2
      obtain ⟨b, hb⟩ : ∃ b, b = propsB l2 := ⟨_, rfl⟩
      have hPE : propsE l2 = if b = true then 0 else 9 := by rw [hb]; rfl
      rw [hPE] at hck
      have HBB := Lib.hid hb
      clear hPE hb
      cases b with
      | false =>
        have hE : Hid (E = 9) := by
          show _ = _
          rw [HEE.out]
          unfold overE
          rw [if_neg]
          rw [List.all_eq_true]
          intro h
          have := h l2 (List.mem_map.2 ⟨_, HPL.out, rfl⟩)
          rw [← HBB.out] at this
          cases this
        rw [if_neg (by simp)] at hck
        clear hr2 hown
        go_wp2_with fail
        refine hck.mono ?_
        clear hck
        rintro e w1 ⟨rfl, hb1⟩
        have hb2 := hbw.trans (hb1.mono hbw.size)
        go_wp2_with fail
        go_ret2
        exact ⟨.slice none 0 0, by rw [hE.out]; rfl, by rw [hE.out, if_neg (by decide)], hb2⟩
      | true =>
        rw [if_pos rfl] at hck
        obtain ⟨hl8, hsm⟩ := propsB_small l2 HBB.out.symm
        have hn8 : n2 ≤ 8 := by have := HN2.out; omega
        have HSM := Lib.hid hsm
        clear hsm hl8 hsok
        go_wp2_with fail
        refine hck.mono ?_
        clear hck
        rintro e w1 ⟨rfl, hb1⟩
        have hbw1 := hbw.trans (hb1.mono hbw.size)
        have hown1 : w1.ownsMap Try.prog 9 (plainElem Try.prog 9) w.heap.size m D := hown.kept (row := none) ⟨hb1.os, hb1.tape, hb1.output, hb1.size, fun j hj _ => hb1.block j hj⟩ (by simp)
        clear hown hb1
        go_wp2_with fail
        obtain ⟨pre, hpre⟩ : ∃ pre, pre = ((ls.take k).map (·.2)).flatten := ⟨_, rfl⟩
        rw [← hpre] at hI
        have HPRE : Hid (((ls.take (k + 1)).map (·.2)).flatten = pre ++ l2) := by show _ = _; rw [HTK.out, hpre]; simp
        have HALL : Hid ((ls.take (k + 1)).all (fun p => propsB p.2) = true) := by show _ = _; rw [HTK.out, List.all_append, hI.out.2]; simp [HBB.out.symm]
        have hI0 := Lib.hid hI.out.1
        clear hI hpre
        go_loopw [27] (fun i wr => ∃ (j : Nat) (D : DataW Unit) (m : Nat), j ≤ n2 ∧ m ≤ 8 * k + j ∧ i = .int .i64 (j : Int) ∧ wr.ownsMap Try.prog 9 (plainElem Try.prog 9) w.heap.size m D ∧ Hid (MapIs D (allP (pre ++ l2.take j))) ∧ Below w.heap.size w wr)
          (fun i _ => n2 - (intOf i).toNat)
        case atStart => exact ⟨0, D, m, Nat.zero_le _, by omega, rfl, hown1, (show MapIs D _ by rw [List.take_zero, List.append_nil]; exact hI0.out), hbw1⟩
        case round =>
          clear hown1 hm8 hI0
          obtain ⟨j, D, m, hj, hmj, rfl, hown, hIj, hbw2⟩ := hrel
          by_cases hlt2 : j < n2
          · have hji : (j : Int) < (n2 : Int) := by omega
            have hjl : j < l2.length := by have := HN2.out; omega
            obtain ⟨ad2, rfl, hadB, c0, c1⟩ := (hr2.below (hbw2.mono hB)).prop HN2.out hlt2
            obtain ⟨x, hx⟩ : ∃ x, x = l2[j]'hjl := ⟨_, rfl⟩
            have hxs := HSM.out x (by rw [hx]; exact List.getElem_mem _)
            have htk2 := List.take_succ_eq_append_getElem hjl
            rw [← hx] at c0 c1 htk2
            have hDp : Hid (∀ (hD : IsMap D), MapIs (D.put (.string x.1) (.lit (.string x.2))) (allP (pre ++ l2.take (j + 1)))) := by
              show ∀ _, _
              intro hD
              rw [htk2, ← List.append_assoc, allP_snoc]
              exact hIj.out.put hD (sort_allP _) x
            obtain ⟨xn, xv⟩ := x
            simp only [strV] at c0 c1 hxs hDp
            have hkey : keyOf Try.prog 9 (.string ⟨xn.toArray⟩) = some (.string xn) := Go.WideMaps.keyOf_string_mk Try.underlying9 (by show xn.length ≤ maxLen; unfold maxLen; omega)
            have hval : plainElem (H := Unit) Try.prog 9 (.string ⟨xv.toArray⟩) = some (.lit (.string xv), []) := plainElem_string Try.underlying9 (by show xv.length ≤ maxLen; unfold maxLen; omega)
            have hmx : m < maxLen := by unfold maxLen; omega
            have hIM := hown.isMap
            have HD2 := Lib.hid (hDp.out hIM)
            have hown2 := hown.alloc (.cells #[.string ⟨xn.toArray⟩, .string ⟨xv.toArray⟩] 99)
            have hbw3 := hbw2.alloc hbw2.size (.cells #[.string ⟨xn.toArray⟩, .string ⟨xv.toArray⟩] 99)
            clear hx htk2 hr2 hown hDp hIM hxs
            go_wp2_with (first
              | (at_mapUpdate; refine wpList_mapUpdate_own _ rfl _ _ _ 97 rfl 9 9 Try.lawS Try.underlying97 _ w.heap.size _ _ rfl hown2 hmx _ _ _ rfl rfl hkey _ [] hval ?_)
              | go_in)
            intro w2 hown3 hgrow
            have R1 := hbw3.grown hgrow hbw3.size (fun j hj => by cases hj; exact Nat.le_refl _)
            clear hgrow hown2 c0 c1
            go_wp2_with fail
            go_roundw
            case rel => exact ⟨j + 1, _, m + 1, by omega, by omega, by go_num, hown3, HD2, R1⟩
            case measure => simp [intOf]; omega
          · have hjn : j = n2 := by omega
            have HI2 : Hid (MapIs D (allP ((ls.take (k + 1)).map (·.2)).flatten) ∧ (ls.take (k + 1)).all (fun p => propsB p.2) = true) := by
              refine ⟨?_, HALL.out⟩
              rw [HPRE.out]
              have := hIj.out
              rwa [List.take_of_length_le (by have := HN2.out; omega)] at this
            clear hr2 hjn
            go_wp2_with fail
            go_roundw
            case rel => exact ⟨k + 1, D, m, by omega, by omega, by go_num, hown, HI2, hbw2⟩
            case measure => simp [intOf]; omega
    · have hkn : k = n := by omega
      have hall : ls.take k = ls := List.take_of_length_le (by have := HN.out; omega)
      obtain ⟨hI1, hI2⟩ := hI.out
      rw [hall] at hI1 hI2
      have hsF : SortP F := by rw [HF.out]; exact sort_allP _
      rw [← HF.out] at hI1
      obtain ⟨hperm, hsz⟩ := names_perm hI1 hsF hown
      have HE : Hid (E = if 8 < F.length then 3 else 0) := by
        show _ = _
        rw [HEE.out]
        unfold overE
        rw [if_pos (by rw [List.all_map]; exact hI2), HF.out]
      have HI2 := Lib.hid hI2
      clear hall hI hI2 hr hkn hperm
      have HI1 := Lib.hid hI1
      have HSF := Lib.hid hsF
      clear hI1 hsF
      obtain ⟨q, hq⟩ : ∃ q, q = F.length := ⟨_, rfl⟩
      rw [← hq] at hsz HE
      have HQ := Lib.hid hq
      clear hq
      by_cases hq8 : 8 < q
      · have HE3 : Hid (E = 3) := by show _ = _; rw [HE.out, if_pos hq8]
        have hi8 : (8 : Int) < (q : Int) := by omega
        clear HE
        go_wp2_with (at_len; refine wpList_len_own _ rfl _ 97 rfl 9 9 Try.underlying97 _ w.heap.size _ D rfl hown ?_)
        go_ret2
        exact ⟨.slice none 0 0, by rw [HE3.out]; rfl, by rw [HE3.out, if_neg (by decide)], hbw⟩
      · have HE0 : Hid (E = 0) := by show _ = _; rw [HE.out, if_neg hq8]
        have hi8 : ¬ (8 : Int) < (q : Int) := by omega
        have hk1 := fun W => keysS_any (some w.heap.size) W
        have hk2 := sortedS_any w.heap.size _ D F HI1.out HSF.out _ wr hown (by have := HQ.out; omega)
        rw [← HQ.out] at hk2
        have hmlt := hown.lt
        clear HE
        go_wp2_with (at_len; refine wpList_len_own _ rfl _ 97 rfl 9 9 Try.underlying97 _ w.heap.size _ D rfl hown ?_)
        refine (hk1 _).mono ?_
        rintro e w1 ⟨rfl, rfl⟩
        go_wp2_with fail
        refine hk2.mono ?_
        rintro e w2 ⟨v, rfl, hrow, hb⟩
        have hown2 : w2.ownsMap Try.prog 9 (plainElem Try.prog 9) w.heap.size m D := hown.kept (row := none) ⟨hb.os, hb.tape, hb.output, hb.size, fun j hj _ => hb.block j hj⟩ (by simp)
        have hb2 := hbw.trans (hb.mono hbw.size)
        obtain ⟨A3, c3, rfl, h31, _, r3⟩ := own_form hrow
        have hml2 := hown2.lt
        have hs2 := hb2.size
        have HOWN := Lib.hid hown2
        clear hown hown2 hrow hk1 hk2 hb hmlt hbw hsz
        go_wp2_with fail
        go_loopw [10, 45] (fun o i wr => ∃ (j : Nat) (A1 : Option Addr) (c1 : Nat), j ≤ q ∧ i = .int .i64 (j : Int) ∧ o = .slice A1 j c1 ∧ wr.ownsRow w2.heap.size 99 2 (.slice A1 j c1) j (pcells (F.take j)) ∧ Below w2.heap.size w2 wr)
          (fun _ i _ => q - (intOf i).toNat)
        case atStart => exact ⟨0, none, 0, Nat.zero_le _, rfl, rfl, ⟨rfl, .inl ⟨rfl, rfl⟩⟩, Below.refl _ _⟩
        case round =>
          obtain ⟨j, A1, c1, hj, rfl, rfl, hro, hbj⟩ := hrel
          by_cases hlt2 : j < q
          · have hji : (j : Int) < (q : Int) := by omega
            have hjl : j < F.length := by have := HQ.out; omega
            obtain ⟨ad, u, rfl, _, hxu, hcell⟩ := (r3.below hbj).at_ hlt2
            obtain ⟨x, hx⟩ : ∃ x, x = F[j]'hjl := ⟨_, rfl⟩
            have hux : u = strV x.1 := by
              rw [List.getElem?_map, List.getElem?_eq_getElem hjl] at hxu
              rw [hx]
              exact (Option.some.inj hxu).symm
            subst hux
            have htk := List.take_succ_eq_append_getElem hjl
            rw [← hx] at htk
            have hget : getP F x.1 = some x.2 := by
              have hm : x ∈ F := by rw [hx]; exact List.getElem_mem _
              obtain ⟨n1, hn1⟩ := Option.isSome_iff_exists.1 ((getP_mem F x.1).2 (List.mem_map_of_mem hm))
              rw [hn1]
              congr 1
              unfold getP at hn1
              obtain ⟨y, hy, hyv⟩ := Option.map_eq_some_iff.1 hn1
              have h1 := List.mem_of_find?_eq_some hy
              have h2 : y.1 = x.1 := beq_iff_eq.1 (List.find?_some (p := fun z : BS × BS => z.1 == x.1) hy)
              have h3 : y = x := by
                obtain ⟨a, ha, hya⟩ := List.getElem_of_mem h1
                obtain ⟨b, hb, hxb⟩ := List.getElem_of_mem hm
                have hpw := List.pairwise_iff_getElem.1 HSF.out
                have hab : a = b := by
                  rcases Nat.lt_trichotomy a b with h | h | h
                  · exact absurd (by rw [hya, hxb]; exact h2) (bl_ne (hpw a b ha hb h))
                  · exact h
                  · exact absurd (by rw [hya, hxb]; exact h2.symm) (bl_ne (hpw b a hb ha h))
                subst hab
                rw [← hya, ← hxb]
              rw [← hyv, h3]
            have hat := HI1.out.at_ x.1 x.2 hget
            obtain ⟨xn, xv⟩ := x
            simp only [strV] at hcell hat
            have HT : Hid (pcells (F.take (j + 1)) = pcells (F.take j) ++ [.string ⟨xn.toArray⟩, .string ⟨xv.toArray⟩]) := by show _ = _; rw [htk, pcells_append]; rfl
            have hxl : xn.length ≤ maxLen := by
              have h1 := HF.out
              have hsmall : ∀ (L : PL), (∀ y ∈ L, y.1.length ≤ 16) → ∀ y ∈ allP L, y.1.length ≤ 16 := by
                intro L hL
                induction L using snoc_ind with
                | h0 => intro y hy; cases hy
                | h1 L p ih =>
                  intro y hy
                  rw [allP_snoc] at hy
                  rcases mem_putP p _ y hy with rfl | hy
                  · exact hL _ (by simp)
                  · exact ih (fun z hz => hL z (by simp [hz])) y hy
              have h2 := hsmall (ls.map (·.2)).flatten (by
                intro y hy
                obtain ⟨l2, hl2, hy2⟩ := List.mem_flatten.1 hy
                obtain ⟨p, hp, rfl⟩ := List.mem_map.1 hl2
                exact ((propsB_small p.2 (List.all_eq_true.1 HI2.out p hp)).2 y hy2).1) (xn, xv) (by rw [← h1, hx]; exact List.getElem_mem _)
              unfold maxLen
              simp only at h2
              omega
            have hkey : keyOf Try.prog 9 (.string ⟨xn.toArray⟩) = some (.string xn) := Go.WideMaps.keyOf_string_mk Try.underlying9 hxl
            have hownj : wr.ownsMap Try.prog 9 (plainElem Try.prog 9) w.heap.size m D := HOWN.out.kept (row := none) ⟨hbj.os, hbj.tape, hbj.output, hbj.size, fun i hi _ => hbj.block i hi⟩ (by simp)
            have hsj := hbj.size
            clear hx htk hxu hget hxl r3
            go_wp2_with (first
              | (at_lookup; refine wpList_lookup_own_str _ rfl _ _ 97 rfl 9 9 Try.lawS Try.underlying97 Try.underlying9 (Try.zeroS _) w.heap.size m D rfl hownj _ _ rfl hkey xv hat ?_)
              | (at_builtin; (refine wpList_push _ rfl (.tmp 49) (.tmp 55) 22 rfl w2.heap.size 99 i0 (.agg #[.string ByteArray.empty, .string ByteArray.empty]) 2 32 Try.underlying22 hi0 hz0 hz1 hz2 rfl (by decide) (.slice A1 j c1) j (pcells (F.take j)) rfl hro 1 #[.string ⟨xn.toArray⟩, .string ⟨xv.toArray⟩] 99 rfl rfl (by simp [Value.oneCell']) (by unfold maxLen; omega) (by omega) hsj ?_); intro v4 w4 hown4 hb4 hg4))
            obtain ⟨A4, c4, rfl, _, _, _⟩ := own_form hown4
            have hb5 := hbj.trans hb4
            have HO : Hid (w4.ownsRow w2.heap.size 99 2 (.slice A4 (j + 1) c4) (j + 1) (pcells (F.take (j + 1)))) := by show World.ownsRow _ _ _ _ _ _ _; rw [HT.out]; exact hown4
            clear hown4 hb4 hg4 hownj hro hbj
            go_wp2_with fail
            go_roundw
            case rel => exact ⟨j + 1, A4, c4, by omega, by go_num, rfl, HO.out, hb5⟩
            case measure => simp [intOf]; omega
          · have hjq : j = q := by omega
            have HT : Hid (pcells (F.take j) = pcells F ∧ j = F.length) := ⟨by rw [List.take_of_length_le (by have := HQ.out; omega)], by have := HQ.out; omega⟩
            have hbb := hb2.trans (hbj.mono hs2)
            clear r3 hjq
            go_wp2_with fail
            go_ret2
            refine ⟨_, by rw [HE0.out]; rfl, ?_, hbb⟩
            rw [if_pos HE0.out]
            have := own_mono hro hs2
            rw [HT.out.1] at this
            rw [← HT.out.2]
            exact this
end Go.Proofs.Ythfjfkjlgdnohaa

/-
  The frame of every law of this seat: from a contract 'returns true, below the old heap nothing has turned' to the row's post.
-/
namespace Go.Proofs.Ythfjfkjlgdnohaa
open Go.ChangeShapes Go.WideShapes Go.ChangeAt Go.RowKit Go.Deep Go.Joins
open Go.ChangeMaps (open_string shut_string)

theorem Try.own : ownKnob Try.prog.godebug = none := by kernel_rfl
theorem Try.laidOut : laidOutB Try.prog = true := by kernel_rfl

section
variable {H : Type} {enc : TypeId × Value → H} {P : Program}
/-- may these types be read, one by one? -/
def readables (P : Program) (ts : List TypeId) : Bool := ts.all fun t => P.readableRec t && decide (t < P.types.size)

theorem trodAll_below (hl : laidOutB P = true) {W W' : World} (hb : Below W.heap.size W W') (ts : List TypeId) : ∀ (vs : List Value) (ds : List (DataW H)) (p : List MemPlace), readables P ts = true →
    DataW.TrodAll enc P W 0 (fun _ => true) true ts vs ds p → (∀ x ∈ p, x.block < W.heap.size) → DataW.TrodAll enc P W' 0 (fun b => decide (b < W.heap.size)) true ts vs ds p := by
  induction ts with
  | nil =>
    intro vs ds p _ h _
    match vs, ds with
    | [], [] => exact h
    | [], _ :: _ => exact h.elim
    | _ :: _, [] => exact h.elim
    | _ :: _, _ :: _ => exact h.elim
  | cons t ts ih =>
    intro vs ds p hr h hlt
    match vs, ds with
    | v :: vs, d :: ds =>
      obtain ⟨p1, q, h1, h2, rfl⟩ := h
      simp only [readables, List.all_cons, Bool.and_eq_true, decide_eq_true_eq] at hr
      exact ⟨p1, q, Below.trod hl hr.1.1 hr.1.2 h1 hb (fun x hx => hlt x (by simp [hx])), ih vs ds q hr.2 h2 (fun x hx => hlt x (by simp [hx])), rfl⟩
    | [], [] => exact h.elim
    | [], _ :: _ => exact h.elim
    | _ :: _, [] => exact h.elim

theorem trodAll_lt {W : World} (ts : List TypeId) : ∀ (vs : List Value) (ds : List (DataW H)) (p : List MemPlace),
    DataW.TrodAll enc P W 0 (fun _ => true) true ts vs ds p → ∀ x ∈ p, x.block < W.heap.size := by
  induction ts with
  | nil =>
    intro vs ds p h
    match vs, ds with
    | [], [] => subst h; simp
    | [], _ :: _ => exact h.elim
    | _ :: _, [] => exact h.elim
    | _ :: _, _ :: _ => exact h.elim
  | cons t ts ih =>
    intro vs ds p h
    match vs, ds with
    | v :: vs, d :: ds =>
      obtain ⟨p1, q, ⟨m, hm⟩, h2, rfl⟩ := h
      intro x hx
      rcases List.mem_append.1 hx with hx | hx
      · exact DataW.trod_lt m _ _ _ hm x hx
      · exact ih vs ds q h2 x hx
    | [], [] => exact h.elim
    | [], _ :: _ => exact h.elim
    | _ :: _, [] => exact h.elim

/-- what a law's walk owes -/
def LawCalls (P : Program) (f : FuncId) (args : Array Value) (W : World) : Prop := Calls P f args W fun e w' => e = .returned (.bool true) ∧ Below W.heap.size W w'

theorem law_post (hl : laidOutB P = true) {s : ChangeSpec} {f : FuncId} {fn : Func} {ps : List TypeId} {tb : TypeId} (htb : P.underlying tb = some .bool) (hps : fn.params.toList = ps) (hrt : fn.resultTypes = #[tb]) (hv : s.vars = []) (hread : readables P ps = true)
    (hspec : ∀ (vs : List Value) (ds : List (DataW H)) (W : World) p, DataW.TrodAll enc P W 0 (fun _ => true) true ps vs ds p → (s.fn H ds).results = [.lit (.bool true)] ∧ (s.fn H ds).args = ds ∧ (s.fn H ds).vars = [])
    (W : World) (args : Array Value) (ds gs : List (DataW H)) (before : List MemPlace)
    (hW : DataW.Whole enc P fn.params.toList s.vars false W args.toList ds gs before) (h : LawCalls P f args W) :
    Calls P f args W fun e W' => ∃ v, e = .returned v ∧ s.post enc P fn false true false false W args v W' := by
  refine h.mono fun e W' ⟨he, hb⟩ => ?_
  subst he
  refine ⟨_, rfl, ?_⟩
  have hW0 := hW
  obtain ⟨p, q, hA, hV, rfl, hfz, hnd⟩ := hW
  rw [hv] at hV
  obtain ⟨rfl, rfl⟩ := trodVars_none hV
  rw [hps] at hA
  have hs := hspec _ _ _ _ hA
  refine ⟨ds, [], p ++ [], [], p, [], hW0, ?_, ?_, ?_, hb.frame _, fun h => by cases h⟩
  · rw [List.append_nil, hs.1, hrt]
    exact trodAll_mk1 (shut_bool htb _)
  · rw [List.append_nil, hs.2.1, hps]
    exact trodAll_below hl hb _ _ _ _ hread hA (trodAll_lt _ _ _ _ hA)
  · rw [List.append_nil, hs.2.2, hv]
    rfl

/-- one argument as the form hands it over -/
structure ArgIn (enc : TypeId × Value → H) (P : Program) (W : World) (t : TypeId) (v : Value) (d : DataW H) : Prop where
  ok : ∃ base, Value.okWide P W .any base t v
  rd : ∃ p, DataW.Trod enc P W 0 (fun _ => true) true t v d p
  wt : ∀ n ∈ d.weights P t, n ≤ reachBytes

def ArgsIn (enc : TypeId × Value → H) (P : Program) (W : World) : List TypeId → List Value → List (DataW H) → Prop
  | [], [], [] => True
  | t :: ts, v :: vs, d :: ds => ArgIn enc P W t v d ∧ ArgsIn enc P W ts vs ds
  | _, _, _ => False

theorem argsIn {W : World} {base : Nat} (ts : List TypeId) : ∀ (vs : List Value) (ds : List (DataW H)) (p : List MemPlace), DataW.TrodAll enc P W 0 (fun _ => true) true ts vs ds p →
    (∀ (j : Nat) t v, ts[j]? = some t → vs[j]? = some v → Value.okWide P W .any base t v) → (∀ n ∈ DataW.weightsEach P ts ds, n ≤ reachBytes) → ArgsIn enc P W ts vs ds := by
  induction ts with
  | nil =>
    intro vs ds p h _ _
    match vs, ds with
    | [], [] => trivial
    | [], _ :: _ => exact h.elim
    | _ :: _, [] => exact h.elim
    | _ :: _, _ :: _ => exact h.elim
  | cons t ts ih =>
    intro vs ds p h hok hw
    match vs, ds with
    | v :: vs, d :: ds =>
      obtain ⟨p1, q, h1, h2, rfl⟩ := h
      simp only [DataW.weightsEach] at hw
      exact ⟨⟨⟨base, hok 0 t v rfl rfl⟩, ⟨p1, h1⟩, fun n hn => hw n (List.mem_append_left _ hn)⟩, ih vs ds q h2 (fun j t v hj hv => hok (j + 1) t v (by simpa using hj) (by simpa using hv)) (fun n hn => hw n (List.mem_append_right _ hn))⟩
    | [], [] => exact h.elim
    | [], _ :: _ => exact h.elim
    | _ :: _, [] => exact h.elim

/-- THE LAW's CONTRACT, as both builders ask it -/
theorem law_contract (hl : laidOutB P = true) {s : ChangeSpec} {f : FuncId} {fn : Func} {ps : List TypeId} {tb : TypeId} (htb : P.underlying tb = some .bool) (hps : fn.params.toList = ps) (hrt : fn.resultTypes = #[tb]) (hv : s.vars = []) (hread : readables P ps = true)
    (hspec : ∀ (vs : List Value) (ds : List (DataW H)) (W : World) p, DataW.TrodAll enc P W 0 (fun _ => true) true ps vs ds p → (s.fn H ds).results = [.lit (.bool true)] ∧ (s.fn H ds).args = ds ∧ (s.fn H ds).vars = [])
    (W : World) (base : Nat) (args : Array Value) (ds gs : List (DataW H)) (before : List MemPlace)
    (hval : ∀ (j : Nat) t v, fn.params[j]? = some t → args[j]? = some v → Value.okWide P W .any base t v)
    (hW : DataW.Whole enc P fn.params.toList s.vars false W args.toList ds gs before)
    (hsz : (DataW.weightsEach P (fn.params.toList ++ s.plain.varTypes P) (ds ++ gs)).all (· ≤ reachBytes) = true)
    (h : ArgsIn enc P W ps args.toList ds → gs = [] → LawCalls P f args W) :
    Calls P f args W fun e W' => ∃ v, e = .returned v ∧ s.post enc P fn false true false false W args v W' := by
  refine law_post hl htb hps hrt hv hread hspec W args ds gs before hW ?_
  obtain ⟨p, q, hA, hV, _⟩ := hW
  have hvt : s.plain.varTypes P = [] := by simp [ChangeSpec.plain, DataSpec.varTypes, hv]
  rw [hv] at hV
  obtain ⟨rfl, rfl⟩ := trodVars_none hV
  rw [hps] at hA hsz
  rw [hvt, List.append_nil, List.append_nil] at hsz
  refine h (argsIn (base := base) _ _ _ _ hA ?_ ?_) rfl
  · intro j t v hj hv
    refine hval j t v ?_ ?_
    · rw [← hps] at hj; simpa using hj
    · simpa using hv
  · intro n hn
    simpa using List.all_eq_true.1 hsz n hn

theorem argsIn_cons {W : World} {t : TypeId} {ts : List TypeId} {vs : List Value} {ds : List (DataW H)} (h : ArgsIn enc P W (t :: ts) vs ds) : ∃ v vs' d ds', vs = v :: vs' ∧ ds = d :: ds' ∧ ArgIn enc P W t v d ∧ ArgsIn enc P W ts vs' ds' := by
  match vs, ds with
  | v :: vs, d :: ds => exact ⟨v, vs, d, ds, rfl, rfl, h.1, h.2⟩
  | [], [] => exact h.elim
  | [], _ :: _ => exact h.elim
  | _ :: _, [] => exact h.elim
theorem argsIn_nil {W : World} {vs : List Value} {ds : List (DataW H)} (h : ArgsIn enc P W [] vs ds) : vs = [] ∧ ds = [] := by
  match vs, ds with
  | [], [] => exact ⟨rfl, rfl⟩
  | _ :: _, _ :: _ => exact h.elim
  | [], _ :: _ => exact h.elim
  | _ :: _, [] => exact h.elim
theorem argsIn1 {W : World} {t0 : TypeId} {args : Array Value} {ds : List (DataW H)} (h : ArgsIn enc P W [t0] args.toList ds) :
    ∃ v0 d0, args = #[v0] ∧ ds = [d0] ∧ ArgIn enc P W t0 v0 d0 := by
  obtain ⟨l⟩ := args
  obtain ⟨v0, l0, d0, e0, hl, rfl, h0, r0⟩ := argsIn_cons h
  simp only at hl
  subst hl
  obtain ⟨rfl, rfl⟩ := argsIn_nil r0
  exact ⟨v0, d0, rfl, rfl, h0⟩
theorem argsIn2 {W : World} {t0 t1 : TypeId} {args : Array Value} {ds : List (DataW H)} (h : ArgsIn enc P W [t0, t1] args.toList ds) :
    ∃ v0 v1 d0 d1, args = #[v0, v1] ∧ ds = [d0, d1] ∧ ArgIn enc P W t0 v0 d0 ∧ ArgIn enc P W t1 v1 d1 := by
  obtain ⟨l⟩ := args
  obtain ⟨v0, l0, d0, e0, hl, rfl, h0, r0⟩ := argsIn_cons h
  simp only at hl
  subst hl
  obtain ⟨v1, l1, d1, e1, rfl, rfl, h1, r1⟩ := argsIn_cons r0
  obtain ⟨rfl, rfl⟩ := argsIn_nil r1
  exact ⟨v0, v1, d0, d1, rfl, rfl, h0, h1⟩
theorem argsIn3 {W : World} {t0 t1 t2 : TypeId} {args : Array Value} {ds : List (DataW H)} (h : ArgsIn enc P W [t0, t1, t2] args.toList ds) :
    ∃ v0 v1 v2 d0 d1 d2, args = #[v0, v1, v2] ∧ ds = [d0, d1, d2] ∧ ArgIn enc P W t0 v0 d0 ∧ ArgIn enc P W t1 v1 d1 ∧ ArgIn enc P W t2 v2 d2 := by
  obtain ⟨l⟩ := args
  obtain ⟨v0, l0, d0, e0, hl, rfl, h0, r0⟩ := argsIn_cons h
  simp only at hl
  subst hl
  obtain ⟨v1, l1, d1, e1, rfl, rfl, h1, r1⟩ := argsIn_cons r0
  obtain ⟨v2, l2, d2, e2, rfl, rfl, h2, r2⟩ := argsIn_cons r1
  obtain ⟨rfl, rfl⟩ := argsIn_nil r2
  exact ⟨v0, v1, v2, d0, d1, d2, rfl, rfl, h0, h1, h2⟩
theorem argsIn4 {W : World} {t0 t1 t2 t3 : TypeId} {args : Array Value} {ds : List (DataW H)} (h : ArgsIn enc P W [t0, t1, t2, t3] args.toList ds) :
    ∃ v0 v1 v2 v3 d0 d1 d2 d3, args = #[v0, v1, v2, v3] ∧ ds = [d0, d1, d2, d3] ∧ ArgIn enc P W t0 v0 d0 ∧ ArgIn enc P W t1 v1 d1 ∧ ArgIn enc P W t2 v2 d2 ∧ ArgIn enc P W t3 v3 d3 := by
  obtain ⟨l⟩ := args
  obtain ⟨v0, l0, d0, e0, hl, rfl, h0, r0⟩ := argsIn_cons h
  simp only at hl
  subst hl
  obtain ⟨v1, l1, d1, e1, rfl, rfl, h1, r1⟩ := argsIn_cons r0
  obtain ⟨v2, l2, d2, e2, rfl, rfl, h2, r2⟩ := argsIn_cons r1
  obtain ⟨v3, l3, d3, e3, rfl, rfl, h3, r3⟩ := argsIn_cons r2
  obtain ⟨rfl, rfl⟩ := argsIn_nil r3
  exact ⟨v0, v1, v2, v3, d0, d1, d2, d3, rfl, rfl, h0, h1, h2, h3⟩
theorem argsIn5 {W : World} {t0 t1 t2 t3 t4 : TypeId} {args : Array Value} {ds : List (DataW H)} (h : ArgsIn enc P W [t0, t1, t2, t3, t4] args.toList ds) :
    ∃ v0 v1 v2 v3 v4 d0 d1 d2 d3 d4, args = #[v0, v1, v2, v3, v4] ∧ ds = [d0, d1, d2, d3, d4] ∧ ArgIn enc P W t0 v0 d0 ∧ ArgIn enc P W t1 v1 d1 ∧ ArgIn enc P W t2 v2 d2 ∧ ArgIn enc P W t3 v3 d3 ∧ ArgIn enc P W t4 v4 d4 := by
  obtain ⟨l⟩ := args
  obtain ⟨v0, l0, d0, e0, hl, rfl, h0, r0⟩ := argsIn_cons h
  simp only at hl
  subst hl
  obtain ⟨v1, l1, d1, e1, rfl, rfl, h1, r1⟩ := argsIn_cons r0
  obtain ⟨v2, l2, d2, e2, rfl, rfl, h2, r2⟩ := argsIn_cons r1
  obtain ⟨v3, l3, d3, e3, rfl, rfl, h3, r3⟩ := argsIn_cons r2
  obtain ⟨v4, l4, d4, e4, rfl, rfl, h4, r4⟩ := argsIn_cons r3
  obtain ⟨rfl, rfl⟩ := argsIn_nil r4
  exact ⟨v0, v1, v2, v3, v4, d0, d1, d2, d3, d4, rfl, rfl, h0, h1, h2, h3, h4⟩

/-! ### Opening arguments -/
section
variable {W : World} {t : TypeId} {v : Value} {d : DataW H}
theorem ArgIn.int {k : IntKind} (ht : P.underlying t = some (.int k)) (h : ArgIn enc P W t v d) : ∃ n, v = .int k n ∧ (Lit.int k n).wf = true := by
  obtain ⟨⟨base, ho⟩, ⟨p, hr⟩, _⟩ := h
  obtain ⟨n, hv, _, _, hw⟩ := open_int ht ho hr
  exact ⟨n, hv, hw⟩
theorem ArgIn.bool (ht : P.underlying t = some .bool) (h : ArgIn enc P W t v d) : ∃ n, v = .bool n := by
  obtain ⟨⟨base, ho⟩, ⟨p, hr⟩, _⟩ := h
  obtain ⟨n, hv, _⟩ := open_bool ht ho hr
  exact ⟨n, hv⟩
theorem ArgIn.string (ht : P.underlying t = some .string) (h : ArgIn enc P W t v d) : ∃ s : ByteArray, v = .string s ∧ s.size ≤ 140737488351232 ∧ d = .lit (.string s.data.toList) := by
  obtain ⟨⟨base, ho⟩, ⟨p, hr⟩, hw⟩ := h
  obtain ⟨s, hv, rfl, _, _⟩ := open_string ht ho hr
  refine ⟨s, hv, ?_, rfl⟩
  have := hw s.data.toList.length (by simp [DataW.weights])
  simp only [reachBytes] at this
  simpa using this
theorem ArgIn.bytes {e : TypeId} (ht : P.underlying t = some (.slice e)) (he : P.underlying e = some (.int .u8)) (hc : P.cellsOf e = 1) (hb : P.bytesOf e = 1) (h : ArgIn enc P W t v d) :
    ∃ (A : Option Addr) (b : List UInt8) (c : Nat), v = .slice A b.length c ∧ b.length ≤ c ∧ c ≤ 140737488351232 ∧ Reads W W.heap.size 1 A b.length (bts b) ∧ (d = .nil ∧ b = [] ∨ ∃ sp, d = .slice (b.map fun x => .lit (.int .u8 (x.toNat : Int))) sp) := by
  obtain ⟨⟨base, ho⟩, ⟨p, m, hr⟩, hw⟩ := h
  obtain ⟨A, n, c, rfl⟩ := okWide_slice ht ho
  rcases open_ints ht he hc hr with ⟨hcs, hx⟩ | ⟨x, l, cc, zs, hcs, _, hl, hm, hz, hx, hcell, hwz⟩
  · simp [Value.cells] at hcs
    obtain ⟨rfl, rfl, rfl⟩ := hcs
    simp at hx
    exact ⟨none, [], 0, rfl, Nat.le_refl _, by omega, Reads.none_, .inl ⟨hx.1, rfl⟩⟩
  · simp [Value.cells] at hcs
    obtain ⟨rfl, rfl, rfl⟩ := hcs
    simp only [Prod.mk.injEq] at hx
    have hz' : zs.length = c := by simpa using hz
    have hcb : c ≤ 140737488351232 := by
      have := hw ((lits (H := H) .u8 (zs.take n)).length + (lits (H := H) .u8 (zs.drop n)).length) (by rw [hx.1]; simp [DataW.weights, ht, hb])
      simp only [reachBytes, lits, List.length_map, List.length_take, List.length_drop] at this
      omega
    have hbyte : ∀ z ∈ zs, ((UInt8.ofNat z.toNat).toNat : Int) = z := by
      intro z hzm
      have := hwz z hzm
      simp [Lit.wf, IntKind.min, IntKind.max, IntKind.signed, IntKind.bits] at this
      rw [UInt8.toNat_ofNat_of_lt' (by show z.toNat < 256; omega)]
      omega
    have hlen : ((zs.take n).map fun z => UInt8.ofNat z.toNat).length = n := by simp; omega
    have hget : ∀ i u, (bts ((zs.take n).map fun z => UInt8.ofNat z.toNat))[i]? = some u → i < n ∧ u = .int .u8 (zs.getD i 0) := by
      intro i u hu
      have hi : i < n := by
        have h1 := (List.getElem?_eq_some_iff.1 hu).1
        rw [bts_length, hlen] at h1
        exact h1
      refine ⟨hi, ?_⟩
      have hzi : i < zs.length := by omega
      simp [bts, hi, List.getElem?_eq_getElem hzi] at hu
      rw [← hu]
      have := hbyte zs[i] (List.getElem_mem hzi)
      simp at this
      simp [List.getD_eq_getElem?_getD, List.getElem?_eq_getElem hzi, this]
    refine ⟨some x, (zs.take n).map fun z => UInt8.ofNat z.toNat, c, by rw [hlen], by omega, hcb, ⟨by rw [bts_length]; simp, fun hn => ⟨x, rfl, ?_, ?_⟩⟩, .inr ⟨lits .u8 (zs.drop n), ?_⟩⟩
    · have h0 : 0 < zs.length := by rw [hlen] at hn; omega
      have := World.block_lt_of_cell? W _ (hcell 0 h0)
      rwa [block_of_add] at this
    · intro i u hu
      obtain ⟨hi, rfl⟩ := hget i u hu
      exact hcell i (by omega)
    · rw [hx.1]
      simp only [lits, List.map_map]
      congr 1
      apply List.map_congr_left
      intro z hzm
      show _ = DataW.lit (Lit.int .u8 ((UInt8.ofNat z.toNat).toNat : Int))
      rw [hbyte z (List.mem_of_mem_take hzm)]
/-- what the bulk of bytes says -/
theorem bulk_bytes {b : List UInt8} (hd : d = .nil ∧ b = [] ∨ ∃ sp, d = .slice (b.map fun x => .lit (.int .u8 (x.toNat : Int))) sp) : b.length ≤ Rows.uptoBulk d := by
  rcases hd with ⟨rfl, rfl⟩ | ⟨sp, rfl⟩
  · simp
  · simp only [Rows.uptoBulk]
    have : b.length ≤ Rows.uptoBulkAll (b.map fun x => DataW.lit (H := H) (.int .u8 (x.toNat : Int))) := by
      induction b with
      | nil => simp
      | cons x r ih => simp only [List.map_cons, List.length_cons, Rows.uptoBulkAll, Rows.uptoBulk]; omega
    omega
end
end
end Go.Proofs.Ythfjfkjlgdnohaa

/-
  props.Get; the law's num and alive; PropsForce, walked.
-/
namespace Go.Proofs.Ythfjfkjlgdnohaa
open Go.RowKit Go.Maps

def getV (l : PL) (n : BS) : Value := .tuple #[.string ⟨((getP l n).getD []).toArray⟩, .bool (getP l n).isSome]
theorem find_none {l : PL} {n : BS} (h : ∀ x ∈ l, x.1 ≠ n) : getP l n = none := by
  unfold getP
  rw [List.find?_eq_none.2]
  · rfl
  · intro x hx e
    exact h x hx (beq_iff_eq.1 e)
theorem find_at {l : PL} {n : BS} {k : Nat} {x : BS × BS} (h : ∀ y ∈ l.take k, y.1 ≠ n) (hx : l[k]? = some x) (he : x.1 = n) : getP l n = some x.2 := by
  obtain ⟨hk, hxk⟩ := List.getElem?_eq_some_iff.1 hx
  have : l = l.take k ++ x :: l.drop (k + 1) := by
    rw [← hxk, ← List.drop_eq_getElem_cons hk, List.take_append_drop]
  rw [this]
  clear this hx hxk hk
  generalize l.take k = a at h ⊢
  induction a with
  | nil => rw [List.nil_append, getP_cons, if_pos he]
  | cons y a ih => rw [List.cons_append, getP_cons, if_neg (h y (List.mem_cons_self ..)), ih (fun z hz => h z (List.mem_cons_of_mem _ hz))]
set_option maxRecDepth 100000 in
set_option maxHeartbeats 1000000 in
theorem get_any (l : PL) (nm : BS) (n : Nat) (hnl : n = l.length) (A : Option Addr) (c : Nat) (w : World) (B : Nat) (hr : Reads w B 2 A n (pcells l)) (hB : B ≤ w.heap.size) (hn : n ≤ 5000000000000) :
    Calls Try.prog 38 #[.slice A n c, .string ⟨nm.toArray⟩] w fun e w' => e = .returned (getV l nm) ∧ Below w.heap.size w w' := by
  have HN := Lib.hid hnl
  obtain ⟨V, hV⟩ : ∃ V, V = getV l nm := ⟨_, rfl⟩
  rw [← hV]
  have HV := Lib.hid hV
  clear hnl hV
  go_enter Try.func38, Try.ntmps38
  go_wp2_with fail
  go_loopw [10] (fun i wr => ∃ k : Nat, k ≤ n ∧ i = .int .i64 (k : Int) ∧ Hid (∀ y ∈ l.take k, y.1 ≠ nm) ∧ Below w.heap.size w wr) (fun i _ => n - (intOf i).toNat)
  case atStart => exact ⟨0, Nat.zero_le _, rfl, (show ∀ y ∈ _, _ by simp), Below.refl _ _⟩
  case round =>
    obtain ⟨k, hk, rfl, hno, hbw⟩ := hrel
    by_cases hlt : k < n
    · have hki : (k : Int) < (n : Int) := by omega
      have hkl : k < l.length := by have := HN.out; omega
      obtain ⟨ad, rfl, hadB, c0, c1⟩ := (hr.below (hbw.mono hB)).prop HN.out hlt
      obtain ⟨x, hx⟩ : ∃ x, x = l[k]'hkl := ⟨_, rfl⟩
      rw [← hx] at c0 c1
      have htk := List.take_succ_eq_append_getElem hkl
      rw [← hx] at htk
      have HTK := Lib.hid htk
      have HX := Lib.hid (show l[k]? = some x by rw [hx]; exact List.getElem?_eq_getElem _)
      obtain ⟨xn, xv⟩ := x
      simp only [strV] at c0 c1
      have hb1 := hbw.alloc hbw.size (.cells #[.string ⟨xn.toArray⟩, .string ⟨xv.toArray⟩] 99)
      clear hx htk hr
      by_cases hxn : xn = nm
      · have hd : (xn == nm) = true := by simp [hxn]
        have hG := find_at hno.out HX.out hxn
        have HVV : Hid (V = .tuple #[.string ⟨xv.toArray⟩, .bool true]) := by show _ = _; rw [HV.out]; unfold getV; rw [hG]; rfl
        clear hxn hG
        go_wp2_with fail
        go_ret2
        exact ⟨by rw [HVV.out]; rfl, hb1⟩
      · have hd : (xn == nm) = false := by simp [hxn]
        have HX2 := Lib.hid hxn
        clear hxn
        go_wp2_with fail
        go_roundw
        case rel =>
          refine ⟨k + 1, by omega, by go_num, ?_, hb1⟩
          show ∀ y ∈ _, _
          intro y hy
          rw [HTK.out, List.mem_append, List.mem_singleton] at hy
          rcases hy with hy | rfl
          · exact hno.out y hy
          · exact HX2.out
        case measure => simp [intOf]; omega
    · have HVV : Hid (V = .tuple #[.string ByteArray.empty, .bool false]) := by
        show _ = _
        rw [HV.out]
        unfold getV
        have := hno.out
        rw [List.take_of_length_le (by have := HN.out; omega)] at this
        rw [find_none this]
        rfl
      clear hr
      go_wp2_with fail
      go_ret2
      exact ⟨by rw [HVV.out]; rfl, hbw⟩
set_option maxRecDepth 100000 in
theorem num12_any (x : Int) (w : World) : Calls Try.prog 27 #[.int .i64 x] w fun e w' => e = .returned (.int .i64 x) ∧ w' = w := by
  go_enter Try.func27, Try.ntmps27
  go_wp2_with fail
  go_ret
  exact ⟨rfl, rfl⟩
/-- props.Over at two lists -/
theorem over2_any (a b : PL) (n m : Nat) (hna : n = a.length) (hmb : m = b.length) (A1 A2 : Option Addr) (c1 c2 : Nat) (w : World) (B : Nat) (hB : B ≤ w.heap.size) (hr1 : Reads w B 2 A1 n (pcells a)) (hr2 : Reads w B 2 A2 m (pcells b)) (h1 : strOk a) (h2 : strOk b) (hn : n ≤ 5000000000000) (hm : m ≤ 5000000000000) :
    Calls Try.prog 24 #[.slice (some ⟨w.heap.size, 0, none⟩) 2 2] (w.alloc (.cells #[.slice A1 n c1, .slice A2 m c2] 22)) fun e w' => OverPost w (allP (a ++ b)) (overE [a, b]) e w' := by
  have hal : (w.alloc (.cells #[.slice A1 n c1, .slice A2 m c2] 22)).heap.size = w.heap.size + 1 := by show (w.heap.push _).size = _; rw [Array.size_push]
  have hb0 : Below w.heap.size w (w.alloc (.cells #[.slice A1 n c1, .slice A2 m c2] 22)) := (Below.refl _ w).alloc (Nat.le_refl _) _
  have hu := over_any [(.slice A1 n c1, a), (.slice A2 m c2, b)] 2 rfl (some ⟨w.heap.size, 0, none⟩) 2 (w.alloc (.cells #[.slice A1 n c1, .slice A2 m c2] 22)) (w.heap.size + 1) (Reads.lit w #[.slice A1 n c1, .slice A2 m c2] 22 rfl) (by omega)
    (fun p hp => by
      rcases List.mem_cons.1 hp with rfl | hp
      · refine ⟨⟨A1, n, c1, rfl, hna, hn, ?_⟩, h1⟩
        have := hr1.below (hb0.mono hB)
        exact ⟨this.1, fun hn => by obtain ⟨ad, e, hb, hc⟩ := this.2 hn; exact ⟨ad, e, by omega, hc⟩⟩
      · rw [List.mem_singleton] at hp
        subst hp
        refine ⟨⟨A2, m, c2, rfl, hmb, hm, ?_⟩, h2⟩
        have := hr2.below (hb0.mono hB)
        exact ⟨this.1, fun hn => by obtain ⟨ad, e, hb, hc⟩ := this.2 hn; exact ⟨ad, e, by omega, hc⟩⟩)
    (by omega)
  refine hu.mono ?_
  rintro e w' ⟨v, rfl, hv, hb⟩
  simp only [List.map_cons, List.map_nil, List.flatten_cons, List.flatten_nil, List.append_nil] at hv ⊢
  refine ⟨v, rfl, ?_, hb0.trans (hb.mono (by omega))⟩
  split
  · rename_i hE
    rw [if_pos hE] at hv
    exact own_mono hv (by omega)
  · rename_i hE
    rw [if_neg hE] at hv
    exact hv
set_option maxRecDepth 100000 in
theorem alive12_any (w : World) : Calls Try.prog 28 #[] w fun e w' => e = .returned (.bool true) ∧ Below w.heap.size w w' := by
  obtain ⟨W1, hW1⟩ : ∃ W, W = (w.alloc (.cells #[.string ⟨#[97]⟩, .string ⟨#[49]⟩] 99)).alloc (.cells #[.string ⟨#[97]⟩, .string ⟨#[50]⟩] 99) := ⟨_, rfl⟩
  have hb1 : Below w.heap.size w W1 := by rw [hW1]; exact ((Below.refl _ w).alloc (Nat.le_refl _) _).alloc (by simp) _
  have hs1 : W1.heap.size = w.heap.size + 2 := by rw [hW1]; simp
  have r2 : Reads W1 W1.heap.size 2 (some ⟨w.heap.size + 1, 0, none⟩) 1 (pcells [([97], [50])]) := by
    rw [hs1, hW1]
    have := Reads.lit (w.alloc (.cells #[.string ⟨#[97]⟩, .string ⟨#[49]⟩] 99)) #[.string ⟨#[97]⟩, .string ⟨#[50]⟩] 99 (n := 1) (size := 2) rfl
    have hz : (w.alloc (.cells #[.string ⟨#[97]⟩, .string ⟨#[49]⟩] 99)).heap.size = w.heap.size + 1 := by simp
    rw [hz] at this
    exact this
  have r1 : Reads W1 W1.heap.size 2 (some ⟨w.heap.size, 0, none⟩) 1 (pcells [([97], [49])]) := by
    have := Reads.lit w #[.string ⟨#[97]⟩, .string ⟨#[49]⟩] 99 (n := 1) (size := 2) rfl
    have := this.below (w' := W1) (by rw [hW1]; exact (Below.refl _ _).alloc (by simp) _)
    exact ⟨this.1, fun hn => by obtain ⟨ad, e, hb, hc⟩ := this.2 hn; exact ⟨ad, e, by omega, hc⟩⟩
  have ho := over2_any [([97], [49])] [([97], [50])] 1 1 rfl rfl _ _ 1 1 W1 _ (Nat.le_refl _) r1 r2 (by intro x hx; rw [List.mem_singleton] at hx; subst hx; simp) (by intro x hx; rw [List.mem_singleton] at hx; subst hx; simp) (by omega) (by omega)
  have hE : overE [[([97], [49])], [([97], [50])]] = 0 := by decide +kernel
  have hF : allP ([([97], [49])] ++ [([97], [50])]) = [(([97] : BS), ([50] : BS))] := by decide +kernel
  rw [hE, hF] at ho
  clear hE hF r1 r2
  rw [hs1] at ho
  go_enter Try.func28, Try.ntmps28
  go_wp2_with fail
  rw [← hW1]
  refine ho.mono ?_
  clear ho
  rintro e w1 ⟨v, rfl, hv, hbv⟩
  rw [if_pos rfl] at hv
  obtain ⟨A', k, rfl, hk1, hk2, hr⟩ := own_form hv
  obtain ⟨ad, rfl, _, _, hc1⟩ := hr.prop rfl (k := 0) (by simp)
  simp only [strV, List.getElem_cons_zero, Nat.zero_mul, add_zero] at hc1
  have hbb := hb1.trans (hbv.mono (by omega))
  clear hr hv hbv hb1 hs1
  go_wp2_with fail
  refine (num12_any 0 _).mono ?_
  rintro e w2 ⟨rfl, rfl⟩
  go_wp2_with fail
  go_ret
  exact ⟨rfl, hbb⟩
end Go.Proofs.Ythfjfkjlgdnohaa

/-
  props.Text; the reference's Prop; godownplain.Texts: by their contracts.
-/
namespace Go.Proofs.Ythfjfkjlgdnohaa
open Go.RowKit

def scells (l : List BS) : List Value := l.map strV
theorem scells_length (l : List BS) : (scells l).length = l.length := by simp [scells]
theorem scells_append (a b : List BS) : scells (a ++ b) = scells a ++ scells b := by simp [scells]
theorem scells_one (l : List BS) : ∀ u ∈ scells l, u.oneCell' = true := by
  intro u hu
  obtain ⟨z, _, rfl⟩ := List.mem_map.1 hu
  rfl
theorem strs_at {w : World} {B n : Nat} {A : Option Addr} {l : List BS} (h : Reads w B 1 A n (scells l)) (hn : n = l.length) {k : Nat} (hk : k < n) :
    ∃ ad, A = some ad ∧ ad.block < B ∧ w.cell? (ad.add k) = some (strV (l[k]'(by omega))) := by
  obtain ⟨ad, u, e, hB, hxu, hcell⟩ := h.at_ hk
  have hux : u = strV (l[k]'(by omega)) := by
    unfold scells at hxu
    rw [List.getElem?_map, List.getElem?_eq_getElem (by omega)] at hxu
    exact (Option.some.inj hxu).symm
  subst hux
  exact ⟨ad, e, hB, hcell⟩
theorem Try.infoS : (Try.prog.info? 9).map (fun i => (i.zero, i.size, i.bytes)) = some (some (.string ByteArray.empty), 1, 16) := by kernel_rfl
theorem scells_pcells (l : PL) : pcells l = scells (ptexts l) := by
  induction l with
  | nil => rfl
  | cons x l ih =>
    show [strV x.1, strV x.2] ++ pcells l = scells ([x.1, x.2] ++ ptexts l)
    rw [ih, scells_append]
    rfl
set_option maxRecDepth 100000 in
set_option maxHeartbeats 1000000 in
theorem text_any (l : PL) (n : Nat) (hnl : n = l.length) (A : Option Addr) (c : Nat) (w : World) (B : Nat) (hr : Reads w B 2 A n (pcells l)) (hB : B ≤ w.heap.size) (hn : n ≤ 4398046511104) :
    Calls Try.prog 40 #[.slice A n c] w fun e w' => ∃ v, e = .returned v ∧ w'.ownsRow w.heap.size 9 1 v (2 * n) (scells (ptexts l)) ∧ Below w.heap.size w w' := by
  obtain ⟨i0, hi0, hz0, hz1, hz2⟩ := info_parts Try.infoS
  have HN := Lib.hid hnl
  rw [← scells_pcells]
  clear hnl
  go_enter Try.func40, Try.ntmps40
  go_wp2_with fail
  go_loopw [3, 8] (fun o i wr => ∃ (k : Nat) (A1 : Option Addr) (c1 : Nat), k ≤ n ∧ i = .int .i64 (k : Int) ∧ o = .slice A1 (2 * k) c1 ∧ wr.ownsRow w.heap.size 9 1 (.slice A1 (2 * k) c1) (2 * k) (pcells (l.take k)) ∧ Below w.heap.size w wr) (fun _ i _ => n - (intOf i).toNat)
  case atStart => exact ⟨0, none, 0, Nat.zero_le _, rfl, rfl, ⟨rfl, .inl ⟨rfl, rfl⟩⟩, Below.refl _ _⟩
  case round =>
    obtain ⟨k, A1, c1, hk, rfl, rfl, hown, hbw⟩ := hrel
    by_cases hlt : k < n
    · have hki : (k : Int) < (n : Int) := by omega
      have hkl : k < l.length := by have := HN.out; omega
      obtain ⟨ad, rfl, hadB, d0, d1⟩ := (hr.below (hbw.mono hB)).prop HN.out hlt
      obtain ⟨x, hx⟩ : ∃ x, x = l[k]'hkl := ⟨_, rfl⟩
      have htk := List.take_succ_eq_append_getElem hkl
      rw [← hx] at d0 d1 htk
      obtain ⟨xn, xv⟩ := x
      simp only [strV] at d0 d1
      have HT : Hid (pcells (l.take (k + 1)) = pcells (l.take k) ++ [.string ⟨xn.toArray⟩, .string ⟨xv.toArray⟩]) := by show _ = _; rw [htk, pcells_append]; rfl
      have hown2 := hown.alloc (.cells #[.string ⟨xn.toArray⟩, .string ⟨xv.toArray⟩] 99)
      have hbw2 := hbw.alloc hbw.size (.cells #[.string ⟨xn.toArray⟩, .string ⟨xv.toArray⟩] 99)
      have hsz2 := hbw2.size
      clear hx htk hr hown hbw
      go_wp2_with (at_builtin; (refine wpList_push _ rfl (.tmp 12) (.tmp 17) 69 rfl w.heap.size 9 i0 (.string ByteArray.empty) 1 16 Try.underlying69 hi0 hz0 hz1 hz2 rfl (by decide) (.slice A1 (2 * k) c1) (2 * k) (pcells (l.take k)) rfl hown2 2 #[.string ⟨xn.toArray⟩, .string ⟨xv.toArray⟩] 9 (by simp [Act.eval]) rfl (by simp [Value.oneCell']) (by unfold maxLen; omega) (by omega) hsz2 ?_); intro v4 w4 hown4 hb4 _)
      obtain ⟨A4, c4, rfl, _, _, _⟩ := own_form hown4
      have hb5 := hbw2.trans hb4
      have HO : Hid (w4.ownsRow w.heap.size 9 1 (.slice A4 (2 * (k + 1)) c4) (2 * (k + 1)) (pcells (l.take (k + 1)))) := by show World.ownsRow _ _ _ _ _ _ _; rw [HT.out]; exact hown4
      clear hown2 hown4 hbw2 hb4 d0 d1
      go_wp2_with fail
      go_roundw
      case rel => exact ⟨k + 1, A4, c4, by omega, by go_num, rfl, HO.out, hb5⟩
      case measure => simp [intOf]; omega
    · have hkn : k = n := by omega
      have HO : Hid (wr.ownsRow w.heap.size 9 1 (.slice A1 (2 * k) c1) (2 * n) (pcells l)) := by
        show World.ownsRow _ _ _ _ _ _ _
        rw [List.take_of_length_le (by have := HN.out; omega)] at hown
        rw [← hkn]
        exact hown
      clear hr hown hkn
      go_wp2_with fail
      go_ret
      exact ⟨_, rfl, HO.out, hbw⟩
set_option maxRecDepth 100000 in
set_option maxHeartbeats 1000000 in
theorem texts_any (a b : List BS) (n m : Nat) (hna : n = a.length) (hmb : m = b.length) (A1 A2 : Option Addr) (c1 c2 : Nat) (w : World) (B1 B2 : Nat) (hr1 : Reads w B1 1 A1 n (scells a)) (hr2 : Reads w B2 1 A2 m (scells b)) (hn : n ≤ 8796093022208) (hm : m ≤ 8796093022208) :
    Calls Try.prog 42 #[.slice A1 n c1, .slice A2 m c2] w fun e w' => e = .returned (.bool (decide (a = b))) ∧ ∃ q, w' = w.drewN q := by
  have HN := Lib.hid hna
  have HM := Lib.hid hmb
  clear hna hmb
  by_cases hnm : n = m
  · subst hnm
    go_enter Try.func42, Try.ntmps42
    go_wp2_with fail
    go_loopw [5] (fun i wr => ∃ k : Nat, k ≤ n ∧ i = .int .i64 (k : Int) ∧ Hid (a.take k = b.take k) ∧ ∃ q, wr = w.drewN q) (fun i _ => n - (intOf i).toNat)
    case atStart => exact ⟨0, Nat.zero_le _, rfl, (show a.take 0 = b.take 0 by simp), 0, rfl⟩
    case round =>
      obtain ⟨k, hk, rfl, hok, q, rfl⟩ := hrel
      by_cases hlt : k < n
      · have hki : (k : Int) < (n : Int) := by omega
        have hka : k < a.length := by have := HN.out; omega
        have hkb : k < b.length := by have := HM.out; omega
        obtain ⟨ad1, rfl, _, hc1⟩ := strs_at hr1 HN.out hlt
        obtain ⟨ad2, rfl, _, hc2⟩ := strs_at hr2 HM.out hlt
        obtain ⟨x, hx⟩ : ∃ x, x = a[k]'hka := ⟨_, rfl⟩
        obtain ⟨y, hy⟩ : ∃ y, y = b[k]'hkb := ⟨_, rfl⟩
        rw [← hx] at hc1
        rw [← hy] at hc2
        have t1 := List.take_succ_eq_append_getElem hka
        have t2 := List.take_succ_eq_append_getElem hkb
        rw [← hx] at t1
        rw [← hy] at t2
        have T1 := Lib.hid t1
        have T2 := Lib.hid t2
        have X1 := Lib.hid hx
        have X2 := Lib.hid hy
        simp only [strV] at hc1 hc2
        clear hx hy t1 t2 hr1 hr2
        by_cases hxy : x = y
        · subst hxy
          go_wp2_with fail
          go_region
          go_wp2_with fail
          go_roundw
          case rel =>
            refine ⟨k + 1, by omega, by go_num, ?_, q + 1, rfl⟩
            show a.take (k + 1) = b.take (k + 1)
            rw [T1.out, T2.out, hok.out]
          case measure => simp [intOf]; omega
        · have hd : (x != y) = true := by simp [hxy]
          have hd2 : (x == y) = false := by simp [hxy]
          have HD : Hid (decide (a = b) = false) := by
            show _ = _
            refine decide_eq_false (fun e => hxy ?_)
            rw [X1.out, X2.out]
            simp only [e]
          go_wp2_with fail
          go_region
          go_wp2_with fail
          go_ret
          exact ⟨by rw [HD.out]; rfl, q + 1, rfl⟩
      · have HD : Hid (decide (a = b) = true) := by
          show _ = _
          refine decide_eq_true ?_
          have := hok.out
          rwa [List.take_of_length_le (by have := HN.out; omega), List.take_of_length_le (by have := HM.out; omega)] at this
        clear hr1 hr2
        go_wp2_with fail
        go_ret
        exact ⟨by rw [HD.out]; rfl, q, rfl⟩
  · have hd : ((n : Int) != (m : Int)) = true := by simp; omega
    have HD : Hid (decide (a = b) = false) := by
      show _ = _
      refine decide_eq_false (fun e => hnm ?_)
      rw [HN.out, HM.out, e]
    clear hnm hr1 hr2
    go_enter Try.func42, Try.ntmps42
    go_wp2_with fail
    go_ret
    exact ⟨by rw [HD.out]; rfl, 0, rfl⟩
end Go.Proofs.Ythfjfkjlgdnohaa
