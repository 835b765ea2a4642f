/-
  space.Union: slices.Sorted(maps.Keys(m)) at whole numbers, by the shelf's contracts; the map's filling.
-/
import Derived.Test.YthfjfkjlgdnohaaLayI
import Derived.Test.YthfjfkjlgdnohaaSpLaw
import Derived.Test.YthfjfkjlgdnohaaBase
import Derived.Shelf.SlIterI.Nil
import Derived.Shelf.SortM.Plain
import Derived.Shelf.SortM.SortNone
import Derived.Maps.OwnSet
import Derived.Handy
namespace Go.Proofs.Ythfjfkjlgdnohaa
open Go.RowKit Go.Maps Go.Sort Go.Shelf

/-! ### slices.Sorted(maps.Keys(m)) -/
theorem Try.sortsI (m : Nat) : AnyZI.SortsIn Try.prog Try.sortedI_ren Fence.wide m :=
  ⟨fun blk off cap ss W hH hblk hsz => callsIn_wide.2 (AnyM.slices_Sort_int Try.sortI blk off cap ss W hH hblk hsz),
   fun p cap W => callsIn_wide.2 (AnyM.slices_Sort_int_none Try.sortI p cap W)⟩
theorem keysI_any (mb : Option Nat) (W : World) : Calls Try.prog 70 #[.map mb] W fun e w' => e = .returned (.func (.func 106) #[] #[.pointer (some ⟨W.heap.size, 0, none⟩)]) ∧ w' = W.alloc (.cells #[.map mb] 105) :=
  (callsIn_wide (n := 5)).1 (AnyZI.keys_in Try.keysI Fence.wide 5 trivial rfl mb W)
/-- the keys, rising: of a map whose entries are known -/
theorem sortedI_any (b nn : Nat) (D0 : DataW Unit) (R : Value → Option (DataW Unit × List MemPlace)) (w : World) (hown : w.ownsMap Try.prog 3 R b nn D0) (hmax : Maps.size D0 ≤ 17592186044416) (m : List Int) (hm : ∀ x : Int, has D0 (.int .i64 x) = true ↔ x ∈ m) :
    Calls Try.prog 69 #[.func (.func 106) #[] #[.pointer (some ⟨w.heap.size, 0, none⟩)]] (w.alloc (.cells #[.map (some b)] 105)) fun e w' => ∃ v, e = .returned v ∧
      w'.ownsRow w.heap.size 3 1 v (sortU m).length ((sortU m).map (Value.int .i64)) ∧ (v = .slice none 0 0 ↔ sortU m = []) ∧ Below w.heap.size w w' := by
  have hbl := hown.lt
  have hseq : SeqGives Fence.wide 2 Try.prog 106 #[.pointer (some ⟨w.heap.size, 0, none⟩)] encZ (fun ss => ss.Perm (intKeys D0)) (Maps.size D0) (w.alloc (.cells #[.map (some b)] 105)) :=
    AnyZI.keys_gives (ρ := Try.keysI_ren) { Try.keysI with } Fence.wide _ trivial rfl (by omega) w.heap.size b nn D0 _ (by simp) (by simp) (by
      obtain ⟨es, clock, hb, Ft, hs, hD⟩ := hown
      exact ⟨es, clock, (Below.heap_alloc _ _ b hbl).trans hb, Ft, hs, hD⟩)
  have cS := AnyZI.sorted_in Try.sortedI Fence.wide 5 trivial trivial trivial trivial rfl (by omega) (Try.sortsI _) (enters_of Try.func105 (by kernel_rfl) rfl) 106 #[.pointer (some ⟨w.heap.size, 0, none⟩)] trivial (enters_of Try.func106 (by kernel_rfl) rfl) _ _ (by unfold maxLen; omega) (by omega) _ hseq
  change CallsIn _ _ Try.prog 69 _ _ _ at cS
  refine ((callsIn_wide (n := 5)).1 cS).mono ?_
  rintro e w' ⟨v, ss, rfl, hS, hrow, hnil, hb⟩
  have hlist : ss.mergeSort (fun x y => decide (x ≤ y)) = sortU m := by
    have law : Keyed Try.prog 3 := int_keyed Try.underlying3
    have hnd : (intKeys D0).Nodup := by
      obtain ⟨es, hD, hpw, _⟩ := hown.entries law
      obtain ⟨es', hD', hko⟩ := hown.keysOf
      obtain rfl : es = es' := by rw [hD] at hD'; simpa using hD'
      subst hD
      show (es.map fun p => Go.intOf p.1).Nodup
      refine List.pairwise_map.2 (hpw.imp_of_mem fun {p q} hp' hq' hne e => hne ?_)
      obtain ⟨v1, hv1⟩ := hko p hp'
      obtain ⟨x1, _, hx1, _⟩ := Maps.keyOf_i64 Try.underlying3 hv1
      obtain ⟨v2, hv2⟩ := hko q hq'
      obtain ⟨x2, _, hx2, _⟩ := Maps.keyOf_i64 Try.underlying3 hv2
      rw [hx1, hx2] at e ⊢
      exact congrArg _ e
    have hmem : ∀ x, x ∈ intKeys D0 ↔ x ∈ m := by
      intro x
      rw [← hm]
      obtain ⟨es, rfl, hko⟩ := hown.keysOf
      rw [has_eq, List.any_eq_true]
      show x ∈ es.map (fun p => Go.intOf p.1) ↔ _
      rw [List.mem_map]
      constructor
      · rintro ⟨p, hp, rfl⟩
        obtain ⟨v1, hv1⟩ := hko p hp
        obtain ⟨x1, _, hx1, _⟩ := Maps.keyOf_i64 Try.underlying3 hv1
        exact ⟨p, hp, by rw [hx1]; simp [Lit.sameKey, Go.intOf]⟩
      · rintro ⟨p, hp, hs⟩
        obtain ⟨v1, hv1⟩ := hko p hp
        obtain ⟨x1, _, hx1, _⟩ := Maps.keyOf_i64 Try.underlying3 hv1
        rw [hx1] at hs
        exact ⟨p, hp, by rw [hx1]; simpa [Lit.sameKey, Go.intOf] using hs⟩
    have tr : ∀ a b c : Int, leI a b = true → leI b c = true → leI a c = true := fun a b c h1 h2 => by simp only [leI, decide_eq_true_eq] at *; exact Int.le_trans h1 h2
    have to : ∀ a b : Int, (leI a b || leI b a) = true := fun a b => by simp only [leI, Bool.or_eq_true, decide_eq_true_eq]; exact Int.le_total a b
    have hp := (List.mergeSort_perm ss leI).trans hS
    refine sortU_of ?_ (fun x => ?_)
    · have h1 := List.pairwise_mergeSort tr to ss
      have h2 : (ss.mergeSort leI).Nodup := hp.nodup_iff.2 hnd
      exact (h1.and h2).imp (fun {a b} h => by have := of_decide_eq_true h.1; have := h.2; omega)
    · exact (hp.mem_iff).trans (hmem x)
  have hsl : ss.length = (sortU m).length := by rw [← hlist, List.length_mergeSort]
  rw [hlist, hsl] at hrow
  refine ⟨v, rfl, own_mono hrow (by simp), ?_, ((Below.refl _ w).alloc (Nat.le_refl _) _).trans (hb.mono (by simp))⟩
  rw [hnil]
  constructor
  · rintro rfl
    exact List.eq_nil_of_length_eq_zero hsl.symm
  · intro h
    rw [h] at hsl
    exact List.eq_nil_of_length_eq_zero hsl

/-! ### The numbers that were met -/
def ints (l : List Int) : List Value := l.map (Value.int .i64)
def wfZ (l : List Int) : Prop := ∀ x ∈ l, (Lit.int .i64 x).wf = true
structure IntsIn (w : World) (B : Nat) (v : Value) (l : List Int) : Prop where
  ex : ∃ A n c, v = .slice A n c ∧ n = l.length ∧ Reads w B 1 A n (ints l)
  wf : wfZ l
theorem IntsIn.below {w W : World} {B : Nat} {v : Value} {l : List Int} (h : IntsIn w B v l) (hb : Below B w W) : IntsIn W B v l := by
  obtain ⟨A, n, c, rfl, hn, hr⟩ := h.ex
  exact ⟨⟨A, n, c, rfl, hn, hr.below hb⟩, h.wf⟩
def metD (l : List Int) : DataW Unit := setOf (.lit (.bool true)) (l.map (Lit.int .i64))
theorem isKey_i64 (x : Int) : WideAt.IsKeyLit (.int .i64 x) := by trivial
theorem metD_snoc (l : List Int) (x : Int) : metD (l ++ [x]) = (metD l).put (.int .i64 x) (.lit (.bool true)) := by
  unfold metD
  rw [List.map_append]
  exact setOf_snoc _ _ _
theorem has_metD (l : List Int) (x : Int) : has (metD l) (.int .i64 x) = true ↔ x ∈ l := by
  unfold metD
  rw [has_setOf _ _ _ (fun y hy => by obtain ⟨z, _, rfl⟩ := List.mem_map.1 hy; exact isKey_i64 z), List.any_eq_true]
  constructor
  · rintro ⟨y, hy, hs⟩
    obtain ⟨z, hz, rfl⟩ := List.mem_map.1 hy
    have : z = x := by simpa [Lit.sameKey] using hs
    rwa [← this]
  · intro h
    exact ⟨_, List.mem_map_of_mem h, by simp [Lit.sameKey]⟩
theorem Try.lawI : Keyed Try.prog 3 := int_keyed Try.underlying3
set_option maxRecDepth 100000 in
set_option maxHeartbeats 1000000 in
theorem union_any (ls : List (Value × List Int)) (n : Nat) (hnl : n = ls.length) (A : Option Addr) (c : Nat) (w : World) (B : Nat) (hr : Reads w B 1 A n (ls.map (·.1))) (hB : B ≤ w.heap.size)
    (hin : ∀ p ∈ ls, IntsIn w B p.1 p.2) (hsum : (ls.flatMap (·.2)).length ≤ 17592186044000) (hn : n ≤ 17592186044000) :
    Calls Try.prog 36 #[.slice A n c] w fun e w' => ∃ v, e = .returned v ∧ w'.ownsRow w.heap.size 3 1 v (sortU (ls.flatMap (·.2))).length (ints (sortU (ls.flatMap (·.2)))) ∧ (v = .slice none 0 0 ↔ sortU (ls.flatMap (·.2)) = []) ∧ Below w.heap.size w w' := by
  have hmm := @run_makeMap Try.prog
  have HN := Lib.hid hnl
  have HS := Lib.hid hsum
  have HI := Lib.hid hin
  clear hnl hsum hin
  go_enter Try.func36, Try.ntmps36
  go_wp2_with fail
  go_loopw [11] (fun i wr => ∃ k : Nat, k ≤ n ∧ i = .int .i64 (k : Int) ∧ wr.ownsMap Try.prog 3 (plainElem Try.prog 4) w.heap.size ((ls.take k).flatMap (·.2)).length (metD ((ls.take k).flatMap (·.2))) ∧ Below w.heap.size w wr)
    (fun i _ => n - (intOf i).toNat)
  case atStart =>
    refine ⟨0, Nat.zero_le _, rfl, ?_, (Below.refl _ _).alloc (Nat.le_refl _) _⟩
    exact World.ownsMap_made _ _ _ _
  case round =>
    obtain ⟨k, hk, rfl, hown, hbw⟩ := hrel
    by_cases hlt : k < n
    · have hki : (k : Int) < (n : Int) := by omega
      have hkl : k < ls.length := by have := HN.out; omega
      obtain ⟨ad, u, rfl, _, hxu, hcell⟩ := (hr.below (hbw.mono hB)).at_ hlt
      obtain ⟨p, hp⟩ : ∃ p, p = ls[k]'hkl := ⟨_, rfl⟩
      have hup : u = p.1 := by
        rw [List.getElem?_map, List.getElem?_eq_getElem hkl] at hxu
        rw [hp]
        exact (Option.some.inj hxu).symm
      subst hup
      have hpl : p ∈ ls := by rw [hp]; exact List.getElem_mem _
      have htk := List.take_succ_eq_append_getElem hkl
      rw [← hp] at htk
      obtain ⟨xs, hxs⟩ : ∃ xs, xs = (ls.take k).flatMap (·.2) := ⟨_, rfl⟩
      have hxs1 : (ls.take (k + 1)).flatMap (·.2) = xs ++ p.2 := by rw [htk, hxs]; simp
      have hlen : (xs ++ p.2).length ≤ 17592186044000 := by
        have e : ls.flatMap (·.2) = (ls.take (k + 1)).flatMap (·.2) ++ (ls.drop (k + 1)).flatMap (·.2) := by rw [← List.flatMap_append, List.take_append_drop]
        have := HS.out
        rw [e, List.length_append] at this
        rw [← hxs1]
        omega
      rw [List.length_append] at hlen
      rw [← hxs] at hown
      obtain ⟨⟨A2, n2, c2, hpv, hn2, hr2⟩, hwf⟩ := HI.out p hpl
      obtain ⟨pv, l2⟩ := p
      simp only at hpv hn2 hr2 hwf hcell hxs1 hlen
      subst hpv
      have HN2 := Lib.hid hn2
      have HX1 := Lib.hid hxs1
      have HWF := Lib.hid hwf
      have HLEN := Lib.hid hlen
      clear hp hpl htk hxu hxs hxs1 hn2 hwf hr
      go_wp2_with fail
      go_loopw [17] (fun i wr2 => ∃ j : Nat, j ≤ n2 ∧ i = .int .i64 (j : Int) ∧ wr2.ownsMap Try.prog 3 (plainElem Try.prog 4) w.heap.size (xs ++ l2.take j).length (metD (xs ++ l2.take j)) ∧ Below w.heap.size w wr2)
        (fun i _ => n2 - (intOf i).toNat)
      case atStart => exact ⟨0, Nat.zero_le _, rfl, by simpa using hown, hbw⟩
      case round =>
        obtain ⟨j, hj, rfl, hown2, hbw2⟩ := hrel
        by_cases hlt2 : j < n2
        · have hji : (j : Int) < (n2 : Int) := by omega
          have hjl : j < l2.length := by have := HN2.out; omega
          obtain ⟨ad2, u2, rfl, _, hxu2, hcell2⟩ := (hr2.below (hbw2.mono hB)).at_ hlt2
          obtain ⟨x, hx⟩ : ∃ x, x = l2[j]'hjl := ⟨_, rfl⟩
          have hux : u2 = .int .i64 x := by
            unfold ints at hxu2
            rw [List.getElem?_map, List.getElem?_eq_getElem hjl] at hxu2
            rw [hx]
            exact (Option.some.inj hxu2).symm
          subst hux
          have hxw : (Lit.int .i64 x).wf = true := HWF.out x (by rw [hx]; exact List.getElem_mem _)
          have htk := List.take_succ_eq_append_getElem hjl
          rw [← hx] at htk
          have hkey : keyOf Try.prog 3 (.int .i64 x) = some (.int .i64 x) := keyOf_int_mk Try.underlying3 hxw
          have hD : Hid (metD (xs ++ l2.take (j + 1)) = (metD (xs ++ l2.take j)).put (.int .i64 x) (.lit (.bool true)) ∧ (xs ++ l2.take (j + 1)).length = (xs ++ l2.take j).length + 1) := by
            show _ ∧ _
            rw [htk, ← List.append_assoc]
            exact ⟨metD_snoc _ _, by simp; omega⟩
          have hmx : (xs ++ l2.take j).length < maxLen := by
            have := HLEN.out
            rw [List.length_append, List.length_take]
            unfold maxLen
            omega
          obtain ⟨M, hM⟩ : ∃ M, M = xs ++ l2.take j := ⟨_, rfl⟩
          rw [← hM] at hown2 hD hmx
          clear hM hx htk hxu2 hxw hr2
          go_wp2_with (first
            | (at_mapUpdate; refine wpList_mapUpdate_own _ rfl _ _ _ 105 rfl 3 4 Try.lawI Try.underlying105 _ w.heap.size _ _ rfl hown2 hmx _ _ _ rfl rfl hkey _ [] (plainElem_bool Try.underlying4 true) ?_)
            | go_in)
          intro w1 hown3 hgrow
          have R1 := hbw2.grown hgrow hbw2.size (fun j hj => by cases hj; exact Nat.le_refl _)
          clear hgrow hown2 hcell2
          go_wp2_with fail
          go_roundw
          case rel => exact ⟨j + 1, by omega, by go_num, by rw [hD.out.1, hD.out.2]; exact hown3, R1⟩
          case measure => simp [intOf]; omega
        · obtain rfl : j = n2 := by omega
          have hE : Hid (xs ++ l2.take j = (ls.take (k + 1)).flatMap (·.2)) := by
            show _ = _
            rw [HX1.out, List.take_of_length_le (by have := HN2.out; omega)]
          rw [hE.out] at hown2
          clear hr2 hown
          go_wp2_with fail
          go_roundw
          case rel => exact ⟨k + 1, by omega, by go_num, hown2, hbw2⟩
          case measure => simp [intOf]; omega
    · obtain rfl : k = n := by omega
      have hall : ls.take k = ls := List.take_of_length_le (by have := HN.out; omega)
      rw [hall] at hown
      have hsz := hown.size_le
      have hS := HS.out
      have hlt := hown.lt
      have hk1 := fun W => keysI_any (some w.heap.size) W
      have hk2 := sortedI_any w.heap.size _ _ _ wr hown (by omega) (ls.flatMap (·.2)) (fun x => has_metD _ x)
      clear hall hr hS hsz
      go_wp2_with fail
      refine (hk1 _).mono ?_
      rintro e w1 ⟨rfl, rfl⟩
      go_wp2_with fail
      refine hk2.mono ?_
      rintro e w2 ⟨v, rfl, hrow, hnil, hb⟩
      have hrow := own_mono hrow hbw.size
      have hb2 := hbw.trans (hb.mono hbw.size)
      have HO := Lib.hid hrow
      clear hrow hk1 hk2 hown hb
      go_wp2_with fail
      go_ret
      exact ⟨v, rfl, HO.out, hnil, hb2⟩
end Go.Proofs.Ythfjfkjlgdnohaa
