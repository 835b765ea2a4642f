/-
  props.Read, by its contract.
-/
import Derived.Test.YthfjfkjlgdnohaaChunkP
import Derived.Test.YthfjfkjlgdnohaaPrText
import Derived.Test.YthfjfkjlgdnohaaInvIn
import Derived.Test.YthfjfkjlgdnohaaGood
import Derived.Handy
import Derived.RangeFuncNested
import Derived.RangeFuncFrom
import Derived.RangeFuncWrites
import Derived.Maps.AppendAt
namespace Go.Proofs.Ythfjfkjlgdnohaa
open Go.RowKit Go.Shelf
attribute [local go_sem] Oper.semAt_some

def rdP (s : List BS) (js : List Nat) : PL := js.map fun j => (s.getD (2 * j) [], s.getD (2 * j + 1) [])
/-- what Read makes -/
def readP (s : List BS) : PL := rdP s (List.range (s.length / 2))
theorem readP_texts (l : PL) : readP (ptexts l) = l := by
  unfold readP rdP
  rw [ptexts_len, show 2 * l.length / 2 = l.length by omega]
  have h : ∀ (l : PL) (j : Nat) (hj : j < l.length), (ptexts l).getD (2 * j) [] = (l[j]).1 ∧ (ptexts l).getD (2 * j + 1) [] = (l[j]).2 := by
    intro l
    induction l with
    | nil => intro j hj; cases hj
    | cons x l ih =>
      intro j hj
      have e : ptexts (x :: l) = x.1 :: x.2 :: ptexts l := rfl
      rw [e]
      cases j with
      | zero => exact ⟨rfl, rfl⟩
      | succ j =>
        have := ih j (by simpa using hj)
        rw [show 2 * (j + 1) = 2 * j + 1 + 1 by omega]
        simpa using this
  refine List.ext_getElem (by simp) (fun j h1 h2 => ?_)
  rw [List.getElem_map, List.getElem_range]
  obtain ⟨g1, g2⟩ := h l j h2
  rw [g1, g2]
theorem texts_readP (s : List BS) (h : s.length % 2 = 0) : ptexts (readP s) = s := by
  unfold readP rdP
  induction s using pairsL.induct with
  | case1 => rfl
  | case2 a => simp at h
  | case3 a b l ih =>
    have hl : l.length % 2 = 0 := by simp at h; omega
    have e : (a :: b :: l).length / 2 = l.length / 2 + 1 := by simp; omega
    rw [e, List.range_succ_eq_map, List.map_cons, List.map_map]
    show [a, b] ++ ptexts _ = _
    have e2 : ((fun j => ((a :: b :: l).getD (2 * j) [], (a :: b :: l).getD (2 * j + 1) [])) ∘ Nat.succ : Nat → BS × BS) = fun j => (l.getD (2 * j) [], l.getD (2 * j + 1) []) := by
      funext j
      simp only [Function.comp_apply]
      rw [show 2 * Nat.succ j = 2 * j + 1 + 1 by omega]
      simp
    rw [e2, ih hl]
    rfl
theorem ownP_other {W W' : World} {base : Nat} {e : TypeId} {size n : Nat} {v : Value} {xs : List Value} {row : Option Nat} (h : W.ownsRow base e size v n xs) (hg : W.grownBy W' row) (hr : ∀ r, row = some r → ∃ o : Obj, W.heap[r]? = some o ∧ o.isCells = false) : W'.ownsRow base e size v n xs := by
  refine h.kept hg ?_
  rcases h.2 with ⟨rfl, _⟩ | ⟨g, cap, cur, rfl, _, hh, _⟩
  · exact .inl rfl
  · refine .inr fun he => ?_
    obtain ⟨o, ho, hc⟩ := hr g he.symm
    rw [hh] at ho
    cases ho
    cases hc
theorem heapP_kept {W W' : World} {row : Option Nat} {k : Nat} {cs : Array Value} {T : TypeId} {fr : Nat × Nat} (h : W.heap[k]? = some (.cells cs T fr)) (hg : W.grownBy W' row) (hr : ∀ r, row = some r → ∃ o : Obj, W.heap[r]? = some o ∧ o.isCells = false) : W'.heap[k]? = some (.cells cs T fr) := by
  rw [hg.block k (Array.getElem?_eq_some_iff.1 h).1 ?_]
  · exact h
  · intro e
    obtain ⟨o, ho, hc⟩ := hr k e.symm
    rw [h] at ho
    cases ho
    cases hc
/-- between two rounds -/
def RdP (w : World) (s : List BS) (js : List Nat) (W : World) : Prop :=
  (∃ v, Blk W w.heap.size 22 #[v] ∧ W.ownsRow (w.heap.size + 3) 99 2 v js.length (pcells (rdP s js))) ∧ Below w.heap.size w W ∧ w.heap.size + 3 ≤ W.heap.size
theorem rdP_own {w : World} {b : List BS} {B M : Nat} (hB : w.heap.size ≤ B) : OwnFrom B (fun (pre : List (Cp M)) W => RdP w b (pre.map (·.1)) W) := by
  rintro s W W' row ⟨⟨v, h1, h2⟩, h4, h5⟩ hg hr
  have hr' := fun r e => (hr r e).2
  exact ⟨⟨v, heapP_kept h1 hg hr', ownP_other h2 hg hr'⟩, h4.grown hg (Below.size h4) (fun r e => Nat.le_trans hB (hr r e).1), Nat.le_trans h5 hg.size⟩
theorem kpP_b {w : World} {Bs Bn : Nat} (hb : Bs < w.heap.size) (hn : Bn < w.heap.size) (W : World) (l : Nat) (o o' : Obj) (hl : w.heap.size ≤ l) (_ : W.heap[l]? = some o) (_ : o.isCells = false) (_ : o.isWalk = false) : KpP Bs Bn W (W.putObj l o') :=
  ⟨World.putObj_heap_other (by omega), World.putObj_heap_other (by omega)⟩
def ReadPPost (w : World) (s : List BS) (M : Nat) (e : Ending) (w' : World) : Prop :=
  (∃ v, e = .returned (.tuple #[v, .int .i64 (propsE (readP s))]) ∧ (if propsB (readP s) then w'.ownsRow w.heap.size 99 2 v M (pcells (readP s)) else v = .slice none 0 0)) ∧ Below w.heap.size w w'

set_option maxRecDepth 100000 in
set_option maxHeartbeats 2000000 in
theorem prRead_in (b : List BS) (n : Nat) (hnb : n = b.length) (A : Option Addr) (c : Nat) (w : World) (B : Nat) (hr : Reads w B 1 A n (scells b)) (hsl : ∀ x ∈ b, x.length ≤ 140737488351232) (hB : B ≤ w.heap.size) (hc : n ≤ c) (hcm : c ≤ 9223372036854775807) (hn : n ≤ 8796093022208) (M : Nat) (hM : n = 2 * M) :
    CallsIn Fence.wide 9 Try.prog 39 #[.slice A n c] w (ReadPPost w b M) := by
  obtain ⟨i0, hi0, hz0, hz1, hz2⟩ := info_parts Try.infoP
  have HN := Lib.hid hnb
  have HM := Lib.hid hM
  have hA : 0 < n → ∃ ad, A = some ad := fun h => by obtain ⟨ad, h, _⟩ := hr.2 h; exact ⟨ad, h⟩
  have HR := Lib.hid hr
  have HA := Lib.hid hA
  have HSL := Lib.hid hsl
  have hmod : ((n : Int) % 2 == 1) = false := by simp; omega
  have hmod2 : (n : Int) % 2 = 0 := by omega
  clear hnb hM hr hA hsl
  have hro : (Fence.wide).round = none := rfl
  refine callsIn_of_wp_marks Try.func39 rfl trivial ?_ hro
  simp only [Try.ntmps39, List.size_toArray, List.length_cons, List.length_nil, Nat.reduceAdd, Nat.reduceSub, Array.replicate_succ, Array.replicate_zero, List.push_toArray, List.append_toArray, List.nil_append, List.cons_append]
  gi_wp2_with (refine ⟨trivial, ?_⟩; gi_at_call 75; refine (chunkP_in Fence.wide 8 trivial rfl _ _ _ _).mono ?_; rintro e w' ⟨rfl, rfl⟩)
  have hW1 : Blk (((w.alloc (.cells #[.slice none 0 0] 22)).alloc (.cells #[.slice A n c] 69)).alloc (.cells #[.int .i64 2] 3)) w.heap.size 22 #[.slice none 0 0] := ((Blk.new w _ _).alloc _).alloc _
  have hb0 : Below w.heap.size w (((w.alloc (.cells #[.slice none 0 0] 22)).alloc (.cells #[.slice A n c] 69)).alloc (.cells #[.int .i64 2] 3)) := (((Below.refl _ _).alloc (Nat.le_refl _) _).alloc (by simp) _).alloc (by simp; omega) _
  have hBs : (((w.alloc (.cells #[.slice none 0 0] 22)).alloc (.cells #[.slice A n c] 69)).alloc (.cells #[.int .i64 2] 3)).cell? ⟨w.heap.size + 1, 0, none⟩ = some (.slice A n c) := by
    have := ((Blk.new (w.alloc (.cells #[.slice none 0 0] 22)) 69 #[.slice A n c]).alloc (.cells #[.int .i64 2] 3)).cell 0
    simpa using this
  have hBn : (((w.alloc (.cells #[.slice none 0 0] 22)).alloc (.cells #[.slice A n c] 69)).alloc (.cells #[.int .i64 2] 3)).cell? ⟨w.heap.size + 1 + 1, 0, none⟩ = some (.int .i64 2) := by
    have := (Blk.new ((w.alloc (.cells #[.slice none 0 0] 22)).alloc (.cells #[.slice A n c] 69)) 3 #[.int .i64 2]).cell 0
    simpa using this
  refine wpIn_rangeFunc_ownG rfl (by omega) (gf := 108) (lb := #[.pointer (some ⟨w.heap.size + 1, 0, none⟩), .pointer (some ⟨w.heap.size + 1 + 1, 0, none⟩)]) rfl trivial (enters_of Try.func108 (by kernel_rfl) rfl)
    (chunkP_stops Fence.wide 8 trivial rfl (by omega) (w.heap.size + 1) (w.heap.size + 1 + 1) c n A HA.out hc hcm (by omega) M (by have := HM.out; omega) _ (by first | omega | (simp; omega) | simp) (by first | omega | (simp; omega) | simp) hBs hBn) KpP.trans (kpP_b (by first | omega | (simp; omega) | simp) (by first | omega | (simp; omega) | simp)) (Below.refl _ _) (fun _ => rfl)
    (fun pre W => RdP w b (pre.map (·.1)) W) (fun _ _ _ => False) (rdP_own (by simp; omega)) (fun _ _ _ _ _ hs _ _ => hs) ⟨⟨.slice none 0 0, hW1, World.ownsRow_nil _ _ _ _⟩, hb0, by simp⟩
    (fun x => { tmps := #[.slice A n c, undef, .slice none 0 0, .int .i64 0, .pointer (some ⟨w.heap.size, 0, none⟩), .slice (A.map (·.add (2 * x.1))) (min 2 (n - 2 * x.1)) (min 2 (n - 2 * x.1)), undef, .slice A n c, .int .i64 n, .int .i64 0, .bool false, .slice A n c, .func (.func 108) #[] #[.pointer (some ⟨w.heap.size + 1, 0, none⟩), .pointer (some ⟨w.heap.size + 1 + 1, 0, none⟩)], .slice (A.map (·.add (2 * x.1))) (min 2 (n - 2 * x.1)) (min 2 (n - 2 * x.1)), undef, undef, undef, undef, undef, undef, undef, undef, undef, undef, undef, undef, undef, undef, undef, undef], defers := [] }) ?_ ?_ ?_ ?_
  · intro l x W K hK
    gi_wp2
    exact hK
  · rintro l pre x W hI hlt
    have hx := x.2
    have HM' := HM.out
    obtain ⟨⟨v, h1, h2⟩, h4, h5⟩ := hI
    obtain ⟨ad, rfl⟩ := HA.out (by omega)
    obtain ⟨c1, f1⟩ := blk1 h1
    generalize hxx : x.1 = j at *
    have HXX := Lib.hid hxx
    have hrW := HR.out.below (h4.mono hB)
    have hq : min 2 (n - 2 * j) = 2 := by omega
    obtain ⟨pa, hpa⟩ : ∃ pa, pa = ad.add (2 * j) := ⟨_, rfl⟩
    have hjl0 : 2 * j < n := by omega
    have hjl1 : 2 * j + 1 < n := by omega
    obtain ⟨ad0, e0, _, x0c⟩ := strs_at hrW HN.out hjl0
    obtain ⟨ad1, e1, _, x1c⟩ := strs_at hrW HN.out hjl1
    injection e0 with e0
    injection e1 with e1
    subst e0
    subst e1
    obtain ⟨xn, hxn⟩ : ∃ y, y = b[2 * j]'(by have := HN.out; omega) := ⟨_, rfl⟩
    obtain ⟨xv, hxv⟩ : ∃ y, y = b[2 * j + 1]'(by have := HN.out; omega) := ⟨_, rfl⟩
    rw [← hxn, ← hpa] at x0c
    rw [← hxv, ← add_of_add, ← hpa] at x1c
    have hpair : rdP b [j] = [(xn, xv)] := by
      unfold rdP
      simp only [List.map_cons, List.map_nil]
      rw [List.getD_eq_getElem?_getD, List.getD_eq_getElem?_getD, List.getElem?_eq_getElem (by have := HN.out; omega), List.getElem?_eq_getElem (by have := HN.out; omega), hxn, hxv]
      rfl
    have hpb : pa.block < w.heap.size := by
      obtain ⟨ad3, e3, hb3, _⟩ := HR.out.2 (by omega)
      injection e3 with e3
      rw [hpa, block_of_add, e3]
      omega
    simp only [strV] at x0c x1c
    have HPAIR := Lib.hid hpair
    obtain ⟨kk, hkk⟩ : ∃ kk, kk = (pre.map (·.1)).length := ⟨_, rfl⟩
    have hkM : kk < M := by rw [hkk, List.length_map]; omega
    rw [← hkk] at h2
    obtain ⟨A0, c0, rfl, _, _, _⟩ := own_form h2
    have H1 := Lib.hid h1
    have H2 := Lib.hid h2
    have H4 := Lib.hid h4
    have HKK := Lib.hid hkk
    have hlt1 : w.heap.size < W.heap.size := h1.lt
    have hM24 : M ≤ 4398046511104 := by omega
    simp only [Option.map_some, hq, ← hpa]
    clear hxx hrW h1 h2 h4 hW1 hb0 hBs hBn HM' hx hq hkk hlt hpa hmod hmod2 hpair hxn hxv hjl0 hjl1
    gi_wp2
    obtain ⟨val, hval⟩ : ∃ val : Nat → Option Value, val = fun i => ([.slice A0 kk c0, .slice (some pa) 2 2, .pointer (some pa), .string ⟨xn.toArray⟩, .slice (some pa) 2 2, .pointer (some (pa.add 1)), .string ⟨xv.toArray⟩, .agg #[.string ⟨xn.toArray⟩, .string ⟨xv.toArray⟩], .slice (some ⟨W.heap.size, 0, none⟩) 1 1] : List Value)[i]? := ⟨_, rfl⟩
    have v0 : val 0 = some (.slice A0 kk c0) := by rw [hval]; rfl
    have v1 : val 1 = some (.slice (some pa) 2 2) := by rw [hval]; rfl
    have v2 : val 2 = some (.pointer (some pa)) := by rw [hval]; rfl
    have v3 : val 3 = some (.string ⟨xn.toArray⟩) := by rw [hval]; rfl
    have v4 : val 4 = some (.slice (some pa) 2 2) := by rw [hval]; rfl
    have v5 : val 5 = some (.pointer (some (pa.add 1))) := by rw [hval]; rfl
    have v6 : val 6 = some (.string ⟨xv.toArray⟩) := by rw [hval]; rfl
    have v7 : val 7 = some (.agg #[.string ⟨xn.toArray⟩, .string ⟨xv.toArray⟩]) := by rw [hval]; rfl
    have v8 : val 8 = some (.slice (some ⟨W.heap.size, 0, none⟩) 1 1) := by rw [hval]; rfl
    have v9 : val 9 = none := by rw [hval]; rfl
    have v10 : val 10 = none := by rw [hval]; rfl
    clear hval
    obtain ⟨WA, hWA⟩ : ∃ WA, WA = W.drew.alloc (.cells #[.string ⟨xn.toArray⟩, .string ⟨xv.toArray⟩] 99) := ⟨_, rfl⟩
    obtain ⟨S, hS⟩ : ∃ S : Value → World → Prop, S = fun v Y => Y.ownsRow (w.heap.size + 3) 99 2 v (kk + 1) (pcells (rdP b (pre.map (·.1))) ++ [.string ⟨xn.toArray⟩, .string ⟨xv.toArray⟩]) ∧ WA.grownBy Y (Value.slice A0 kk c0).ownBlock := ⟨_, rfl⟩
    have hblk : Blk WA W.heap.size 99 #[.string ⟨xn.toArray⟩, .string ⟨xv.toArray⟩] := by rw [hWA]; exact Blk.new _ _ _
    have hwd : ∀ X, X = W.drew ∨ X = WA → X.cell? ⟨w.heap.size, 0, none⟩ = some (.slice A0 kk c0) ∧ X.cell? pa = some (.string ⟨xn.toArray⟩) ∧ X.cell? ⟨pa.block, pa.off + 1, none⟩ = some (.string ⟨xv.toArray⟩) := by
      rintro X (rfl | rfl)
      · exact ⟨c1, x0c, x1c⟩
      · rw [hWA]
        exact ⟨(World.cell?_alloc_lt W.drew _ ⟨w.heap.size, 0, none⟩ (by show w.heap.size < W.heap.size; omega)).trans c1, (World.cell?_alloc_lt W.drew _ pa (by show pa.block < W.heap.size; omega)).trans x0c, (World.cell?_alloc_lt W.drew _ ⟨pa.block, pa.off + 1, none⟩ (by show pa.block < W.heap.size; omega)).trans x1c⟩
    have hWAsz : WA.heap.size = W.heap.size + 1 := by rw [hWA]; simp
    have hvA : WA.ownsRow (w.heap.size + 3) 99 2 (.slice A0 kk c0) kk (pcells (rdP b (pre.map (·.1)))) := by rw [hWA]; exact H2.out.alloc _
    have HWD := Lib.hid hwd
    have HWA := Lib.hid hWA
    have HS := Lib.hid hS
    have HBLK := Lib.hid hblk
    have HVA := Lib.hid hvA
    clear hwd hWA hS hblk hvA
    refine wpIn_region_inv2 (by kernel_rfl) (by kernel_rfl) (TailJ W.drew WA ⟨w.heap.size, 0, none⟩ val S 8 9 10) TailJ.start ?_ ?_
    · intro i o ho m X hJ hmi hcl hdeps AA QK hA hK
      rcases i with _ | _ | _ | _ | _ | _ | _ | _ | _ | _ | _ | i
      · injection ho with ho
        subst ho
        have ef4 : AA.tmps[4]?.getD undef = .pointer (some ⟨w.heap.size, 0, none⟩) := by rw [hA]; exact tmps_free (by kernel_rfl)
        have q9 := none_up hcl (j := 9) rfl (e := ⟨0, .data⟩) (by simp) rfl hmi
        obtain ⟨cx, _, _⟩ := HWD.out X (hJ.world q9)
        clear q9
        have hK0 := hK (.slice A0 kk c0) X (hJ.pure (by decide) (by decide) (by decide) (fun x hx => by rw [v0] at hx; exact Option.some.inj hx))
        clear hA hK hJ hcl hdeps hmi v0 v1 v2 v3 v4 v5 v6 v7 v8 v9 v10 c1 f1 x0c x1c
        gi_wp2_with fail
        exact hK0
      · injection ho with ho
        subst ho
        have ef5 : AA.tmps[5]?.getD undef = .slice (some pa) 2 2 := by rw [hA]; exact tmps_free (by kernel_rfl)
        have hK0 := hK (.slice (some pa) 2 2) X (hJ.pure (by decide) (by decide) (by decide) (fun x hx => by rw [v1] at hx; exact Option.some.inj hx))
        clear hA hK hJ hcl hdeps hmi v0 v1 v2 v3 v4 v5 v6 v7 v8 v9 v10 c1 f1 x0c x1c
        gi_wp2_with fail
        exact hK0
      · injection ho with ho
        subst ho
        have ev1 : AA.tmps[15]?.getD undef = .slice (some pa) 2 2 := by rw [hA]; exact tmps_own (by kernel_rfl) (hJ.det.get v1 (hdeps ⟨1, .data⟩ (by simp) rfl)) (of_decide_eq_true (by kernel_rfl))
        have hK0 := hK (.pointer (some pa)) X (hJ.pure (by decide) (by decide) (by decide) (fun x hx => by rw [v2] at hx; exact Option.some.inj hx))
        clear hA hK hJ hcl hdeps hmi v0 v1 v2 v3 v4 v5 v6 v7 v8 v9 v10 c1 f1 x0c x1c
        gi_wp2_with fail
        exact hK0
      · injection ho with ho
        subst ho
        have ev2 : AA.tmps[16]?.getD undef = .pointer (some pa) := by rw [hA]; exact tmps_own (by kernel_rfl) (hJ.det.get v2 (hdeps ⟨2, .data⟩ (by simp) rfl)) (of_decide_eq_true (by kernel_rfl))
        have q7 := none_up hcl (j := 7) rfl (e := ⟨3, .data⟩) (by simp) rfl hmi
        have q8 := none_up hcl (j := 8) rfl (e := ⟨7, .data⟩) (by simp) rfl q7
        have q9 := none_up hcl (j := 9) rfl (e := ⟨8, .data⟩) (by simp) rfl q8
        obtain ⟨_, cx, _⟩ := HWD.out X (hJ.world q9)
        clear q7 q8 q9
        have hK0 := hK (.string ⟨xn.toArray⟩) X (hJ.pure (by decide) (by decide) (by decide) (fun x hx => by rw [v3] at hx; exact Option.some.inj hx))
        clear hA hK hJ hcl hdeps hmi v0 v1 v2 v3 v4 v5 v6 v7 v8 v9 v10 c1 f1 x0c x1c
        gi_wp2_with fail
        exact hK0
      · injection ho with ho
        subst ho
        have ef5 : AA.tmps[5]?.getD undef = .slice (some pa) 2 2 := by rw [hA]; exact tmps_free (by kernel_rfl)
        have hK0 := hK (.slice (some pa) 2 2) X (hJ.pure (by decide) (by decide) (by decide) (fun x hx => by rw [v4] at hx; exact Option.some.inj hx))
        clear hA hK hJ hcl hdeps hmi v0 v1 v2 v3 v4 v5 v6 v7 v8 v9 v10 c1 f1 x0c x1c
        gi_wp2_with fail
        exact hK0
      · injection ho with ho
        subst ho
        have ev4 : AA.tmps[18]?.getD undef = .slice (some pa) 2 2 := by rw [hA]; exact tmps_own (by kernel_rfl) (hJ.det.get v4 (hdeps ⟨4, .data⟩ (by simp) rfl)) (of_decide_eq_true (by kernel_rfl))
        have hK0 := hK (.pointer (some (pa.add 1))) X (hJ.pure (by decide) (by decide) (by decide) (fun x hx => by rw [v5] at hx; exact Option.some.inj hx))
        clear hA hK hJ hcl hdeps hmi v0 v1 v2 v3 v4 v5 v6 v7 v8 v9 v10 c1 f1 x0c x1c
        gi_wp2_with fail
        exact hK0
      · injection ho with ho
        subst ho
        have ev5 : AA.tmps[19]?.getD undef = .pointer (some (pa.add 1)) := by rw [hA]; exact tmps_own (by kernel_rfl) (hJ.det.get v5 (hdeps ⟨5, .data⟩ (by simp) rfl)) (of_decide_eq_true (by kernel_rfl))
        have q7 := none_up hcl (j := 7) rfl (e := ⟨6, .data⟩) (by simp) rfl hmi
        have q8 := none_up hcl (j := 8) rfl (e := ⟨7, .data⟩) (by simp) rfl q7
        have q9 := none_up hcl (j := 9) rfl (e := ⟨8, .data⟩) (by simp) rfl q8
        obtain ⟨_, _, cx⟩ := HWD.out X (hJ.world q9)
        clear q7 q8 q9
        rw [show pa.add 1 = ⟨pa.block, pa.off + 1, none⟩ from rfl] at ev5
        have hK0 := hK (.string ⟨xv.toArray⟩) X (hJ.pure (by decide) (by decide) (by decide) (fun x hx => by rw [v6] at hx; exact Option.some.inj hx))
        clear hA hK hJ hcl hdeps hmi v0 v1 v2 v3 v4 v5 v6 v7 v8 v9 v10 c1 f1 x0c x1c
        gi_wp2_with fail
        exact hK0
      · injection ho with ho
        subst ho
        have ev3 : AA.tmps[17]?.getD undef = .string ⟨xn.toArray⟩ := by rw [hA]; exact tmps_own (by kernel_rfl) (hJ.det.get v3 (hdeps ⟨3, .data⟩ (by simp) rfl)) (of_decide_eq_true (by kernel_rfl))
        have ev6 : AA.tmps[20]?.getD undef = .string ⟨xv.toArray⟩ := by rw [hA]; exact tmps_own (by kernel_rfl) (hJ.det.get v6 (hdeps ⟨6, .data⟩ (by simp) rfl)) (of_decide_eq_true (by kernel_rfl))
        have hK0 := hK (.agg #[.string ⟨xn.toArray⟩, .string ⟨xv.toArray⟩]) X (hJ.pure (by decide) (by decide) (by decide) (fun x hx => by rw [v7] at hx; exact Option.some.inj hx))
        clear hA hK hJ hcl hdeps hmi v0 v1 v2 v3 v4 v5 v6 v7 v8 v9 v10 c1 f1 x0c x1c
        gi_wp2_with fail
        exact hK0
      · injection ho with ho
        subst ho
        have ev7 : AA.tmps[21]?.getD undef = .agg #[.string ⟨xn.toArray⟩, .string ⟨xv.toArray⟩] := by rw [hA]; exact tmps_own (by kernel_rfl) (hJ.det.get v7 (hdeps ⟨7, .data⟩ (by simp) rfl)) (of_decide_eq_true (by kernel_rfl))
        have q9 := none_up hcl (j := 9) rfl (e := ⟨8, .data⟩) (by simp) rfl hmi
        have hX := hJ.pre hmi
        subst hX
        have hK0 := hK (.slice (some ⟨W.heap.size, 0, none⟩) 1 1) WA (hJ.six (by decide) q9 (fun x hx => by rw [v8] at hx; exact Option.some.inj hx))
        rw [HWA.out] at hK0
        clear q9
        clear hA hK hJ hcl hdeps hmi v0 v1 v2 v3 v4 v5 v6 v7 v8 v9 v10 c1 f1 x0c x1c
        gi_wp2_with fail
        exact hK0
      · injection ho with ho
        subst ho
        have ev0 : AA.tmps[14]?.getD undef = .slice A0 kk c0 := by rw [hA]; exact tmps_own (by kernel_rfl) (hJ.det.get v0 (hdeps ⟨0, .data⟩ (by simp) rfl)) (of_decide_eq_true (by kernel_rfl))
        have ev8 : AA.tmps[22]?.getD undef = .slice (some ⟨W.heap.size, 0, none⟩) 1 1 := by rw [hA]; exact tmps_own (by kernel_rfl) (hJ.det.get v8 (hdeps ⟨8, .data⟩ (by simp) rfl)) (of_decide_eq_true (by kernel_rfl))
        have q10 := none_up hcl (j := 10) rfl (e := ⟨9, .data⟩) (by simp) rfl hmi
        have q8 := hdeps ⟨8, .data⟩ (by simp) rfl
        have hX := hJ.mid q8 hmi
        subst hX
        have hKK := fun v Y (hv : S v Y) => hK v Y (hJ.seven (by decide) (by decide) q8 q10 v9 hv)
        rw [HS.out] at hKK
        have hnew := HBLK.out.cell
        clear q10 q8
        clear hA hK hJ hcl hdeps hmi v0 v1 v2 v3 v4 v5 v6 v7 v8 v9 v10 c1 f1 x0c x1c
        refine wpListIn_append_own _ rfl _ _ 22 rfl (w.heap.size + 3) 99 i0 (.agg #[.string ByteArray.empty, .string ByteArray.empty]) 2 32 Try.underlying22 hi0 hz0 hz1 hz2 rfl (by decide) (.slice A0 kk c0) kk (pcells (rdP b (pre.map (·.1)))) (by simpa [Act.eval] using ev0) HVA.out ⟨W.heap.size, 0, none⟩ 1 1 [.string ⟨xn.toArray⟩, .string ⟨xv.toArray⟩] (by simpa [Act.eval] using ev8) rfl ?_ (by simp [Value.oneCell']) (by unfold maxLen; omega) (by omega) (by omega) ?_
        · intro jj u hu
          have := hnew jj
          rw [addr_add0]
          exact this.trans (by simpa using hu)
        · intro v Y h1 h2 _
          exact hKK v Y ⟨h1, h2⟩
      · injection ho with ho
        subst ho
        have ef4 : AA.tmps[4]?.getD undef = .pointer (some ⟨w.heap.size, 0, none⟩) := by rw [hA]; exact tmps_free (by kernel_rfl)
        obtain ⟨v, h7⟩ := Option.isSome_iff_exists.1 (hdeps ⟨9, .data⟩ (by simp) rfl)
        have q6 := hcl 9 _ rfl (by rw [h7]; rfl) ⟨8, .data⟩ (by simp) rfl
        have e7 : AA.tmps[23]?.getD undef = v := by rw [hA]; exact tmps_own (by kernel_rfl) h7 (of_decide_eq_true (by kernel_rfl))
        have hs := hJ.app v h7 hmi
        rw [HS.out] at hs
        obtain ⟨A2, cc2, rfl, _, _, _⟩ := own_form hs.1
        have hK0 := hK undef (X.setCell ⟨w.heap.size, 0, none⟩ (.slice A2 (kk + 1) cc2)) (hJ.eight (by decide) (by decide) q6 h7 hmi v10)
        have hne : some w.heap.size ≠ (Value.slice A0 kk c0).ownBlock := fun e => by have := (HVA.out.lt _ e.symm).1; omega
        have cx := (hs.2.cell ((HWD.out WA (.inr rfl)).1) hne)
        have fx : X.frozen? ⟨w.heap.size, 0, none⟩ = false := by
          have h1 := ((H1.out.drew.alloc (.cells #[.string ⟨xn.toArray⟩, .string ⟨xv.toArray⟩] 99)))
          rw [← HWA.out] at h1
          exact (h1.grown hs.2 hne).frozen 0
        clear hs q6 hne
        clear hA hK hJ hcl hdeps hmi v0 v1 v2 v3 v4 v5 v6 v7 v8 v9 v10 c1 f1 x0c x1c
        gi_wp2_with fail
        exact hK0
      · cases ho
    · intro m X hJ hall
      obtain ⟨v2, hv7⟩ := Option.isSome_iff_exists.1 (hall 9 (by decide))
      obtain ⟨u8, hu8⟩ := Option.isSome_iff_exists.1 (hall 10 (by decide))
      obtain ⟨Y, hs, hX⟩ := hJ.fin v2 u8 hv7 hu8
      rw [HS.out] at hs
      obtain ⟨hown2, hgrow2⟩ := hs
      obtain ⟨A2, cc2, rfl, _, _, _⟩ := own_form hown2
      subst hX
      have hne : some w.heap.size ≠ (Value.slice A0 kk c0).ownBlock := fun e => by have := (HVA.out.lt _ e.symm).1; omega
      have hrow3 : ∀ r, (Value.slice A0 kk c0).ownBlock = some r → w.heap.size + 3 ≤ r := fun r e => (HVA.out.lt r e).1
      have hcl : ∀ (jj : Nat) (o : Obj), (Value.slice A0 kk c0).ownBlock = some jj → WA.heap[jj]? = some o → o.isCells = true := by
        intro jj o e ho
        rcases HVA.out.2 with ⟨h, _⟩ | ⟨g, cap, cur, h, _, hh, _⟩
        · rw [h] at e; cases e
        · rw [h] at e
          have e2 : g = jj := by simpa [Value.ownBlock] using e
          subst e2
          rw [hh] at ho
          cases ho
          rfl
      have hWAh : ∀ k, k < W.heap.size → WA.heap[k]? = W.heap[k]? := fun k hk => by rw [HWA.out]; exact Below.heap_alloc W.drew _ k hk
      have hkeep : ∀ k, k < w.heap.size + 3 → k ≠ w.heap.size → (Y.setCell ⟨w.heap.size, 0, none⟩ (.slice A2 (kk + 1) cc2)).heap[k]? = W.heap[k]? := by
        intro k hk hk2
        rw [Below.heap_setCell _ _ _ _ (fun e => hk2 e), hgrow2.block k (by omega) (fun e => by have := hrow3 k e.symm; omega), hWAh k (by omega)]
      have hbW : Below w.heap.size w WA := by rw [HWA.out]; exact H4.out.drew.alloc (by have := H4.out.size; show _ ≤ W.heap.size; omega) _
      have hblkW : Blk WA w.heap.size 22 #[.slice A0 kk c0] := by rw [HWA.out]; exact H1.out.drew.alloc _
      have hbcs : pcells (rdP b ((pre ++ [x]).map (·.1))) = pcells (rdP b (pre.map (·.1))) ++ [.string ⟨xn.toArray⟩, .string ⟨xv.toArray⟩] := by
        rw [List.map_append, List.map_singleton, HXX.out]
        have hsp : rdP b (pre.map (·.1) ++ [j]) = rdP b (pre.map (·.1)) ++ rdP b [j] := by unfold rdP; rw [List.map_append]
        rw [hsp, HPAIR.out, pcells_append]
        rfl
      have hk0 : KeepsOthers W WA := by rw [HWA.out]; exact (KeepsOthers.drew W).trans (KeepsOthers.alloc _ _)
      gi_wp2
      refine ⟨?_, ⟨hkeep (w.heap.size + 1) (by omega) (by omega), hkeep (w.heap.size + 1 + 1) (by omega) (by omega)⟩, ?_⟩
      · exact ((hk0.trans (KeepsOthers.of_grownBy hgrow2 hcl)).trans (KeepsOthers.setCell _ _ _)).from _
      · show RdP w b ((pre ++ [x]).map (·.1)) _
        refine ⟨⟨.slice A2 (kk + 1) cc2, ?_, ?_⟩, ?_, ?_⟩
        · exact (hblkW.grown hgrow2 hne).set_ 0 _
        · rw [hbcs, List.map_append, List.map_singleton, List.length_append, List.length_singleton, ← HKK.out]
          exact own_setCell_below hown2 (p := ⟨w.heap.size, 0, none⟩) (by show w.heap.size < w.heap.size + 3; omega) (.slice A2 (kk + 1) cc2)
        · exact (hbW.grown hgrow2 (by omega) (fun r e => by have := hrow3 r e; omega)).setCell (Nat.le_refl _) _
        · have := hgrow2.size
          simp
          omega
  · rintro D xs W hD hS hI hK
    obtain ⟨⟨v, h1, h2⟩, h4, h5⟩ := hI
    obtain ⟨c1, f1⟩ := blk1 h1
    rw [hS] at h2
    rw [List.length_range] at h2
    have hL : rdP b (List.range M) = readP b := by unfold readP; congr 2; have := HN.out; have := HM.out; omega
    rw [hL] at h2
    obtain ⟨A0, c0, rfl, _, _, _⟩ := own_form h2
    have hDlt : D < W.heap.size := (Array.getElem?_eq_some_iff.1 hK).1
    have hlM : M = (readP b).length := by rw [← hL]; simp [rdP]
    have hsm : ∀ x ∈ readP b, x.2.length ≤ 140737488351232 := by
      intro x hx
      rw [← hL] at hx
      obtain ⟨j, hj, rfl⟩ := List.mem_map.1 hx
      have hj2 := List.mem_range.1 hj
      have hjl : 2 * j + 1 < b.length := by have := HN.out; have := HM.out; omega
      simp only
      rw [List.getD_eq_getElem?_getD, List.getElem?_eq_getElem hjl]
      exact HSL.out _ (List.getElem_mem _)
    have hck := checkP_any (readP b) M hlM A0 c0 W W.heap.size (Reads.of_own h2) (Nat.le_refl _) (by have := HM.out; omega) hsm
    have HFIN := Lib.hid (fun W1 (hb1 : Below W.heap.size W W1) => (⟨h4.trans ((hb1.mono h4.size).trans (belowK_b (w := w) (Nat.le_refl _) W1 D _ _ (by simp at hD; omega) ((hb1.block D hDlt).trans hK) rfl rfl)), own_mono (ownsRow_putObj (own_below h2 hb1) (.deferred none) ((hb1.block D hDlt).trans hK) rfl) (by omega)⟩ : Below w.heap.size w (W1.putObj D (.deferred none)) ∧ (W1.putObj D (.deferred none)).ownsRow w.heap.size 99 2 (.slice A0 M c0) M (pcells (readP b))))
    have HDF := Lib.hid (fun W1 (hb1 : Below W.heap.size W W1) => (hb1.block D hDlt).trans hK)
    have hlt1 : w.heap.size < W.heap.size := by omega
    have HD := Lib.hid hD
    clear h1 h2 h4 hW1 hb0 hBs hBn hL hlM hK hD hmod hmod2 hDlt hsm
    cases hok : propsB (readP b) with
    | true =>
      have he : propsE (readP b) = 0 := by unfold propsE; rw [hok]; rfl
      rw [he] at hck
      have HE := Lib.hid he
      have HOK := Lib.hid hok
      clear he hok
      gi_wp2_with (refine ⟨trivial, ?_⟩; gi_at_call 48; refine (callsIn_wide.2 hck).mono ?_; rintro e W1 ⟨rfl, hb1⟩; have c2 := (hb1.cell (p := ⟨w.heap.size, 0, none⟩) hlt1).trans c1; clear hck c1)
      refine ⟨by simp, .inl ⟨_, _, rfl, run_takeDeferred (HDF.out W1 hb1), ?_⟩⟩
      obtain ⟨g1, g2⟩ := HFIN.out W1 hb1
      refine ⟨_, results_tmp2 rfl _ _ _, ⟨.slice A0 M c0, by rw [HE.out]; rfl, ?_⟩, g1⟩
      rw [if_pos HOK.out]
      exact g2
    | false =>
      have he : propsE (readP b) = 9 := by unfold propsE; rw [hok]; rfl
      rw [he] at hck
      have HE := Lib.hid he
      have HOK := Lib.hid hok
      clear he hok
      gi_wp2_with (refine ⟨trivial, ?_⟩; gi_at_call 48; refine (callsIn_wide.2 hck).mono ?_; rintro e W1 ⟨rfl, hb1⟩; have c2 := (hb1.cell (p := ⟨w.heap.size, 0, none⟩) hlt1).trans c1; clear hck c1)
      refine ⟨by simp, .inl ⟨_, _, rfl, run_takeDeferred (HDF.out W1 hb1), ?_⟩⟩
      obtain ⟨g1, g2⟩ := HFIN.out W1 hb1
      refine ⟨_, results_tmp2 rfl _ _ _, ⟨.slice none 0 0, by rw [HE.out]; rfl, ?_⟩, g1⟩
      rw [if_neg (by rw [HOK.out]; decide)]
  · rintro D c pre W _ _ h _
    exact h.elim


theorem prRead_any (s : List BS) (n : Nat) (hnb : n = s.length) (A : Option Addr) (c : Nat) (w : World) (B : Nat) (hr : Reads w B 1 A n (scells s)) (hsl : ∀ x ∈ s, x.length ≤ 140737488351232) (hB : B ≤ w.heap.size) (hc : n ≤ c) (hcm : c ≤ 9223372036854775807) (hn : n ≤ 8796093022208) (M : Nat) (hM : n = 2 * M) :
    Calls Try.prog 39 #[.slice A n c] w (ReadPPost w s M) :=
  (callsIn_wide (n := 9)).1 (prRead_in s n hnb A c w B hr hsl hB hc hcm hn M hM)
set_option maxRecDepth 100000 in
/-- .. and at others -/
theorem prRead_odd (n : Nat) (A : Option Addr) (c : Nat) (w : World) (h : n % 2 = 1) :
    Calls Try.prog 39 #[.slice A n c] w fun e w' => e = .returned (.tuple #[.slice none 0 0, .int .i64 8]) ∧ w = w' := by
  have h1 : ((n : Int) % 2 == 1) = true := by simp; omega
  have h2 : (n : Int) % 2 = 1 := by omega
  go_enter Try.func39, Try.ntmps39
  go_wp2_with fail
  go_ret2
  exact ⟨rfl, rfl⟩
end Go.Proofs.Ythfjfkjlgdnohaa
