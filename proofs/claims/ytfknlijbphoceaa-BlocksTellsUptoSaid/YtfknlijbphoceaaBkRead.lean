/-
  blocks.Read, by its contract.
-/
import Derived.Test.YtfknlijbphoceaaChunkE
import Derived.Test.YtfknlijbphoceaaBk1
import Derived.Test.YtfknlijbphoceaaNumber
import Derived.Test.YtfknlijbphoceaaInvIn
import Derived.Test.YtfknlijbphoceaaGood
import Derived.Handy
import Derived.Laws.BytesString
import Derived.RangeFuncNested
import Derived.RangeFuncFrom
import Derived.RangeFuncWrites
import Derived.Maps.AppendAt
namespace Go.Proofs.Ytfknlijbphoceaa
open Go.RowKit Go.Shelf
attribute [local go_sem] Oper.semAt_some

theorem strE_of {P : Program} {w : World} {B n c : Nat} {A : Option Addr} {b : List UInt8} (hr : Reads w B 1 A n (bts b)) (hnb : n = b.length) {src dst e : TypeId} (hs : P.underlying src = some (.slice e)) (he : P.underlying e = some (.int .u8)) (hd : P.underlying dst = some .string) :
    (convert src dst (.slice A n c)).run P w = .ok (.string ⟨b.toArray⟩) w := by
  subst hnb
  rcases Nat.eq_zero_or_pos b.length with h | h
  · obtain rfl := List.eq_nil_of_length_eq_zero h
    rw [run_convert_bytes_string w src dst e _ _ c hs he hd]
    cases A <;> simp [Conv.bytesToString, loadCells]
    all_goals rfl
  · obtain ⟨ad, rfl, _, hc⟩ := hr.2 h
    exact run_convert_bytes_back w src dst e ad c b hs he hd (fun j hj => hc j _ (by rw [bts_get, List.getElem?_eq_getElem hj]; rfl))

theorem Try.infoB : (Try.prog.info? 30).map (fun i => (i.zero, i.size, i.bytes)) = some (some (.agg #[.int .i64 0, .string ByteArray.empty]), 2, 24) := by kernel_rfl
def chunkEL (b : List UInt8) (j : Nat) : List UInt8 := (b.drop (18 * j)).take 18
/-- one block of a chunk -/
def rdOne (p : List UInt8) : Int × List UInt8 := (numV (p.take 2), p.drop 2)
def rdL (b : List UInt8) (js : List Nat) : BL := js.map fun j => rdOne (chunkEL b j)
/-- what Read makes -/
def readL (b : List UInt8) : BL := rdL b (List.range (b.length / 18))
theorem ownE_other {W W' : World} {base : Nat} {e : TypeId} {size n : Nat} {v : Value} {xs : List Value} {row : Option Nat} (h : W.ownsRow base e size v n xs) (hg : W.grownBy W' row) (hr : ∀ r, row = some r → ∃ o : Obj, W.heap[r]? = some o ∧ o.isCells = false) : W'.ownsRow base e size v n xs := by
  refine h.kept hg ?_
  rcases h.2 with ⟨rfl, _⟩ | ⟨g, cap, cur, rfl, _, hh, _⟩
  · exact .inl rfl
  · refine .inr fun he => ?_
    obtain ⟨o, ho, hc⟩ := hr g he.symm
    rw [hh] at ho
    cases ho
    cases hc
theorem heapE_kept {W W' : World} {row : Option Nat} {k : Nat} {cs : Array Value} {T : TypeId} {fr : Nat × Nat} (h : W.heap[k]? = some (.cells cs T fr)) (hg : W.grownBy W' row) (hr : ∀ r, row = some r → ∃ o : Obj, W.heap[r]? = some o ∧ o.isCells = false) : W'.heap[k]? = some (.cells cs T fr) := by
  rw [hg.block k (Array.getElem?_eq_some_iff.1 h).1 ?_]
  · exact h
  · intro e
    obtain ⟨o, ho, hc⟩ := hr k e.symm
    rw [h] at ho
    cases ho
    cases hc
/-- between two rounds -/
def RdI (w : World) (b : List UInt8) (js : List Nat) (W : World) : Prop :=
  (∃ v, Blk W w.heap.size 22 #[v] ∧ W.ownsRow (w.heap.size + 3) 30 2 v js.length (bcells (rdL b js))) ∧ Below w.heap.size w W ∧ w.heap.size + 3 ≤ W.heap.size
theorem rdI_own {w : World} {b : List UInt8} {B M : Nat} (hB : w.heap.size ≤ B) : OwnFrom B (fun (pre : List (Ce M)) W => RdI w b (pre.map (·.1)) W) := by
  rintro s W W' row ⟨⟨v, h1, h2⟩, h4, h5⟩ hg hr
  have hr' := fun r e => (hr r e).2
  exact ⟨⟨v, heapE_kept h1 hg hr', ownE_other h2 hg hr'⟩, h4.grown hg (Below.size h4) (fun r e => Nat.le_trans hB (hr r e).1), Nat.le_trans h5 hg.size⟩
theorem kpE_b {w : World} {Bs Bn : Nat} (hb : Bs < w.heap.size) (hn : Bn < w.heap.size) (W : World) (l : Nat) (o o' : Obj) (hl : w.heap.size ≤ l) (_ : W.heap[l]? = some o) (_ : o.isCells = false) (_ : o.isWalk = false) : KpE Bs Bn W (W.putObj l o') :=
  ⟨World.putObj_heap_other (by omega), World.putObj_heap_other (by omega)⟩
def ReadPost (w : World) (b : List UInt8) (M : Nat) (e : Ending) (w' : World) : Prop :=
  (∃ v, e = .returned (.tuple #[v, .int .i64 (okE (readL b))]) ∧ (if okL (readL b) then w'.ownsRow w.heap.size 30 2 v M (bcells (readL b)) else v = .slice none 0 0)) ∧ Below w.heap.size w w'

set_option maxRecDepth 100000 in
set_option maxHeartbeats 2000000 in
theorem bkRead_in (b : List UInt8) (n : Nat) (hnb : n = b.length) (A : Option Addr) (c : Nat) (w : World) (B : Nat) (hr : Reads w B 1 A n (bts b)) (hB : B ≤ w.heap.size) (hc : n ≤ c) (hcm : c ≤ 9223372036854775807) (hn : n ≤ 5000000000000) (M : Nat) (hM : n = 18 * M) :
    CallsIn Fence.wide 9 Try.prog 18 #[.slice A n c] w (ReadPost w b M) := by
  obtain ⟨i0, hi0, hz0, hz1, hz2⟩ := info_parts Try.infoB
  have HN := Lib.hid hnb
  have HM := Lib.hid hM
  have hA : 0 < n → ∃ ad, A = some ad := fun h => by obtain ⟨ad, h, _⟩ := hr.2 h; exact ⟨ad, h⟩
  have HR := Lib.hid hr
  have HA := Lib.hid hA
  have hmod : decide ((n : Int) % 18 = 0) = true := by simp; omega
  have hmod2 : (n : Int) % 18 = 0 := by omega
  clear hnb hM hr hA
  have hro : (Fence.wide).round = none := rfl
  refine callsIn_of_wp_marks Try.func18 rfl trivial ?_ hro
  simp only [Try.ntmps18, List.size_toArray, List.length_cons, List.length_nil, Nat.reduceAdd, Nat.reduceSub, Array.replicate_succ, Array.replicate_zero, List.push_toArray, List.append_toArray, List.nil_append, List.cons_append]
  gi_wp2_with (refine ⟨trivial, ?_⟩; gi_at_call 38; refine (chunkE_in Fence.wide 8 trivial rfl _ _ _ _).mono ?_; rintro e w' ⟨rfl, rfl⟩)
  have hW1 : Blk (((w.alloc (.cells #[.slice none 0 0] 22)).alloc (.cells #[.slice A n c] 47)).alloc (.cells #[.int .i64 18] 3)) w.heap.size 22 #[.slice none 0 0] := ((Blk.new w _ _).alloc _).alloc _
  have hb0 : Below w.heap.size w (((w.alloc (.cells #[.slice none 0 0] 22)).alloc (.cells #[.slice A n c] 47)).alloc (.cells #[.int .i64 18] 3)) := (((Below.refl _ _).alloc (Nat.le_refl _) _).alloc (by simp) _).alloc (by simp; omega) _
  have hBs : (((w.alloc (.cells #[.slice none 0 0] 22)).alloc (.cells #[.slice A n c] 47)).alloc (.cells #[.int .i64 18] 3)).cell? ⟨w.heap.size + 1, 0, none⟩ = some (.slice A n c) := by
    have := ((Blk.new (w.alloc (.cells #[.slice none 0 0] 22)) 47 #[.slice A n c]).alloc (.cells #[.int .i64 18] 3)).cell 0
    simpa using this
  have hBn : (((w.alloc (.cells #[.slice none 0 0] 22)).alloc (.cells #[.slice A n c] 47)).alloc (.cells #[.int .i64 18] 3)).cell? ⟨w.heap.size + 1 + 1, 0, none⟩ = some (.int .i64 18) := by
    have := (Blk.new ((w.alloc (.cells #[.slice none 0 0] 22)).alloc (.cells #[.slice A n c] 47)) 3 #[.int .i64 18]).cell 0
    simpa using this
  refine wpIn_rangeFunc_ownG rfl (by omega) (gf := 49) (lb := #[.pointer (some ⟨w.heap.size + 1, 0, none⟩), .pointer (some ⟨w.heap.size + 1 + 1, 0, none⟩)]) rfl trivial (enters_of Try.func49 (by kernel_rfl) rfl)
    (chunkE_stops Fence.wide 8 trivial rfl (by omega) (w.heap.size + 1) (w.heap.size + 1 + 1) c n A HA.out hc hcm (by omega) M (by have := HM.out; omega) _ (by first | omega | (simp; omega) | simp) (by first | omega | (simp; omega) | simp) hBs hBn) KpE.trans (kpE_b (by first | omega | (simp; omega) | simp) (by first | omega | (simp; omega) | simp)) (Below.refl _ _) (fun _ => rfl)
    (fun pre W => RdI w b (pre.map (·.1)) W) (fun _ _ _ => False) (rdI_own (by simp; omega)) (fun _ _ _ _ _ hs _ _ => hs) ⟨⟨.slice none 0 0, hW1, World.ownsRow_nil _ _ _ _⟩, hb0, by simp⟩
    (fun x => { tmps := #[.slice A n c, undef, .slice none 0 0, .int .i64 0, .pointer (some ⟨w.heap.size, 0, none⟩), .slice (A.map (·.add (18 * x.1))) (min 18 (n - 18 * x.1)) (min 18 (n - 18 * x.1)), undef, undef, undef, .slice A n c, .int .i64 n, .int .i64 0, .bool false, .slice A n c, .func (.func 49) #[] #[.pointer (some ⟨w.heap.size + 1, 0, none⟩), .pointer (some ⟨w.heap.size + 1 + 1, 0, none⟩)], .slice (A.map (·.add (18 * x.1))) (min 18 (n - 18 * x.1)) (min 18 (n - 18 * x.1)), undef, undef, undef, undef, undef, undef, undef, undef, undef, undef, undef, undef, undef, undef, undef, undef, undef, undef, undef, undef], defers := [] }) ?_ ?_ ?_ ?_
  · intro l x W K hK
    gi_wp2
    exact hK
  · rintro l pre x W hI hlt
    have hx := x.2
    have HM' := HM.out
    obtain ⟨⟨v, h1, h2⟩, h4, h5⟩ := hI
    obtain ⟨ad, rfl⟩ := HA.out (by omega)
    obtain ⟨c1, f1⟩ := blk1 h1
    generalize hxx : x.1 = j at *
    have HXX := Lib.hid hxx
    have hrW := HR.out.below (h4.mono hB)
    have hq : min 18 (n - 18 * j) = 18 := by omega
    have hrq : Reads W B 1 (some (ad.add (18 * j))) 18 (bts (chunkEL b j)) ∧ 18 = (chunkEL b j).length := by
      have hl : 18 = (chunkEL b j).length := by unfold chunkEL; rw [List.length_take, List.length_drop, ← HN.out]; omega
      refine ⟨?_, hl⟩
      have k1 := hrW.cut (k := 18 * j) (cap := c) (by omega) hc
      rw [if_neg (by omega)] at k1
      simp only [Nat.mul_one, Option.map_some] at k1
      have k2 := k1.pre (k := 18) (by omega)
      rw [Nat.mul_one, ← bts_drop, ← bts_take] at k2
      exact k2
    obtain ⟨p, hp⟩ : ∃ p, p = chunkEL b j := ⟨_, rfl⟩
    rw [← hp] at hrq
    have HP := Lib.hid hp
    obtain ⟨pa, hpa⟩ : ∃ pa, pa = ad.add (18 * j) := ⟨_, rfl⟩
    have hr2 : Reads W B 1 (some pa) 2 (bts (p.take 2)) ∧ 2 = (p.take 2).length := by
      refine ⟨?_, by rw [List.length_take, ← hrq.2]; rfl⟩
      have := hrq.1.pre (k := 2) (by omega)
      rw [Nat.mul_one, ← bts_take, ← hpa] at this
      exact this
    have hnum := number_any (p.take 2) 2 hr2.2 (some pa) 18 W B hr2.1 (by omega)
    have hr16 : Reads W B 1 (some (pa.add 2)) 16 (bts (p.drop 2)) ∧ 16 = (p.drop 2).length := by
      refine ⟨?_, by rw [List.length_drop, ← hrq.2]⟩
      have k1 := hrq.1.cut (k := 2) (cap := 18) (by omega) (by omega)
      rw [if_neg (by omega)] at k1
      simp only [Nat.mul_one, Option.map_some, ← bts_drop, ← hpa] at k1
      exact k1
    obtain ⟨nv, hnv⟩ : ∃ nv, nv = numV (p.take 2) := ⟨_, rfl⟩
    obtain ⟨ne, hne⟩ : ∃ ne, ne = numE (p.take 2) := ⟨_, rfl⟩
    rw [← hnv, ← hne] at hnum
    obtain ⟨kk, hkk⟩ : ∃ kk, kk = (pre.map (·.1)).length := ⟨_, rfl⟩
    have hkM : kk < M := by rw [hkk, List.length_map]; omega
    rw [← hkk] at h2
    obtain ⟨A0, c0, rfl, _, _, _⟩ := own_form h2
    have H1 := Lib.hid h1
    have H2 := Lib.hid h2
    have H4 := Lib.hid h4
    have H16 := Lib.hid hr16
    have HNV := Lib.hid hnv
    have HKK := Lib.hid hkk
    have hlt1 : w.heap.size < W.heap.size := h1.lt
    have hM24 : M ≤ 5000000000000 := by omega
    simp only [Option.map_some, hq, ← hpa]
    clear hxx hrW hrq hr2 hr16 h1 h2 h4 hW1 hb0 hBs hBn HM' hx hq hkk hlt hnv hne hp hpa hmod hmod2
    gi_wp2_with (first
      | (refine ⟨trivial, ?_⟩; gi_at_call 39; refine (CallsIn.inRound l (callsIn_wide.2 hnum)).mono ?_; rintro e W1 ⟨rfl, rfl⟩))
    obtain ⟨val, hval⟩ : ∃ val : Nat → Option Value, val = fun i => ([.slice A0 kk c0, .int .i64 nv, .slice (some pa) 18 18, .slice (some (pa.add 2)) 16 16, .string ⟨(p.drop 2).toArray⟩, .agg #[.int .i64 nv, .string ⟨(p.drop 2).toArray⟩], .slice (some ⟨W.heap.size, 0, none⟩) 1 1] : List Value)[i]? := ⟨_, rfl⟩
    have v0 : val 0 = some (.slice A0 kk c0) := by rw [hval]; rfl
    have v1 : val 1 = some (.int .i64 nv) := by rw [hval]; rfl
    have v2 : val 2 = some (.slice (some pa) 18 18) := by rw [hval]; rfl
    have v3 : val 3 = some (.slice (some (pa.add 2)) 16 16) := by rw [hval]; rfl
    have v4 : val 4 = some (.string ⟨(p.drop 2).toArray⟩) := by rw [hval]; rfl
    have v5 : val 5 = some (.agg #[.int .i64 nv, .string ⟨(p.drop 2).toArray⟩]) := by rw [hval]; rfl
    have v6 : val 6 = some (.slice (some ⟨W.heap.size, 0, none⟩) 1 1) := by rw [hval]; rfl
    have v7 : val 7 = none := by rw [hval]; rfl
    have v8 : val 8 = none := by rw [hval]; rfl
    clear hval
    obtain ⟨WA, hWA⟩ : ∃ WA, WA = W.drew.alloc (.cells #[.int .i64 nv, .string ⟨(p.drop 2).toArray⟩] 30) := ⟨_, rfl⟩
    obtain ⟨S, hS⟩ : ∃ S : Value → World → Prop, S = fun v Y => Y.ownsRow (w.heap.size + 3) 30 2 v (kk + 1) (bcells (rdL b (pre.map (·.1))) ++ [.int .i64 nv, .string ⟨(p.drop 2).toArray⟩]) ∧ WA.grownBy Y (Value.slice A0 kk c0).ownBlock := ⟨_, rfl⟩
    have hblk : Blk WA W.heap.size 30 #[.int .i64 nv, .string ⟨(p.drop 2).toArray⟩] := by rw [hWA]; exact Blk.new _ _ _
    have hwd : ∀ X, X = W.drew ∨ X = WA → X.cell? ⟨w.heap.size, 0, none⟩ = some (.slice A0 kk c0) ∧ Reads X B 1 (some (pa.add 2)) 16 (bts (p.drop 2)) := by
      have h16 := H16.out.1
      rintro X (rfl | rfl)
      · exact ⟨c1, h16.drew⟩
      · rw [hWA]
        exact ⟨(World.cell?_alloc_lt W.drew _ ⟨w.heap.size, 0, none⟩ (by show w.heap.size < W.heap.size; omega)).trans c1, h16.drew.alloc (by show B ≤ W.heap.size; omega) _⟩
    have hWAsz : WA.heap.size = W.heap.size + 1 := by rw [hWA]; simp
    have hvA : WA.ownsRow (w.heap.size + 3) 30 2 (.slice A0 kk c0) kk (bcells (rdL b (pre.map (·.1)))) := by rw [hWA]; exact H2.out.alloc _
    have HWD := Lib.hid hwd
    have HWA := Lib.hid hWA
    have HS := Lib.hid hS
    have HBLK := Lib.hid hblk
    have HVA := Lib.hid hvA
    clear hwd hWA hS hblk hvA
    refine wpIn_region_inv2 (by kernel_rfl) (by kernel_rfl) (TailJ W.drew WA ⟨w.heap.size, 0, none⟩ val S 6 7 8) TailJ.start ?_ ?_
    · intro i o ho m X hJ hmi hcl hdeps AA QK hA hK
      rcases i with _ | _ | _ | _ | _ | _ | _ | _ | _ | i
      · injection ho with ho
        subst ho
        have ef4 : AA.tmps[4]?.getD undef = .pointer (some ⟨w.heap.size, 0, none⟩) := by rw [hA]; exact tmps_free (by kernel_rfl)
        obtain ⟨cx, _⟩ := HWD.out X (hJ.world (none_up hcl (j := 7) rfl (e := ⟨0, .data⟩) (by simp) rfl hmi))
        have hK0 := hK (.slice A0 kk c0) X (hJ.pure (by decide) (by decide) (by decide) (fun x hx => by rw [v0] at hx; exact Option.some.inj hx))
        clear hA hK hJ hcl hdeps hmi v0 v1 v2 v3 v4 v5 v6 v7 v8 c1 f1
        gi_wp2_with fail
        exact hK0
      · injection ho with ho
        subst ho
        have ef6 : AA.tmps[6]?.getD undef = .int .i64 nv := by rw [hA]; exact tmps_free (by kernel_rfl)
        have hK0 := hK (.int .i64 nv) X (hJ.pure (by decide) (by decide) (by decide) (fun x hx => by rw [v1] at hx; exact Option.some.inj hx))
        clear hA hK hJ hcl hdeps hmi v0 v1 v2 v3 v4 v5 v6 v7 v8 c1 f1
        gi_wp2_with fail
        exact hK0
      · injection ho with ho
        subst ho
        have ef5 : AA.tmps[5]?.getD undef = .slice (some pa) 18 18 := by rw [hA]; exact tmps_free (by kernel_rfl)
        have hK0 := hK (.slice (some pa) 18 18) X (hJ.pure (by decide) (by decide) (by decide) (fun x hx => by rw [v2] at hx; exact Option.some.inj hx))
        clear hA hK hJ hcl hdeps hmi v0 v1 v2 v3 v4 v5 v6 v7 v8 c1 f1
        gi_wp2_with fail
        exact hK0
      · injection ho with ho
        subst ho
        have ev2 : AA.tmps[24]?.getD undef = .slice (some pa) 18 18 := by rw [hA]; exact tmps_own (by kernel_rfl) (hJ.det.get v2 (hdeps ⟨2, .data⟩ (by simp) rfl)) (of_decide_eq_true (by kernel_rfl))
        have hK0 := hK (.slice (some (pa.add 2)) 16 16) X (hJ.pure (by decide) (by decide) (by decide) (fun x hx => by rw [v3] at hx; exact Option.some.inj hx))
        clear hA hK hJ hcl hdeps hmi v0 v1 v2 v3 v4 v5 v6 v7 v8 c1 f1
        gi_wp2_with fail
        exact hK0
      · injection ho with ho
        subst ho
        have ev3 : AA.tmps[25]?.getD undef = .slice (some (pa.add 2)) 16 16 := by rw [hA]; exact tmps_own (by kernel_rfl) (hJ.det.get v3 (hdeps ⟨3, .data⟩ (by simp) rfl)) (of_decide_eq_true (by kernel_rfl))
        have q5 := none_up hcl (j := 5) rfl (e := ⟨4, .data⟩) (by simp) rfl hmi
        have q6 := none_up hcl (j := 6) rfl (e := ⟨5, .data⟩) (by simp) rfl q5
        obtain ⟨_, cx⟩ := HWD.out X (hJ.world (none_up hcl (j := 7) rfl (e := ⟨6, .data⟩) (by simp) rfl q6))
        have hcv := strE_of (P := Try.prog) (c := 16) cx H16.out.2 Try.underlying47 Try.underlying5 Try.underlying9
        rw [show pa.add 2 = ⟨pa.block, pa.off + 2, none⟩ from rfl] at hcv
        clear cx q5 q6
        have hK0 := hK (.string ⟨(p.drop 2).toArray⟩) X (hJ.pure (by decide) (by decide) (by decide) (fun x hx => by rw [v4] at hx; exact Option.some.inj hx))
        clear hA hK hJ hcl hdeps hmi v0 v1 v2 v3 v4 v5 v6 v7 v8 c1 f1
        gi_wp2_with fail
        exact hK0
      · injection ho with ho
        subst ho
        have ev1 : AA.tmps[23]?.getD undef = .int .i64 nv := by rw [hA]; exact tmps_own (by kernel_rfl) (hJ.det.get v1 (hdeps ⟨1, .data⟩ (by simp) rfl)) (of_decide_eq_true (by kernel_rfl))
        have ev4 : AA.tmps[26]?.getD undef = .string ⟨(p.drop 2).toArray⟩ := by rw [hA]; exact tmps_own (by kernel_rfl) (hJ.det.get v4 (hdeps ⟨4, .data⟩ (by simp) rfl)) (of_decide_eq_true (by kernel_rfl))
        have hK0 := hK (.agg #[.int .i64 nv, .string ⟨(p.drop 2).toArray⟩]) X (hJ.pure (by decide) (by decide) (by decide) (fun x hx => by rw [v5] at hx; exact Option.some.inj hx))
        clear hA hK hJ hcl hdeps hmi v0 v1 v2 v3 v4 v5 v6 v7 v8 c1 f1
        gi_wp2_with fail
        exact hK0
      · injection ho with ho
        subst ho
        have ev5 : AA.tmps[27]?.getD undef = .agg #[.int .i64 nv, .string ⟨(p.drop 2).toArray⟩] := by rw [hA]; exact tmps_own (by kernel_rfl) (hJ.det.get v5 (hdeps ⟨5, .data⟩ (by simp) rfl)) (of_decide_eq_true (by kernel_rfl))
        have q7 := none_up hcl (j := 7) rfl (e := ⟨6, .data⟩) (by simp) rfl hmi
        have hX := hJ.pre hmi
        subst hX
        have hK0 := hK (.slice (some ⟨W.heap.size, 0, none⟩) 1 1) WA (hJ.six (by decide) q7 (fun x hx => by rw [v6] at hx; exact Option.some.inj hx))
        rw [HWA.out] at hK0
        clear q7
        clear hA hK hJ hcl hdeps hmi v0 v1 v2 v3 v4 v5 v6 v7 v8 c1 f1
        gi_wp2_with fail
        exact hK0
      · injection ho with ho
        subst ho
        have ev0 : AA.tmps[22]?.getD undef = .slice A0 kk c0 := by rw [hA]; exact tmps_own (by kernel_rfl) (hJ.det.get v0 (hdeps ⟨0, .data⟩ (by simp) rfl)) (of_decide_eq_true (by kernel_rfl))
        have ev6 : AA.tmps[28]?.getD undef = .slice (some ⟨W.heap.size, 0, none⟩) 1 1 := by rw [hA]; exact tmps_own (by kernel_rfl) (hJ.det.get v6 (hdeps ⟨6, .data⟩ (by simp) rfl)) (of_decide_eq_true (by kernel_rfl))
        have q8 := none_up hcl (j := 8) rfl (e := ⟨7, .data⟩) (by simp) rfl hmi
        have q6 := hdeps ⟨6, .data⟩ (by simp) rfl
        have hX := hJ.mid q6 hmi
        subst hX
        have hKK := fun v Y (hv : S v Y) => hK v Y (hJ.seven (by decide) (by decide) q6 q8 v7 hv)
        rw [HS.out] at hKK
        have hnew := HBLK.out.cell
        clear q8 q6
        clear hA hK hJ hcl hdeps hmi v0 v1 v2 v3 v4 v5 v6 v7 v8 c1 f1
        refine wpListIn_append_own _ rfl _ _ 22 rfl (w.heap.size + 3) 30 i0 (.agg #[.int .i64 0, .string ByteArray.empty]) 2 24 Try.underlying22 hi0 hz0 hz1 hz2 rfl (by decide) (.slice A0 kk c0) kk (bcells (rdL b (pre.map (·.1)))) (by simpa [Act.eval] using ev0) HVA.out ⟨W.heap.size, 0, none⟩ 1 1 [.int .i64 nv, .string ⟨(p.drop 2).toArray⟩] (by simpa [Act.eval] using ev6) rfl ?_ (by simp [Value.oneCell']) (by unfold maxLen; omega) (by omega) (by omega) ?_
        · intro jj u hu
          have := hnew jj
          rw [addr_add0]
          exact this.trans (by simpa using hu)
        · intro v Y h1 h2 _
          exact hKK v Y ⟨h1, h2⟩
      · injection ho with ho
        subst ho
        have ef4 : AA.tmps[4]?.getD undef = .pointer (some ⟨w.heap.size, 0, none⟩) := by rw [hA]; exact tmps_free (by kernel_rfl)
        obtain ⟨v, h7⟩ := Option.isSome_iff_exists.1 (hdeps ⟨7, .data⟩ (by simp) rfl)
        have q6 := hcl 7 _ rfl (by rw [h7]; rfl) ⟨6, .data⟩ (by simp) rfl
        have e7 : AA.tmps[29]?.getD undef = v := by rw [hA]; exact tmps_own (by kernel_rfl) h7 (of_decide_eq_true (by kernel_rfl))
        have hs := hJ.app v h7 hmi
        rw [HS.out] at hs
        obtain ⟨A2, cc2, rfl, _, _, _⟩ := own_form hs.1
        have hK0 := hK undef (X.setCell ⟨w.heap.size, 0, none⟩ (.slice A2 (kk + 1) cc2)) (hJ.eight (by decide) (by decide) q6 h7 hmi v8)
        have hne : some w.heap.size ≠ (Value.slice A0 kk c0).ownBlock := fun e => by have := (HVA.out.lt _ e.symm).1; omega
        have cx := (hs.2.cell ((HWD.out WA (.inr rfl)).1) hne)
        have fx : X.frozen? ⟨w.heap.size, 0, none⟩ = false := by
          have h1 := ((H1.out.drew.alloc (.cells #[.int .i64 nv, .string ⟨(p.drop 2).toArray⟩] 30)))
          rw [← HWA.out] at h1
          exact (h1.grown hs.2 hne).frozen 0
        clear hs q6 hne
        clear hA hK hJ hcl hdeps hmi v0 v1 v2 v3 v4 v5 v6 v7 v8 c1 f1
        gi_wp2_with fail
        exact hK0
      · cases ho
    · intro m X hJ hall
      obtain ⟨v2, hv7⟩ := Option.isSome_iff_exists.1 (hall 7 (by decide))
      obtain ⟨u8, hu8⟩ := Option.isSome_iff_exists.1 (hall 8 (by decide))
      obtain ⟨Y, hs, hX⟩ := hJ.fin v2 u8 hv7 hu8
      rw [HS.out] at hs
      obtain ⟨hown2, hgrow2⟩ := hs
      obtain ⟨A2, cc2, rfl, _, _, _⟩ := own_form hown2
      subst hX
      have hne : some w.heap.size ≠ (Value.slice A0 kk c0).ownBlock := fun e => by have := (HVA.out.lt _ e.symm).1; omega
      have hrow3 : ∀ r, (Value.slice A0 kk c0).ownBlock = some r → w.heap.size + 3 ≤ r := fun r e => (HVA.out.lt r e).1
      have hcl : ∀ (jj : Nat) (o : Obj), (Value.slice A0 kk c0).ownBlock = some jj → WA.heap[jj]? = some o → o.isCells = true := by
        intro jj o e ho
        rcases HVA.out.2 with ⟨h, _⟩ | ⟨g, cap, cur, h, _, hh, _⟩
        · rw [h] at e; cases e
        · rw [h] at e
          have e2 : g = jj := by simpa [Value.ownBlock] using e
          subst e2
          rw [hh] at ho
          cases ho
          rfl
      have hWAh : ∀ k, k < W.heap.size → WA.heap[k]? = W.heap[k]? := fun k hk => by rw [HWA.out]; exact Below.heap_alloc W.drew _ k hk
      have hkeep : ∀ k, k < w.heap.size + 3 → k ≠ w.heap.size → (Y.setCell ⟨w.heap.size, 0, none⟩ (.slice A2 (kk + 1) cc2)).heap[k]? = W.heap[k]? := by
        intro k hk hk2
        rw [Below.heap_setCell _ _ _ _ (fun e => hk2 e), hgrow2.block k (by omega) (fun e => by have := hrow3 k e.symm; omega), hWAh k (by omega)]
      have hbW : Below w.heap.size w WA := by rw [HWA.out]; exact H4.out.drew.alloc (by have := H4.out.size; show _ ≤ W.heap.size; omega) _
      have hblkW : Blk WA w.heap.size 22 #[.slice A0 kk c0] := by rw [HWA.out]; exact H1.out.drew.alloc _
      have hbcs : bcells (rdL b ((pre ++ [x]).map (·.1))) = bcells (rdL b (pre.map (·.1))) ++ [.int .i64 nv, .string ⟨(p.drop 2).toArray⟩] := by
        rw [List.map_append, List.map_singleton, HXX.out, HNV.out]
        unfold rdL
        rw [List.map_append, List.map_singleton, bcells_append, ← HP.out]
        rfl
      have hk0 : KeepsOthers W WA := by rw [HWA.out]; exact (KeepsOthers.drew W).trans (KeepsOthers.alloc _ _)
      gi_wp2
      refine ⟨?_, ⟨hkeep (w.heap.size + 1) (by omega) (by omega), hkeep (w.heap.size + 1 + 1) (by omega) (by omega)⟩, ?_⟩
      · exact ((hk0.trans (KeepsOthers.of_grownBy hgrow2 hcl)).trans (KeepsOthers.setCell _ _ _)).from _
      · show RdI w b ((pre ++ [x]).map (·.1)) _
        refine ⟨⟨.slice A2 (kk + 1) cc2, ?_, ?_⟩, ?_, ?_⟩
        · exact (hblkW.grown hgrow2 hne).set_ 0 _
        · rw [hbcs, List.map_append, List.map_singleton, List.length_append, List.length_singleton, ← HKK.out]
          exact own_setCell_below hown2 (p := ⟨w.heap.size, 0, none⟩) (by show w.heap.size < w.heap.size + 3; omega) (.slice A2 (kk + 1) cc2)
        · exact (hbW.grown hgrow2 (by omega) (fun r e => by have := hrow3 r e; omega)).setCell (Nat.le_refl _) _
        · have := hgrow2.size
          simp
          omega
  · rintro D xs W hD hS hI hK
    obtain ⟨⟨v, h1, h2⟩, h4, h5⟩ := hI
    obtain ⟨c1, f1⟩ := blk1 h1
    rw [hS] at h2
    rw [List.length_range] at h2
    have hL : rdL b (List.range M) = readL b := by unfold readL; congr 2; have := HN.out; have := HM.out; omega
    rw [hL] at h2
    obtain ⟨A0, c0, rfl, _, _, _⟩ := own_form h2
    have hDlt : D < W.heap.size := (Array.getElem?_eq_some_iff.1 hK).1
    have hlM : M = (readL b).length := by rw [← hL]; simp [rdL]
    have hck := checkBk_any (readL b) M hlM A0 c0 W W.heap.size (Reads.of_own h2) (Nat.le_refl _) (by have := HM.out; omega)
    have HFIN := Lib.hid (fun W1 (hb1 : Below W.heap.size W W1) => (⟨h4.trans ((hb1.mono h4.size).trans (belowK_b (w := w) (Nat.le_refl _) W1 D _ _ (by simp at hD; omega) ((hb1.block D hDlt).trans hK) rfl rfl)), own_mono (ownsRow_putObj (own_below h2 hb1) (.deferred none) ((hb1.block D hDlt).trans hK) rfl) (by omega)⟩ : Below w.heap.size w (W1.putObj D (.deferred none)) ∧ (W1.putObj D (.deferred none)).ownsRow w.heap.size 30 2 (.slice A0 M c0) M (bcells (readL b))))
    have HDF := Lib.hid (fun W1 (hb1 : Below W.heap.size W W1) => (hb1.block D hDlt).trans hK)
    have hlt1 : w.heap.size < W.heap.size := by omega
    have HD := Lib.hid hD
    clear h1 h2 h4 hW1 hb0 hBs hBn hL hlM hK hD hmod hmod2 hDlt
    cases hok : okL (readL b) with
    | true =>
      have he : okE (readL b) = 0 := by unfold okE; rw [hok]; rfl
      rw [he] at hck
      have HE := Lib.hid he
      have HOK := Lib.hid hok
      clear he hok
      gi_wp2_with (refine ⟨trivial, ?_⟩; gi_at_call 25; refine (callsIn_wide.2 hck).mono ?_; rintro e W1 ⟨rfl, hb1⟩; have c2 := (hb1.cell (p := ⟨w.heap.size, 0, none⟩) hlt1).trans c1; clear hck c1)
      refine ⟨by simp, .inl ⟨_, _, rfl, run_takeDeferred (HDF.out W1 hb1), ?_⟩⟩
      obtain ⟨g1, g2⟩ := HFIN.out W1 hb1
      refine ⟨_, results_tmp2 rfl _ _ _, ⟨.slice A0 M c0, by rw [HE.out]; rfl, ?_⟩, g1⟩
      rw [if_pos HOK.out]
      exact g2
    | false =>
      have he : okE (readL b) = 9 := by unfold okE; rw [hok]; rfl
      rw [he] at hck
      have HE := Lib.hid he
      have HOK := Lib.hid hok
      clear he hok
      gi_wp2_with (refine ⟨trivial, ?_⟩; gi_at_call 25; refine (callsIn_wide.2 hck).mono ?_; rintro e W1 ⟨rfl, hb1⟩; have c2 := (hb1.cell (p := ⟨w.heap.size, 0, none⟩) hlt1).trans c1; clear hck c1)
      refine ⟨by simp, .inl ⟨_, _, rfl, run_takeDeferred (HDF.out W1 hb1), ?_⟩⟩
      obtain ⟨g1, g2⟩ := HFIN.out W1 hb1
      refine ⟨_, results_tmp2 rfl _ _ _, ⟨.slice none 0 0, by rw [HE.out]; rfl, ?_⟩, g1⟩
      rw [if_neg (by rw [HOK.out]; decide)]
  · rintro D c pre W _ _ h _
    exact h.elim

/-- blocks.Read, at octets of whole blocks -/
theorem bkRead_any (b : List UInt8) (n : Nat) (hnb : n = b.length) (A : Option Addr) (c : Nat) (w : World) (B : Nat) (hr : Reads w B 1 A n (bts b)) (hB : B ≤ w.heap.size) (hc : n ≤ c) (hcm : c ≤ 9223372036854775807) (hn : n ≤ 5000000000000) (M : Nat) (hM : n = 18 * M) :
    Calls Try.prog 18 #[.slice A n c] w (ReadPost w b M) :=
  (callsIn_wide (n := 9)).1 (bkRead_in b n hnb A c w B hr hB hc hcm hn M hM)
set_option maxRecDepth 100000 in
/-- .. and at others -/
theorem bkRead_short (n : Nat) (A : Option Addr) (c : Nat) (w : World) (h : n % 18 ≠ 0) :
    Calls Try.prog 18 #[.slice A n c] w fun e w' => e = .returned (.tuple #[.slice none 0 0, .int .i64 8]) ∧ w = w' := by
  have h1 : ¬ ((n : Int) % 18 = 0) := by omega
  go_enter Try.func18, Try.ntmps18
  go_wp2_with fail
  go_ret2
  exact ⟨rfl, rfl⟩
end Go.Proofs.Ytfknlijbphoceaa
