/-
  token.Print, Fits, and the page's Token, by their contracts.
-/
import Derived.Test.YtjdebhemoeojiaaDoorTkStgp
import Derived.Test.YtjdebhemoeojiaaDoorTkPar
import Derived.Test.YtjdebhemoeojiaaDoorTkLaw
import Derived.Test.YtjdebhemoeojiaaDoorGood
import Derived.Test.YtjdebhemoeojiaaDoorWide
namespace Go.Proofs.YtjdebhemoeojiaaDoor
open Go.RowKit

def BldS (into : BS) (a g : Nat) (v : Value) (W : World) : Prop := ∃ b, v = .slice (some ⟨b, 0, none⟩) 3 3 ∧ Blk W b 9 #[.string ⟨into.toArray⟩, .string ⟨(decL a).toArray⟩, .string ⟨(decL g).toArray⟩]
theorem BldS.new (into : BS) (a g : Nat) (W : World) : BldS into a g (.slice (some ⟨W.heap.size, 0, none⟩) 3 3) (W.alloc (.cells #[.string ⟨into.toArray⟩, .string ⟨(decL a).toArray⟩, .string ⟨(decL g).toArray⟩] 9)) := ⟨_, rfl, Blk.new _ _ _⟩
theorem BldS.stays (into : BS) (a g : Nat) : Stays (BldS into a g) := by
  rintro v W W' ⟨b, rfl, hk⟩ hb
  exact ⟨b, rfl, hk.below hb hk.lt⟩
theorem decL_small13 (n : Nat) (h : n ≤ 1099511627776) : (decL n).length ≤ 1099511627777 := by have := decL_len n; omega
theorem tok_join (into : BS) (a g : Nat) : Lib.join [into, decL a, decL g] [58] = tokL into a g := by
  simp [Lib.join, tokL, List.intercalate, List.intersperse]
theorem tjoin_any (into : BS) (a g : Nat) (b : Nat) (W : World) (hin : into.length ≤ 4000000000) (ha : a ≤ 1099511627776) (hg : g ≤ 1099511627776) (hk : Blk W b 9 #[.string ⟨into.toArray⟩, .string ⟨(decL a).toArray⟩, .string ⟨(decL g).toArray⟩]) :
    Calls Tryd.prog 48 #[.slice (some ⟨b, 0, none⟩) 3 3, .string ⟨#[58]⟩] W fun e w' => e = .returned (.string ⟨(tokL into a g).toArray⟩) ∧ Below W.heap.size W w' := by
  have h1 := decL_small13 a ha
  have h2 := decL_small13 g hg
  have hj := tok_join into a g
  have hl : (tokL into a g).length ≤ 140737488355328 := by
    unfold tokL
    simp only [List.length_append, List.length_cons]
    omega
  have h := Tryd.strings_Join b 0 3 [⟨into.toArray⟩, ⟨(decL a).toArray⟩, ⟨(decL g).toArray⟩] ⟨#[58]⟩ W
    (by
      intro j x hx
      have hc := hk.cell j
      rw [Nat.zero_add, hc]
      match j, hx with
      | 0, hx => cases hx; rfl
      | 1, hx => cases hx; rfl
      | 2, hx => cases hx; rfl)
    hk.lt (by simp) (by simp) (by
      show (Lib.join [into, decL a, decL g] [58]).length ≤ _
      rw [hj]
      exact hl)
  refine h.mono ?_
  rintro e w1 ⟨rfl, hb⟩
  refine ⟨?_, hb⟩
  show Ending.returned (.string ⟨(Lib.join [into, decL a, decL g] [58]).toArray⟩) = _
  rw [hj]
set_option maxRecDepth 100000 in
set_option maxHeartbeats 4000000 in
theorem tprint_ok (into : BS) (kind : Int) (nm : BS) (frm : Int) (o1 : Option Addr) (o2 o3 : Nat) (ol : List (BS × BS)) (ix ct : Int) (dt : BS) (sa sb sc sd : Int) (b1 : Option Addr) (b2 b3 : Nat) (bl : List BlkT) (nx ua ub uc ud : Int) (done : Bool) (na ng : Nat) (hna : na ≤ 1099511627776) (hng : ng ≤ 1099511627776) (w0 : World) (B : Nat) (hro : Reads w0 B 2 o1 o2 (pcells ol)) (hol : o2 = ol.length) (hrb : Reads w0 B 2 b1 b2 (bcells bl)) (hbl : b2 = bl.length) (hB : B ≤ w0.heap.size)
    (hin : into.length ≤ 4000000000) (ho2 : o2 ≤ 1000000000000) (hb2 : b2 ≤ 1000000000000) (hp : ∀ p ∈ ol, p.1.length ≤ 4000000000 ∧ p.2.length ≤ 4000000000) (hmx : HasMax w0)
    (hok : (!(into == []) && pathB into && beginP kind nm frm (ng : Int) ol ix ct dt ⟨sa, sb, sc, sd⟩ && okL bl && amt (na : Int) 0 && amt nx 0) = true) :
    Calls Tryd.prog 20 #[.agg #[.string ⟨into.toArray⟩, .int .i64 kind, .string ⟨nm.toArray⟩, .int .i64 frm, .int .i64 (ng : Int), .slice o1 o2 o3, .int .i64 ix, .int .i64 ct, .string ⟨dt.toArray⟩, .int .u64 sa, .int .u64 sb, .int .u64 sc, .int .u64 sd, .slice b1 b2 b3, .int .i64 (na : Int), .int .i64 nx, .int .u64 ua, .int .u64 ub, .int .u64 uc, .int .u64 ud, .bool done]] w0 fun e w' => e = .returned (.tuple #[.string ⟨(tokL into na ng).toArray⟩, .int .i64 0]) ∧ Below w0.heap.size w0 w' := by
  have hb1 := (Below.refl w0.heap.size w0).alloc (Nat.le_refl _) (.cells #[.string ⟨into.toArray⟩, .int .i64 kind, .string ⟨nm.toArray⟩, .int .i64 frm, .int .i64 (ng : Int), .slice o1 o2 o3, .int .i64 ix, .int .i64 ct, .string ⟨dt.toArray⟩, .int .u64 sa, .int .u64 sb, .int .u64 sc, .int .u64 sd, .slice b1 b2 b3, .int .i64 (na : Int), .int .i64 nx, .int .u64 ua, .int .u64 ub, .int .u64 uc, .int .u64 ud, .bool done] 60)
  have kT := Blk.new w0 60 #[.string ⟨into.toArray⟩, .int .i64 kind, .string ⟨nm.toArray⟩, .int .i64 frm, .int .i64 (ng : Int), .slice o1 o2 o3, .int .i64 ix, .int .i64 ct, .string ⟨dt.toArray⟩, .int .u64 sa, .int .u64 sb, .int .u64 sc, .int .u64 sd, .slice b1 b2 b3, .int .i64 (na : Int), .int .i64 nx, .int .u64 ua, .int .u64 ub, .int .u64 uc, .int .u64 ud, .bool done]
  obtain ⟨W1, hW1⟩ : ∃ W, W = w0.alloc (.cells #[.string ⟨into.toArray⟩, .int .i64 kind, .string ⟨nm.toArray⟩, .int .i64 frm, .int .i64 (ng : Int), .slice o1 o2 o3, .int .i64 ix, .int .i64 ct, .string ⟨dt.toArray⟩, .int .u64 sa, .int .u64 sb, .int .u64 sc, .int .u64 sd, .slice b1 b2 b3, .int .i64 (na : Int), .int .i64 nx, .int .u64 ua, .int .u64 ub, .int .u64 uc, .int .u64 ud, .bool done] 60) := ⟨_, rfl⟩
  have hsz1 : W1.heap.size = w0.heap.size + 1 := by rw [hW1]; simp
  rw [← hW1] at hb1 kT
  have hT1 := Lib.hid (fun (W' : World) (hB' : Below W1.heap.size W1 W') => kT.below hB' (by omega))
  have HLD : Hid (∀ (j : Nat) (v : Value), ([.string ⟨into.toArray⟩, .int .i64 kind, .string ⟨nm.toArray⟩, .int .i64 frm, .int .i64 (ng : Int), .slice o1 o2 o3, .int .i64 ix, .int .i64 ct, .string ⟨dt.toArray⟩, .int .u64 sa, .int .u64 sb, .int .u64 sc, .int .u64 sd, .slice b1 b2 b3, .int .i64 (na : Int), .int .i64 nx, .int .u64 ua, .int .u64 ub, .int .u64 uc, .int .u64 ud, .bool done] : List Value)[j]? = some v → (w0.alloc (.cells #[.string ⟨into.toArray⟩, .int .i64 kind, .string ⟨nm.toArray⟩, .int .i64 frm, .int .i64 (ng : Int), .slice o1 o2 o3, .int .i64 ix, .int .i64 ct, .string ⟨dt.toArray⟩, .int .u64 sa, .int .u64 sb, .int .u64 sc, .int .u64 sd, .slice b1 b2 b3, .int .i64 (na : Int), .int .i64 nx, .int .u64 ua, .int .u64 ub, .int .u64 uc, .int .u64 ud, .bool done] 60)).cell? ((⟨w0.heap.size, 0, none⟩ : Addr).add j) = some v) := by
    show ∀ j v, _ → _
    rw [← hW1]
    intro j v hj
    rw [addr_add0, kT.cell j, List.getElem?_toArray]
    exact hj
  have hck := scheck_any into kind nm frm (ng : Int) o1 o2 o3 ol ix ct dt sa sb sc sd b1 b2 b3 bl (na : Int) nx ua ub uc ud done W1 B (hro.below (hb1.mono hB)) hol (hrb.below (hb1.mono hB)) hbl (by omega) hin ho2 hb2 hp (hmx.below hb1)
  rw [hok, if_pos rfl] at hck
  have HB1 := Lib.hid hb1
  have HSZ1 := Lib.hid hsz1
  clear hsz1 kT hro hol hrb hbl hp hmx hok
  go_enter Tryd.func20, Tryd.ntmps20
  go_wp2_with (refine wpList_load_at rfl 60 (.tmp 1) rfl ⟨w0.heap.size, 0, none⟩ rfl [.string ⟨into.toArray⟩, .int .i64 kind, .string ⟨nm.toArray⟩, .int .i64 frm, .int .i64 (ng : Int), .slice o1 o2 o3, .int .i64 ix, .int .i64 ct, .string ⟨dt.toArray⟩, .int .u64 sa, .int .u64 sb, .int .u64 sc, .int .u64 sd, .slice b1 b2 b3, .int .i64 (na : Int), .int .i64 nx, .int .u64 ua, .int .u64 ub, .int .u64 uc, .int .u64 ud, .bool done] _ HLD.out Tryd.underlying60 rfl (by kernel_rfl) ?_)
  rw [← hW1]
  clear hW1
  refine hck.mono ?_
  clear hck
  rintro e w2 ⟨rfl, hb2'⟩
  have hT : Hid (∀ W, Below w2.heap.size w2 W → W.cell? ⟨w0.heap.size, 0, none⟩ = some (.string ⟨into.toArray⟩) ∧ W.cell? ⟨w0.heap.size, 1, none⟩ = some (.int .i64 kind) ∧ W.cell? ⟨w0.heap.size, 2, none⟩ = some (.string ⟨nm.toArray⟩) ∧ W.cell? ⟨w0.heap.size, 3, none⟩ = some (.int .i64 frm) ∧ W.cell? ⟨w0.heap.size, 4, none⟩ = some (.int .i64 (ng : Int)) ∧ W.cell? ⟨w0.heap.size, 5, none⟩ = some (.slice o1 o2 o3) ∧ W.cell? ⟨w0.heap.size, 6, none⟩ = some (.int .i64 ix) ∧ W.cell? ⟨w0.heap.size, 7, none⟩ = some (.int .i64 ct) ∧ W.cell? ⟨w0.heap.size, 8, none⟩ = some (.string ⟨dt.toArray⟩) ∧ W.cell? ⟨w0.heap.size, 9, none⟩ = some (.int .u64 sa) ∧ W.cell? ⟨w0.heap.size, 10, none⟩ = some (.int .u64 sb) ∧ W.cell? ⟨w0.heap.size, 11, none⟩ = some (.int .u64 sc) ∧ W.cell? ⟨w0.heap.size, 12, none⟩ = some (.int .u64 sd) ∧ W.cell? ⟨w0.heap.size, 13, none⟩ = some (.slice b1 b2 b3) ∧ W.cell? ⟨w0.heap.size, 14, none⟩ = some (.int .i64 (na : Int)) ∧ W.cell? ⟨w0.heap.size, 15, none⟩ = some (.int .i64 nx)) := by
    show ∀ W, _ → _
    intro W hb
    have k := hT1.out W (hb2'.trans (hb.mono hb2'.size))
    exact ⟨k.cell 0, k.cell 1, k.cell 2, k.cell 3, k.cell 4, k.cell 5, k.cell 6, k.cell 7, k.cell 8, k.cell 9, k.cell 10, k.cell 11, k.cell 12, k.cell 13, k.cell 14, k.cell 15⟩
  have HB2 := Lib.hid (HB1.out.trans (hb2'.mono (by have := HSZ1.out; omega)))
  have hbl2 := Below.refl w2.heap.size w2
  clear hb2' hT1
  go_wp2_with fail
  refine wp_region_good (by kernel_rfl) (by kernel_rfl) [(fun v _ => v = .pointer (some ⟨w0.heap.size, 0, none⟩)),
    (fun v _ => v = .string ⟨into.toArray⟩),
    (fun v _ => v = .pointer (some ⟨w0.heap.size, 14, none⟩)),
    (fun v _ => v = .int .i64 (na : Int)),
    (fun v _ => v = .string ⟨(decL na).toArray⟩),
    (fun v _ => v = .pointer (some ⟨w0.heap.size, 1, none⟩)),
    (fun v _ => v = .pointer (some ⟨w0.heap.size, 4, none⟩)),
    (fun v _ => v = .int .i64 (ng : Int)),
    (fun v _ => v = .string ⟨(decL ng).toArray⟩),
    (fun v W => BldS into na ng v W),
    (fun v _ => v = .string ⟨(tokL into na ng).toArray⟩),
    (fun v _ => v = .string ⟨(tokL into na ng).toArray⟩),
    (fun v _ => v = .int .i64 0)] ?_ ?_ ?_
  · repeat' (first | exact stays_nil | refine stays_cons ?_ ?_ | exact Stays.pure | exact BldS.stays _ _ _)
  · intro i o ho m W hb0 hdeps AA KK hA hK
    rcases i with _ | _ | _ | _ | _ | _ | _ | _ | _ | _ | _ | _ | _ | i
    · injection ho with ho
      subst ho
      have ef1 : AA.tmps[1]?.getD undef = .pointer (some ⟨w0.heap.size, 0, none⟩) := by rw [hA]; exact tmps_free (by kernel_rfl)
      clear hA hdeps
      have hK0 : KK (AA.put (some 10) _) _ := hK (.pointer (some ⟨w0.heap.size, 0, none⟩)) _ (Below.refl _ _) (Eq.refl _)
      clear hK
      go_simp
      exact hK0
    · injection ho with ho
      subst ho
      obtain ⟨x0, hx0, hg0⟩ := hdeps ⟨0, .data⟩ (by simp) rfl
      have hg0 : x0 = .pointer (some ⟨w0.heap.size, 0, none⟩) := hg0
      subst hg0
      have e0 : AA.tmps[10]?.getD undef = .pointer (some ⟨w0.heap.size, 0, none⟩) := by rw [hA]; exact tmps_own (by kernel_rfl) hx0 (of_decide_eq_true (by kernel_rfl))
      clear hA hdeps hx0
      obtain ⟨q0, q1, q2, q3, q4, q5, q6, q7, q8, q9, q10, q11, q12, q13, q14, q15⟩ := hT.out W hb0
      have hK0 : KK (AA.put (some 11) _) _ := hK (.string ⟨into.toArray⟩) _ (Below.refl _ _) (Eq.refl _)
      clear hK
      go_simp
      exact hK0
    · injection ho with ho
      subst ho
      have ef1 : AA.tmps[1]?.getD undef = .pointer (some ⟨w0.heap.size, 0, none⟩) := by rw [hA]; exact tmps_free (by kernel_rfl)
      clear hA hdeps
      have hK0 : KK (AA.put (some 12) _) _ := hK (.pointer (some ⟨w0.heap.size, 14, none⟩)) _ (Below.refl _ _) (Eq.refl _)
      clear hK
      go_simp
      exact hK0
    · injection ho with ho
      subst ho
      obtain ⟨x2, hx2, hg2⟩ := hdeps ⟨2, .data⟩ (by simp) rfl
      have hg2 : x2 = .pointer (some ⟨w0.heap.size, 14, none⟩) := hg2
      subst hg2
      have e2 : AA.tmps[12]?.getD undef = .pointer (some ⟨w0.heap.size, 14, none⟩) := by rw [hA]; exact tmps_own (by kernel_rfl) hx2 (of_decide_eq_true (by kernel_rfl))
      clear hA hdeps hx2
      obtain ⟨q0, q1, q2, q3, q4, q5, q6, q7, q8, q9, q10, q11, q12, q13, q14, q15⟩ := hT.out W hb0
      have hK0 : KK (AA.put (some 13) _) _ := hK (.int .i64 (na : Int)) _ (Below.refl _ _) (Eq.refl _)
      clear hK
      go_simp
      exact hK0
    · injection ho with ho
      subst ho
      obtain ⟨x3, hx3, hg3⟩ := hdeps ⟨3, .data⟩ (by simp) rfl
      have hg3 : x3 = .int .i64 (na : Int) := hg3
      subst hg3
      have e3 : AA.tmps[13]?.getD undef = .int .i64 (na : Int) := by rw [hA]; exact tmps_own (by kernel_rfl) hx3 (of_decide_eq_true (by kernel_rfl))
      clear hA hdeps hx3
      have hKK := Lib.hid hK
      clear hK
      go_simp
      refine (dec_any na hna _).mono ?_
      rintro e w5 ⟨rfl, hbn⟩
      exact hKK.out _ _ hbn (Eq.refl _)
    · injection ho with ho
      subst ho
      have ef1 : AA.tmps[1]?.getD undef = .pointer (some ⟨w0.heap.size, 0, none⟩) := by rw [hA]; exact tmps_free (by kernel_rfl)
      clear hA hdeps
      have hK0 : KK (AA.put (some 15) _) _ := hK (.pointer (some ⟨w0.heap.size, 1, none⟩)) _ (Below.refl _ _) (Eq.refl _)
      clear hK
      go_simp
      exact hK0
    · injection ho with ho
      subst ho
      obtain ⟨x5, hx5, hg5⟩ := hdeps ⟨5, .data⟩ (by simp) rfl
      have hg5 : x5 = .pointer (some ⟨w0.heap.size, 1, none⟩) := hg5
      subst hg5
      have e5 : AA.tmps[15]?.getD undef = .pointer (some ⟨w0.heap.size, 1, none⟩) := by rw [hA]; exact tmps_own (by kernel_rfl) hx5 (of_decide_eq_true (by kernel_rfl))
      clear hA hdeps hx5
      have hK0 : KK (AA.put (some 16) _) _ := hK (.pointer (some ⟨w0.heap.size, 4, none⟩)) _ (Below.refl _ _) (Eq.refl _)
      clear hK
      go_simp
      exact hK0
    · injection ho with ho
      subst ho
      obtain ⟨x6, hx6, hg6⟩ := hdeps ⟨6, .data⟩ (by simp) rfl
      have hg6 : x6 = .pointer (some ⟨w0.heap.size, 4, none⟩) := hg6
      subst hg6
      have e6 : AA.tmps[16]?.getD undef = .pointer (some ⟨w0.heap.size, 4, none⟩) := by rw [hA]; exact tmps_own (by kernel_rfl) hx6 (of_decide_eq_true (by kernel_rfl))
      clear hA hdeps hx6
      obtain ⟨q0, q1, q2, q3, q4, q5, q6, q7, q8, q9, q10, q11, q12, q13, q14, q15⟩ := hT.out W hb0
      have hK0 : KK (AA.put (some 17) _) _ := hK (.int .i64 (ng : Int)) _ (Below.refl _ _) (Eq.refl _)
      clear hK
      go_simp
      exact hK0
    · injection ho with ho
      subst ho
      obtain ⟨x7, hx7, hg7⟩ := hdeps ⟨7, .data⟩ (by simp) rfl
      have hg7 : x7 = .int .i64 (ng : Int) := hg7
      subst hg7
      have e7 : AA.tmps[17]?.getD undef = .int .i64 (ng : Int) := by rw [hA]; exact tmps_own (by kernel_rfl) hx7 (of_decide_eq_true (by kernel_rfl))
      clear hA hdeps hx7
      have hKK := Lib.hid hK
      clear hK
      go_simp
      refine (dec_any ng hng _).mono ?_
      rintro e w5 ⟨rfl, hbn⟩
      exact hKK.out _ _ hbn (Eq.refl _)
    · injection ho with ho
      subst ho
      obtain ⟨x1, hx1, hg1⟩ := hdeps ⟨1, .data⟩ (by simp) rfl
      have hg1 : x1 = .string ⟨into.toArray⟩ := hg1
      subst hg1
      have e1 : AA.tmps[11]?.getD undef = .string ⟨into.toArray⟩ := by rw [hA]; exact tmps_own (by kernel_rfl) hx1 (of_decide_eq_true (by kernel_rfl))
      obtain ⟨x4, hx4, hg4⟩ := hdeps ⟨4, .data⟩ (by simp) rfl
      have hg4 : x4 = .string ⟨(decL na).toArray⟩ := hg4
      subst hg4
      have e4 : AA.tmps[14]?.getD undef = .string ⟨(decL na).toArray⟩ := by rw [hA]; exact tmps_own (by kernel_rfl) hx4 (of_decide_eq_true (by kernel_rfl))
      obtain ⟨x8, hx8, hg8⟩ := hdeps ⟨8, .data⟩ (by simp) rfl
      have hg8 : x8 = .string ⟨(decL ng).toArray⟩ := hg8
      subst hg8
      have e8 : AA.tmps[18]?.getD undef = .string ⟨(decL ng).toArray⟩ := by rw [hA]; exact tmps_own (by kernel_rfl) hx8 (of_decide_eq_true (by kernel_rfl))
      clear hA hdeps hx1 hx4 hx8
      have hK0 : KK (AA.put (some 19) _) _ := hK _ _ ((Below.refl _ _).alloc (Nat.le_refl _) _) (BldS.new into na ng W)
      clear hK
      go_simp
      exact hK0
    · injection ho with ho
      subst ho
      obtain ⟨x9, hx9, hg9⟩ := hdeps ⟨9, .data⟩ (by simp) rfl
      have hg9 : BldS into na ng x9 W := hg9
      have hk9 := hg9
      obtain ⟨b9, rfl, hblk9⟩ := hg9
      have e9 : AA.tmps[19]?.getD undef = .slice (some ⟨b9, 0, none⟩) 3 3 := by rw [hA]; exact tmps_own (by kernel_rfl) hx9 (of_decide_eq_true (by kernel_rfl))
      clear hA hdeps hx9
      have hKK := Lib.hid hK
      clear hK
      go_simp
      refine (tjoin_any into na ng b9 W hin hna hng hblk9).mono ?_
      rintro e w5 ⟨rfl, hbn⟩
      exact hKK.out _ _ hbn (Eq.refl _)
    · injection ho with ho
      subst ho
      obtain ⟨x10, hx10, hg10⟩ := hdeps ⟨10, .data⟩ (by simp) rfl
      have hg10 : x10 = .string ⟨(tokL into na ng).toArray⟩ := hg10
      subst hg10
      have e10 : AA.tmps[20]?.getD undef = .string ⟨(tokL into na ng).toArray⟩ := by rw [hA]; exact tmps_own (by kernel_rfl) hx10 (of_decide_eq_true (by kernel_rfl))
      clear hA hdeps hx10
      have hK0 : KK (AA.put (some 2) _) _ := hK (.string ⟨(tokL into na ng).toArray⟩) _ (Below.refl _ _) (Eq.refl _)
      clear hK
      go_simp
      exact hK0
    · injection ho with ho
      subst ho
      clear hA hdeps
      have hK0 : KK (AA.put (some 3) _) _ := hK (.int .i64 0) _ (Below.refl _ _) (Eq.refl _)
      clear hK
      go_simp
      exact hK0
    · simp at ho
  · intro m W hbx hall
    obtain ⟨x0, m0, g0⟩ := hall 0 (by simp)
    replace g0 : x0 = .pointer (some ⟨w0.heap.size, 0, none⟩) := g0
    subst g0
    obtain ⟨x1, m1, g1⟩ := hall 1 (by simp)
    replace g1 : x1 = .string ⟨into.toArray⟩ := g1
    subst g1
    obtain ⟨x2, m2, g2⟩ := hall 2 (by simp)
    replace g2 : x2 = .pointer (some ⟨w0.heap.size, 14, none⟩) := g2
    subst g2
    obtain ⟨x3, m3, g3⟩ := hall 3 (by simp)
    replace g3 : x3 = .int .i64 (na : Int) := g3
    subst g3
    obtain ⟨x4, m4, g4⟩ := hall 4 (by simp)
    replace g4 : x4 = .string ⟨(decL na).toArray⟩ := g4
    subst g4
    obtain ⟨x5, m5, g5⟩ := hall 5 (by simp)
    replace g5 : x5 = .pointer (some ⟨w0.heap.size, 1, none⟩) := g5
    subst g5
    obtain ⟨x6, m6, g6⟩ := hall 6 (by simp)
    replace g6 : x6 = .pointer (some ⟨w0.heap.size, 4, none⟩) := g6
    subst g6
    obtain ⟨x7, m7, g7⟩ := hall 7 (by simp)
    replace g7 : x7 = .int .i64 (ng : Int) := g7
    subst g7
    obtain ⟨x8, m8, g8⟩ := hall 8 (by simp)
    replace g8 : x8 = .string ⟨(decL ng).toArray⟩ := g8
    subst g8
    obtain ⟨x9, m9, g9⟩ := hall 9 (by simp)
    replace g9 : BldS into na ng x9 W := g9
    obtain ⟨x10, m10, g10⟩ := hall 10 (by simp)
    replace g10 : x10 = .string ⟨(tokL into na ng).toArray⟩ := g10
    subst g10
    obtain ⟨x11, m11, g11⟩ := hall 11 (by simp)
    replace g11 : x11 = .string ⟨(tokL into na ng).toArray⟩ := g11
    subst g11
    obtain ⟨x12, m12, g12⟩ := hall 12 (by simp)
    replace g12 : x12 = .int .i64 0 := g12
    subst g12
    rw [frameM_all (by kernel_rfl) [.pointer (some ⟨w0.heap.size, 0, none⟩), .string ⟨into.toArray⟩, .pointer (some ⟨w0.heap.size, 14, none⟩), .int .i64 (na : Int), .string ⟨(decL na).toArray⟩, .pointer (some ⟨w0.heap.size, 1, none⟩), .pointer (some ⟨w0.heap.size, 4, none⟩), .int .i64 (ng : Int), .string ⟨(decL ng).toArray⟩, x9, .string ⟨(tokL into na ng).toArray⟩, .string ⟨(tokL into na ng).toArray⟩, .int .i64 0] rfl (fun i hi => by
        rcases i with _ | _ | _ | _ | _ | _ | _ | _ | _ | _ | _ | _ | _ | i
        · exact m0
        · exact m1
        · exact m2
        · exact m3
        · exact m4
        · exact m5
        · exact m6
        · exact m7
        · exact m8
        · exact m9
        · exact m10
        · exact m11
        · exact m12
        · simp at hi; omega)]
    clear hall m0 m1 m2 m3 m4 m5 m6 m7 m8 m9 m10 m11 m12
    simp only [putAll, Act.put, List.setIfInBounds_toArray, List.set_cons_succ, List.set_cons_zero]
    repeat go_step
    refine bodyPost_ret (v := .tuple #[.string ⟨(tokL into na ng).toArray⟩, .int .i64 0]) (by simp [results, Tryd.results20, go_sem]) rfl ⟨rfl, HB2.out.trans (hbx.mono HB2.out.size)⟩
set_option maxRecDepth 100000 in
set_option maxHeartbeats 4000000 in
theorem tprint_bad (into : BS) (kind : Int) (nm : BS) (frm gd : Int) (o1 : Option Addr) (o2 o3 : Nat) (ol : List (BS × BS)) (ix ct : Int) (dt : BS) (sa sb sc sd : Int) (b1 : Option Addr) (b2 b3 : Nat) (bl : List BlkT) (at_ nx ua ub uc ud : Int) (done : Bool) (w0 : World) (B : Nat) (hro : Reads w0 B 2 o1 o2 (pcells ol)) (hol : o2 = ol.length) (hrb : Reads w0 B 2 b1 b2 (bcells bl)) (hbl : b2 = bl.length) (hB : B ≤ w0.heap.size)
    (hin : into.length ≤ 4000000000) (ho2 : o2 ≤ 1000000000000) (hb2 : b2 ≤ 1000000000000) (hp : ∀ p ∈ ol, p.1.length ≤ 4000000000 ∧ p.2.length ≤ 4000000000) (hmx : HasMax w0)
    (hno : (!(into == []) && pathB into && beginP kind nm frm gd ol ix ct dt ⟨sa, sb, sc, sd⟩ && okL bl && amt at_ 0 && amt nx 0) = false) :
    Calls Tryd.prog 20 #[.agg #[.string ⟨into.toArray⟩, .int .i64 kind, .string ⟨nm.toArray⟩, .int .i64 frm, .int .i64 gd, .slice o1 o2 o3, .int .i64 ix, .int .i64 ct, .string ⟨dt.toArray⟩, .int .u64 sa, .int .u64 sb, .int .u64 sc, .int .u64 sd, .slice b1 b2 b3, .int .i64 at_, .int .i64 nx, .int .u64 ua, .int .u64 ub, .int .u64 uc, .int .u64 ud, .bool done]] w0 fun e w' => e = .returned (.tuple #[.string ⟨#[]⟩, .int .i64 9]) ∧ Below w0.heap.size w0 w' := by
  have hb1 := (Below.refl w0.heap.size w0).alloc (Nat.le_refl _) (.cells #[.string ⟨into.toArray⟩, .int .i64 kind, .string ⟨nm.toArray⟩, .int .i64 frm, .int .i64 gd, .slice o1 o2 o3, .int .i64 ix, .int .i64 ct, .string ⟨dt.toArray⟩, .int .u64 sa, .int .u64 sb, .int .u64 sc, .int .u64 sd, .slice b1 b2 b3, .int .i64 at_, .int .i64 nx, .int .u64 ua, .int .u64 ub, .int .u64 uc, .int .u64 ud, .bool done] 60)
  have kT := Blk.new w0 60 #[.string ⟨into.toArray⟩, .int .i64 kind, .string ⟨nm.toArray⟩, .int .i64 frm, .int .i64 gd, .slice o1 o2 o3, .int .i64 ix, .int .i64 ct, .string ⟨dt.toArray⟩, .int .u64 sa, .int .u64 sb, .int .u64 sc, .int .u64 sd, .slice b1 b2 b3, .int .i64 at_, .int .i64 nx, .int .u64 ua, .int .u64 ub, .int .u64 uc, .int .u64 ud, .bool done]
  obtain ⟨W1, hW1⟩ : ∃ W, W = w0.alloc (.cells #[.string ⟨into.toArray⟩, .int .i64 kind, .string ⟨nm.toArray⟩, .int .i64 frm, .int .i64 gd, .slice o1 o2 o3, .int .i64 ix, .int .i64 ct, .string ⟨dt.toArray⟩, .int .u64 sa, .int .u64 sb, .int .u64 sc, .int .u64 sd, .slice b1 b2 b3, .int .i64 at_, .int .i64 nx, .int .u64 ua, .int .u64 ub, .int .u64 uc, .int .u64 ud, .bool done] 60) := ⟨_, rfl⟩
  have hsz1 : W1.heap.size = w0.heap.size + 1 := by rw [hW1]; simp
  rw [← hW1] at hb1 kT
  have hT1 := Lib.hid (fun (W' : World) (hB' : Below W1.heap.size W1 W') => kT.below hB' (by omega))
  have HLD : Hid (∀ (j : Nat) (v : Value), ([.string ⟨into.toArray⟩, .int .i64 kind, .string ⟨nm.toArray⟩, .int .i64 frm, .int .i64 gd, .slice o1 o2 o3, .int .i64 ix, .int .i64 ct, .string ⟨dt.toArray⟩, .int .u64 sa, .int .u64 sb, .int .u64 sc, .int .u64 sd, .slice b1 b2 b3, .int .i64 at_, .int .i64 nx, .int .u64 ua, .int .u64 ub, .int .u64 uc, .int .u64 ud, .bool done] : List Value)[j]? = some v → (w0.alloc (.cells #[.string ⟨into.toArray⟩, .int .i64 kind, .string ⟨nm.toArray⟩, .int .i64 frm, .int .i64 gd, .slice o1 o2 o3, .int .i64 ix, .int .i64 ct, .string ⟨dt.toArray⟩, .int .u64 sa, .int .u64 sb, .int .u64 sc, .int .u64 sd, .slice b1 b2 b3, .int .i64 at_, .int .i64 nx, .int .u64 ua, .int .u64 ub, .int .u64 uc, .int .u64 ud, .bool done] 60)).cell? ((⟨w0.heap.size, 0, none⟩ : Addr).add j) = some v) := by
    show ∀ j v, _ → _
    rw [← hW1]
    intro j v hj
    rw [addr_add0, kT.cell j, List.getElem?_toArray]
    exact hj
  have hck := scheck_any into kind nm frm gd o1 o2 o3 ol ix ct dt sa sb sc sd b1 b2 b3 bl at_ nx ua ub uc ud done W1 B (hro.below (hb1.mono hB)) hol (hrb.below (hb1.mono hB)) hbl (by omega) hin ho2 hb2 hp (hmx.below hb1)
  rw [hno, if_neg (by decide)] at hck
  have HB1 := Lib.hid hb1
  have HSZ1 := Lib.hid hsz1
  clear hsz1 kT hro hol hrb hbl hp hmx hno
  go_enter Tryd.func20, Tryd.ntmps20
  go_wp2_with (refine wpList_load_at rfl 60 (.tmp 1) rfl ⟨w0.heap.size, 0, none⟩ rfl [.string ⟨into.toArray⟩, .int .i64 kind, .string ⟨nm.toArray⟩, .int .i64 frm, .int .i64 gd, .slice o1 o2 o3, .int .i64 ix, .int .i64 ct, .string ⟨dt.toArray⟩, .int .u64 sa, .int .u64 sb, .int .u64 sc, .int .u64 sd, .slice b1 b2 b3, .int .i64 at_, .int .i64 nx, .int .u64 ua, .int .u64 ub, .int .u64 uc, .int .u64 ud, .bool done] _ HLD.out Tryd.underlying60 rfl (by kernel_rfl) ?_)
  rw [← hW1]
  clear hW1
  refine hck.mono ?_
  clear hck
  rintro e w2 ⟨rfl, hb2'⟩
  have HB2 := Lib.hid (HB1.out.trans (hb2'.mono (by have := HSZ1.out; omega)))
  go_wp2_with fail
  refine bodyPost_ret (v := .tuple #[.string ⟨#[]⟩, .int .i64 9]) (by simp [results, Tryd.results20, go_sem]) rfl ⟨rfl, HB2.out⟩
set_option maxRecDepth 100000 in
set_option maxHeartbeats 4000000 in
theorem rtoken_any (into : BS) (kind : Int) (nm : BS) (frm : Int) (o1 : Option Addr) (o2 o3 : Nat) (_ol : List (BS × BS)) (ix ct : Int) (dt : BS) (sa sb sc sd : Int) (b1 : Option Addr) (b2 b3 : Nat) (_bl : List BlkT) (nx ua ub uc ud : Int) (done : Bool) (na ng : Nat) (hna : na ≤ 1099511627776) (hng : ng ≤ 1099511627776) (w00 : World) (hin : into.length ≤ 4000000000) :
    Calls Tryd.prog 24 #[.agg #[.string ⟨into.toArray⟩, .int .i64 kind, .string ⟨nm.toArray⟩, .int .i64 frm, .int .i64 (ng : Int), .slice o1 o2 o3, .int .i64 ix, .int .i64 ct, .string ⟨dt.toArray⟩, .int .u64 sa, .int .u64 sb, .int .u64 sc, .int .u64 sd, .slice b1 b2 b3, .int .i64 (na : Int), .int .i64 nx, .int .u64 ua, .int .u64 ub, .int .u64 uc, .int .u64 ud, .bool done]] w00 fun e w' => e = .returned (.string ⟨(tokL into na ng).toArray⟩) ∧ Below w00.heap.size w00 w' := by
  obtain ⟨w0, hw0⟩ : ∃ w, w = w00 := ⟨_, rfl⟩
  rw [← hw0]
  clear hw0 w00
  have hb1 := (Below.refl w0.heap.size w0).alloc (Nat.le_refl _) (.cells #[.string ⟨into.toArray⟩, .int .i64 kind, .string ⟨nm.toArray⟩, .int .i64 frm, .int .i64 (ng : Int), .slice o1 o2 o3, .int .i64 ix, .int .i64 ct, .string ⟨dt.toArray⟩, .int .u64 sa, .int .u64 sb, .int .u64 sc, .int .u64 sd, .slice b1 b2 b3, .int .i64 (na : Int), .int .i64 nx, .int .u64 ua, .int .u64 ub, .int .u64 uc, .int .u64 ud, .bool done] 60)
  have kT := Blk.new w0 60 #[.string ⟨into.toArray⟩, .int .i64 kind, .string ⟨nm.toArray⟩, .int .i64 frm, .int .i64 (ng : Int), .slice o1 o2 o3, .int .i64 ix, .int .i64 ct, .string ⟨dt.toArray⟩, .int .u64 sa, .int .u64 sb, .int .u64 sc, .int .u64 sd, .slice b1 b2 b3, .int .i64 (na : Int), .int .i64 nx, .int .u64 ua, .int .u64 ub, .int .u64 uc, .int .u64 ud, .bool done]
  obtain ⟨w2, hW1⟩ : ∃ W, W = w0.alloc (.cells #[.string ⟨into.toArray⟩, .int .i64 kind, .string ⟨nm.toArray⟩, .int .i64 frm, .int .i64 (ng : Int), .slice o1 o2 o3, .int .i64 ix, .int .i64 ct, .string ⟨dt.toArray⟩, .int .u64 sa, .int .u64 sb, .int .u64 sc, .int .u64 sd, .slice b1 b2 b3, .int .i64 (na : Int), .int .i64 nx, .int .u64 ua, .int .u64 ub, .int .u64 uc, .int .u64 ud, .bool done] 60) := ⟨_, rfl⟩
  have hsz1 : w2.heap.size = w0.heap.size + 1 := by rw [hW1]; simp
  rw [← hW1] at hb1 kT
  have hT : Hid (∀ W, Below w2.heap.size w2 W → W.cell? ⟨w0.heap.size, 0, none⟩ = some (.string ⟨into.toArray⟩) ∧ W.cell? ⟨w0.heap.size, 1, none⟩ = some (.int .i64 kind) ∧ W.cell? ⟨w0.heap.size, 2, none⟩ = some (.string ⟨nm.toArray⟩) ∧ W.cell? ⟨w0.heap.size, 3, none⟩ = some (.int .i64 frm) ∧ W.cell? ⟨w0.heap.size, 4, none⟩ = some (.int .i64 (ng : Int)) ∧ W.cell? ⟨w0.heap.size, 5, none⟩ = some (.slice o1 o2 o3) ∧ W.cell? ⟨w0.heap.size, 6, none⟩ = some (.int .i64 ix) ∧ W.cell? ⟨w0.heap.size, 7, none⟩ = some (.int .i64 ct) ∧ W.cell? ⟨w0.heap.size, 8, none⟩ = some (.string ⟨dt.toArray⟩) ∧ W.cell? ⟨w0.heap.size, 9, none⟩ = some (.int .u64 sa) ∧ W.cell? ⟨w0.heap.size, 10, none⟩ = some (.int .u64 sb) ∧ W.cell? ⟨w0.heap.size, 11, none⟩ = some (.int .u64 sc) ∧ W.cell? ⟨w0.heap.size, 12, none⟩ = some (.int .u64 sd) ∧ W.cell? ⟨w0.heap.size, 13, none⟩ = some (.slice b1 b2 b3) ∧ W.cell? ⟨w0.heap.size, 14, none⟩ = some (.int .i64 (na : Int)) ∧ W.cell? ⟨w0.heap.size, 15, none⟩ = some (.int .i64 nx)) := by
    show ∀ W, _ → _
    intro W hb
    have k := kT.below hb (by omega)
    exact ⟨k.cell 0, k.cell 1, k.cell 2, k.cell 3, k.cell 4, k.cell 5, k.cell 6, k.cell 7, k.cell 8, k.cell 9, k.cell 10, k.cell 11, k.cell 12, k.cell 13, k.cell 14, k.cell 15⟩
  have HB2 := Lib.hid hb1
  have hlna := decL_small13 na hna
  have hlng := decL_small13 ng hng
  clear kT hb1 hsz1
  go_enter Tryd.func24, Tryd.ntmps24
  go_wp2_with fail
  rw [← hW1]
  clear hW1
  refine wp_region_good (by kernel_rfl) (by kernel_rfl) [(fun v _ => v = .pointer (some ⟨w0.heap.size, 0, none⟩)),
    (fun v _ => v = .string ⟨into.toArray⟩),
    (fun v _ => v = .string (ByteArray.mk into.toArray ++ ByteArray.mk #[58])),
    (fun v _ => v = .pointer (some ⟨w0.heap.size, 14, none⟩)),
    (fun v _ => v = .int .i64 (na : Int)),
    (fun v _ => v = .string ⟨(decL na).toArray⟩),
    (fun v _ => v = .string ((ByteArray.mk into.toArray ++ ByteArray.mk #[58]) ++ ByteArray.mk (decL na).toArray)),
    (fun v _ => v = .string (((ByteArray.mk into.toArray ++ ByteArray.mk #[58]) ++ ByteArray.mk (decL na).toArray) ++ ByteArray.mk #[58])),
    (fun v _ => v = .pointer (some ⟨w0.heap.size, 1, none⟩)),
    (fun v _ => v = .pointer (some ⟨w0.heap.size, 4, none⟩)),
    (fun v _ => v = .int .i64 (ng : Int)),
    (fun v _ => v = .string ⟨(decL ng).toArray⟩),
    (fun v _ => v = .string ((((ByteArray.mk into.toArray ++ ByteArray.mk #[58]) ++ ByteArray.mk (decL na).toArray) ++ ByteArray.mk #[58]) ++ ByteArray.mk (decL ng).toArray)),
    (fun v _ => v = .string ((((ByteArray.mk into.toArray ++ ByteArray.mk #[58]) ++ ByteArray.mk (decL na).toArray) ++ ByteArray.mk #[58]) ++ ByteArray.mk (decL ng).toArray))] ?_ ?_ ?_
  · repeat' (first | exact stays_nil | refine stays_cons ?_ ?_ | exact Stays.pure)
  · intro i o ho m W hb0 hdeps AA KK hA hK
    rcases i with _ | _ | _ | _ | _ | _ | _ | _ | _ | _ | _ | _ | _ | _ | i
    · injection ho with ho
      subst ho
      have ef1 : AA.tmps[1]?.getD undef = .pointer (some ⟨w0.heap.size, 0, none⟩) := by rw [hA]; exact tmps_free (by kernel_rfl)
      clear hA hdeps
      have hK0 : KK (AA.put (some 3) _) _ := hK (.pointer (some ⟨w0.heap.size, 0, none⟩)) _ (Below.refl _ _) (Eq.refl _)
      clear hK
      go_simp
      exact hK0
    · injection ho with ho
      subst ho
      obtain ⟨x0, hx0, hg0⟩ := hdeps ⟨0, .data⟩ (by simp) rfl
      have hg0 : x0 = .pointer (some ⟨w0.heap.size, 0, none⟩) := hg0
      subst hg0
      have e0 : AA.tmps[3]?.getD undef = .pointer (some ⟨w0.heap.size, 0, none⟩) := by rw [hA]; exact tmps_own (by kernel_rfl) hx0 (of_decide_eq_true (by kernel_rfl))
      clear hA hdeps hx0
      obtain ⟨q0, q1, q2, q3, q4, q5, q6, q7, q8, q9, q10, q11, q12, q13, q14, q15⟩ := hT.out W hb0
      have hK0 : KK (AA.put (some 4) _) _ := hK (.string ⟨into.toArray⟩) _ (Below.refl _ _) (Eq.refl _)
      clear hK
      go_simp
      exact hK0
    · injection ho with ho
      subst ho
      obtain ⟨x1, hx1, hg1⟩ := hdeps ⟨1, .data⟩ (by simp) rfl
      have hg1 : x1 = .string ⟨into.toArray⟩ := hg1
      subst hg1
      have e1 : AA.tmps[4]?.getD undef = .string ⟨into.toArray⟩ := by rw [hA]; exact tmps_own (by kernel_rfl) hx1 (of_decide_eq_true (by kernel_rfl))
      clear hA hdeps hx1
      have hK0 : KK (AA.put (some 5) _) _ := hK (.string (ByteArray.mk into.toArray ++ ByteArray.mk #[58])) _ (Below.refl _ _) (Eq.refl _)
      clear hK
      go_simp
      rw [if_neg (by omega)]
      go_simp
      exact hK0
    · injection ho with ho
      subst ho
      have ef1 : AA.tmps[1]?.getD undef = .pointer (some ⟨w0.heap.size, 0, none⟩) := by rw [hA]; exact tmps_free (by kernel_rfl)
      clear hA hdeps
      have hK0 : KK (AA.put (some 6) _) _ := hK (.pointer (some ⟨w0.heap.size, 14, none⟩)) _ (Below.refl _ _) (Eq.refl _)
      clear hK
      go_simp
      exact hK0
    · injection ho with ho
      subst ho
      obtain ⟨x3, hx3, hg3⟩ := hdeps ⟨3, .data⟩ (by simp) rfl
      have hg3 : x3 = .pointer (some ⟨w0.heap.size, 14, none⟩) := hg3
      subst hg3
      have e3 : AA.tmps[6]?.getD undef = .pointer (some ⟨w0.heap.size, 14, none⟩) := by rw [hA]; exact tmps_own (by kernel_rfl) hx3 (of_decide_eq_true (by kernel_rfl))
      clear hA hdeps hx3
      obtain ⟨q0, q1, q2, q3, q4, q5, q6, q7, q8, q9, q10, q11, q12, q13, q14, q15⟩ := hT.out W hb0
      have hK0 : KK (AA.put (some 7) _) _ := hK (.int .i64 (na : Int)) _ (Below.refl _ _) (Eq.refl _)
      clear hK
      go_simp
      exact hK0
    · injection ho with ho
      subst ho
      obtain ⟨x4, hx4, hg4⟩ := hdeps ⟨4, .data⟩ (by simp) rfl
      have hg4 : x4 = .int .i64 (na : Int) := hg4
      subst hg4
      have e4 : AA.tmps[7]?.getD undef = .int .i64 (na : Int) := by rw [hA]; exact tmps_own (by kernel_rfl) hx4 (of_decide_eq_true (by kernel_rfl))
      clear hA hdeps hx4
      have hKK := Lib.hid hK
      clear hK
      go_simp
      refine (decimal_any na hna _).mono ?_
      rintro e w5 ⟨rfl, hbn⟩
      exact hKK.out _ _ hbn (Eq.refl _)
    · injection ho with ho
      subst ho
      obtain ⟨x2, hx2, hg2⟩ := hdeps ⟨2, .data⟩ (by simp) rfl
      have hg2 : x2 = .string (ByteArray.mk into.toArray ++ ByteArray.mk #[58]) := hg2
      subst hg2
      have e2 : AA.tmps[5]?.getD undef = .string (ByteArray.mk into.toArray ++ ByteArray.mk #[58]) := by rw [hA]; exact tmps_own (by kernel_rfl) hx2 (of_decide_eq_true (by kernel_rfl))
      obtain ⟨x5, hx5, hg5⟩ := hdeps ⟨5, .data⟩ (by simp) rfl
      have hg5 : x5 = .string ⟨(decL na).toArray⟩ := hg5
      subst hg5
      have e5 : AA.tmps[8]?.getD undef = .string ⟨(decL na).toArray⟩ := by rw [hA]; exact tmps_own (by kernel_rfl) hx5 (of_decide_eq_true (by kernel_rfl))
      clear hA hdeps hx2 hx5
      have hK0 : KK (AA.put (some 9) _) _ := hK (.string ((ByteArray.mk into.toArray ++ ByteArray.mk #[58]) ++ ByteArray.mk (decL na).toArray)) _ (Below.refl _ _) (Eq.refl _)
      clear hK
      go_simp
      rw [if_neg (by omega)]
      go_simp
      exact hK0
    · injection ho with ho
      subst ho
      obtain ⟨x6, hx6, hg6⟩ := hdeps ⟨6, .data⟩ (by simp) rfl
      have hg6 : x6 = .string ((ByteArray.mk into.toArray ++ ByteArray.mk #[58]) ++ ByteArray.mk (decL na).toArray) := hg6
      subst hg6
      have e6 : AA.tmps[9]?.getD undef = .string ((ByteArray.mk into.toArray ++ ByteArray.mk #[58]) ++ ByteArray.mk (decL na).toArray) := by rw [hA]; exact tmps_own (by kernel_rfl) hx6 (of_decide_eq_true (by kernel_rfl))
      clear hA hdeps hx6
      have hK0 : KK (AA.put (some 10) _) _ := hK (.string (((ByteArray.mk into.toArray ++ ByteArray.mk #[58]) ++ ByteArray.mk (decL na).toArray) ++ ByteArray.mk #[58])) _ (Below.refl _ _) (Eq.refl _)
      clear hK
      go_simp
      rw [if_neg (by omega)]
      go_simp
      exact hK0
    · injection ho with ho
      subst ho
      have ef1 : AA.tmps[1]?.getD undef = .pointer (some ⟨w0.heap.size, 0, none⟩) := by rw [hA]; exact tmps_free (by kernel_rfl)
      clear hA hdeps
      have hK0 : KK (AA.put (some 11) _) _ := hK (.pointer (some ⟨w0.heap.size, 1, none⟩)) _ (Below.refl _ _) (Eq.refl _)
      clear hK
      go_simp
      exact hK0
    · injection ho with ho
      subst ho
      obtain ⟨x8, hx8, hg8⟩ := hdeps ⟨8, .data⟩ (by simp) rfl
      have hg8 : x8 = .pointer (some ⟨w0.heap.size, 1, none⟩) := hg8
      subst hg8
      have e8 : AA.tmps[11]?.getD undef = .pointer (some ⟨w0.heap.size, 1, none⟩) := by rw [hA]; exact tmps_own (by kernel_rfl) hx8 (of_decide_eq_true (by kernel_rfl))
      clear hA hdeps hx8
      have hK0 : KK (AA.put (some 12) _) _ := hK (.pointer (some ⟨w0.heap.size, 4, none⟩)) _ (Below.refl _ _) (Eq.refl _)
      clear hK
      go_simp
      exact hK0
    · injection ho with ho
      subst ho
      obtain ⟨x9, hx9, hg9⟩ := hdeps ⟨9, .data⟩ (by simp) rfl
      have hg9 : x9 = .pointer (some ⟨w0.heap.size, 4, none⟩) := hg9
      subst hg9
      have e9 : AA.tmps[12]?.getD undef = .pointer (some ⟨w0.heap.size, 4, none⟩) := by rw [hA]; exact tmps_own (by kernel_rfl) hx9 (of_decide_eq_true (by kernel_rfl))
      clear hA hdeps hx9
      obtain ⟨q0, q1, q2, q3, q4, q5, q6, q7, q8, q9, q10, q11, q12, q13, q14, q15⟩ := hT.out W hb0
      have hK0 : KK (AA.put (some 13) _) _ := hK (.int .i64 (ng : Int)) _ (Below.refl _ _) (Eq.refl _)
      clear hK
      go_simp
      exact hK0
    · injection ho with ho
      subst ho
      obtain ⟨x10, hx10, hg10⟩ := hdeps ⟨10, .data⟩ (by simp) rfl
      have hg10 : x10 = .int .i64 (ng : Int) := hg10
      subst hg10
      have e10 : AA.tmps[13]?.getD undef = .int .i64 (ng : Int) := by rw [hA]; exact tmps_own (by kernel_rfl) hx10 (of_decide_eq_true (by kernel_rfl))
      clear hA hdeps hx10
      have hKK := Lib.hid hK
      clear hK
      go_simp
      refine (decimal_any ng hng _).mono ?_
      rintro e w5 ⟨rfl, hbn⟩
      exact hKK.out _ _ hbn (Eq.refl _)
    · injection ho with ho
      subst ho
      obtain ⟨x7, hx7, hg7⟩ := hdeps ⟨7, .data⟩ (by simp) rfl
      have hg7 : x7 = .string (((ByteArray.mk into.toArray ++ ByteArray.mk #[58]) ++ ByteArray.mk (decL na).toArray) ++ ByteArray.mk #[58]) := hg7
      subst hg7
      have e7 : AA.tmps[10]?.getD undef = .string (((ByteArray.mk into.toArray ++ ByteArray.mk #[58]) ++ ByteArray.mk (decL na).toArray) ++ ByteArray.mk #[58]) := by rw [hA]; exact tmps_own (by kernel_rfl) hx7 (of_decide_eq_true (by kernel_rfl))
      obtain ⟨x11, hx11, hg11⟩ := hdeps ⟨11, .data⟩ (by simp) rfl
      have hg11 : x11 = .string ⟨(decL ng).toArray⟩ := hg11
      subst hg11
      have e11 : AA.tmps[14]?.getD undef = .string ⟨(decL ng).toArray⟩ := by rw [hA]; exact tmps_own (by kernel_rfl) hx11 (of_decide_eq_true (by kernel_rfl))
      clear hA hdeps hx7 hx11
      have hK0 : KK (AA.put (some 15) _) _ := hK (.string ((((ByteArray.mk into.toArray ++ ByteArray.mk #[58]) ++ ByteArray.mk (decL na).toArray) ++ ByteArray.mk #[58]) ++ ByteArray.mk (decL ng).toArray)) _ (Below.refl _ _) (Eq.refl _)
      clear hK
      go_simp
      rw [if_neg (by omega)]
      go_simp
      exact hK0
    · injection ho with ho
      subst ho
      obtain ⟨x12, hx12, hg12⟩ := hdeps ⟨12, .data⟩ (by simp) rfl
      have hg12 : x12 = .string ((((ByteArray.mk into.toArray ++ ByteArray.mk #[58]) ++ ByteArray.mk (decL na).toArray) ++ ByteArray.mk #[58]) ++ ByteArray.mk (decL ng).toArray) := hg12
      subst hg12
      have e12 : AA.tmps[15]?.getD undef = .string ((((ByteArray.mk into.toArray ++ ByteArray.mk #[58]) ++ ByteArray.mk (decL na).toArray) ++ ByteArray.mk #[58]) ++ ByteArray.mk (decL ng).toArray) := by rw [hA]; exact tmps_own (by kernel_rfl) hx12 (of_decide_eq_true (by kernel_rfl))
      clear hA hdeps hx12
      have hK0 : KK (AA.put (some 2) _) _ := hK (.string ((((ByteArray.mk into.toArray ++ ByteArray.mk #[58]) ++ ByteArray.mk (decL na).toArray) ++ ByteArray.mk #[58]) ++ ByteArray.mk (decL ng).toArray)) _ (Below.refl _ _) (Eq.refl _)
      clear hK
      go_simp
      exact hK0
    · simp at ho
  · intro m W hbx hall
    obtain ⟨x0, m0, g0⟩ := hall 0 (by simp)
    replace g0 : x0 = .pointer (some ⟨w0.heap.size, 0, none⟩) := g0
    subst g0
    obtain ⟨x1, m1, g1⟩ := hall 1 (by simp)
    replace g1 : x1 = .string ⟨into.toArray⟩ := g1
    subst g1
    obtain ⟨x2, m2, g2⟩ := hall 2 (by simp)
    replace g2 : x2 = .string (ByteArray.mk into.toArray ++ ByteArray.mk #[58]) := g2
    subst g2
    obtain ⟨x3, m3, g3⟩ := hall 3 (by simp)
    replace g3 : x3 = .pointer (some ⟨w0.heap.size, 14, none⟩) := g3
    subst g3
    obtain ⟨x4, m4, g4⟩ := hall 4 (by simp)
    replace g4 : x4 = .int .i64 (na : Int) := g4
    subst g4
    obtain ⟨x5, m5, g5⟩ := hall 5 (by simp)
    replace g5 : x5 = .string ⟨(decL na).toArray⟩ := g5
    subst g5
    obtain ⟨x6, m6, g6⟩ := hall 6 (by simp)
    replace g6 : x6 = .string ((ByteArray.mk into.toArray ++ ByteArray.mk #[58]) ++ ByteArray.mk (decL na).toArray) := g6
    subst g6
    obtain ⟨x7, m7, g7⟩ := hall 7 (by simp)
    replace g7 : x7 = .string (((ByteArray.mk into.toArray ++ ByteArray.mk #[58]) ++ ByteArray.mk (decL na).toArray) ++ ByteArray.mk #[58]) := g7
    subst g7
    obtain ⟨x8, m8, g8⟩ := hall 8 (by simp)
    replace g8 : x8 = .pointer (some ⟨w0.heap.size, 1, none⟩) := g8
    subst g8
    obtain ⟨x9, m9, g9⟩ := hall 9 (by simp)
    replace g9 : x9 = .pointer (some ⟨w0.heap.size, 4, none⟩) := g9
    subst g9
    obtain ⟨x10, m10, g10⟩ := hall 10 (by simp)
    replace g10 : x10 = .int .i64 (ng : Int) := g10
    subst g10
    obtain ⟨x11, m11, g11⟩ := hall 11 (by simp)
    replace g11 : x11 = .string ⟨(decL ng).toArray⟩ := g11
    subst g11
    obtain ⟨x12, m12, g12⟩ := hall 12 (by simp)
    replace g12 : x12 = .string ((((ByteArray.mk into.toArray ++ ByteArray.mk #[58]) ++ ByteArray.mk (decL na).toArray) ++ ByteArray.mk #[58]) ++ ByteArray.mk (decL ng).toArray) := g12
    subst g12
    obtain ⟨x13, m13, g13⟩ := hall 13 (by simp)
    replace g13 : x13 = .string ((((ByteArray.mk into.toArray ++ ByteArray.mk #[58]) ++ ByteArray.mk (decL na).toArray) ++ ByteArray.mk #[58]) ++ ByteArray.mk (decL ng).toArray) := g13
    subst g13
    rw [frameM_all (by kernel_rfl) [.pointer (some ⟨w0.heap.size, 0, none⟩), .string ⟨into.toArray⟩, .string (ByteArray.mk into.toArray ++ ByteArray.mk #[58]), .pointer (some ⟨w0.heap.size, 14, none⟩), .int .i64 (na : Int), .string ⟨(decL na).toArray⟩, .string ((ByteArray.mk into.toArray ++ ByteArray.mk #[58]) ++ ByteArray.mk (decL na).toArray), .string (((ByteArray.mk into.toArray ++ ByteArray.mk #[58]) ++ ByteArray.mk (decL na).toArray) ++ ByteArray.mk #[58]), .pointer (some ⟨w0.heap.size, 1, none⟩), .pointer (some ⟨w0.heap.size, 4, none⟩), .int .i64 (ng : Int), .string ⟨(decL ng).toArray⟩, .string ((((ByteArray.mk into.toArray ++ ByteArray.mk #[58]) ++ ByteArray.mk (decL na).toArray) ++ ByteArray.mk #[58]) ++ ByteArray.mk (decL ng).toArray), .string ((((ByteArray.mk into.toArray ++ ByteArray.mk #[58]) ++ ByteArray.mk (decL na).toArray) ++ ByteArray.mk #[58]) ++ ByteArray.mk (decL ng).toArray)] rfl (fun i hi => by
        rcases i with _ | _ | _ | _ | _ | _ | _ | _ | _ | _ | _ | _ | _ | _ | i
        · exact m0
        · exact m1
        · exact m2
        · exact m3
        · exact m4
        · exact m5
        · exact m6
        · exact m7
        · exact m8
        · exact m9
        · exact m10
        · exact m11
        · exact m12
        · exact m13
        · simp at hi; omega)]
    clear hall m0 m1 m2 m3 m4 m5 m6 m7 m8 m9 m10 m11 m12 m13
    simp only [putAll, Act.put, List.setIfInBounds_toArray, List.set_cons_succ, List.set_cons_zero]
    repeat go_step
    go_ret
    refine ⟨congrArg Ending.returned (congrArg Value.string (eq_mk _ _ ?_)), HB2.out.trans (hbx.mono HB2.out.size)⟩
    simp [tokL]
end Go.Proofs.YtjdebhemoeojiaaDoor
