/-
  The reference's put, Over: by their contracts.
-/
import Derived.Test.YthfjfkjlgdnohaaRefPr
import Derived.Test.YthfjfkjlgdnohaaPrOver
namespace Go.Proofs.Ythfjfkjlgdnohaa
open Go.RowKit

def leN (a b : BS) : Bool := Op.bytesLess a b || a == b
def rput (p : BS × BS) : Bool → PL → PL
  | d, [] => if d = true then [] else [p]
  | d, x :: l => (if (!d && leN p.1 x.1) = true then [p] else []) ++ (if x.1 = p.1 then [] else [x]) ++ rput p (d || leN p.1 x.1) l
theorem rput_cons (p : BS × BS) (d : Bool) (x : BS × BS) (l : PL) : rput p d (x :: l) = (if (!d && leN p.1 x.1) = true then [p] else []) ++ (if x.1 = p.1 then [] else [x]) ++ rput p (d || leN p.1 x.1) l := rfl
theorem rput_true (p : BS × BS) (l : PL) (h : ∀ x ∈ l, x.1 ≠ p.1) : rput p true l = l := by
  induction l with
  | nil => rfl
  | cons x l ih =>
    rw [rput_cons, if_neg (by simp), if_neg (h x (List.mem_cons_self ..)), Bool.true_or, ih (fun y hy => h y (List.mem_cons_of_mem _ hy))]
    rfl
theorem rput_put (p : BS × BS) (l : PL) (h : SortP l) : rput p false l = putP p l := by
  induction l with
  | nil => rfl
  | cons x l ih =>
    obtain ⟨h1, h2⟩ := List.pairwise_cons.1 h
    rw [rput_cons]
    unfold putP
    by_cases hp : Op.bytesLess p.1 x.1 = true
    · have hl : leN p.1 x.1 = true := by unfold leN; rw [hp]; rfl
      rw [if_pos hp, hl, if_pos (by rfl), if_neg (fun e => bl_ne hp e.symm), Bool.false_or, rput_true p l (fun y hy e => bl_ne (bl_trans hp (h1 y hy)) e.symm)]
      rfl
    rw [if_neg hp]
    by_cases hq : p.1 = x.1
    · have hl : leN p.1 x.1 = true := by unfold leN; rw [hq]; simp
      rw [if_pos hq, hl, if_pos (by rfl), if_pos hq.symm, Bool.false_or, rput_true p l (fun y hy e => bl_ne (h1 y hy) (by rw [e, hq]))]
      rfl
    · have hl : leN p.1 x.1 = false := by
        unfold leN
        rw [Bool.or_eq_false_iff]
        exact ⟨by simpa using hp, by simpa using hq⟩
      rw [if_neg hq, hl, if_neg (by decide), if_neg (fun e => hq e.symm), Bool.false_or, ih h2]
      rfl
structure PutS (h : Nat) (W0 W : World) (T : TypeId) (ad : Addr) (k : Nat) (xn xv pn pv : BS) (m : Nat) (A1 : Option Addr) (c1 : Nat) (O : PL) : Prop where
  c0 : W.cell? (ad.add (k * 2)) = some (.string ⟨xn.toArray⟩)
  e1 : W.cell? ⟨(ad.add (k * 2)).block, (ad.add (k * 2)).off + 1, none⟩ = some (.string ⟨xv.toArray⟩)
  p0 : W.cell? ⟨h, 0, none⟩ = some (.string ⟨pn.toArray⟩)
  p1 : W.cell? ⟨h, 1, none⟩ = some (.string ⟨pv.toArray⟩)
  hbw : Below (h + 1) W0 W
  hown : W.ownsRow (h + 1) T 2 (.slice A1 m c1) m (pcells O)
theorem PutS.drew {h : Nat} {W0 W : World} {T : TypeId} {ad : Addr} {k : Nat} {xn xv pn pv : BS} {m : Nat} {A1 : Option Addr} {c1 : Nat} {O : PL} (s : PutS h W0 W T ad k xn xv pn pv m A1 c1 O) : PutS h W0 W.drew T ad k xn xv pn pv m A1 c1 O :=
  ⟨s.c0, s.e1, s.p0, s.p1, s.hbw.drew, s.hown⟩
theorem PutS.push {h : Nat} {W0 W W' : World} {T : TypeId} {ad : Addr} {k : Nat} {xn xv pn pv : BS} {m m' : Nat} {A1 A2 : Option Addr} {c1 c2 : Nat} {O O' : PL} (s : PutS h W0 W T ad k xn xv pn pv m A1 c1 O) (hb : Below (h + 1) W W') (had : ad.block < h + 1) (ho : W'.ownsRow (h + 1) T 2 (.slice A2 m' c2) m' (pcells O')) : PutS h W0 W' T ad k xn xv pn pv m' A2 c2 O' :=
  ⟨(hb.cell (by rw [block_of_add]; exact had)).trans s.c0, (hb.cell (p := ⟨(ad.add (k * 2)).block, (ad.add (k * 2)).off + 1, none⟩) (by show (ad.add (k * 2)).block < _; rw [block_of_add]; exact had)).trans s.e1, (hb.cell (p := ⟨h, 0, none⟩) (by show h < h + 1; omega)).trans s.p0, (hb.cell (p := ⟨h, 1, none⟩) (by show h < h + 1; omega)).trans s.p1, s.hbw.trans hb, ho⟩
set_option maxRecDepth 100000 in
set_option maxHeartbeats 4000000 in
theorem rput_any (pn pv : BS) (l : PL) (n : Nat) (hnl : n = l.length) (A : Option Addr) (c : Nat) (w : World) (B : Nat) (hr : Reads w B 2 A n (pcells l)) (hB : B ≤ w.heap.size) (hn : n ≤ 1000000) :
    Calls Try.prog 68 #[.slice A n c, .agg #[.string ⟨pn.toArray⟩, .string ⟨pv.toArray⟩]] w fun e w' => ∃ v, e = .returned v ∧ w'.ownsRow w.heap.size 99 2 v (rput (pn, pv) false l).length (pcells (rput (pn, pv) false l)) ∧ Below w.heap.size w w' := by
  obtain ⟨i0, hi0, hz0, hz1, hz2⟩ := info_parts Try.infoP
  have HN := Lib.hid hnl
  obtain ⟨W0, hW0⟩ : ∃ W0, W0 = w.alloc (.cells #[.string ⟨pn.toArray⟩, .string ⟨pv.toArray⟩] 99) := ⟨_, rfl⟩
  have b0 : W0.cell? ⟨w.heap.size, 0, none⟩ = some (.string ⟨pn.toArray⟩) := by rw [hW0]; exact (Blk.new w _ _).cell 0
  have b1 : W0.cell? ⟨w.heap.size, 1, none⟩ = some (.string ⟨pv.toArray⟩) := by rw [hW0]; exact (Blk.new w _ _).cell 1
  have hsz0 : W0.heap.size = w.heap.size + 1 := by rw [hW0]; simp
  have hb00 : Below w.heap.size w W0 := by rw [hW0]; exact (Below.refl _ w).alloc (Nat.le_refl _) _
  have hr0 := hr.below (hb00.mono hB)
  have hB1 : B ≤ w.heap.size + 1 := by omega
  have hlt0 : w.heap.size < w.heap.size + 1 := by omega
  have HS0 := Lib.hid hsz0
  obtain ⟨RES, hRES⟩ : ∃ R, R = rput (pn, pv) false l := ⟨_, rfl⟩
  rw [← hRES]
  have HRES := Lib.hid hRES
  have HB00 := Lib.hid hb00
  clear hnl hr hb00 hsz0 hRES
  go_enter Try.func68, Try.ntmps68
  go_wp2_with fail
  rw [← hW0]
  clear hW0
  go_loopw [5, 6, 7] (fun o dn i wr => ∃ (k m : Nat) (A1 : Option Addr) (c1 : Nat) (O : PL) (d : Bool), k ≤ n ∧ m ≤ 2 * k ∧ m = O.length ∧ i = .int .i64 (k : Int) ∧ dn = .bool d ∧ o = .slice A1 m c1 ∧ Hid (rput (pn, pv) false l = O ++ rput (pn, pv) d (l.drop k)) ∧
      wr.ownsRow (w.heap.size + 1) 99 2 (.slice A1 m c1) m (pcells O) ∧ Below (w.heap.size + 1) W0 wr) (fun _ _ i _ => n - (intOf i).toNat)
  case atStart => exact ⟨0, 0, none, 0, [], false, Nat.zero_le _, Nat.zero_le _, rfl, rfl, rfl, rfl, rfl, ⟨rfl, .inl ⟨rfl, rfl⟩⟩, Below.refl _ _⟩
  case round =>
    obtain ⟨k, m, A1, c1, O, d, hk, hm, hmO, rfl, rfl, rfl, hinv, hown, hbw⟩ := hrel
    have HM := Lib.hid hmO
    clear hmO
    have hszw := Nat.le_trans (Nat.le_of_eq HS0.out.symm) hbw.size
    by_cases hlt : k < n
    · have hrr := hr0.below (hbw.mono hB1)
      obtain ⟨ad, rfl, hadB, c0, e1⟩ := hrr.prop HN.out hlt
      have hki : (k : Int) < (n : Int) := by omega
      have hkl : k < l.length := by have := HN.out; omega
      obtain ⟨x, hx⟩ : ∃ x, x = l[k]'hkl := ⟨_, rfl⟩
      rw [← hx] at c0 e1
      have hdr := List.drop_eq_getElem_cons hkl
      rw [← hx] at hdr
      have HX := Lib.hid hx
      have HDR := Lib.hid hdr
      obtain ⟨xn, xv⟩ := x
      simp only [strV] at c0 e1
      have hadW : ad.block < w.heap.size + 1 := by omega
      have hS : PutS w.heap.size W0 wr 99 ad k xn xv pn pv m A1 c1 O := ⟨c0, e1, (hbw.cell (p := ⟨w.heap.size, 0, none⟩) hlt0).trans b0, (hbw.cell (p := ⟨w.heap.size, 1, none⟩) hlt0).trans b1, hbw, hown⟩
      have hleq := leqS 9 pn xn
      clear hx hdr hrr c0 e1 hown hbw hszw
      cases d with
      | true =>
        by_cases hne : xn = pn
        · have hbe : (xn == pn) = true := by simp [hne]
          have hle : leN pn xn = true := by unfold leN; simp [hne]
          have HNE := Lib.hid hne
          clear hne
          have HINV : Hid (rput (pn, pv) false l = (O) ++ rput (pn, pv) true (l.drop (k + 1))) := by
            show _ = _
            rw [hinv.out, HDR.out, rput_cons, if_pos (show (xn, xv).1 = (pn, pv).1 from HNE.out)]
            simp
          clear hinv
          obtain ⟨c0, e1, p0, p1, hbw, hown⟩ := hS
          have hS0 : PutS _ _ _ _ _ _ _ _ _ _ _ _ _ _ := ⟨c0, e1, p0, p1, hbw, hown⟩
          have HS := Lib.hid hS0
          have hszw := Nat.le_trans (Nat.le_of_eq HS0.out.symm) hbw.size
          clear hS0
          go_wp2_with fail
          go_region
          have hS := HS.out.drew
          clear HS c0 e1 p0 p1 hbw hown hszw
          generalize World.drew _ = X1 at hS ⊢
          obtain ⟨c0, e1, p0, p1, hbw, hown⟩ := hS
          have hS0 : PutS _ _ _ _ _ _ _ _ _ _ _ _ _ _ := ⟨c0, e1, p0, p1, hbw, hown⟩
          have HS := Lib.hid hS0
          have hszw := Nat.le_trans (Nat.le_of_eq HS0.out.symm) hbw.size
          clear hS0
          go_wp2_with fail
          go_region
          have hS := HS.out.drew
          clear HS c0 e1 p0 p1 hbw hown hszw
          generalize World.drew _ = X2 at hS ⊢
          obtain ⟨c0, e1, p0, p1, hbw, hown⟩ := hS
          have hS0 : PutS _ _ _ _ _ _ _ _ _ _ _ _ _ _ := ⟨c0, e1, p0, p1, hbw, hown⟩
          have HS := Lib.hid hS0
          have hszw := Nat.le_trans (Nat.le_of_eq HS0.out.symm) hbw.size
          clear hS0
          go_wp2_with fail
          go_roundw
          case rel => exact ⟨k + 1, m + 0, A1, c1, O, true, by omega, by omega, by simp [← HM.out], by go_num, rfl, rfl, HINV, HS.out.hown, HS.out.hbw⟩
          case measure => simp [intOf]; omega
        · have hbe : (xn == pn) = false := by simp [hne]
          have HNE : Hid (¬ xn = pn) := hne
          clear hne
          obtain ⟨lb, hle⟩ : ∃ b, leN pn xn = b := ⟨_, rfl⟩
          have HINV : Hid (rput (pn, pv) false l = (O ++ [(xn, xv)]) ++ rput (pn, pv) true (l.drop (k + 1))) := by
            show _ = _
            rw [hinv.out, HDR.out, rput_cons, if_neg (show ¬ (xn, xv).1 = (pn, pv).1 from HNE.out)]
            simp
          clear hinv
          obtain ⟨c0, e1, p0, p1, hbw, hown⟩ := hS
          have hS0 : PutS _ _ _ _ _ _ _ _ _ _ _ _ _ _ := ⟨c0, e1, p0, p1, hbw, hown⟩
          have HS := Lib.hid hS0
          have hszw := Nat.le_trans (Nat.le_of_eq HS0.out.symm) hbw.size
          clear hS0
          go_wp2_with fail
          go_region
          have hS := HS.out.drew
          clear HS c0 e1 p0 p1 hbw hown hszw
          generalize World.drew _ = X1 at hS ⊢
          obtain ⟨c0, e1, p0, p1, hbw, hown⟩ := hS
          have hS0 : PutS _ _ _ _ _ _ _ _ _ _ _ _ _ _ := ⟨c0, e1, p0, p1, hbw, hown⟩
          have HS := Lib.hid hS0
          have hszw := Nat.le_trans (Nat.le_of_eq HS0.out.symm) hbw.size
          clear hS0
          go_wp2_with fail
          go_region
          have hS := HS.out.drew
          clear HS c0 e1 p0 p1 hbw hown hszw
          generalize World.drew _ = X2 at hS ⊢
          obtain ⟨c0, e1, p0, p1, hbw, hown⟩ := hS
          have hS0 : PutS _ _ _ _ _ _ _ _ _ _ _ _ _ _ := ⟨c0, e1, p0, p1, hbw, hown⟩
          have HS := Lib.hid hS0
          have hszw := Nat.le_trans (Nat.le_of_eq HS0.out.symm) hbw.size
          clear hS0
          go_wp2_with (at_builtin; (refine wpList_push _ rfl (.tmp 38) (.tmp 43) 22 rfl (w.heap.size + 1) 99 i0 (.agg #[.string ByteArray.empty, .string ByteArray.empty]) 2 32 Try.underlying22 hi0 hz0 hz1 hz2 rfl (by decide) (.slice A1 m c1) m _ rfl hown 1 #[.string ⟨xn.toArray⟩, .string ⟨xv.toArray⟩] 99 rfl rfl (by simp [Value.oneCell']) (by unfold maxLen; omega) (by omega) hszw ?_); intro v5 w5 hown5 hb5 _)
          obtain ⟨A5, c5, rfl, _, _, _⟩ := own_form hown5
          have hS := HS.out.push (O' := O ++ [(xn, xv)]) hb5 hadW (by rw [pcells_append]; exact hown5)
          clear HS c0 e1 p0 p1 hbw hown hszw hown5 hb5
          obtain ⟨c0, e1, p0, p1, hbw, hown⟩ := hS
          have hS0 : PutS _ _ _ _ _ _ _ _ _ _ _ _ _ _ := ⟨c0, e1, p0, p1, hbw, hown⟩
          have HS := Lib.hid hS0
          have hszw := Nat.le_trans (Nat.le_of_eq HS0.out.symm) hbw.size
          clear hS0
          go_wp2_with fail
          go_roundw
          case rel => exact ⟨k + 1, m + 1, A5, c5, (O ++ [(xn, xv)]), true, by omega, by omega, by simp [← HM.out], by go_num, rfl, rfl, HINV, HS.out.hown, HS.out.hbw⟩
          case measure => simp [intOf]; omega
      | false =>
        by_cases hne : xn = pn
        · have hbe : (xn == pn) = true := by simp [hne]
          have hle : leN pn xn = true := by unfold leN; simp [hne]
          have HNE := Lib.hid hne
          clear hne
          have hle2 := hle
          unfold leN at hle2
          rw [hle2] at hleq
          clear hle2
          have HINV : Hid (rput (pn, pv) false l = (O ++ [(pn, pv)]) ++ rput (pn, pv) true (l.drop (k + 1))) := by
            show _ = _
            rw [hinv.out, HDR.out, rput_cons, if_pos (show (xn, xv).1 = (pn, pv).1 from HNE.out)]
            simp [hle]
          clear hinv
          obtain ⟨c0, e1, p0, p1, hbw, hown⟩ := hS
          have hS0 : PutS _ _ _ _ _ _ _ _ _ _ _ _ _ _ := ⟨c0, e1, p0, p1, hbw, hown⟩
          have HS := Lib.hid hS0
          have hszw := Nat.le_trans (Nat.le_of_eq HS0.out.symm) hbw.size
          clear hS0
          go_wp2_with fail
          go_region
          have hS := HS.out.drew
          clear HS c0 e1 p0 p1 hbw hown hszw
          generalize World.drew _ = X1 at hS ⊢
          obtain ⟨c0, e1, p0, p1, hbw, hown⟩ := hS
          have hS0 : PutS _ _ _ _ _ _ _ _ _ _ _ _ _ _ := ⟨c0, e1, p0, p1, hbw, hown⟩
          have HS := Lib.hid hS0
          have hszw := Nat.le_trans (Nat.le_of_eq HS0.out.symm) hbw.size
          clear hS0
          go_wp2_with (at_builtin; (refine wpList_push _ rfl (.tmp 26) (.tmp 28) 22 rfl (w.heap.size + 1) 99 i0 (.agg #[.string ByteArray.empty, .string ByteArray.empty]) 2 32 Try.underlying22 hi0 hz0 hz1 hz2 rfl (by decide) (.slice A1 m c1) m _ rfl hown 1 #[.string ⟨pn.toArray⟩, .string ⟨pv.toArray⟩] 99 rfl rfl (by simp [Value.oneCell']) (by unfold maxLen; omega) (by omega) hszw ?_); intro v4 w4 hown4 hb4 _)
          obtain ⟨A4, c4, rfl, _, _, _⟩ := own_form hown4
          have hS := HS.out.push (O' := O ++ [(pn, pv)]) hb4 hadW (by rw [pcells_append]; exact hown4)
          clear HS c0 e1 p0 p1 hbw hown hszw hown4 hb4
          obtain ⟨c0, e1, p0, p1, hbw, hown⟩ := hS
          have hS0 : PutS _ _ _ _ _ _ _ _ _ _ _ _ _ _ := ⟨c0, e1, p0, p1, hbw, hown⟩
          have HS := Lib.hid hS0
          have hszw := Nat.le_trans (Nat.le_of_eq HS0.out.symm) hbw.size
          clear hS0
          go_wp2_with fail
          go_region
          have hS := HS.out.drew
          clear HS c0 e1 p0 p1 hbw hown hszw
          generalize World.drew _ = X2 at hS ⊢
          obtain ⟨c0, e1, p0, p1, hbw, hown⟩ := hS
          have hS0 : PutS _ _ _ _ _ _ _ _ _ _ _ _ _ _ := ⟨c0, e1, p0, p1, hbw, hown⟩
          have HS := Lib.hid hS0
          have hszw := Nat.le_trans (Nat.le_of_eq HS0.out.symm) hbw.size
          clear hS0
          go_wp2_with fail
          go_roundw
          case rel => exact ⟨k + 1, m + 1, A4, c4, (O ++ [(pn, pv)]), true, by omega, by omega, by simp [← HM.out], by go_num, rfl, rfl, HINV, HS.out.hown, HS.out.hbw⟩
          case measure => simp [intOf]; omega
        · have hbe : (xn == pn) = false := by simp [hne]
          have HNE : Hid (¬ xn = pn) := hne
          clear hne
          cases hle : leN pn xn with
          | true =>
            have hle2 := hle
            unfold leN at hle2
            rw [hle2] at hleq
            clear hle2
            have HINV : Hid (rput (pn, pv) false l = (O ++ [(pn, pv)] ++ [(xn, xv)]) ++ rput (pn, pv) true (l.drop (k + 1))) := by
              show _ = _
              rw [hinv.out, HDR.out, rput_cons, if_neg (show ¬ (xn, xv).1 = (pn, pv).1 from HNE.out)]
              simp [hle]
            clear hinv
            obtain ⟨c0, e1, p0, p1, hbw, hown⟩ := hS
            have hS0 : PutS _ _ _ _ _ _ _ _ _ _ _ _ _ _ := ⟨c0, e1, p0, p1, hbw, hown⟩
            have HS := Lib.hid hS0
            have hszw := Nat.le_trans (Nat.le_of_eq HS0.out.symm) hbw.size
            clear hS0
            go_wp2_with fail
            go_region
            have hS := HS.out.drew
            clear HS c0 e1 p0 p1 hbw hown hszw
            generalize World.drew _ = X1 at hS ⊢
            obtain ⟨c0, e1, p0, p1, hbw, hown⟩ := hS
            have hS0 : PutS _ _ _ _ _ _ _ _ _ _ _ _ _ _ := ⟨c0, e1, p0, p1, hbw, hown⟩
            have HS := Lib.hid hS0
            have hszw := Nat.le_trans (Nat.le_of_eq HS0.out.symm) hbw.size
            clear hS0
            go_wp2_with (at_builtin; (refine wpList_push _ rfl (.tmp 26) (.tmp 28) 22 rfl (w.heap.size + 1) 99 i0 (.agg #[.string ByteArray.empty, .string ByteArray.empty]) 2 32 Try.underlying22 hi0 hz0 hz1 hz2 rfl (by decide) (.slice A1 m c1) m _ rfl hown 1 #[.string ⟨pn.toArray⟩, .string ⟨pv.toArray⟩] 99 rfl rfl (by simp [Value.oneCell']) (by unfold maxLen; omega) (by omega) hszw ?_); intro v4 w4 hown4 hb4 _)
            obtain ⟨A4, c4, rfl, _, _, _⟩ := own_form hown4
            have hS := HS.out.push (O' := O ++ [(pn, pv)]) hb4 hadW (by rw [pcells_append]; exact hown4)
            clear HS c0 e1 p0 p1 hbw hown hszw hown4 hb4
            obtain ⟨c0, e1, p0, p1, hbw, hown⟩ := hS
            have hS0 : PutS _ _ _ _ _ _ _ _ _ _ _ _ _ _ := ⟨c0, e1, p0, p1, hbw, hown⟩
            have HS := Lib.hid hS0
            have hszw := Nat.le_trans (Nat.le_of_eq HS0.out.symm) hbw.size
            clear hS0
            go_wp2_with fail
            go_region
            have hS := HS.out.drew
            clear HS c0 e1 p0 p1 hbw hown hszw
            generalize World.drew _ = X2 at hS ⊢
            obtain ⟨c0, e1, p0, p1, hbw, hown⟩ := hS
            have hS0 : PutS _ _ _ _ _ _ _ _ _ _ _ _ _ _ := ⟨c0, e1, p0, p1, hbw, hown⟩
            have HS := Lib.hid hS0
            have hszw := Nat.le_trans (Nat.le_of_eq HS0.out.symm) hbw.size
            clear hS0
            go_wp2_with (at_builtin; (refine wpList_push _ rfl (.tmp 38) (.tmp 43) 22 rfl (w.heap.size + 1) 99 i0 (.agg #[.string ByteArray.empty, .string ByteArray.empty]) 2 32 Try.underlying22 hi0 hz0 hz1 hz2 rfl (by decide) (.slice A4 (m + 1) c4) (m + 1) _ rfl hown 1 #[.string ⟨xn.toArray⟩, .string ⟨xv.toArray⟩] 99 rfl rfl (by simp [Value.oneCell']) (by unfold maxLen; omega) (by omega) hszw ?_); intro v5 w5 hown5 hb5 _)
            obtain ⟨A5, c5, rfl, _, _, _⟩ := own_form hown5
            have hS := HS.out.push (O' := (O ++ [(pn, pv)]) ++ [(xn, xv)]) hb5 hadW (by rw [pcells_append]; exact hown5)
            clear HS c0 e1 p0 p1 hbw hown hszw hown5 hb5
            obtain ⟨c0, e1, p0, p1, hbw, hown⟩ := hS
            have hS0 : PutS _ _ _ _ _ _ _ _ _ _ _ _ _ _ := ⟨c0, e1, p0, p1, hbw, hown⟩
            have HS := Lib.hid hS0
            have hszw := Nat.le_trans (Nat.le_of_eq HS0.out.symm) hbw.size
            clear hS0
            go_wp2_with fail
            go_roundw
            case rel => exact ⟨k + 1, m + 2, A5, c5, ((O ++ [(pn, pv)]) ++ [(xn, xv)]), true, by omega, by omega, by simp [← HM.out], by go_num, rfl, rfl, HINV, HS.out.hown, HS.out.hbw⟩
            case measure => simp [intOf]; omega
          | false =>
            have hle2 := hle
            unfold leN at hle2
            rw [hle2] at hleq
            clear hle2
            have HINV : Hid (rput (pn, pv) false l = (O ++ [(xn, xv)]) ++ rput (pn, pv) false (l.drop (k + 1))) := by
              show _ = _
              rw [hinv.out, HDR.out, rput_cons, if_neg (show ¬ (xn, xv).1 = (pn, pv).1 from HNE.out)]
              simp [hle]
            clear hinv
            obtain ⟨c0, e1, p0, p1, hbw, hown⟩ := hS
            have hS0 : PutS _ _ _ _ _ _ _ _ _ _ _ _ _ _ := ⟨c0, e1, p0, p1, hbw, hown⟩
            have HS := Lib.hid hS0
            have hszw := Nat.le_trans (Nat.le_of_eq HS0.out.symm) hbw.size
            clear hS0
            go_wp2_with fail
            go_region
            have hS := HS.out.drew
            clear HS c0 e1 p0 p1 hbw hown hszw
            generalize World.drew _ = X1 at hS ⊢
            obtain ⟨c0, e1, p0, p1, hbw, hown⟩ := hS
            have hS0 : PutS _ _ _ _ _ _ _ _ _ _ _ _ _ _ := ⟨c0, e1, p0, p1, hbw, hown⟩
            have HS := Lib.hid hS0
            have hszw := Nat.le_trans (Nat.le_of_eq HS0.out.symm) hbw.size
            clear hS0
            go_wp2_with fail
            go_region
            have hS := HS.out.drew
            clear HS c0 e1 p0 p1 hbw hown hszw
            generalize World.drew _ = X2 at hS ⊢
            obtain ⟨c0, e1, p0, p1, hbw, hown⟩ := hS
            have hS0 : PutS _ _ _ _ _ _ _ _ _ _ _ _ _ _ := ⟨c0, e1, p0, p1, hbw, hown⟩
            have HS := Lib.hid hS0
            have hszw := Nat.le_trans (Nat.le_of_eq HS0.out.symm) hbw.size
            clear hS0
            go_wp2_with (at_builtin; (refine wpList_push _ rfl (.tmp 38) (.tmp 43) 22 rfl (w.heap.size + 1) 99 i0 (.agg #[.string ByteArray.empty, .string ByteArray.empty]) 2 32 Try.underlying22 hi0 hz0 hz1 hz2 rfl (by decide) (.slice A1 m c1) m _ rfl hown 1 #[.string ⟨xn.toArray⟩, .string ⟨xv.toArray⟩] 99 rfl rfl (by simp [Value.oneCell']) (by unfold maxLen; omega) (by omega) hszw ?_); intro v5 w5 hown5 hb5 _)
            obtain ⟨A5, c5, rfl, _, _, _⟩ := own_form hown5
            have hS := HS.out.push (O' := O ++ [(xn, xv)]) hb5 hadW (by rw [pcells_append]; exact hown5)
            clear HS c0 e1 p0 p1 hbw hown hszw hown5 hb5
            obtain ⟨c0, e1, p0, p1, hbw, hown⟩ := hS
            have hS0 : PutS _ _ _ _ _ _ _ _ _ _ _ _ _ _ := ⟨c0, e1, p0, p1, hbw, hown⟩
            have HS := Lib.hid hS0
            have hszw := Nat.le_trans (Nat.le_of_eq HS0.out.symm) hbw.size
            clear hS0
            go_wp2_with fail
            go_roundw
            case rel => exact ⟨k + 1, m + 1, A5, c5, (O ++ [(xn, xv)]), false, by omega, by omega, by simp [← HM.out], by go_num, rfl, rfl, HINV, HS.out.hown, HS.out.hbw⟩
            case measure => simp [intOf]; omega
    · have hkn : k = n := by omega
      have HD : Hid (rput (pn, pv) false l = O ++ rput (pn, pv) d []) := by
        show _ = _
        rw [hinv.out, List.drop_of_length_le (by have := HN.out; omega)]
      clear hinv hkn hr0
      have hB0 := HB00.out.trans (hbw.mono (by omega))
      cases d with
      | true =>
        have hR : Hid (RES = O) := by show _ = _; rw [HRES.out, HD.out]; simp [rput]
        have HO : Hid (World.ownsRow wr w.heap.size 99 2 (.slice A1 m c1) RES.length (pcells RES)) := by
          show World.ownsRow _ _ _ _ _ _ _
          rw [hR.out, ← HM.out]
          exact own_mono hown (by omega)
        clear hown hbw
        go_wp2_with fail
        go_ret
        exact ⟨_, rfl, HO.out, hB0⟩
      | false =>
        have p0 := (hbw.cell (p := ⟨w.heap.size, 0, none⟩) hlt0).trans b0
        have p1 := (hbw.cell (p := ⟨w.heap.size, 1, none⟩) hlt0).trans b1
        have hR : Hid (RES = O ++ [(pn, pv)]) := by show _ = _; rw [HRES.out, HD.out]; simp [rput]
        go_wp2_with (at_builtin; (refine wpList_push _ rfl (.tmp 47) (.tmp 49) 22 rfl (w.heap.size + 1) 99 i0 (.agg #[.string ByteArray.empty, .string ByteArray.empty]) 2 32 Try.underlying22 hi0 hz0 hz1 hz2 rfl (by decide) (.slice A1 m c1) m _ rfl hown 1 #[.string ⟨pn.toArray⟩, .string ⟨pv.toArray⟩] 99 rfl rfl (by simp [Value.oneCell']) (by unfold maxLen; omega) (by omega) hszw ?_); intro v4 w4 hown4 hb4 _)
        have hB4 := HB00.out.trans ((hbw.trans hb4).mono (by omega))
        have HO : Hid (World.ownsRow w4 w.heap.size 99 2 v4 RES.length (pcells RES)) := by
          show World.ownsRow _ _ _ _ _ _ _
          rw [hR.out, pcells_append, List.length_append, ← HM.out]
          exact own_mono hown4 (by omega)
        clear hown hown4 hbw hb4 hB0 p0 p1
        go_wp2_with fail
        go_ret
        exact ⟨_, rfl, HO.out, hB4⟩
end Go.Proofs.Ythfjfkjlgdnohaa
