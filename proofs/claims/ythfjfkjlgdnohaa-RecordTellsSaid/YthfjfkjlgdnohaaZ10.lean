/-
  The reference's put, Over: by their contracts.
-/
import Derived.Test.YthfjfkjlgdnohaaZ3
import Derived.Test.YthfjfkjlgdnohaaZ6
import Derived.Test.YthfjfkjlgdnohaaZ9
namespace Go.Proofs.Ythfjfkjlgdnohaa
open Go.RowKit

def leN (a b : BS) : Bool := Op.bytesLess a b || a == b
def rput (p : BS × BS) : Bool → PL → PL
  | d, [] => if d = true then [] else [p]
  | d, x :: l => (if (!d && leN p.1 x.1) = true then [p] else []) ++ (if x.1 = p.1 then [] else [x]) ++ rput p (d || leN p.1 x.1) l
theorem rput_cons (p : BS × BS) (d : Bool) (x : BS × BS) (l : PL) : rput p d (x :: l) = (if (!d && leN p.1 x.1) = true then [p] else []) ++ (if x.1 = p.1 then [] else [x]) ++ rput p (d || leN p.1 x.1) l := rfl
theorem rput_true (p : BS × BS) (l : PL) (h : ∀ x ∈ l, x.1 ≠ p.1) : rput p true l = l := by
  induction l with
  | nil => rfl
  | cons x l ih =>
    rw [rput_cons, if_neg (by simp), if_neg (h x (List.mem_cons_self ..)), Bool.true_or, ih (fun y hy => h y (List.mem_cons_of_mem _ hy))]
    rfl
theorem rput_put (p : BS × BS) (l : PL) (h : SortP l) : rput p false l = putP p l := by
  induction l with
  | nil => rfl
  | cons x l ih =>
    obtain ⟨h1, h2⟩ := List.pairwise_cons.1 h
    rw [rput_cons]
    unfold putP
    by_cases hp : Op.bytesLess p.1 x.1 = true
    · have hl : leN p.1 x.1 = true := by unfold leN; rw [hp]; rfl
      rw [if_pos hp, hl, if_pos (by rfl), if_neg (fun e => bl_ne hp e.symm), Bool.false_or, rput_true p l (fun y hy e => bl_ne (bl_trans hp (h1 y hy)) e.symm)]
      rfl
    rw [if_neg hp]
    by_cases hq : p.1 = x.1
    · have hl : leN p.1 x.1 = true := by unfold leN; rw [hq]; simp
      rw [if_pos hq, hl, if_pos (by rfl), if_pos hq.symm, Bool.false_or, rput_true p l (fun y hy e => bl_ne (h1 y hy) (by rw [e, hq]))]
      rfl
    · have hl : leN p.1 x.1 = false := by
        unfold leN
        rw [Bool.or_eq_false_iff]
        exact ⟨by simpa using hp, by simpa using hq⟩
      rw [if_neg hq, hl, if_neg (by decide), if_neg (fun e => hq e.symm), Bool.false_or, ih h2]
      rfl
structure PutS (h : Nat) (W0 W : World) (T : TypeId) (ad : Addr) (k : Nat) (xn xv pn pv : BS) (m : Nat) (A1 : Option Addr) (c1 : Nat) (O : PL) : Prop where
  c0 : W.cell? (ad.add (k * 2)) = some (.string ⟨xn.toArray⟩)
  e1 : W.cell? ⟨(ad.add (k * 2)).block, (ad.add (k * 2)).off + 1, none⟩ = some (.string ⟨xv.toArray⟩)
  p0 : W.cell? ⟨h, 0, none⟩ = some (.string ⟨pn.toArray⟩)
  p1 : W.cell? ⟨h, 1, none⟩ = some (.string ⟨pv.toArray⟩)
  hbw : Below (h + 1) W0 W
  hown : W.ownsRow (h + 1) T 2 (.slice A1 m c1) m (pcells O)
theorem PutS.drew {h : Nat} {W0 W : World} {T : TypeId} {ad : Addr} {k : Nat} {xn xv pn pv : BS} {m : Nat} {A1 : Option Addr} {c1 : Nat} {O : PL} (s : PutS h W0 W T ad k xn xv pn pv m A1 c1 O) : PutS h W0 W.drew T ad k xn xv pn pv m A1 c1 O :=
  ⟨s.c0, s.e1, s.p0, s.p1, s.hbw.drew, s.hown⟩
theorem PutS.push {h : Nat} {W0 W W' : World} {T : TypeId} {ad : Addr} {k : Nat} {xn xv pn pv : BS} {m m' : Nat} {A1 A2 : Option Addr} {c1 c2 : Nat} {O O' : PL} (s : PutS h W0 W T ad k xn xv pn pv m A1 c1 O) (hb : Below (h + 1) W W') (had : ad.block < h + 1) (ho : W'.ownsRow (h + 1) T 2 (.slice A2 m' c2) m' (pcells O')) : PutS h W0 W' T ad k xn xv pn pv m' A2 c2 O' :=
  ⟨(hb.cell (by rw [block_of_add]; exact had)).trans s.c0, (hb.cell (p := ⟨(ad.add (k * 2)).block, (ad.add (k * 2)).off + 1, none⟩) (by show (ad.add (k * 2)).block < _; rw [block_of_add]; exact had)).trans s.e1, (hb.cell (p := ⟨h, 0, none⟩) (by show h < h + 1; omega)).trans s.p0, (hb.cell (p := ⟨h, 1, none⟩) (by show h < h + 1; omega)).trans s.p1, s.hbw.trans hb, ho⟩
set_option maxRecDepth 100000 in
set_option maxHeartbeats 4000000 in
theorem rput_any (pn pv : BS) (l : PL) (n : Nat) (hnl : n = l.length) (A : Option Addr) (c : Nat) (w : World) (B : Nat) (hr : Reads w B 2 A n (pcells l)) (hB : B ≤ w.heap.size) (hn : n ≤ 1000000) :
    Calls Try.prog 68 #[.slice A n c, .agg #[.string ⟨pn.toArray⟩, .string ⟨pv.toArray⟩]] w fun e w' => ∃ v, e = .returned v ∧ w'.ownsRow w.heap.size 99 2 v (rput (pn, pv) false l).length (pcells (rput (pn, pv) false l)) ∧ Below w.heap.size w w' := by
  obtain ⟨i0, hi0, hz0, hz1, hz2⟩ := info_parts Try.infoP
  have HN := Lib.hid hnl
  obtain ⟨W0, hW0⟩ : ∃ W0, W0 = w.alloc (.cells #[.string ⟨pn.toArray⟩, .string ⟨pv.toArray⟩] 99) := ⟨_, rfl⟩
  have b0 : W0.cell? ⟨w.heap.size, 0, none⟩ = some (.string ⟨pn.toArray⟩) := by rw [hW0]; exact (Blk.new w _ _).cell 0
  have b1 : W0.cell? ⟨w.heap.size, 1, none⟩ = some (.string ⟨pv.toArray⟩) := by rw [hW0]; exact (Blk.new w _ _).cell 1
  have hsz0 : W0.heap.size = w.heap.size + 1 := by rw [hW0]; simp
  have hb00 : Below w.heap.size w W0 := by rw [hW0]; exact (Below.refl _ w).alloc (Nat.le_refl _) _
  have hr0 := hr.below (hb00.mono hB)
  have hB1 : B ≤ w.heap.size + 1 := by omega
  have hlt0 : w.heap.size < w.heap.size + 1 := by omega
  have HS0 := Lib.hid hsz0
  obtain ⟨RES, hRES⟩ : ∃ R, R = rput (pn, pv) false l := ⟨_, rfl⟩
  rw [← hRES]
  have HRES := Lib.hid hRES
  have HB00 := Lib.hid hb00
  clear hnl hr hb00 hsz0 hRES
  go_enter Try.func68, Try.ntmps68
  go_wp2_with fail
  rw [← hW0]
  clear hW0
  go_loopw [5, 6, 7] (fun o dn i wr => ∃ (k m : Nat) (A1 : Option Addr) (c1 : Nat) (O : PL) (d : Bool), k ≤ n ∧ m ≤ 2 * k ∧ m = O.length ∧ i = .int .i64 (k : Int) ∧ dn = .bool d ∧ o = .slice A1 m c1 ∧ Hid (rput (pn, pv) false l = O ++ rput (pn, pv) d (l.drop k)) ∧
      wr.ownsRow (w.heap.size + 1) 99 2 (.slice A1 m c1) m (pcells O) ∧ Below (w.heap.size + 1) W0 wr) (fun _ _ i _ => n - (intOf i).toNat)
  case atStart => exact ⟨0, 0, none, 0, [], false, Nat.zero_le _, Nat.zero_le _, rfl, rfl, rfl, rfl, rfl, ⟨rfl, .inl ⟨rfl, rfl⟩⟩, Below.refl _ _⟩
  case round =>
    obtain ⟨k, m, A1, c1, O, d, hk, hm, hmO, rfl, rfl, rfl, hinv, hown, hbw⟩ := hrel
    have HM := Lib.hid hmO
    clear hmO
    have hszw := Nat.le_trans (Nat.le_of_eq HS0.out.symm) hbw.size
    by_cases hlt : k < n
    · have hrr := hr0.below (hbw.mono hB1)
      obtain ⟨ad, rfl, hadB, c0, e1⟩ := hrr.prop HN.out hlt
      have hki : (k : Int) < (n : Int) := by omega
      have hkl : k < l.length := by have := HN.out; omega
      obtain ⟨x, hx⟩ : ∃ x, x = l[k]'hkl := ⟨_, rfl⟩
      rw [← hx] at c0 e1
      have hdr := List.drop_eq_getElem_cons hkl
      rw [← hx] at hdr
      have HX := Lib.hid hx
      have HDR := Lib.hid hdr
      obtain ⟨xn, xv⟩ := x
      simp only [strV] at c0 e1
      have hadW : ad.block < w.heap.size + 1 := by omega
      have hS : PutS w.heap.size W0 wr 99 ad k xn xv pn pv m A1 c1 O := ⟨c0, e1, (hbw.cell (p := ⟨w.heap.size, 0, none⟩) hlt0).trans b0, (hbw.cell (p := ⟨w.heap.size, 1, none⟩) hlt0).trans b1, hbw, hown⟩
      have hleq := leqS 9 pn xn
      clear hx hdr hrr c0 e1 hown hbw hszw
      cases d with
      | true =>
        by_cases hne : xn = pn
        · have hbe : (xn == pn) = true := by simp [hne]
          have hle : leN pn xn = true := by unfold leN; simp [hne]
          have HNE := Lib.hid hne
          clear hne
          have HINV : Hid (rput (pn, pv) false l = (O) ++ rput (pn, pv) true (l.drop (k + 1))) := by
            show _ = _
            rw [hinv.out, HDR.out, rput_cons, if_pos (show (xn, xv).1 = (pn, pv).1 from HNE.out)]
            simp
          clear hinv
          obtain ⟨c0, e1, p0, p1, hbw, hown⟩ := hS
          have hS0 : PutS _ _ _ _ _ _ _ _ _ _ _ _ _ _ := ⟨c0, e1, p0, p1, hbw, hown⟩
          have HS := Lib.hid hS0
          have hszw := Nat.le_trans (Nat.le_of_eq HS0.out.symm) hbw.size
          clear hS0
          go_wp2_with fail
          go_region
          have hS := HS.out.drew
          clear HS c0 e1 p0 p1 hbw hown hszw
          generalize World.drew _ = X1 at hS ⊢
          obtain ⟨c0, e1, p0, p1, hbw, hown⟩ := hS
          have hS0 : PutS _ _ _ _ _ _ _ _ _ _ _ _ _ _ := ⟨c0, e1, p0, p1, hbw, hown⟩
          have HS := Lib.hid hS0
          have hszw := Nat.le_trans (Nat.le_of_eq HS0.out.symm) hbw.size
          clear hS0
          go_wp2_with fail
          go_region
          have hS := HS.out.drew
          clear HS c0 e1 p0 p1 hbw hown hszw
          generalize World.drew _ = X2 at hS ⊢
          obtain ⟨c0, e1, p0, p1, hbw, hown⟩ := hS
          have hS0 : PutS _ _ _ _ _ _ _ _ _ _ _ _ _ _ := ⟨c0, e1, p0, p1, hbw, hown⟩
          have HS := Lib.hid hS0
          have hszw := Nat.le_trans (Nat.le_of_eq HS0.out.symm) hbw.size
          clear hS0
          go_wp2_with fail
          go_roundw
          case rel => exact ⟨k + 1, m + 0, A1, c1, O, true, by omega, by omega, by simp [← HM.out], by go_num, rfl, rfl, HINV, HS.out.hown, HS.out.hbw⟩
          case measure => simp [intOf]; omega
        · have hbe : (xn == pn) = false := by simp [hne]
          have HNE : Hid (¬ xn = pn) := hne
          clear hne
          obtain ⟨lb, hle⟩ : ∃ b, leN pn xn = b := ⟨_, rfl⟩
          have HINV : Hid (rput (pn, pv) false l = (O ++ [(xn, xv)]) ++ rput (pn, pv) true (l.drop (k + 1))) := by
            show _ = _
            rw [hinv.out, HDR.out, rput_cons, if_neg (show ¬ (xn, xv).1 = (pn, pv).1 from HNE.out)]
            simp
          clear hinv
          obtain ⟨c0, e1, p0, p1, hbw, hown⟩ := hS
          have hS0 : PutS _ _ _ _ _ _ _ _ _ _ _ _ _ _ := ⟨c0, e1, p0, p1, hbw, hown⟩
          have HS := Lib.hid hS0
          have hszw := Nat.le_trans (Nat.le_of_eq HS0.out.symm) hbw.size
          clear hS0
          go_wp2_with fail
          go_region
          have hS := HS.out.drew
          clear HS c0 e1 p0 p1 hbw hown hszw
          generalize World.drew _ = X1 at hS ⊢
          obtain ⟨c0, e1, p0, p1, hbw, hown⟩ := hS
          have hS0 : PutS _ _ _ _ _ _ _ _ _ _ _ _ _ _ := ⟨c0, e1, p0, p1, hbw, hown⟩
          have HS := Lib.hid hS0
          have hszw := Nat.le_trans (Nat.le_of_eq HS0.out.symm) hbw.size
          clear hS0
          go_wp2_with fail
          go_region
          have hS := HS.out.drew
          clear HS c0 e1 p0 p1 hbw hown hszw
          generalize World.drew _ = X2 at hS ⊢
          obtain ⟨c0, e1, p0, p1, hbw, hown⟩ := hS
          have hS0 : PutS _ _ _ _ _ _ _ _ _ _ _ _ _ _ := ⟨c0, e1, p0, p1, hbw, hown⟩
          have HS := Lib.hid hS0
          have hszw := Nat.le_trans (Nat.le_of_eq HS0.out.symm) hbw.size
          clear hS0
          go_wp2_with (at_builtin; (refine wpList_push _ rfl (.tmp 38) (.tmp 43) 22 rfl (w.heap.size + 1) 99 i0 (.agg #[.string ByteArray.empty, .string ByteArray.empty]) 2 32 Try.underlying22 hi0 hz0 hz1 hz2 rfl (by decide) (.slice A1 m c1) m _ rfl hown 1 #[.string ⟨xn.toArray⟩, .string ⟨xv.toArray⟩] 99 rfl rfl (by simp [Value.oneCell']) (by unfold maxLen; omega) (by omega) hszw ?_); intro v5 w5 hown5 hb5 _)
          obtain ⟨A5, c5, rfl, _, _, _⟩ := own_form hown5
          have hS := HS.out.push (O' := O ++ [(xn, xv)]) hb5 hadW (by rw [pcells_append]; exact hown5)
          clear HS c0 e1 p0 p1 hbw hown hszw hown5 hb5
          obtain ⟨c0, e1, p0, p1, hbw, hown⟩ := hS
          have hS0 : PutS _ _ _ _ _ _ _ _ _ _ _ _ _ _ := ⟨c0, e1, p0, p1, hbw, hown⟩
          have HS := Lib.hid hS0
          have hszw := Nat.le_trans (Nat.le_of_eq HS0.out.symm) hbw.size
          clear hS0
          go_wp2_with fail
          go_roundw
          case rel => exact ⟨k + 1, m + 1, A5, c5, (O ++ [(xn, xv)]), true, by omega, by omega, by simp [← HM.out], by go_num, rfl, rfl, HINV, HS.out.hown, HS.out.hbw⟩
          case measure => simp [intOf]; omega
      | false =>
        by_cases hne : xn = pn
        · have hbe : (xn == pn) = true := by simp [hne]
          have hle : leN pn xn = true := by unfold leN; simp [hne]
          have HNE := Lib.hid hne
          clear hne
          have hle2 := hle
          unfold leN at hle2
          rw [hle2] at hleq
          clear hle2
          have HINV : Hid (rput (pn, pv) false l = (O ++ [(pn, pv)]) ++ rput (pn, pv) true (l.drop (k + 1))) := by
            show _ = _
            rw [hinv.out, HDR.out, rput_cons, if_pos (show (xn, xv).1 = (pn, pv).1 from HNE.out)]
            simp [hle]
          clear hinv
          obtain ⟨c0, e1, p0, p1, hbw, hown⟩ := hS
          have hS0 : PutS _ _ _ _ _ _ _ _ _ _ _ _ _ _ := ⟨c0, e1, p0, p1, hbw, hown⟩
          have HS := Lib.hid hS0
          have hszw := Nat.le_trans (Nat.le_of_eq HS0.out.symm) hbw.size
          clear hS0
          go_wp2_with fail
          go_region
          have hS := HS.out.drew
          clear HS c0 e1 p0 p1 hbw hown hszw
          generalize World.drew _ = X1 at hS ⊢
          obtain ⟨c0, e1, p0, p1, hbw, hown⟩ := hS
          have hS0 : PutS _ _ _ _ _ _ _ _ _ _ _ _ _ _ := ⟨c0, e1, p0, p1, hbw, hown⟩
          have HS := Lib.hid hS0
          have hszw := Nat.le_trans (Nat.le_of_eq HS0.out.symm) hbw.size
          clear hS0
          go_wp2_with (at_builtin; (refine wpList_push _ rfl (.tmp 26) (.tmp 28) 22 rfl (w.heap.size + 1) 99 i0 (.agg #[.string ByteArray.empty, .string ByteArray.empty]) 2 32 Try.underlying22 hi0 hz0 hz1 hz2 rfl (by decide) (.slice A1 m c1) m _ rfl hown 1 #[.string ⟨pn.toArray⟩, .string ⟨pv.toArray⟩] 99 rfl rfl (by simp [Value.oneCell']) (by unfold maxLen; omega) (by omega) hszw ?_); intro v4 w4 hown4 hb4 _)
          obtain ⟨A4, c4, rfl, _, _, _⟩ := own_form hown4
          have hS := HS.out.push (O' := O ++ [(pn, pv)]) hb4 hadW (by rw [pcells_append]; exact hown4)
          clear HS c0 e1 p0 p1 hbw hown hszw hown4 hb4
          obtain ⟨c0, e1, p0, p1, hbw, hown⟩ := hS
          have hS0 : PutS _ _ _ _ _ _ _ _ _ _ _ _ _ _ := ⟨c0, e1, p0, p1, hbw, hown⟩
          have HS := Lib.hid hS0
          have hszw := Nat.le_trans (Nat.le_of_eq HS0.out.symm) hbw.size
          clear hS0
          go_wp2_with fail
          go_region
          have hS := HS.out.drew
          clear HS c0 e1 p0 p1 hbw hown hszw
          generalize World.drew _ = X2 at hS ⊢
          obtain ⟨c0, e1, p0, p1, hbw, hown⟩ := hS
          have hS0 : PutS _ _ _ _ _ _ _ _ _ _ _ _ _ _ := ⟨c0, e1, p0, p1, hbw, hown⟩
          have HS := Lib.hid hS0
          have hszw := Nat.le_trans (Nat.le_of_eq HS0.out.symm) hbw.size
          clear hS0
          go_wp2_with fail
          go_roundw
          case rel => exact ⟨k + 1, m + 1, A4, c4, (O ++ [(pn, pv)]), true, by omega, by omega, by simp [← HM.out], by go_num, rfl, rfl, HINV, HS.out.hown, HS.out.hbw⟩
          case measure => simp [intOf]; omega
        · have hbe : (xn == pn) = false := by simp [hne]
          have HNE : Hid (¬ xn = pn) := hne
          clear hne
          cases hle : leN pn xn with
          | true =>
            have hle2 := hle
            unfold leN at hle2
            rw [hle2] at hleq
            clear hle2
            have HINV : Hid (rput (pn, pv) false l = (O ++ [(pn, pv)] ++ [(xn, xv)]) ++ rput (pn, pv) true (l.drop (k + 1))) := by
              show _ = _
              rw [hinv.out, HDR.out, rput_cons, if_neg (show ¬ (xn, xv).1 = (pn, pv).1 from HNE.out)]
              simp [hle]
            clear hinv
            obtain ⟨c0, e1, p0, p1, hbw, hown⟩ := hS
            have hS0 : PutS _ _ _ _ _ _ _ _ _ _ _ _ _ _ := ⟨c0, e1, p0, p1, hbw, hown⟩
            have HS := Lib.hid hS0
            have hszw := Nat.le_trans (Nat.le_of_eq HS0.out.symm) hbw.size
            clear hS0
            go_wp2_with fail
            go_region
            have hS := HS.out.drew
            clear HS c0 e1 p0 p1 hbw hown hszw
            generalize World.drew _ = X1 at hS ⊢
            obtain ⟨c0, e1, p0, p1, hbw, hown⟩ := hS
            have hS0 : PutS _ _ _ _ _ _ _ _ _ _ _ _ _ _ := ⟨c0, e1, p0, p1, hbw, hown⟩
            have HS := Lib.hid hS0
            have hszw := Nat.le_trans (Nat.le_of_eq HS0.out.symm) hbw.size
            clear hS0
            go_wp2_with (at_builtin; (refine wpList_push _ rfl (.tmp 26) (.tmp 28) 22 rfl (w.heap.size + 1) 99 i0 (.agg #[.string ByteArray.empty, .string ByteArray.empty]) 2 32 Try.underlying22 hi0 hz0 hz1 hz2 rfl (by decide) (.slice A1 m c1) m _ rfl hown 1 #[.string ⟨pn.toArray⟩, .string ⟨pv.toArray⟩] 99 rfl rfl (by simp [Value.oneCell']) (by unfold maxLen; omega) (by omega) hszw ?_); intro v4 w4 hown4 hb4 _)
            obtain ⟨A4, c4, rfl, _, _, _⟩ := own_form hown4
            have hS := HS.out.push (O' := O ++ [(pn, pv)]) hb4 hadW (by rw [pcells_append]; exact hown4)
            clear HS c0 e1 p0 p1 hbw hown hszw hown4 hb4
            obtain ⟨c0, e1, p0, p1, hbw, hown⟩ := hS
            have hS0 : PutS _ _ _ _ _ _ _ _ _ _ _ _ _ _ := ⟨c0, e1, p0, p1, hbw, hown⟩
            have HS := Lib.hid hS0
            have hszw := Nat.le_trans (Nat.le_of_eq HS0.out.symm) hbw.size
            clear hS0
            go_wp2_with fail
            go_region
            have hS := HS.out.drew
            clear HS c0 e1 p0 p1 hbw hown hszw
            generalize World.drew _ = X2 at hS ⊢
            obtain ⟨c0, e1, p0, p1, hbw, hown⟩ := hS
            have hS0 : PutS _ _ _ _ _ _ _ _ _ _ _ _ _ _ := ⟨c0, e1, p0, p1, hbw, hown⟩
            have HS := Lib.hid hS0
            have hszw := Nat.le_trans (Nat.le_of_eq HS0.out.symm) hbw.size
            clear hS0
            go_wp2_with (at_builtin; (refine wpList_push _ rfl (.tmp 38) (.tmp 43) 22 rfl (w.heap.size + 1) 99 i0 (.agg #[.string ByteArray.empty, .string ByteArray.empty]) 2 32 Try.underlying22 hi0 hz0 hz1 hz2 rfl (by decide) (.slice A4 (m + 1) c4) (m + 1) _ rfl hown 1 #[.string ⟨xn.toArray⟩, .string ⟨xv.toArray⟩] 99 rfl rfl (by simp [Value.oneCell']) (by unfold maxLen; omega) (by omega) hszw ?_); intro v5 w5 hown5 hb5 _)
            obtain ⟨A5, c5, rfl, _, _, _⟩ := own_form hown5
            have hS := HS.out.push (O' := (O ++ [(pn, pv)]) ++ [(xn, xv)]) hb5 hadW (by rw [pcells_append]; exact hown5)
            clear HS c0 e1 p0 p1 hbw hown hszw hown5 hb5
            obtain ⟨c0, e1, p0, p1, hbw, hown⟩ := hS
            have hS0 : PutS _ _ _ _ _ _ _ _ _ _ _ _ _ _ := ⟨c0, e1, p0, p1, hbw, hown⟩
            have HS := Lib.hid hS0
            have hszw := Nat.le_trans (Nat.le_of_eq HS0.out.symm) hbw.size
            clear hS0
            go_wp2_with fail
            go_roundw
            case rel => exact ⟨k + 1, m + 2, A5, c5, ((O ++ [(pn, pv)]) ++ [(xn, xv)]), true, by omega, by omega, by simp [← HM.out], by go_num, rfl, rfl, HINV, HS.out.hown, HS.out.hbw⟩
            case measure => simp [intOf]; omega
          | false =>
            have hle2 := hle
            unfold leN at hle2
            rw [hle2] at hleq
            clear hle2
            have HINV : Hid (rput (pn, pv) false l = (O ++ [(xn, xv)]) ++ rput (pn, pv) false (l.drop (k + 1))) := by
              show _ = _
              rw [hinv.out, HDR.out, rput_cons, if_neg (show ¬ (xn, xv).1 = (pn, pv).1 from HNE.out)]
              simp [hle]
            clear hinv
            obtain ⟨c0, e1, p0, p1, hbw, hown⟩ := hS
            have hS0 : PutS _ _ _ _ _ _ _ _ _ _ _ _ _ _ := ⟨c0, e1, p0, p1, hbw, hown⟩
            have HS := Lib.hid hS0
            have hszw := Nat.le_trans (Nat.le_of_eq HS0.out.symm) hbw.size
            clear hS0
            go_wp2_with fail
            go_region
            have hS := HS.out.drew
            clear HS c0 e1 p0 p1 hbw hown hszw
            generalize World.drew _ = X1 at hS ⊢
            obtain ⟨c0, e1, p0, p1, hbw, hown⟩ := hS
            have hS0 : PutS _ _ _ _ _ _ _ _ _ _ _ _ _ _ := ⟨c0, e1, p0, p1, hbw, hown⟩
            have HS := Lib.hid hS0
            have hszw := Nat.le_trans (Nat.le_of_eq HS0.out.symm) hbw.size
            clear hS0
            go_wp2_with fail
            go_region
            have hS := HS.out.drew
            clear HS c0 e1 p0 p1 hbw hown hszw
            generalize World.drew _ = X2 at hS ⊢
            obtain ⟨c0, e1, p0, p1, hbw, hown⟩ := hS
            have hS0 : PutS _ _ _ _ _ _ _ _ _ _ _ _ _ _ := ⟨c0, e1, p0, p1, hbw, hown⟩
            have HS := Lib.hid hS0
            have hszw := Nat.le_trans (Nat.le_of_eq HS0.out.symm) hbw.size
            clear hS0
            go_wp2_with (at_builtin; (refine wpList_push _ rfl (.tmp 38) (.tmp 43) 22 rfl (w.heap.size + 1) 99 i0 (.agg #[.string ByteArray.empty, .string ByteArray.empty]) 2 32 Try.underlying22 hi0 hz0 hz1 hz2 rfl (by decide) (.slice A1 m c1) m _ rfl hown 1 #[.string ⟨xn.toArray⟩, .string ⟨xv.toArray⟩] 99 rfl rfl (by simp [Value.oneCell']) (by unfold maxLen; omega) (by omega) hszw ?_); intro v5 w5 hown5 hb5 _)
            obtain ⟨A5, c5, rfl, _, _, _⟩ := own_form hown5
            have hS := HS.out.push (O' := O ++ [(xn, xv)]) hb5 hadW (by rw [pcells_append]; exact hown5)
            clear HS c0 e1 p0 p1 hbw hown hszw hown5 hb5
            obtain ⟨c0, e1, p0, p1, hbw, hown⟩ := hS
            have hS0 : PutS _ _ _ _ _ _ _ _ _ _ _ _ _ _ := ⟨c0, e1, p0, p1, hbw, hown⟩
            have HS := Lib.hid hS0
            have hszw := Nat.le_trans (Nat.le_of_eq HS0.out.symm) hbw.size
            clear hS0
            go_wp2_with fail
            go_roundw
            case rel => exact ⟨k + 1, m + 1, A5, c5, (O ++ [(xn, xv)]), false, by omega, by omega, by simp [← HM.out], by go_num, rfl, rfl, HINV, HS.out.hown, HS.out.hbw⟩
            case measure => simp [intOf]; omega
    · have hkn : k = n := by omega
      have HD : Hid (rput (pn, pv) false l = O ++ rput (pn, pv) d []) := by
        show _ = _
        rw [hinv.out, List.drop_of_length_le (by have := HN.out; omega)]
      clear hinv hkn hr0
      have hB0 := HB00.out.trans (hbw.mono (by omega))
      cases d with
      | true =>
        have hR : Hid (RES = O) := by show _ = _; rw [HRES.out, HD.out]; simp [rput]
        have HO : Hid (World.ownsRow wr w.heap.size 99 2 (.slice A1 m c1) RES.length (pcells RES)) := by
          show World.ownsRow _ _ _ _ _ _ _
          rw [hR.out, ← HM.out]
          exact own_mono hown (by omega)
        clear hown hbw
        go_wp2_with fail
        go_ret
        exact ⟨_, rfl, HO.out, hB0⟩
      | false =>
        have p0 := (hbw.cell (p := ⟨w.heap.size, 0, none⟩) hlt0).trans b0
        have p1 := (hbw.cell (p := ⟨w.heap.size, 1, none⟩) hlt0).trans b1
        have hR : Hid (RES = O ++ [(pn, pv)]) := by show _ = _; rw [HRES.out, HD.out]; simp [rput]
        go_wp2_with (at_builtin; (refine wpList_push _ rfl (.tmp 47) (.tmp 49) 22 rfl (w.heap.size + 1) 99 i0 (.agg #[.string ByteArray.empty, .string ByteArray.empty]) 2 32 Try.underlying22 hi0 hz0 hz1 hz2 rfl (by decide) (.slice A1 m c1) m _ rfl hown 1 #[.string ⟨pn.toArray⟩, .string ⟨pv.toArray⟩] 99 rfl rfl (by simp [Value.oneCell']) (by unfold maxLen; omega) (by omega) hszw ?_); intro v4 w4 hown4 hb4 _)
        have hB4 := HB00.out.trans ((hbw.trans hb4).mono (by omega))
        have HO : Hid (World.ownsRow w4 w.heap.size 99 2 v4 RES.length (pcells RES)) := by
          show World.ownsRow _ _ _ _ _ _ _
          rw [hR.out, pcells_append, List.length_append, ← HM.out]
          exact own_mono hown4 (by omega)
        clear hown hown4 hbw hb4 hB0 p0 p1
        go_wp2_with fail
        go_ret
        exact ⟨_, rfl, HO.out, hB4⟩
end Go.Proofs.Ythfjfkjlgdnohaa

/-
  The reference's Prop, Text, Set, Unset; props.Same: by their contracts.
-/
namespace Go.Proofs.Ythfjfkjlgdnohaa
open Go.RowKit

set_option maxRecDepth 100000 in
set_option maxHeartbeats 1000000 in
theorem refProp_any (l : PL) (nm : BS) (n : Nat) (hnl : n = l.length) (A : Option Addr) (c : Nat) (w : World) (B : Nat) (hr : Reads w B 2 A n (pcells l)) (hn : n ≤ 5000000000000) :
    Calls Try.prog 47 #[.slice A n c, .string ⟨nm.toArray⟩] w fun e w' => e = .returned (getV l nm) ∧ ∃ q, w' = w.drewN q := by
  have HN := Lib.hid hnl
  obtain ⟨V, hV⟩ : ∃ V, V = getV l nm := ⟨_, rfl⟩
  rw [← hV]
  have HV := Lib.hid hV
  clear hnl hV
  go_enter Try.func47, Try.ntmps47
  go_wp2_with fail
  go_loopw [6] (fun i wr => ∃ k : Nat, k ≤ n ∧ i = .int .i64 (k : Int) ∧ Hid (∀ y ∈ l.take k, y.1 ≠ nm) ∧ ∃ q, wr = w.drewN q) (fun i _ => n - (intOf i).toNat)
  case atStart => exact ⟨0, Nat.zero_le _, rfl, (show ∀ y ∈ _, _ by simp), 0, rfl⟩
  case round =>
    obtain ⟨k, hk, rfl, hno, q, rfl⟩ := hrel
    by_cases hlt : k < n
    · have hki : (k : Int) < (n : Int) := by omega
      have hkl : k < l.length := by have := HN.out; omega
      obtain ⟨ad, rfl, hadB, c0, c1⟩ := hr.prop HN.out hlt
      obtain ⟨x, hx⟩ : ∃ x, x = l[k]'hkl := ⟨_, rfl⟩
      rw [← hx] at c0 c1
      have htk := List.take_succ_eq_append_getElem hkl
      rw [← hx] at htk
      have HTK := Lib.hid htk
      have HX := Lib.hid (show l[k]? = some x by rw [hx]; exact List.getElem?_eq_getElem _)
      obtain ⟨xn, xv⟩ := x
      simp only [strV] at c0 c1
      clear hx htk hr
      by_cases hxn : xn = nm
      · have hd : (xn == nm) = true := by simp [hxn]
        have hG := find_at hno.out HX.out hxn
        have HVV : Hid (V = .tuple #[.string ⟨xv.toArray⟩, .bool true]) := by show _ = _; rw [HV.out]; unfold getV; rw [hG]; rfl
        clear hxn hG
        go_wp2_with fail
        go_ret2
        exact ⟨by rw [HVV.out]; rfl, q, rfl⟩
      · have hd : (xn == nm) = false := by simp [hxn]
        have HX2 := Lib.hid hxn
        clear hxn
        go_wp2_with fail
        go_roundw
        case rel =>
          refine ⟨k + 1, by omega, by go_num, ?_, q, rfl⟩
          show ∀ y ∈ _, _
          intro y hy
          rw [HTK.out, List.mem_append, List.mem_singleton] at hy
          rcases hy with hy | rfl
          · exact hno.out y hy
          · exact HX2.out
        case measure => simp [intOf]; omega
    · have HVV : Hid (V = .tuple #[.string ByteArray.empty, .bool false]) := by
        show _ = _
        rw [HV.out]
        unfold getV
        have := hno.out
        rw [List.take_of_length_le (by have := HN.out; omega)] at this
        rw [find_none this]
        rfl
      clear hr
      go_wp2_with fail
      go_ret2
      exact ⟨by rw [HVV.out]; rfl, q, rfl⟩

set_option maxRecDepth 100000 in
set_option maxHeartbeats 1000000 in
theorem sameP_any (a b : PL) (n m : Nat) (hna : n = a.length) (hmb : m = b.length) (A1 A2 : Option Addr) (c1 c2 : Nat) (w : World) (B1 B2 : Nat) (hr1 : Reads w B1 2 A1 n (pcells a)) (hr2 : Reads w B2 2 A2 m (pcells b)) (hn : n ≤ 5000000000000) (hm : m ≤ 5000000000000) :
    Calls Try.prog 85 #[.slice A1 n c1, .slice A2 m c2] w fun e w' => e = .returned (.bool (decide (a = b))) ∧ ∃ q, w' = w.drewN q := by
  have HN := Lib.hid hna
  have HM := Lib.hid hmb
  clear hna hmb
  by_cases hnm : n = m
  · subst hnm
    go_enter Try.func85, Try.ntmps85
    go_wp2_with fail
    go_loopw [13] (fun i wr => ∃ k : Nat, k ≤ n ∧ i = .int .i64 (k : Int) ∧ Hid (a.take k = b.take k) ∧ ∃ q, wr = w.drewN q) (fun i _ => n - (intOf i).toNat)
    case atStart => exact ⟨0, Nat.zero_le _, rfl, (show a.take 0 = b.take 0 by simp), 0, rfl⟩
    case round =>
      obtain ⟨k, hk, rfl, hok, q, rfl⟩ := hrel
      by_cases hlt : k < n
      · have hki : (k : Int) < (n : Int) := by omega
        have hka : k < a.length := by have := HN.out; omega
        have hkb : k < b.length := by have := HM.out; omega
        obtain ⟨ad1, rfl, _, hc1, hc1'⟩ := hr1.prop HN.out hlt
        obtain ⟨ad2, rfl, _, hc2, hc2'⟩ := hr2.prop HM.out hlt
        obtain ⟨x, hx⟩ : ∃ x, x = a[k]'hka := ⟨_, rfl⟩
        obtain ⟨y, hy⟩ : ∃ y, y = b[k]'hkb := ⟨_, rfl⟩
        rw [← hx] at hc1 hc1'
        rw [← hy] at hc2 hc2'
        have t1 := List.take_succ_eq_append_getElem hka
        have t2 := List.take_succ_eq_append_getElem hkb
        rw [← hx] at t1
        rw [← hy] at t2
        have T1 := Lib.hid t1
        have T2 := Lib.hid t2
        have X1 := Lib.hid hx
        have X2 := Lib.hid hy
        obtain ⟨xn, xv⟩ := x
        obtain ⟨yn, yv⟩ := y
        simp only [strV] at hc1 hc1' hc2 hc2'
        clear hx hy t1 t2 hr1 hr2
        by_cases hxy : xn = yn ∧ xv = yv
        · obtain ⟨rfl, rfl⟩ := hxy
          go_wp2_with fail
          go_region
          go_wp2_with fail
          go_roundw
          case rel =>
            refine ⟨k + 1, by omega, by go_num, ?_, q + 1, rfl⟩
            show a.take (k + 1) = b.take (k + 1)
            rw [T1.out, T2.out, hok.out]
          case measure => simp [intOf]; omega
        · have HD : Hid (decide (a = b) = false) := by
            show _ = _
            refine decide_eq_false (fun e => hxy ?_)
            have : (xn, xv) = (yn, yv) := by rw [X1.out, X2.out]; simp only [e]
            exact ⟨congrArg Prod.fst this, congrArg Prod.snd this⟩
          by_cases hxn : xn = yn
          · have hxv : ¬ xv = yv := fun e => hxy ⟨hxn, e⟩
            subst hxn
            clear hxy
            go_wp2_with fail
            go_region
            go_wp2_with fail
            go_ret
            exact ⟨by rw [HD.out]; rfl, q + 1, rfl⟩
          · clear hxy
            go_wp2_with fail
            go_region
            go_wp2_with fail
            go_ret
            exact ⟨by rw [HD.out]; rfl, q + 1, rfl⟩
      · have HD : Hid (decide (a = b) = true) := by
          show _ = _
          refine decide_eq_true ?_
          have := hok.out
          rwa [List.take_of_length_le (by have := HN.out; omega), List.take_of_length_le (by have := HM.out; omega)] at this
        clear hr1 hr2
        go_wp2_with fail
        go_ret
        exact ⟨by rw [HD.out]; rfl, q, rfl⟩
  · have hd : ((n : Int) != (m : Int)) = true := by simp; omega
    have HD : Hid (decide (a = b) = false) := by
      show _ = _
      refine decide_eq_false (fun e => hnm ?_)
      rw [HN.out, HM.out, e]
    clear hnm hr1 hr2
    go_enter Try.func85, Try.ntmps85
    go_wp2_with fail
    go_ret
    exact ⟨by rw [HD.out]; rfl, 0, rfl⟩
set_option maxRecDepth 100000 in
theorem psame_any (a b : PL) (n m : Nat) (hna : n = a.length) (hmb : m = b.length) (A1 A2 : Option Addr) (c1 c2 : Nat) (w : World) (B1 B2 : Nat) (hr1 : Reads w B1 2 A1 n (pcells a)) (hr2 : Reads w B2 2 A2 m (pcells b)) (hn : n ≤ 5000000000000) (hm : m ≤ 5000000000000) :
    Calls Try.prog 50 #[.slice A1 n c1, .slice A2 m c2] w fun e w' => e = .returned (.bool (decide (a = b))) ∧ ∃ q, w' = w.drewN q := by
  have hs := sameP_any a b n m hna hmb A1 A2 c1 c2 w B1 B2 hr1 hr2 hn hm
  clear hna hmb hr1 hr2
  go_enter Try.func50, Try.ntmps50
  go_wp2_with fail
  refine hs.mono ?_
  rintro e w1 ⟨rfl, q, rfl⟩
  go_wp2_with fail
  go_ret
  exact ⟨rfl, q, rfl⟩

set_option maxRecDepth 100000 in
set_option maxHeartbeats 1000000 in
theorem refText_any (l : PL) (n : Nat) (hnl : n = l.length) (A : Option Addr) (c : Nat) (w : World) (B : Nat) (hr : Reads w B 2 A n (pcells l)) (hB : B ≤ w.heap.size) (hn : n ≤ 4398046511104) :
    Calls Try.prog 49 #[.slice A n c] w fun e w' => ∃ v, e = .returned v ∧ w'.ownsRow w.heap.size 9 1 v (2 * n) (scells (ptexts l)) ∧ Below w.heap.size w w' := by
  obtain ⟨i0, hi0, hz0, hz1, hz2⟩ := info_parts Try.infoS
  have HN := Lib.hid hnl
  rw [← scells_pcells]
  clear hnl
  go_enter Try.func49, Try.ntmps49
  go_wp2_with fail
  go_loopw [3, 4] (fun o i wr => ∃ (k : Nat) (A1 : Option Addr) (c1 : Nat), k ≤ n ∧ i = .int .i64 (k : Int) ∧ o = .slice A1 (2 * k) c1 ∧ wr.ownsRow w.heap.size 9 1 (.slice A1 (2 * k) c1) (2 * k) (pcells (l.take k)) ∧ Below w.heap.size w wr) (fun _ i _ => n - (intOf i).toNat)
  case atStart => exact ⟨0, none, 0, Nat.zero_le _, rfl, rfl, ⟨rfl, .inl ⟨rfl, rfl⟩⟩, Below.refl _ _⟩
  case round =>
    obtain ⟨k, A1, c1, hk, rfl, rfl, hown, hbw⟩ := hrel
    by_cases hlt : k < n
    · have hki : (k : Int) < (n : Int) := by omega
      have hkl : k < l.length := by have := HN.out; omega
      obtain ⟨ad, rfl, hadB, d0, d1⟩ := (hr.below (hbw.mono hB)).prop HN.out hlt
      obtain ⟨x, hx⟩ : ∃ x, x = l[k]'hkl := ⟨_, rfl⟩
      have htk := List.take_succ_eq_append_getElem hkl
      rw [← hx] at d0 d1 htk
      obtain ⟨xn, xv⟩ := x
      simp only [strV] at d0 d1
      have HT : Hid (pcells (l.take (k + 1)) = pcells (l.take k) ++ [.string ⟨xn.toArray⟩, .string ⟨xv.toArray⟩]) := by show _ = _; rw [htk, pcells_append]; rfl
      have HOWN := Lib.hid (own_drew (hown.alloc (.cells #[.string ⟨xn.toArray⟩, .string ⟨xv.toArray⟩] 9)))
      have hbw2 := hbw.alloc hbw.size (.cells #[.string ⟨xn.toArray⟩, .string ⟨xv.toArray⟩] 9)
      have hbw3 := hbw2.drew
      have hsz3 := hbw3.size
      have HB := Lib.hid hbw3
      have hr1 := (Reads.lit wr #[.string ⟨xn.toArray⟩, .string ⟨xv.toArray⟩] 9 (n := 2) (size := 1) rfl).drew
      have h1c : ∀ u ∈ (#[.string ⟨xn.toArray⟩, .string ⟨xv.toArray⟩] : Array Value).toList, u.oneCell' = true := by simp [Value.oneCell']
      have hq1 : 2 * k + 2 ≤ maxLen := by unfold maxLen; omega
      have hq2 : (2 * k + 2) * 16 ≤ 140737488355328 := by omega
      clear hx htk hr hown hbw2 hbw3
      go_wp2_with fail
      go_region_law (refine step_append_any _ rfl (.tmp 11) (.tmp 22) 69 rfl w.heap.size 9 i0 (.string ByteArray.empty) 1 16 Try.underlying69 hi0 hz0 hz1 hz2 rfl (by decide) (.slice A1 (2 * k) c1) (2 * k) (pcells (l.take k)) ?hs HOWN.out _ (some ⟨wr.heap.size, 0, none⟩) 2 2 _ ?hx hr1 h1c hq1 hq2 hsz3 ?_; (case hs => first | rfl | simp [Act.eval] | simp [Act.eval, Act.put]); (case hx => first | rfl | simp [Act.eval] | simp [Act.eval, Act.put]); intro v2 w2 hown2 hg2 _; have hbe2 := Lib.hid (HB.out.grown hg2 hsz3 (fun k hk => (HOWN.out.lt k hk).1)); obtain ⟨A2, cc2, rfl, _, _, _⟩ := own_form hown2; have hown2' := Lib.hid hown2; clear hown2 hg2 d0 d1 hr1 h1c)
      all_goals
        have HO : Hid (w2.ownsRow w.heap.size 9 1 (.slice A2 (2 * (k + 1)) cc2) (2 * (k + 1)) (pcells (l.take (k + 1)))) := by show World.ownsRow _ _ _ _ _ _ _; rw [HT.out]; exact hown2'.out
        go_wp2_with fail
        go_roundw
        case rel => exact ⟨k + 1, A2, cc2, by omega, by go_num, rfl, HO.out, hbe2.out⟩
        case measure => simp [intOf]; omega
    · have hkn : k = n := by omega
      have HO : Hid (wr.ownsRow w.heap.size 9 1 (.slice A1 (2 * k) c1) (2 * n) (pcells l)) := by
        show World.ownsRow _ _ _ _ _ _ _
        rw [List.take_of_length_le (by have := HN.out; omega)] at hown
        rw [← hkn]
        exact hown
      clear hr hown hkn
      go_wp2_with fail
      go_ret
      exact ⟨_, rfl, HO.out, hbw⟩

set_option maxRecDepth 100000 in
set_option maxHeartbeats 1000000 in
theorem rset_any (l : PL) (n : Nat) (hnl : n = l.length) (A : Option Addr) (c : Nat) (nm tx : BS) (w : World) (B : Nat) (hr : Reads w B 2 A n (pcells l)) (hB : B ≤ w.heap.size) (hn : n ≤ 4398046511104) (hv : strOk l) (hnm : nm.length ≤ 140737488351232) (htx : tx.length ≤ 140737488351232) :
    Calls Try.prog 44 #[.slice A n c, .string ⟨nm.toArray⟩, .string ⟨tx.toArray⟩] w (PPost w (putP (nm, tx) l) (setE l nm tx)) := by
  have hp := refProp_any l nm n hnl A c w B hr (by omega)
  have hck := fun q => refProps_any l n hnl A c (w.drewN q) B (show Reads _ _ _ _ _ _ from hr) (by omega) hv
  have hNM := fun W => refName_any nm W hnm
  have hVA := fun W => refValue_any tx W htx
  have hGV : getV l nm = .tuple #[.string ⟨((getP l nm).getD []).toArray⟩, .bool (getP l nm).isSome] := rfl
  obtain ⟨g, hg⟩ : ∃ g, g = (getP l nm).getD [] := ⟨_, rfl⟩
  obtain ⟨t, ht⟩ : ∃ t, t = (getP l nm).isSome := ⟨_, rfl⟩
  rw [← hg, ← ht] at hGV
  rw [hGV] at hp
  have HT := Lib.hid ht
  have HN := Lib.hid hnl
  by_cases hok : propsB l = true
  · have h1 : propsE l = 0 := by unfold propsE; rw [if_pos hok]
    rw [h1] at hck
    have HOK := Lib.hid hok
    clear hg ht hGV hnl hok h1
    cases hnb : nameB nm with
    | false =>
      have HPE : Hid (setE l nm tx = 31) := by show _ = _; unfold setE; rw [if_pos HOK.out, if_neg (by rw [hnb]; simp)]
      rw [hnb] at hNM
      clear hnb hr hVA
      go_enter Try.func44, Try.ntmps44
      go_wp2_with fail
      refine hp.mono ?_
      rintro e w1 ⟨rfl, q1, rfl⟩
      go_wp2_with fail
      refine (hck q1).mono ?_
      rintro e w2 ⟨rfl, q2, hw⟩
      rw [World.drewN_drewN] at hw
      subst hw
      go_wp2_with fail
      refine (hNM _).mono ?_
      rintro e w3 ⟨rfl, hw⟩
      rw [hw]
      clear hw w3
      go_wp2_with fail
      go_ret2
      refine ⟨_, by rw [HPE.out]; rfl, ?_, below_drewN (Below.refl _ _) _⟩
      rw [HPE.out, if_neg (by decide)]; rfl
    | true =>
      rw [hnb] at hNM
      have HNB := Lib.hid hnb
      cases hvb : valB tx with
      | false =>
        have HPE : Hid (setE l nm tx = 9) := by show _ = _; unfold setE; rw [if_pos HOK.out, if_pos HNB.out, if_neg (by rw [hvb]; simp)]
        rw [hvb] at hVA
        clear hvb hnb hr
        go_enter Try.func44, Try.ntmps44
        go_wp2_with fail
        refine hp.mono ?_
        rintro e w1 ⟨rfl, q1, rfl⟩
        go_wp2_with fail
        refine (hck q1).mono ?_
        rintro e w2 ⟨rfl, q2, hw⟩
        rw [World.drewN_drewN] at hw
        subst hw
        go_wp2_with fail
        refine (hNM _).mono ?_
        rintro e w3 ⟨rfl, hw⟩
        rw [hw]
        clear hw w3
        go_wp2_with fail
        refine (hVA _).mono ?_
        rintro e w3 ⟨rfl, hw⟩
        rw [hw]
        clear hw w3
        go_wp2_with fail
        go_ret2
        refine ⟨_, by rw [HPE.out]; rfl, ?_, below_drewN (Below.refl _ _) _⟩
        rw [HPE.out, if_neg (by decide)]; rfl
      | true =>
        rw [hvb] at hVA
        have HVB := Lib.hid hvb
        have hso := propsB_sort l HOK.out
        have h8l := (propsB_small l HOK.out).1
        have hput := fun q => rput_any nm tx l n HN.out A c (w.drewN q) B (show Reads _ _ _ _ _ _ from hr) hB (by have := HN.out; omega)
        rw [rput_put (nm, tx) l hso] at hput
        have HPUT := Lib.hid hput
        clear hput
        by_cases h38 : t = false ∧ n = 8
        · have HPE : Hid (setE l nm tx = 3) := by show _ = _; unfold setE; rw [if_pos HOK.out, if_pos HNB.out, if_pos HVB.out, if_pos ⟨HT.out.symm.trans h38.1, by rw [← HN.out]; exact h38.2⟩]
          obtain ⟨rfl, h8⟩ := h38
          have h8a : ((n : Int) == 8) = true := by simp [h8]
          clear h8 hvb hnb hr h8l hso
          go_enter Try.func44, Try.ntmps44
          go_wp2_with fail
          refine hp.mono ?_
          rintro e w1 ⟨rfl, q1, rfl⟩
          go_wp2_with fail
          refine (hck q1).mono ?_
          rintro e w2 ⟨rfl, q2, hw⟩
          rw [World.drewN_drewN] at hw
          subst hw
          go_wp2_with fail
          refine (hNM _).mono ?_
          rintro e w3 ⟨rfl, hw⟩
          rw [hw]
          clear hw w3
          go_wp2_with fail
          refine (hVA _).mono ?_
          rintro e w3 ⟨rfl, hw⟩
          rw [hw]
          clear hw w3
          go_wp2_with fail
          go_ret2
          refine ⟨_, by rw [HPE.out]; rfl, ?_, below_drewN (Below.refl _ _) _⟩
          rw [HPE.out, if_neg (by decide)]; rfl
        · have HPE : Hid (setE l nm tx = 0) := by show _ = _; unfold setE; rw [if_pos HOK.out, if_pos HNB.out, if_pos HVB.out, if_neg (fun h => h38 ⟨HT.out.trans h.1, by rw [HN.out]; exact h.2⟩)]
          have hcase : t = true ∨ (t = false ∧ ((n : Int) == 8) = false) := by
            cases t with
            | true => exact .inl rfl
            | false => exact .inr ⟨rfl, by simp; exact fun h => h38 ⟨rfl, by omega⟩⟩
          clear h38 hvb hnb hr h8l hso
          rcases hcase with rfl | ⟨rfl, h8a⟩
          all_goals
            go_enter Try.func44, Try.ntmps44
            go_wp2_with fail
            refine hp.mono ?_
            rintro e w1 ⟨rfl, q1, rfl⟩
            go_wp2_with fail
            refine (hck q1).mono ?_
            rintro e w2 ⟨rfl, q2, hw⟩
            rw [World.drewN_drewN] at hw
            subst hw
            go_wp2_with fail
            refine (hNM _).mono ?_
            rintro e w3 ⟨rfl, hw⟩
            rw [hw]
            clear hw w3
            go_wp2_with fail
            refine (hVA _).mono ?_
            rintro e w3 ⟨rfl, hw⟩
            rw [hw]
            clear hw w3
            go_wp2_with fail
            refine (HPUT.out _).mono ?_
            rintro e w4 ⟨v4, rfl, hown, hb⟩
            have HO := Lib.hid hown
            have HB := Lib.hid hb
            clear hown hb
            go_wp2_with fail
            go_ret2
            refine ⟨v4, by rw [HPE.out]; rfl, ?_, (below_drewN (Below.refl _ _) _).trans HB.out⟩
            rw [if_pos HPE.out]
            exact HO.out
  · have h1 : propsE l = 9 := by unfold propsE; rw [if_neg hok]
    rw [h1] at hck
    have HPE : Hid (setE l nm tx = 9) := by show _ = _; unfold setE; rw [if_neg hok]
    clear hg ht hGV hnl hok h1 hr hVA hNM hv
    go_enter Try.func44, Try.ntmps44
    go_wp2_with fail
    refine hp.mono ?_
    rintro e w1 ⟨rfl, q1, rfl⟩
    go_wp2_with fail
    refine (hck q1).mono ?_
    rintro e w2 ⟨rfl, q2, hw⟩
    rw [World.drewN_drewN] at hw
    subst hw
    go_wp2_with fail
    go_ret2
    refine ⟨_, by rw [HPE.out]; rfl, ?_, below_drewN (Below.refl _ _) _⟩
    rw [HPE.out, if_neg (by decide)]; rfl

set_option maxRecDepth 100000 in
set_option maxHeartbeats 1000000 in
theorem runset_any (l : PL) (n : Nat) (hnl : n = l.length) (A : Option Addr) (c : Nat) (nm : BS) (w : World) (B : Nat) (hr : Reads w B 2 A n (pcells l)) (hB : B ≤ w.heap.size) (hn : n ≤ 4398046511104) (hv : strOk l) :
    Calls Try.prog 46 #[.slice A n c, .string ⟨nm.toArray⟩] w (PPost w (dropP nm l) (unsetE l nm)) := by
  obtain ⟨i0, hi0, hz0, hz1, hz2⟩ := info_parts Try.infoP
  have hp := refProp_any l nm n hnl A c w B hr (by omega)
  have hck := fun q => refProps_any l n hnl A c (w.drewN q) B (show Reads _ _ _ _ _ _ from hr) (by omega) hv
  have hGV : getV l nm = .tuple #[.string ⟨((getP l nm).getD []).toArray⟩, .bool (getP l nm).isSome] := rfl
  obtain ⟨g, hg⟩ : ∃ g, g = (getP l nm).getD [] := ⟨_, rfl⟩
  obtain ⟨t, ht⟩ : ∃ t, t = (getP l nm).isSome := ⟨_, rfl⟩
  rw [← hg, ← ht] at hGV
  rw [hGV] at hp
  have HT := Lib.hid ht
  have HN := Lib.hid hnl
  by_cases hok : propsB l = true
  · have h1 : propsE l = 0 := by unfold propsE; rw [if_pos hok]
    rw [h1] at hck
    have HOK := Lib.hid hok
    clear hg ht hGV hnl hok h1
    cases t with
    | false =>
      have HPE : Hid (unsetE l nm = 71) := by show _ = _; unfold unsetE; rw [if_pos HOK.out, if_neg (by rw [← HT.out]; simp)]
      clear hr
      go_enter Try.func46, Try.ntmps46
      go_wp2_with fail
      refine hp.mono ?_
      rintro e w1 ⟨rfl, q1, rfl⟩
      go_wp2_with fail
      refine (hck q1).mono ?_
      rintro e w2 ⟨rfl, q2, hw⟩
      rw [World.drewN_drewN] at hw
      subst hw
      go_wp2_with fail
      go_ret2
      refine ⟨_, by rw [HPE.out]; rfl, ?_, below_drewN (Below.refl _ _) _⟩
      rw [HPE.out, if_neg (by decide)]; rfl
    | true =>
      have HPE : Hid (unsetE l nm = 0) := by show _ = _; unfold unsetE; rw [if_pos HOK.out, if_pos HT.out.symm]
      go_enter Try.func46, Try.ntmps46
      go_wp2_with fail
      refine hp.mono ?_
      rintro e w1 ⟨rfl, q1, rfl⟩
      go_wp2_with fail
      refine (hck q1).mono ?_
      rintro e w2 ⟨rfl, q2, hw⟩
      rw [World.drewN_drewN] at hw
      subst hw
      go_wp2_with fail
      go_loopw [8, 9] (fun o i wr => ∃ (k m : Nat) (A1 : Option Addr) (c1 : Nat), k ≤ n ∧ m ≤ k ∧ i = .int .i64 (k : Int) ∧ o = .slice A1 m c1 ∧ Hid (m = (dropP nm (l.take k)).length) ∧ wr.ownsRow w.heap.size 99 2 (.slice A1 m c1) m (pcells (dropP nm (l.take k))) ∧ Below w.heap.size w wr) (fun _ i _ => n - (intOf i).toNat)
      case atStart => exact ⟨0, 0, none, 0, Nat.zero_le _, Nat.le_refl _, rfl, rfl, (show _ = _ from rfl), ⟨rfl, .inl ⟨rfl, rfl⟩⟩, below_drewN (Below.refl _ _) _⟩
      case round =>
        obtain ⟨k, m, A1, c1, hk, hmk, rfl, rfl, hm, hown, hbw⟩ := hrel
        by_cases hlt : k < n
        · have hki : (k : Int) < (n : Int) := by omega
          have hkl : k < l.length := by have := HN.out; omega
          obtain ⟨ad, rfl, hadB, d0, d1⟩ := (hr.below (hbw.mono hB)).prop HN.out hlt
          obtain ⟨x, hx⟩ : ∃ x, x = l[k]'hkl := ⟨_, rfl⟩
          have htk := List.take_succ_eq_append_getElem hkl
          rw [← hx] at d0 d1 htk
          obtain ⟨xn, xv⟩ := x
          simp only [strV] at d0 d1
          by_cases hxn : xn = nm
          · have hd : (xn == nm) = true := by simp [hxn]
            have hd2 : (xn != nm) = false := by simp [hxn]
            have HT2 : Hid (dropP nm (l.take (k + 1)) = dropP nm (l.take k)) := by show _ = _; rw [htk]; unfold dropP; rw [List.filter_append]; simp [hxn]
            have HO := Lib.hid hown
            clear hx htk hr hown hxn
            go_wp2_with fail
            go_roundw
            case rel => exact ⟨k + 1, m, A1, c1, by omega, by omega, by go_num, rfl, (by show _ = _; rw [HT2.out]; exact hm.out), by rw [HT2.out]; exact HO.out, hbw⟩
            case measure => simp [intOf]; omega
          · have hd : (xn == nm) = false := by simp [hxn]
            have hd2 : (xn != nm) = true := by simp [hxn]
            have HT2 : Hid (dropP nm (l.take (k + 1)) = dropP nm (l.take k) ++ [(xn, xv)]) := by show _ = _; rw [htk]; unfold dropP; rw [List.filter_append]; simp [hxn]
            have hsz2 := hbw.size
            clear hx htk hr hxn
            go_wp2_with (at_builtin; (refine wpList_push _ rfl (.tmp 36) (.tmp 41) 22 rfl w.heap.size 99 i0 (.agg #[.string ByteArray.empty, .string ByteArray.empty]) 2 32 Try.underlying22 hi0 hz0 hz1 hz2 rfl (by decide) (.slice A1 m c1) m _ rfl hown 1 #[.string ⟨xn.toArray⟩, .string ⟨xv.toArray⟩] 99 (by simp [Act.eval]) rfl (by simp [Value.oneCell']) (by unfold maxLen; omega) (by omega) hsz2 ?_); intro v5 w5 hown5 hb5 _)
            obtain ⟨A5, c5, rfl, _, _, _⟩ := own_form hown5
            have HB := Lib.hid (hbw.trans hb5)
            have HO : Hid (w5.ownsRow w.heap.size 99 2 (.slice A5 (m + 1) c5) (m + 1) (pcells (dropP nm (l.take (k + 1))))) := by show World.ownsRow _ _ _ _ _ _ _; rw [HT2.out, pcells_append]; exact hown5
            clear hown hown5 hbw hb5 d0 d1
            go_wp2_with fail
            go_roundw
            case rel => exact ⟨k + 1, m + 1, A5, c5, by omega, by omega, by go_num, rfl, (by show _ = _; rw [HT2.out, List.length_append, ← hm.out]; rfl), HO.out, HB.out⟩
            case measure => simp [intOf]; omega
        · have HLL : Hid (m = (dropP nm l).length) := by
            show _ = _
            have := hm.out
            rwa [List.take_of_length_le (by have := HN.out; omega)] at this
          have HO : Hid (wr.ownsRow w.heap.size 99 2 (.slice A1 m c1) m (pcells (dropP nm l))) := by
            show World.ownsRow _ _ _ _ _ _ _
            rwa [List.take_of_length_le (by have := HN.out; omega)] at hown
          clear hr hown hm
          go_wp2_with fail
          go_ret2
          refine ⟨_, by rw [HPE.out]; rfl, ?_, hbw⟩
          rw [if_pos HPE.out, ← HLL.out]
          exact HO.out
  · have h1 : propsE l = 9 := by unfold propsE; rw [if_neg hok]
    rw [h1] at hck
    have HPE : Hid (unsetE l nm = 9) := by show _ = _; unfold unsetE; rw [if_neg hok]
    clear hg ht hGV hnl hok h1 hr hv
    go_enter Try.func46, Try.ntmps46
    go_wp2_with fail
    refine hp.mono ?_
    rintro e w1 ⟨rfl, q1, rfl⟩
    go_wp2_with fail
    refine (hck q1).mono ?_
    rintro e w2 ⟨rfl, q2, hw⟩
    rw [World.drewN_drewN] at hw
    subst hw
    go_wp2_with fail
    go_ret2
    refine ⟨_, by rw [HPE.out]; rfl, ?_, below_drewN (Below.refl _ _) _⟩
    rw [HPE.out, if_neg (by decide)]; rfl
end Go.Proofs.Ythfjfkjlgdnohaa

/-
  record.Same, the reference's SameRecord: by their contracts.
-/
namespace Go.Proofs.Ythfjfkjlgdnohaa
open Go.RowKit

def rcCells (r : Rc) (o : Value) : Array Value := #[.int .i64 r.kind, .string ⟨r.nm.toArray⟩, .int .i64 r.frm, .int .i64 r.gd, o, .int .i64 r.ix, .int .i64 r.ct, .string ⟨r.dt.toArray⟩, .int .u64 r.sm.a, .int .u64 r.sm.b, .int .u64 r.sm.c, .int .u64 r.sm.d]
def rcV (r : Rc) (o : Value) : Value := .agg (rcCells r o)
def smB (s t : Sm) : Bool := s.a == t.a && s.b == t.b && s.c == t.c && s.d == t.d
theorem smB_iff (s t : Sm) : smB s t = true ↔ s = t := by
  obtain ⟨a, b, c, d⟩ := s
  obtain ⟨a', b', c', d'⟩ := t
  simp [smB, and_assoc]
def sameR (r s : Rc) : Bool := r.kind == s.kind && r.nm == s.nm && r.frm == s.frm && r.gd == s.gd && r.ix == s.ix && r.ct == s.ct && r.dt == s.dt && smB r.sm s.sm && decide (r.own = s.own)
theorem sameR_iff (r s : Rc) : sameR r s = true ↔ r = s := by
  obtain ⟨a, b, c, d, e, f, g, h, i⟩ := r
  obtain ⟨a', b', c', d', e', f', g', h', i'⟩ := s
  simp only [sameR, Bool.and_eq_true, beq_iff_eq, decide_eq_true_eq, smB_iff, Rc.mk.injEq]
  constructor
  · rintro ⟨⟨⟨⟨⟨⟨⟨⟨h1, h2⟩, h3⟩, h4⟩, h5⟩, h6⟩, h7⟩, h8⟩, h9⟩
    exact ⟨h1, h2, h3, h4, h9, h5, h6, h7, h8⟩
  · rintro ⟨h1, h2, h3, h4, h9, h5, h6, h7, h8⟩
    exact ⟨⟨⟨⟨⟨⟨⟨⟨h1, h2⟩, h3⟩, h4⟩, h5⟩, h6⟩, h7⟩, h8⟩, h9⟩
theorem blk12 {w : World} {g : Nat} {t : TypeId} {c0 c1 c2 c3 c4 c5 c6 c7 c8 c9 c10 c11 : Value} (h : Blk w g t #[c0, c1, c2, c3, c4, c5, c6, c7, c8, c9, c10, c11]) :
    w.cell? ⟨g, 0, none⟩ = some c0 ∧ w.cell? ⟨g, 1, none⟩ = some c1 ∧ w.cell? ⟨g, 2, none⟩ = some c2 ∧ w.cell? ⟨g, 3, none⟩ = some c3 ∧ w.cell? ⟨g, 4, none⟩ = some c4 ∧ w.cell? ⟨g, 5, none⟩ = some c5 ∧ w.cell? ⟨g, 6, none⟩ = some c6 ∧ w.cell? ⟨g, 7, none⟩ = some c7 ∧
      w.cell? ⟨g, 8, none⟩ = some c8 ∧ w.cell? ⟨g, 9, none⟩ = some c9 ∧ w.cell? ⟨g, 10, none⟩ = some c10 ∧ w.cell? ⟨g, 11, none⟩ = some c11 :=
  ⟨by simpa using h.cell 0, by simpa using h.cell 1, by simpa using h.cell 2, by simpa using h.cell 3, by simpa using h.cell 4, by simpa using h.cell 5, by simpa using h.cell 6, by simpa using h.cell 7, by simpa using h.cell 8, by simpa using h.cell 9, by simpa using h.cell 10, by simpa using h.cell 11⟩

set_option maxRecDepth 100000 in
set_option maxHeartbeats 4000000 in
theorem rsame_any (r s : Rc) (n m : Nat) (hn : n = r.own.length) (hm : m = s.own.length) (A1 A2 : Option Addr) (c1 c2 : Nat) (w : World) (B1 B2 : Nat) (hB1 : B1 ≤ w.heap.size) (hB2 : B2 ≤ w.heap.size) (hr1 : Reads w B1 2 A1 n (pcells r.own)) (hr2 : Reads w B2 2 A2 m (pcells s.own)) (hn5 : n ≤ 5000000000000) (hm5 : m ≤ 5000000000000) :
    Calls Try.prog 21 #[rcV r (.slice A1 n c1), rcV s (.slice A2 m c2)] w fun e w' => e = .returned (.bool (sameR r s)) ∧ Below w.heap.size w w' := by
  obtain ⟨R, hR⟩ : ∃ R, R = sameR r s := ⟨_, rfl⟩
  rw [← hR]
  have HR := Lib.hid hR
  clear hR
  obtain ⟨rk, rn, rf, rg, ro, ri, rc, rd, ⟨ra, rb, rx, ry⟩⟩ := r
  obtain ⟨sk, sn, sf, sg, so, si, sc, sd, ⟨sa, sb, sx, sy⟩⟩ := s
  simp only [] at hn hm hr1 hr2
  show Calls _ _ #[.agg #[.int .i64 rk, .string ⟨rn.toArray⟩, .int .i64 rf, .int .i64 rg, .slice A1 n c1, .int .i64 ri, .int .i64 rc, .string ⟨rd.toArray⟩, .int .u64 ra, .int .u64 rb, .int .u64 rx, .int .u64 ry], .agg #[.int .i64 sk, .string ⟨sn.toArray⟩, .int .i64 sf, .int .i64 sg, .slice A2 m c2, .int .i64 si, .int .i64 sc, .string ⟨sd.toArray⟩, .int .u64 sa, .int .u64 sb, .int .u64 sx, .int .u64 sy]] _ _
  have hcs := fun W (hb : Below w.heap.size w W) => psame_any ro so n m hn hm A1 A2 c1 c2 W B1 B2 (hr1.below (hb.mono hB1)) (hr2.below (hb.mono hB2)) hn5 hm5
  have HC := Lib.hid hcs
  clear hn hm hr1 hr2 hB1 hB2 hcs
  go_enter Try.func21, Try.ntmps21
  go_wp2_with fail
  refine (HC.out _ (((Below.refl _ w).alloc (Nat.le_refl _) _).alloc (by simp) _)).mono ?_
  · rintro e w3 ⟨rfl, q, rfl⟩
    have HF : Hid (R = decide (ro = so)) := by
      show _ = _
      rw [HR.out, Bool.eq_iff_iff, sameR_iff, decide_eq_true_eq]
      simp_all
    go_wp2_with fail
    go_ret
    exact ⟨by rw [HF.out]; rfl, below_drewN (((Below.refl _ w).alloc (Nat.le_refl _) _).alloc (by simp) _) q⟩
  all_goals
    go_ret
    refine ⟨?_, (((Below.refl _ w).alloc (Nat.le_refl _) _).alloc (by simp) _)⟩
    have HF : R = false := by
      rw [HR.out, ← Bool.not_eq_true, sameR_iff]
      intro h
      simp_all
    rw [HF]
    rfl

set_option maxRecDepth 100000 in
set_option maxHeartbeats 4000000 in
theorem refSame_any (r s : Rc) (n m : Nat) (hn : n = r.own.length) (hm : m = s.own.length) (A1 A2 : Option Addr) (c1 c2 : Nat) (w : World) (B1 B2 : Nat) (hB1 : B1 ≤ w.heap.size) (hB2 : B2 ≤ w.heap.size) (hr1 : Reads w B1 2 A1 n (pcells r.own)) (hr2 : Reads w B2 2 A2 m (pcells s.own)) (hn5 : n ≤ 5000000000000) (hm5 : m ≤ 5000000000000) :
    Calls Try.prog 22 #[rcV r (.slice A1 n c1), rcV s (.slice A2 m c2)] w fun e w' => e = .returned (.bool (sameR r s)) ∧ Below w.heap.size w w' := by
  obtain ⟨R, hR⟩ : ∃ R, R = sameR r s := ⟨_, rfl⟩
  rw [← hR]
  have HR := Lib.hid hR
  clear hR
  obtain ⟨rk, rn, rf, rg, ro, ri, rc, rd, ⟨ra, rb, rx, ry⟩⟩ := r
  obtain ⟨sk, sn, sf, sg, so, si, sc, sd, ⟨sa, sb, sx, sy⟩⟩ := s
  simp only [] at hn hm hr1 hr2
  show Calls _ _ #[.agg #[.int .i64 rk, .string ⟨rn.toArray⟩, .int .i64 rf, .int .i64 rg, .slice A1 n c1, .int .i64 ri, .int .i64 rc, .string ⟨rd.toArray⟩, .int .u64 ra, .int .u64 rb, .int .u64 rx, .int .u64 ry], .agg #[.int .i64 sk, .string ⟨sn.toArray⟩, .int .i64 sf, .int .i64 sg, .slice A2 m c2, .int .i64 si, .int .i64 sc, .string ⟨sd.toArray⟩, .int .u64 sa, .int .u64 sb, .int .u64 sx, .int .u64 sy]] _ _
  have hcs := fun W (hb : Below w.heap.size w W) => sameProps_any ro so n m hn hm A1 A2 c1 c2 W B1 B2 (hr1.below (hb.mono hB1)) (hr2.below (hb.mono hB2)) hn5 hm5
  have HC := Lib.hid hcs
  clear hn hm hr1 hr2 hB1 hB2 hcs
  go_enter Try.func22, Try.ntmps22
  go_wp2_with fail
  refine (HC.out _ (((Below.refl _ w).alloc (Nat.le_refl _) _).alloc (by simp) _)).mono ?_
  · rintro e w3 ⟨rfl, q, rfl⟩
    have HF : Hid (R = decide (ro = so)) := by
      show _ = _
      rw [HR.out, Bool.eq_iff_iff, sameR_iff, decide_eq_true_eq]
      simp_all
    go_wp2_with fail
    go_ret
    exact ⟨by rw [HF.out]; rfl, below_drewN (((Below.refl _ w).alloc (Nat.le_refl _) _).alloc (by simp) _) q⟩
  all_goals
    go_ret
    refine ⟨?_, (((Below.refl _ w).alloc (Nat.le_refl _) _).alloc (by simp) _)⟩
    have HF : R = false := by
      rw [HR.out, ← Bool.not_eq_true, sameR_iff]
      intro h
      simp_all
    rw [HF]
    rfl
end Go.Proofs.Ythfjfkjlgdnohaa
