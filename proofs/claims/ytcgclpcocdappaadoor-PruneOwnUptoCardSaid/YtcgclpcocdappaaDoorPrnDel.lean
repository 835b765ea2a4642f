/-
  slices.IndexFunc and slices.DeleteFunc at elements of 5 cells, by their contracts.
-/
import Derived.Test.YtcgclpcocdappaaDoorPrnBasez
namespace Go.Proofs.YtcgclpcocdappaaDoor
open Go.RowKit

/-- a predicate that is a function value: called in a world that keeps what it captured -/
structure PredJ (P : Program) (g : Nat) (caps : Array Value) {α : Type} (enc : α → Array Value) (p : α → Bool) (Keep : World → Prop) : Prop where
  call : ∀ x W, Keep W → Calls P g (#[.agg (enc x)] ++ caps) W fun e W' => e = .returned (.bool (p x)) ∧ Below W.heap.size W W'
  below : ∀ W W', Keep W → Below W.heap.size W W' → Keep W'

set_option maxRecDepth 100000 in
set_option maxHeartbeats 1000000 in
theorem delSn_index {α : Type} (f0 f1 f2 f3 f4 : α → Value) (p : α → Bool) (l : List α) (n : Nat) (hnl : n = l.length) (A : Option Addr) (c : Nat) (p0 : Addr) (Keep : World → Prop) (w : World) (B : Nat)
    (hr : Reads w B 5 A n (cellsK (fun x => [f0 x, f1 x, f2 x, f3 x, f4 x]) l)) (hB : B ≤ w.heap.size) (hn : n ≤ 5000000000000) (hp : PredJ Tryd.prog 16 #[.pointer (some p0)] (fun x => #[f0 x, f1 x, f2 x, f3 x, f4 x]) p Keep) (hk0 : Keep w) :
    Calls Tryd.prog 40 #[.slice A n c, .func (.func 16) #[] #[.pointer (some p0)]] w fun e w' => e = .returned (.int .i64 (firstI p l)) ∧ Below w.heap.size w w' ∧ Keep w' := by
  have HN := Lib.hid hnl
  have HP := Lib.hid hp
  clear hnl hp
  go_enter Tryd.func40, Tryd.ntmps40
  go_wp2_with fail
  go_loopw [8] (fun j wr => ∃ k : Nat, k ≤ n ∧ j = .int .i64 (k : Int) ∧ Hid (∀ y ∈ l.take k, p y = false) ∧ Below w.heap.size w wr ∧ Keep wr) (fun j _ => n - (intOf j).toNat)
  case atStart => exact ⟨0, Nat.zero_le _, rfl, (show ∀ y ∈ _, _ by simp), Below.refl _ _, hk0⟩
  case round =>
    obtain ⟨k, hk, rfl, hno, hbw, hkw⟩ := hrel
    by_cases hlt : k < n
    · have hki : (k : Int) < (n : Int) := by omega
      have hkl : k < l.length := by have := HN.out; omega
      obtain ⟨ad, rfl, _, c0, c1, c2, c3, c4⟩ := (hr.below (hbw.mono hB)).el5 HN.out hlt
      obtain ⟨x, hx⟩ : ∃ x, x = l[k]'hkl := ⟨_, rfl⟩
      rw [← hx] at c0 c1 c2 c3 c4
      have htk := List.take_succ_eq_append_getElem hkl
      rw [← hx] at htk
      have HTK := Lib.hid htk
      have HX := Lib.hid (show l[k]? = some x by rw [hx]; exact List.getElem?_eq_getElem _)
      have hc := HP.out.call x wr hkw
      obtain ⟨b, hb⟩ : ∃ b, b = p x := ⟨_, rfl⟩
      rw [← hb] at hc
      have HBX := Lib.hid hb
      simp only [List.append_toArray, List.cons_append, List.nil_append] at hc
      clear hx htk hr hb
      go_wp2_with fail
      refine hc.mono ?_
      clear hc
      rintro e w1 ⟨rfl, hb1⟩
      have hkw1 := HP.out.below wr w1 hkw hb1
      have hbw1 := hbw.trans (hb1.mono hbw.size)
      cases b with
      | true =>
        go_wp2_with fail
        go_ret
        have hf := firstP_eq p l k x hno.out HX.out HBX.out.symm
        exact ⟨by unfold firstI; rw [hf, if_pos hkl]; rfl, hbw1, hkw1⟩
      | false =>
        go_wp2_with fail
        go_roundw
        case rel =>
          refine ⟨k + 1, by omega, by go_num, ?_, hbw1, hkw1⟩
          show ∀ y ∈ l.take (k + 1), p y = false
          intro y hy
          rw [HTK.out] at hy
          rcases List.mem_append.1 hy with hy | hy
          · exact hno.out y hy
          · simp at hy; subst hy; exact HBX.out.symm
        case measure => simp [intOf]; omega
    · have hkn : k = n := by omega
      have HF : Hid (firstI p l = -1) := by
        show _ = _
        unfold firstI
        rw [firstP_none p l (fun y hy => hno.out y (by rw [List.take_of_length_le (by rw [hkn, HN.out]; exact Nat.le_refl _)]; exact hy)), if_neg (Nat.lt_irrefl _)]
      clear hr hkn
      go_wp2_with fail
      go_ret
      exact ⟨by rw [HF.out]; rfl, hbw, hkw⟩

/-! ### DeleteFunc -/
theorem Tryd.delSn_info : (Tryd.prog.info? 42).map (fun i => (i.zero, i.size, i.bytes)) = some (some (.agg #[.string ByteArray.empty, .int .i64 0, .slice none 0 0, .slice none 0 0, .slice none 0 0]), 5, 96) := by kernel_rfl
/-- between two rounds: what stays lies at the beginning, what has not been looked at as it was -/
structure DelJ {α : Type} (p : α → Bool) (l L : List α) (i j : Nat) : Prop where
  len : L.length = l.length
  le : i ≤ j
  jl : j ≤ l.length
  pre : L.take i = (l.take j).filter fun x => !p x
  suf : L.drop j = l.drop j
theorem DelJ.keep {α : Type} {p : α → Bool} {l L : List α} {i j : Nat} {x : α} (h : DelJ p l L i j) (hlt : i < j) (hx : l[j]? = some x) (hp : p x = false) : DelJ p l (L.set i x) (i + 1) (j + 1) := by
  have hj := (List.getElem?_eq_some_iff.1 hx).1
  refine ⟨by rw [List.length_set]; exact h.len, by omega, by omega, ?_, ?_⟩
  · rw [List.take_succ_eq_append_getElem hj, List.filter_append, ← h.pre, (List.getElem?_eq_some_iff.1 hx).2]
    rw [List.take_succ_eq_append_getElem (by rw [List.length_set, h.len]; omega), List.take_set_of_le (Nat.le_refl _), List.getElem_set_self]
    simp [hp]
  · rw [List.drop_set_of_lt (by omega)]
    have := congrArg (List.drop 1) h.suf
    simpa using this
theorem DelJ.skip {α : Type} {p : α → Bool} {l L : List α} {i j : Nat} {x : α} (h : DelJ p l L i j) (hx : l[j]? = some x) (hp : p x = true) : DelJ p l L i (j + 1) := by
  have hj := (List.getElem?_eq_some_iff.1 hx).1
  refine ⟨h.len, by have := h.le; omega, by omega, ?_, ?_⟩
  · rw [List.take_succ_eq_append_getElem hj, List.filter_append, ← h.pre, (List.getElem?_eq_some_iff.1 hx).2]
    simp [hp]
  · have := congrArg (List.drop 1) h.suf
    simpa using this
theorem DelJ.get {α : Type} {p : α → Bool} {l L : List α} {i j : Nat} {x : α} (h : DelJ p l L i j) (hx : l[j]? = some x) : L[j]? = some x := by
  have := congrArg (fun m => m[0]?) h.suf
  simpa [hx] using this
theorem cells_setJ {α : Type} {enc : α → List Value} {k : Nat} (hk : ∀ x, (enc x).length = k) (L : List α) (i : Nat) (x : α) (hi : i < L.length) : cellsK enc (L.set i x) = (cellsK enc L).take (i * k) ++ enc x ++ (cellsK enc L).drop ((i + 1) * k) := by
  rw [List.set_eq_take_append_cons_drop, if_pos hi, cellsK_append, show x :: L.drop (i + 1) = [x] ++ L.drop (i + 1) from rfl, cellsK_append, cellsK_one, cellsK_take hk, cellsK_drop hk, List.append_assoc]

theorem set_cells5J (xs : List Value) (v0 v1 v2 v3 v4 : Value) (i : Nat) (h : (i + 1) * 5 ≤ xs.length) : (((((xs.set (i * 5 + 0) v0).set (i * 5 + 1) v1).set (i * 5 + 2) v2).set (i * 5 + 3) v3).set (i * 5 + 4) v4) = xs.take (i * 5) ++ [v0, v1, v2, v3, v4] ++ xs.drop ((i + 1) * 5) := by
  have e : xs = xs.take (i * 5) ++ (xs[i * 5 + 0]'(by omega) :: xs[i * 5 + 1]'(by omega) :: xs[i * 5 + 2]'(by omega) :: xs[i * 5 + 3]'(by omega) :: xs[i * 5 + 4]'(by omega) :: xs.drop ((i + 1) * 5)) := by
    conv => lhs; rw [← List.take_append_drop (i * 5) xs]
    congr 1
    rw [show (i + 1) * 5 = i * 5 + 5 by omega]
    rw [show xs.drop (i * 5) = xs.drop (i * 5 + 0) from rfl, List.drop_eq_getElem_cons (show i * 5 + 0 < xs.length by omega), List.drop_eq_getElem_cons (show i * 5 + 1 < xs.length by omega), List.drop_eq_getElem_cons (show i * 5 + 2 < xs.length by omega), List.drop_eq_getElem_cons (show i * 5 + 3 < xs.length by omega), List.drop_eq_getElem_cons (show i * 5 + 4 < xs.length by omega)]
  have hl : (xs.take (i * 5)).length = i * 5 := by rw [List.length_take]; omega
  generalize xs.take (i * 5) = P at e hl ⊢
  generalize xs.drop ((i + 1) * 5) = R at e ⊢
  generalize xs[i * 5 + 0]'(by omega) = x0 at e
  generalize xs[i * 5 + 1]'(by omega) = x1 at e
  generalize xs[i * 5 + 2]'(by omega) = x2 at e
  generalize xs[i * 5 + 3]'(by omega) = x3 at e
  generalize xs[i * 5 + 4]'(by omega) = x4 at e
  rw [e]
  rw [List.set_append_right _ _ (by rw [hl]; omega), hl, show i * 5 + 0 - i * 5 = 0 by omega]
  rw [List.set_append_right _ _ (by rw [hl]; omega), hl, show i * 5 + 1 - i * 5 = 1 by omega]
  rw [List.set_append_right _ _ (by rw [hl]; omega), hl, show i * 5 + 2 - i * 5 = 2 by omega]
  rw [List.set_append_right _ _ (by rw [hl]; omega), hl, show i * 5 + 3 - i * 5 = 3 by omega]
  rw [List.set_append_right _ _ (by rw [hl]; omega), hl, show i * 5 + 4 - i * 5 = 4 by omega]
  simp


set_option maxRecDepth 100000 in
set_option maxHeartbeats 2000000 in
theorem delSn_any (p : SnapR → Bool) (l : List (SnapR)) (n : Nat) (hnl : n = l.length) (A0 : Option Addr) (cp base : Nat) (p0 : Addr) (Keep : World → Prop) (w : World) (hown : w.ownsRow base 42 5 (.slice A0 n cp) n (cellsK (fun x : SnapR => [Value.string ⟨x.nm.toArray⟩, Value.int .i64 x.gd, Value.slice x.body.A x.body.n x.body.c, Value.slice x.tags.A x.tags.n x.tags.c, Value.slice x.own.A x.own.n x.own.c]) l)) (hn : n ≤ 5000000000000)
    (hp : PredJ Tryd.prog 16 #[.pointer (some p0)] (fun x : SnapR => #[Value.string ⟨x.nm.toArray⟩, Value.int .i64 x.gd, Value.slice x.body.A x.body.n x.body.c, Value.slice x.tags.A x.tags.n x.tags.c, Value.slice x.own.A x.own.n x.own.c]) p Keep) (hkg : ∀ W W', Keep W → W.grownBy W' (Value.slice A0 n cp).ownBlock → Keep W') (hk0 : Keep w) :
    Calls Tryd.prog 15 #[.slice A0 n cp, .func (.func 16) #[] #[.pointer (some p0)]] w fun e w' =>
      ∃ v, e = .returned v ∧ w'.ownsRow base 42 5 v (l.filter fun x => !p x).length (cellsK (fun x : SnapR => [Value.string ⟨x.nm.toArray⟩, Value.int .i64 x.gd, Value.slice x.body.A x.body.n x.body.c, Value.slice x.tags.A x.tags.n x.tags.c, Value.slice x.own.A x.own.n x.own.c]) (l.filter fun x => !p x)) ∧ w.grownBy w' (Value.slice A0 n cp).ownBlock := by
  have hidx := delSn_index (fun x : SnapR => Value.string ⟨x.nm.toArray⟩) (fun x : SnapR => Value.int .i64 x.gd) (fun x : SnapR => Value.slice x.body.A x.body.n x.body.c) (fun x : SnapR => Value.slice x.tags.A x.tags.n x.tags.c) (fun x : SnapR => Value.slice x.own.A x.own.n x.own.c) p l n hnl A0 cp p0 Keep w w.heap.size (Reads.of_own hown) (Nat.le_refl _) hn hp hk0
  have hlen : ∀ x : SnapR, ((fun x : SnapR => [Value.string ⟨x.nm.toArray⟩, Value.int .i64 x.gd, Value.slice x.body.A x.body.n x.body.c, Value.slice x.tags.A x.tags.n x.tags.c, Value.slice x.own.A x.own.n x.own.c]) x).length = 5 := fun _ => rfl
  by_cases hf : firstP p l < l.length
  · obtain ⟨i0, hi0⟩ : ∃ i0, i0 = firstP p l := ⟨_, rfl⟩
    have hfi : firstI p l = (i0 : Int) := by unfold firstI; rw [if_pos hf, hi0]
    rw [hfi] at hidx
    have hin : i0 < n := by omega
    have hx0 : ∃ x, l[i0]? = some x ∧ p x = true := by
      obtain ⟨x, hx⟩ : ∃ x, l[i0]? = some x := ⟨_, List.getElem?_eq_getElem (by omega)⟩
      refine ⟨x, hx, ?_⟩
      have h1 : (l.takeWhile fun x => !p x) = l.take i0 := by
        rw [hi0]
        unfold firstP
        exact List.prefix_iff_eq_take.1 (List.takeWhile_prefix _)
      have h2 := List.takeWhile_append_dropWhile (p := fun x => !p x) (l := l)
      rw [h1] at h2
      have h3 : l.dropWhile (fun x => !p x) = l.drop i0 := List.append_cancel_left (h2.trans (List.take_append_drop i0 l).symm)
      have h4 : l.drop i0 = x :: l.drop (i0 + 1) := by
        rw [List.drop_eq_getElem_cons (by omega)]
        congr 1
        exact (List.getElem?_eq_some_iff.1 hx).2
      rw [h4] at h3
      have h5 := List.head_dropWhile_not (fun x => !p x) (l := l) (by rw [h3]; simp)
      simp only [h3, List.head_cons] at h5
      simpa using h5
    have hD0 : DelJ p l l i0 (i0 + 1) := by
      obtain ⟨x, hx, hpx⟩ := hx0
      have hj := (List.getElem?_eq_some_iff.1 hx).1
      refine ⟨rfl, by omega, by omega, ?_, rfl⟩
      rw [List.take_succ_eq_append_getElem hj, List.filter_append, (List.getElem?_eq_some_iff.1 hx).2, List.filter_eq_self.2 (fun y hy => by rw [hi0] at hy; simp [firstP_before p l y hy])]
      simp [hpx]
    rcases hown.2 with ⟨_, h0⟩ | ⟨g, cap, cur, hs, hbg, _, hnc, hcm, _, _⟩
    · omega
    · injection hs with e1 _ e2
      subst e1 e2
      have hkg : ∀ W W', Keep W → W.grownBy W' (some g) → Keep W' := hkg
      have HD0 := Lib.hid hD0
      have HN := Lib.hid hnl
      have HP := Lib.hid hp
      have HOWN0 := Lib.hid hown
      have hgw := hown.lt g rfl
      unfold maxLen at hcm
      have hib : ((i0 : Int) == -1) = false := by simp <;> omega
      clear hi0 hfi hf hx0 hD0 hnl hp hown hk0
      go_enter Tryd.func15, Tryd.ntmps15
      go_wp2_with fail
      refine hidx.mono ?_
      clear hidx
      rintro e w1 ⟨rfl, hb1, hk1⟩
      have hown1 := own_below HOWN0.out hb1
      have hgr1 : w.grownBy w1 (some g) := ⟨hb1.os, hb1.tape, hb1.output, hb1.size, fun k hk _ => hb1.block k hk⟩
      clear hb1
      go_wp2_with fail
      go_loopw [5, 6] (fun vi vj wr => ∃ (i j : Nat) (L : List (SnapR)), vi = .int .i64 (i : Int) ∧ vj = .int .i64 (j : Int) ∧ i < j ∧ j ≤ n ∧ Hid (DelJ p l L i j) ∧ wr.ownsRow base 42 5 (.slice (some ⟨g, 0, none⟩) n cp) n (cellsK (fun x : SnapR => [Value.string ⟨x.nm.toArray⟩, Value.int .i64 x.gd, Value.slice x.body.A x.body.n x.body.c, Value.slice x.tags.A x.tags.n x.tags.c, Value.slice x.own.A x.own.n x.own.c]) L) ∧ w.grownBy wr (some g) ∧ Keep wr) (fun _ vj _ => n - (intOf vj).toNat)
      case atStart => exact ⟨i0, i0 + 1, l, rfl, by go_num, by omega, by omega, HD0, hown1, hgr1, hk1⟩
      case round =>
        obtain ⟨i, j, L, rfl, rfl, hij, hjn, hD, hownr, hgrr, hkr⟩ := hrel
        clear hown1 hgr1 hk1
        have hwsz := hgrr.size
        by_cases hlt : j < n
        · have hji : (j : Int) < (n : Int) := by omega
          have hii : (i : Int) < (n : Int) := by omega
          have hjl : j < l.length := by have := HN.out; omega
          obtain ⟨x, hx⟩ : ∃ x, x = l[j]'hjl := ⟨_, rfl⟩
          have hxl : l[j]? = some x := by rw [hx]; exact List.getElem?_eq_getElem _
          have hxL := hD.out.get hxl
          have hLl := hD.out.len
          have hjL : j < L.length := by omega
          have hiL : i < L.length := by omega
          have hel := fun d (hd : d < 5) => (hownr.cellAt (j * 5 + d) (by omega)).trans (cellsK_get hlen L j hjL d hd)
          rw [(List.getElem?_eq_some_iff.1 hxL).2] at hel

          have c0 := hel 0 (by omega)
          have c1 := hel 1 (by omega)
          have c2 := hel 2 (by omega)
          have c3 := hel 3 (by omega)
          have c4 := hel 4 (by omega)
          have hci := fun d (hd : d < 5) => (hownr.cellAt (i * 5 + d) (by omega)).trans (cellsK_get hlen L i hiL d hd)
          have d0 := hci 0 (by omega)
          have q0 := hownr.frozenAt (i * 5 + 0)
          have d1 := hci 1 (by omega)
          have q1 := hownr.frozenAt (i * 5 + 1)
          have d2 := hci 2 (by omega)
          have q2 := hownr.frozenAt (i * 5 + 2)
          have d3 := hci 3 (by omega)
          have q3 := hownr.frozenAt (i * 5 + 3)
          have d4 := hci 4 (by omega)
          have q4 := hownr.frozenAt (i * 5 + 4)
          generalize L[i]'hiL = y0 at d0 d1 d2 d3 d4
          have hc := fun W hk => HP.out.call x W hk
          simp only [List.append_toArray, List.cons_append, List.nil_append] at hc
          obtain ⟨b, hb⟩ : ∃ b, b = p x := ⟨_, rfl⟩
          rw [← hb] at hc
          have HBX := Lib.hid hb
          have HXL := Lib.hid hxl
          have HLL := Lib.hid hLl
          clear hx hb hel hci hxL hxl hLl
          obtain ⟨xn, xg, ⟨xA, xB, xC, xl⟩, ⟨yA, yB, yC, yl⟩, ⟨zA, zB, zC, zl⟩⟩ := x
          simp only [List.getElem?_cons_zero, List.getElem?_cons_succ, Nat.add_zero] at c0 d0 c1 d1 c2 d2 c3 d3 c4 d4
          simp only at hc
          have hgal : wr.grownBy (wr.alloc (.cells #[Value.string ⟨xn.toArray⟩, Value.int .i64 xg, Value.slice xA xB xC, Value.slice yA yB yC, Value.slice zA zB zC] 42)) (some g) := ⟨rfl, rfl, rfl, by simp, fun k hk _ => Below.heap_alloc wr _ k hk⟩
          have hka := hkg wr _ hkr hgal
          have hcc := hc _ hka
          have hgr3 := hgrr.trans hgal
          have hblk := Blk.new wr 42 #[Value.string ⟨xn.toArray⟩, Value.int .i64 xg, Value.slice xA xB xC, Value.slice yA yB yC, Value.slice zA zB zC]
          have hown3 := hownr.alloc (.cells #[Value.string ⟨xn.toArray⟩, Value.int .i64 xg, Value.slice xA xB xC, Value.slice yA yB yC, Value.slice zA zB zC] 42)
          have HOWN3 := Lib.hid hown3
          have HGR3 := Lib.hid hgr3
          have HBLK := Lib.hid hblk
          have hglt : g < wr.heap.size := by omega
          clear hc hownr hgrr hkr hgal hgr3 hblk hown3
          go_wp2_with fail
          refine hcc.mono ?_
          clear hcc
          rintro e w2 ⟨rfl, hb2⟩
          have hgb2 : (wr.alloc (.cells #[Value.string ⟨xn.toArray⟩, Value.int .i64 xg, Value.slice xA xB xC, Value.slice yA yB yC, Value.slice zA zB zC] 42)).grownBy w2 (some g) := ⟨hb2.os, hb2.tape, hb2.output, hb2.size, fun k hk _ => hb2.block k hk⟩
          have hk2 := hkg _ _ hka hgb2
          have HGR2 := Lib.hid (HGR3.out.trans hgb2)
          have HOWN2 := Lib.hid (own_below HOWN3.out hb2)
          have hbx := HBLK.out.below hb2 (by simp)
          have b0 := hbx.cell 0
          have b1 := hbx.cell 1
          have b2 := hbx.cell 2
          have b3 := hbx.cell 3
          have b4 := hbx.cell 4
          have e0 : w2.cell? ⟨g, i * 5, none⟩ = some _ := (World.cell?_of_block (hb2.block g (by simp; omega))).trans ((World.cell?_alloc_lt wr _ ⟨g, i * 5, none⟩ hglt).trans d0)
          have r0 := HOWN2.out.frozenAt (i * 5)
          have e1 : w2.cell? ⟨g, i * 5 + 1, none⟩ = some _ := (World.cell?_of_block (hb2.block g (by simp; omega))).trans ((World.cell?_alloc_lt wr _ ⟨g, i * 5 + 1, none⟩ hglt).trans d1)
          have r1 := HOWN2.out.frozenAt (i * 5 + 1)
          have e2 : w2.cell? ⟨g, i * 5 + 2, none⟩ = some _ := (World.cell?_of_block (hb2.block g (by simp; omega))).trans ((World.cell?_alloc_lt wr _ ⟨g, i * 5 + 2, none⟩ hglt).trans d2)
          have r2 := HOWN2.out.frozenAt (i * 5 + 2)
          have e3 : w2.cell? ⟨g, i * 5 + 3, none⟩ = some _ := (World.cell?_of_block (hb2.block g (by simp; omega))).trans ((World.cell?_alloc_lt wr _ ⟨g, i * 5 + 3, none⟩ hglt).trans d3)
          have r3 := HOWN2.out.frozenAt (i * 5 + 3)
          have e4 : w2.cell? ⟨g, i * 5 + 4, none⟩ = some _ := (World.cell?_of_block (hb2.block g (by simp; omega))).trans ((World.cell?_alloc_lt wr _ ⟨g, i * 5 + 4, none⟩ hglt).trans d4)
          have r4 := HOWN2.out.frozenAt (i * 5 + 4)
          clear hgb2 hka hb2 HOWN3 HGR3
          cases b with
          | true =>
            go_wp2_with fail
            go_roundw
            case rel => exact ⟨i, j + 1, L, rfl, by go_num, by omega, by omega, hD.out.skip HXL.out HBX.out.symm, HOWN2.out, HGR2.out, hk2⟩
            case measure => simp [intOf]; omega
          | false =>
            have hst := Lib.hid (((((HOWN2.out.stored (i * 5 + 0) (Value.string ⟨xn.toArray⟩)).1.stored (i * 5 + 1) (Value.int .i64 xg)).1.stored (i * 5 + 2) (Value.slice xA xB xC)).1.stored (i * 5 + 3) (Value.slice yA yB yC)).1.stored (i * 5 + 4) (Value.slice zA zB zC))
            have hst2 : Hid (w2.grownBy _ (some g)) := Lib.hid ((((((HOWN2.out.stored (i * 5 + 0) (Value.string ⟨xn.toArray⟩)).2).trans ((HOWN2.out.stored (i * 5 + 0) (Value.string ⟨xn.toArray⟩)).1.stored (i * 5 + 1) (Value.int .i64 xg)).2).trans (((HOWN2.out.stored (i * 5 + 0) (Value.string ⟨xn.toArray⟩)).1.stored (i * 5 + 1) (Value.int .i64 xg)).1.stored (i * 5 + 2) (Value.slice xA xB xC)).2).trans ((((HOWN2.out.stored (i * 5 + 0) (Value.string ⟨xn.toArray⟩)).1.stored (i * 5 + 1) (Value.int .i64 xg)).1.stored (i * 5 + 2) (Value.slice xA xB xC)).1.stored (i * 5 + 3) (Value.slice yA yB yC)).2).trans (((((HOWN2.out.stored (i * 5 + 0) (Value.string ⟨xn.toArray⟩)).1.stored (i * 5 + 1) (Value.int .i64 xg)).1.stored (i * 5 + 2) (Value.slice xA xB xC)).1.stored (i * 5 + 3) (Value.slice yA yB yC)).1.stored (i * 5 + 4) (Value.slice zA zB zC)).2)
            clear HOWN2
            go_wp2_with fail
            go_roundw
            case rel =>
              refine ⟨i + 1, j + 1, L.set i ⟨xn, xg, ⟨xA, xB, xC, xl⟩, ⟨yA, yB, yC, yl⟩, ⟨zA, zB, zC, zl⟩⟩, by go_num, by go_num, by omega, by omega, hD.out.keep hij HXL.out HBX.out.symm, ?_, ?_, ?_⟩
              · have h1 := hst.out.1
                rw [set_cells5J _ (Value.string ⟨xn.toArray⟩) (Value.int .i64 xg) (Value.slice xA xB xC) (Value.slice yA yB yC) (Value.slice zA zB zC) i (by rw [cellsK_length hlen]; omega)] at h1
                rw [cells_setJ hlen L i ⟨xn, xg, ⟨xA, xB, xC, xl⟩, ⟨yA, yB, yC, yl⟩, ⟨zA, zB, zC, zl⟩⟩ hiL]
                exact h1
              · exact HGR2.out.trans hst2.out
              · exact hkg _ _ hk2 hst2.out
            case measure => simp [intOf]; omega
        · obtain rfl : j = n := by omega
          have hif : (l.filter fun x => !p x) = L.take i := by
            have h1 := hD.out.pre
            rw [List.take_of_length_le (l := l) (by rw [HN.out]; exact Nat.le_refl _)] at h1
            exact h1.symm
          have HIF := Lib.hid hif
          have hLl := hD.out.len
          have HLL := Lib.hid hLl
          rcases hownr.2 with ⟨h0, _⟩ | ⟨g', cap', cur', hs', _, hh', _, _, hsz', hx'⟩
          · cases h0
          · injection hs' with q1 _ q2
            injection q1 with q1
            injection q1 with q1
            subst q1 q2
            have hcl : cur'.toList.length = cp * 5 := by simpa using hsz'
            have HH := Lib.hid (show wr.heap[g]? = some (.cells cur'.toList.toArray 42 (0, 0)) by simpa using hh')
            have HX := Lib.hid hx'
            have HCL := Lib.hid hcl
            have HGR := Lib.hid hgrr
            generalize cur'.toList = cur2 at HH HX HCL
            have hcpi : ¬ cp = i := by omega
            have HFT := Lib.hid (show i * 5 + (j - i) * (Value.cells (.agg #[.string ByteArray.empty, .int .i64 0, .slice none 0 0, .slice none 0 0, .slice none 0 0])).size ≤ cur2.length from (show i * 5 + (j - i) * 5 ≤ cur2.length by rw [HCL.out]; omega))
            have HZ1 := Lib.hid (show ∀ u ∈ (Value.cells (.agg #[.string ByteArray.empty, .int .i64 0, .slice none 0 0, .slice none 0 0, .slice none 0 0])).toList, u.oneCell' = true by simp [Value.cells, Value.oneCell'])
            have HZV := Lib.hid (show ∀ w, (zeroValue 42).run Tryd.prog w = .ok (.agg #[.string ByteArray.empty, .int .i64 0, .slice none 0 0, .slice none 0 0, .slice none 0 0]) w from fun w => Tryd.zeroValue42 w)
            clear hownr hLl hif hh' hsz' hx' hcl hgrr
            go_wp2_with (with_reducible refine wpList_clearK rfl (.tmp 38) 43 rfl 42 (.agg #[.string ByteArray.empty, .int .i64 0, .slice none 0 0, .slice none 0 0, .slice none 0 0]) Tryd.underlying43 HZV.out HZ1.out g (i * 5) (j - i) (cp - i) rfl cur2 42 HH.out HFT.out ?_; intro w5 zs hzl hg5 hgr5)
            go_ret
            have hLi : (L.take i).length = i := by rw [List.length_take, HLL.out, ← HN.out]; omega
            rw [HIF.out, hLi]
            refine ⟨_, rfl, ?_, HGR.out.trans hgr5⟩
            have hzl : zs.length = (j - i) * 5 := hzl
            refine own_of_row hg5.out hbg (by omega) (by unfold maxLen; omega) ?_ ?_
            · rw [length_splice _ _ _ (by rw [hzl, HCL.out]; omega)]; exact HCL.out
            · unfold splice
              rw [List.take_append_of_le_length (by rw [List.length_take, HCL.out]; omega), List.take_take, Nat.min_self, cellsK_take hlen, ← HX.out, List.take_take, Nat.min_eq_left (by omega)]
  · have hfe : firstP p l = l.length := by have := firstP_le p l; omega
    have hfi : firstI p l = -1 := by unfold firstI; rw [if_neg hf]
    rw [hfi] at hidx
    have hfl : (l.filter fun x => !p x) = l := by
      rw [List.filter_eq_self]
      intro x hx
      have h1 := firstP_before p l
      rw [hfe, List.take_length] at h1
      simp [h1 x hx]
    have HFL := Lib.hid hfl
    have HN := Lib.hid hnl
    have HOWN := Lib.hid hown
    clear hfe hfi hfl hf hnl hown hp hkg
    go_enter Tryd.func15, Tryd.ntmps15
    go_wp2_with fail
    refine hidx.mono ?_
    clear hidx
    rintro e w1 ⟨rfl, hb1, hk1⟩
    go_wp2_with fail
    go_ret
    refine ⟨_, rfl, ?_, ⟨hb1.os, hb1.tape, hb1.output, hb1.size, fun k hk _ => hb1.block k hk⟩⟩
    rw [HFL.out, ← HN.out]
    exact own_below HOWN.out hb1

end Go.Proofs.YtcgclpcocdappaaDoor
