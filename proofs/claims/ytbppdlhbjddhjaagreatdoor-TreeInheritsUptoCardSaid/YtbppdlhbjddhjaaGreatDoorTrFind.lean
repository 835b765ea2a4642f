/-
  tree.amount; slices.IndexFunc at sets and at snapshots; tree.Find, tree.Snap: by their contracts.
-/
import Derived.Test.YtbppdlhbjddhjaaGreatDoorTenLaw2
namespace Go.Proofs.YtbppdlhbjddhjaaGreatDoor
open Go.RowKit

/-- a predicate that is a function value: called at a list's elements, in a world that keeps what it captured -/
structure PredK (P : Program) (g : Nat) (caps : Array Value) {α : Type} (enc : α → Array Value) (M : α → Prop) (p : α → Bool) (Keep : World → Prop) : Prop where
  call : ∀ x W, M x → Keep W → Calls P g (#[.agg (enc x)] ++ caps) W fun e W' => e = .returned (.bool (p x)) ∧ Below W.heap.size W W'
  below : ∀ W W', Keep W → Below W.heap.size W W' → Keep W'
theorem Reads.el4 {α : Type} {f0 f1 f2 f3 : α → Value} {w : World} {B n : Nat} {A : Option Addr} {l : List α} (h : Reads w B 4 A n (cellsK (fun x => [f0 x, f1 x, f2 x, f3 x]) l)) (hn : n = l.length) {i : Nat} (hi : i < n) :
    ∃ ad, A = some ad ∧ ad.block < B ∧ w.cell? (ad.add (i * 4)) = some (f0 (l[i]'(by omega))) ∧ w.cell? ⟨(ad.add (i * 4)).block, (ad.add (i * 4)).off + 1, none⟩ = some (f1 (l[i]'(by omega))) ∧ w.cell? ⟨(ad.add (i * 4)).block, (ad.add (i * 4)).off + 2, none⟩ = some (f2 (l[i]'(by omega))) ∧ w.cell? ⟨(ad.add (i * 4)).block, (ad.add (i * 4)).off + 3, none⟩ = some (f3 (l[i]'(by omega))) := by
  obtain ⟨ad, e, hb, hc⟩ := Reads.elK (k := 4) (fun _ => rfl) h hn hi
  refine ⟨ad, e, hb, ?_, ?_, ?_, ?_⟩
  · have := hc 0 (by omega); rwa [add_zero] at this
  · have := hc 1 (by omega); rwa [addr_add_succ] at this
  · have := hc 2 (by omega); rwa [addr_add_succ] at this
  · have := hc 3 (by omega); rwa [addr_add_succ] at this
theorem Reads.el5 {α : Type} {f0 f1 f2 f3 f4 : α → Value} {w : World} {B n : Nat} {A : Option Addr} {l : List α} (h : Reads w B 5 A n (cellsK (fun x => [f0 x, f1 x, f2 x, f3 x, f4 x]) l)) (hn : n = l.length) {i : Nat} (hi : i < n) :
    ∃ ad, A = some ad ∧ ad.block < B ∧ w.cell? (ad.add (i * 5)) = some (f0 (l[i]'(by omega))) ∧ w.cell? ⟨(ad.add (i * 5)).block, (ad.add (i * 5)).off + 1, none⟩ = some (f1 (l[i]'(by omega))) ∧ w.cell? ⟨(ad.add (i * 5)).block, (ad.add (i * 5)).off + 2, none⟩ = some (f2 (l[i]'(by omega))) ∧ w.cell? ⟨(ad.add (i * 5)).block, (ad.add (i * 5)).off + 3, none⟩ = some (f3 (l[i]'(by omega))) ∧ w.cell? ⟨(ad.add (i * 5)).block, (ad.add (i * 5)).off + 4, none⟩ = some (f4 (l[i]'(by omega))) := by
  obtain ⟨ad, e, hb, hc⟩ := Reads.elK (k := 5) (fun _ => rfl) h hn hi
  refine ⟨ad, e, hb, ?_, ?_, ?_, ?_, ?_⟩
  · have := hc 0 (by omega); rwa [add_zero] at this
  · have := hc 1 (by omega); rwa [addr_add_succ] at this
  · have := hc 2 (by omega); rwa [addr_add_succ] at this
  · have := hc 3 (by omega); rwa [addr_add_succ] at this
  · have := hc 4 (by omega); rwa [addr_add_succ] at this

set_option maxRecDepth 100000 in
theorem amount_any (n k : Int) (w : World) : Calls Tryz.prog 82 #[.int .i64 n, .int .i64 k] w fun e w' => e = .returned (.bool (amt n k)) ∧ w' = w := by
  go_enter Tryz.func82, Tryz.ntmps82
  go_wp2_with fail
  all_goals go_ret
  all_goals refine ⟨congrArg Ending.returned (congrArg Value.bool ?_), rfl⟩
  all_goals unfold amt
  all_goals rw [Bool.eq_iff_iff]
  all_goals simp
  all_goals omega
set_option maxRecDepth 100000 in
set_option maxHeartbeats 1000000 in
theorem fiSet_index {α : Type} (f0 f1 f2 f3 f4 : α → Value) (p : α → Bool) (l : List α) (n : Nat) (hnl : n = l.length) (A : Option Addr) (c : Nat) (p0 : Addr) (Keep : World → Prop) (w : World) (B : Nat)
    (hr : Reads w B 5 A n (cellsK (fun x => [f0 x, f1 x, f2 x, f3 x, f4 x]) l)) (hB : B ≤ w.heap.size) (hn : n ≤ 5000000000000) (hp : PredK Tryz.prog 80 #[.pointer (some p0)] (fun x => #[f0 x, f1 x, f2 x, f3 x, f4 x]) (· ∈ l) p Keep) (hk0 : Keep w) :
    Calls Tryz.prog 79 #[.slice A n c, .func (.func 80) #[] #[.pointer (some p0)]] w fun e w' => e = .returned (.int .i64 (firstI p l)) ∧ Below w.heap.size w w' := by
  have HN := Lib.hid hnl
  have HP := Lib.hid hp
  clear hnl hp
  go_enter Tryz.func79, Tryz.ntmps79
  go_wp2_with fail
  go_loopw [8] (fun j wr => ∃ k : Nat, k ≤ n ∧ j = .int .i64 (k : Int) ∧ Hid (∀ y ∈ l.take k, p y = false) ∧ Below w.heap.size w wr ∧ Keep wr) (fun j _ => n - (intOf j).toNat)
  case atStart => exact ⟨0, Nat.zero_le _, rfl, (show ∀ y ∈ _, _ by simp), Below.refl _ _, hk0⟩
  case round =>
    obtain ⟨k, hk, rfl, hno, hbw, hkw⟩ := hrel
    by_cases hlt : k < n
    · have hki : (k : Int) < (n : Int) := by omega
      have hkl : k < l.length := by have := HN.out; omega
      obtain ⟨ad, rfl, _, c0, c1, c2, c3, c4⟩ := (hr.below (hbw.mono hB)).el5 HN.out hlt
      obtain ⟨x, hx⟩ : ∃ x, x = l[k]'hkl := ⟨_, rfl⟩
      rw [← hx] at c0 c1 c2 c3 c4
      have htk := List.take_succ_eq_append_getElem hkl
      rw [← hx] at htk
      have HTK := Lib.hid htk
      have HX := Lib.hid (show l[k]? = some x by rw [hx]; exact List.getElem?_eq_getElem _)
      have hc := HP.out.call x wr (List.mem_of_getElem? HX.out) hkw
      obtain ⟨b, hb⟩ : ∃ b, b = p x := ⟨_, rfl⟩
      rw [← hb] at hc
      have HBX := Lib.hid hb
      simp only [List.append_toArray, List.cons_append, List.nil_append] at hc
      clear hx htk hr hb
      go_wp2_with fail
      refine hc.mono ?_
      clear hc
      rintro e w1 ⟨rfl, hb1⟩
      have hkw1 := HP.out.below wr w1 hkw hb1
      have hbw1 := hbw.trans (hb1.mono hbw.size)
      cases b with
      | true =>
        go_wp2_with fail
        go_ret
        have hf := firstP_eq p l k x hno.out HX.out HBX.out.symm
        exact ⟨by unfold firstI; rw [hf, if_pos hkl]; rfl, hbw1⟩
      | false =>
        go_wp2_with fail
        go_roundw
        case rel =>
          refine ⟨k + 1, by omega, by go_num, ?_, hbw1, hkw1⟩
          show ∀ y ∈ l.take (k + 1), p y = false
          intro y hy
          rw [HTK.out] at hy
          rcases List.mem_append.1 hy with hy | hy
          · exact hno.out y hy
          · simp at hy; subst hy; exact HBX.out.symm
        case measure => simp [intOf]; omega
    · have hkn : k = n := by omega
      have HF : Hid (firstI p l = -1) := by
        show _ = _
        unfold firstI
        rw [firstP_none p l (fun y hy => hno.out y (by rw [List.take_of_length_le (by rw [hkn, HN.out]; exact Nat.le_refl _)]; exact hy)), if_neg (Nat.lt_irrefl _)]
      clear hr hkn
      go_wp2_with fail
      go_ret
      exact ⟨by rw [HF.out]; rfl, hbw⟩
set_option maxRecDepth 100000 in
set_option maxHeartbeats 1000000 in
theorem fiSnap_index {α : Type} (f0 f1 f2 f3 f4 : α → Value) (p : α → Bool) (l : List α) (n : Nat) (hnl : n = l.length) (A : Option Addr) (c : Nat) (p0 : Addr) (Keep : World → Prop) (w : World) (B : Nat)
    (hr : Reads w B 5 A n (cellsK (fun x => [f0 x, f1 x, f2 x, f3 x, f4 x]) l)) (hB : B ≤ w.heap.size) (hn : n ≤ 5000000000000) (hp : PredK Tryz.prog 126 #[.pointer (some p0)] (fun x => #[f0 x, f1 x, f2 x, f3 x, f4 x]) (· ∈ l) p Keep) (hk0 : Keep w) :
    Calls Tryz.prog 125 #[.slice A n c, .func (.func 126) #[] #[.pointer (some p0)]] w fun e w' => e = .returned (.int .i64 (firstI p l)) ∧ Below w.heap.size w w' := by
  have HN := Lib.hid hnl
  have HP := Lib.hid hp
  clear hnl hp
  go_enter Tryz.func125, Tryz.ntmps125
  go_wp2_with fail
  go_loopw [8] (fun j wr => ∃ k : Nat, k ≤ n ∧ j = .int .i64 (k : Int) ∧ Hid (∀ y ∈ l.take k, p y = false) ∧ Below w.heap.size w wr ∧ Keep wr) (fun j _ => n - (intOf j).toNat)
  case atStart => exact ⟨0, Nat.zero_le _, rfl, (show ∀ y ∈ _, _ by simp), Below.refl _ _, hk0⟩
  case round =>
    obtain ⟨k, hk, rfl, hno, hbw, hkw⟩ := hrel
    by_cases hlt : k < n
    · have hki : (k : Int) < (n : Int) := by omega
      have hkl : k < l.length := by have := HN.out; omega
      obtain ⟨ad, rfl, _, c0, c1, c2, c3, c4⟩ := (hr.below (hbw.mono hB)).el5 HN.out hlt
      obtain ⟨x, hx⟩ : ∃ x, x = l[k]'hkl := ⟨_, rfl⟩
      rw [← hx] at c0 c1 c2 c3 c4
      have htk := List.take_succ_eq_append_getElem hkl
      rw [← hx] at htk
      have HTK := Lib.hid htk
      have HX := Lib.hid (show l[k]? = some x by rw [hx]; exact List.getElem?_eq_getElem _)
      have hc := HP.out.call x wr (List.mem_of_getElem? HX.out) hkw
      obtain ⟨b, hb⟩ : ∃ b, b = p x := ⟨_, rfl⟩
      rw [← hb] at hc
      have HBX := Lib.hid hb
      simp only [List.append_toArray, List.cons_append, List.nil_append] at hc
      clear hx htk hr hb
      go_wp2_with fail
      refine hc.mono ?_
      clear hc
      rintro e w1 ⟨rfl, hb1⟩
      have hkw1 := HP.out.below wr w1 hkw hb1
      have hbw1 := hbw.trans (hb1.mono hbw.size)
      cases b with
      | true =>
        go_wp2_with fail
        go_ret
        have hf := firstP_eq p l k x hno.out HX.out HBX.out.symm
        exact ⟨by unfold firstI; rw [hf, if_pos hkl]; rfl, hbw1⟩
      | false =>
        go_wp2_with fail
        go_roundw
        case rel =>
          refine ⟨k + 1, by omega, by go_num, ?_, hbw1, hkw1⟩
          show ∀ y ∈ l.take (k + 1), p y = false
          intro y hy
          rw [HTK.out] at hy
          rcases List.mem_append.1 hy with hy | hy
          · exact hno.out y hy
          · simp at hy; subst hy; exact HBX.out.symm
        case measure => simp [intOf]; omega
    · have hkn : k = n := by omega
      have HF : Hid (firstI p l = -1) := by
        show _ = _
        unfold firstI
        rw [firstP_none p l (fun y hy => hno.out y (by rw [List.take_of_length_le (by rw [hkn, HN.out]; exact Nat.le_refl _)]; exact hy)), if_neg (Nat.lt_irrefl _)]
      clear hr hkn
      go_wp2_with fail
      go_ret
      exact ⟨by rw [HF.out]; rfl, hbw⟩
set_option maxRecDepth 100000 in
theorem findC_any (s : BS) (v1 v2 v3 v4 : Value) (p : BS) (pb : Nat) (w : World) (hpb : pb < w.heap.size) (hk : w.cell? ⟨pb, 0, none⟩ = some (.string ⟨p.toArray⟩)) :
    Calls Tryz.prog 80 #[.agg #[.string ⟨s.toArray⟩, v1, v2, v3, v4], .pointer (some ⟨pb, 0, none⟩)] w fun e w' => e = .returned (.bool (s == p)) ∧ Below w.heap.size w w' := by
  have hk1 := (World.cell?_alloc_lt w (.cells #[.string ⟨s.toArray⟩, v1, v2, v3, v4] 61) ⟨pb, 0, none⟩ hpb).trans hk
  have hb := (Below.refl w.heap.size w).alloc (Nat.le_refl _) (.cells #[.string ⟨s.toArray⟩, v1, v2, v3, v4] 61)
  go_enter Tryz.func80, Tryz.ntmps80
  go_wp2_with fail
  all_goals go_ret
  all_goals refine ⟨congrArg Ending.returned (congrArg Value.bool ?_), hb⟩
  all_goals simp_all
set_option maxRecDepth 100000 in
theorem snapC_any (s : BS) (v1 v2 v3 v4 : Value) (p : BS) (pb : Nat) (w : World) (hpb : pb < w.heap.size) (hk : w.cell? ⟨pb, 0, none⟩ = some (.string ⟨p.toArray⟩)) :
    Calls Tryz.prog 126 #[.agg #[.string ⟨s.toArray⟩, v1, v2, v3, v4], .pointer (some ⟨pb, 0, none⟩)] w fun e w' => e = .returned (.bool (s == p)) ∧ Below w.heap.size w w' := by
  have hk1 := (World.cell?_alloc_lt w (.cells #[.string ⟨s.toArray⟩, v1, v2, v3, v4] 66) ⟨pb, 0, none⟩ hpb).trans hk
  have hb := (Below.refl w.heap.size w).alloc (Nat.le_refl _) (.cells #[.string ⟨s.toArray⟩, v1, v2, v3, v4] 66)
  go_enter Tryz.func126, Tryz.ntmps126
  go_wp2_with fail
  all_goals go_ret
  all_goals refine ⟨congrArg Ending.returned (congrArg Value.bool ?_), hb⟩
  all_goals simp_all
set_option maxRecDepth 100000 in
set_option maxHeartbeats 1000000 in
theorem find_any (v0 v1 v2 v4 v5 v6 : Value) (l : List SetR) (n : Nat) (hnl : n = l.length) (A : Option Addr) (c : Nat) (p : BS) (w : World) (B : Nat) (hr : Reads w B 5 A n (cellsK encSet l)) (hB : B ≤ w.heap.size) (hn : n ≤ 5000000000000) :
    Calls Tryz.prog 28 #[.agg #[v0, v1, v2, .slice A n c, v4, v5, v6], .string ⟨p.toArray⟩] w fun e w' => e = .returned (.int .i64 (findS l p)) ∧ Below w.heap.size w w' := by
  have hb1 := (Below.refl w.heap.size w).alloc (Nat.le_refl _) (.cells #[v0, v1, v2, .slice A n c, v4, v5, v6] 27)
  have hb2 := hb1.alloc hb1.size (.cells #[.string ⟨p.toArray⟩] 9)
  obtain ⟨W2, hW2⟩ : ∃ W, W = (w.alloc (.cells #[v0, v1, v2, .slice A n c, v4, v5, v6] 27)).alloc (.cells #[.string ⟨p.toArray⟩] 9) := ⟨_, rfl⟩
  have hsz : W2.heap.size = w.heap.size + 2 := by rw [hW2]; simp
  have hk : W2.cell? ⟨w.heap.size + 1, 0, none⟩ = some (.string ⟨p.toArray⟩) := by
    rw [hW2]
    have := (Blk.new (w.alloc (.cells #[v0, v1, v2, .slice A n c, v4, v5, v6] 27)) 9 #[.string ⟨p.toArray⟩]).cell 0
    rw [show (w.alloc (.cells #[v0, v1, v2, .slice A n c, v4, v5, v6] 27)).heap.size = w.heap.size + 1 by simp] at this
    exact this
  rw [← hW2] at hb2
  have HC := Lib.hid (fiSet_index (fun x => .string ⟨x.path.toArray⟩) (fun x => .string ⟨x.org.toArray⟩) (fun x => .slice x.body.A x.body.n x.body.c) (fun x => .slice x.snaps.A x.snaps.n x.snaps.c) (fun x => .slice x.own.A x.own.n x.own.c) (fun x => x.path == p) l n hnl A c ⟨w.heap.size + 1, 0, none⟩ (fun W => W.cell? ⟨w.heap.size + 1, 0, none⟩ = some (.string ⟨p.toArray⟩) ∧ w.heap.size + 1 < W.heap.size) W2 B (hr.below (hb2.mono hB)) (by omega) hn
    ⟨fun x W _ hK => findC_any x.path _ _ _ _ p _ W hK.2 hK.1, fun W W' hK hb => ⟨(hb.cell (p := ⟨w.heap.size + 1, 0, none⟩) hK.2).trans hK.1, Nat.lt_of_lt_of_le hK.2 hb.size⟩⟩ ⟨hk, by omega⟩)
  have HB := Lib.hid hb2
  have HSZ := Lib.hid hsz
  clear hnl hr hk hsz hb1 hb2
  go_enter Tryz.func28, Tryz.ntmps28
  go_wp2_with fail
  rw [← hW2]
  refine HC.out.mono ?_
  rintro e w1 ⟨rfl, hb3⟩
  go_wp2_with fail
  go_ret
  exact ⟨rfl, HB.out.trans (hb3.mono (by have := HSZ.out; omega))⟩
set_option maxRecDepth 100000 in
set_option maxHeartbeats 1000000 in
theorem snapAt_any (v0 v1 v2 v4 : Value) (l : List SnapR) (n : Nat) (hnl : n = l.length) (A : Option Addr) (c : Nat) (p : BS) (w : World) (B : Nat) (hr : Reads w B 5 A n (cellsK encSnap l)) (hB : B ≤ w.heap.size) (hn : n ≤ 5000000000000) :
    Calls Tryz.prog 76 #[.agg #[v0, v1, v2, .slice A n c, v4], .string ⟨p.toArray⟩] w fun e w' => e = .returned (.int .i64 (findN l p)) ∧ Below w.heap.size w w' := by
  have hb1 := (Below.refl w.heap.size w).alloc (Nat.le_refl _) (.cells #[v0, v1, v2, .slice A n c, v4] 61)
  have hb2 := hb1.alloc hb1.size (.cells #[.string ⟨p.toArray⟩] 9)
  obtain ⟨W2, hW2⟩ : ∃ W, W = (w.alloc (.cells #[v0, v1, v2, .slice A n c, v4] 61)).alloc (.cells #[.string ⟨p.toArray⟩] 9) := ⟨_, rfl⟩
  have hsz : W2.heap.size = w.heap.size + 2 := by rw [hW2]; simp
  have hk : W2.cell? ⟨w.heap.size + 1, 0, none⟩ = some (.string ⟨p.toArray⟩) := by
    rw [hW2]
    have := (Blk.new (w.alloc (.cells #[v0, v1, v2, .slice A n c, v4] 61)) 9 #[.string ⟨p.toArray⟩]).cell 0
    rw [show (w.alloc (.cells #[v0, v1, v2, .slice A n c, v4] 61)).heap.size = w.heap.size + 1 by simp] at this
    exact this
  rw [← hW2] at hb2
  have HC := Lib.hid (fiSnap_index (fun x => .string ⟨x.nm.toArray⟩) (fun x => .int .i64 x.gd) (fun x => .slice x.body.A x.body.n x.body.c) (fun x => .slice x.tags.A x.tags.n x.tags.c) (fun x => .slice x.own.A x.own.n x.own.c) (fun x => x.nm == p) l n hnl A c ⟨w.heap.size + 1, 0, none⟩ (fun W => W.cell? ⟨w.heap.size + 1, 0, none⟩ = some (.string ⟨p.toArray⟩) ∧ w.heap.size + 1 < W.heap.size) W2 B (hr.below (hb2.mono hB)) (by omega) hn
    ⟨fun x W _ hK => snapC_any x.nm _ _ _ _ p _ W hK.2 hK.1, fun W W' hK hb => ⟨(hb.cell (p := ⟨w.heap.size + 1, 0, none⟩) hK.2).trans hK.1, Nat.lt_of_lt_of_le hK.2 hb.size⟩⟩ ⟨hk, by omega⟩)
  have HB := Lib.hid hb2
  have HSZ := Lib.hid hsz
  clear hnl hr hk hsz hb1 hb2
  go_enter Tryz.func76, Tryz.ntmps76
  go_wp2_with fail
  rw [← hW2]
  refine HC.out.mono ?_
  rintro e w1 ⟨rfl, hb3⟩
  go_wp2_with fail
  go_ret
  exact ⟨rfl, HB.out.trans (hb3.mono (by have := HSZ.out; omega))⟩
end Go.Proofs.YtbppdlhbjddhjaaGreatDoor
