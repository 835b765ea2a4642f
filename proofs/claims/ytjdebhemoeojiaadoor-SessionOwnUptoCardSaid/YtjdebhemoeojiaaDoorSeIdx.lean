/-
  slices.IndexFunc at sessions; session.place: by their contracts.
-/
import Derived.Test.YtjdebhemoeojiaaDoorSeChk
import Derived.Test.YtjdebhemoeojiaaDoorPredK
import Derived.Test.YtjdebhemoeojiaaDoorFirst
namespace Go.Proofs.YtjdebhemoeojiaaDoor
open Go.RowKit

theorem firstI_map {α β : Type} (p : β → Bool) (f : α → β) (l : List α) : firstI p (l.map f) = firstI (fun x => p (f x)) l := by
  unfold firstI firstP
  rw [List.takeWhile_map, List.length_map, List.length_map]
  rfl
/-- is it this one? -/
def sesAt (x : BS) (h : Int) (s : SesC) : Bool := s.ten == x && s.hd == h
theorem firstI_cs {α : Type} (p : α → Bool) (l : List α) : (firstI p l = -1 ∧ ∀ y ∈ l, p y = false) ∨ ∃ k, ∃ h : k < l.length, firstI p l = (k : Int) ∧ (∀ y ∈ l.take k, p y = false) ∧ p (l[k]'h) = true := by
  unfold firstI
  have hb := firstP_before p l
  by_cases h : firstP p l < l.length
  · rw [if_pos h]
    refine .inr ⟨firstP p l, h, rfl, hb, ?_⟩
    cases hp : p (l[firstP p l]'h) with
    | true => rfl
    | false =>
      exfalso
      have h1 : ∀ (m : List α) (h : firstP p m < m.length), p (m[firstP p m]'h) = true := by
        intro m
        induction m with
        | nil => intro h; simp at h
        | cons x r ih =>
          intro h
          unfold firstP at h ⊢
          cases hx : p x with
          | true => simp [hx]
          | false =>
            simp only [List.takeWhile_cons, hx, Bool.not_false, if_true, List.length_cons, List.getElem_cons_succ] at h ⊢
            exact ih (by unfold firstP; omega)
      rw [h1 l h] at hp
      cases hp
  · rw [if_neg h]
    refine .inl ⟨rfl, ?_⟩
    rwa [List.take_of_length_le (by omega)] at hb
set_option maxRecDepth 100000 in
set_option maxHeartbeats 1000000 in
theorem place1_any (x : BS) (h : Int) (p0 p1 : Addr) (yt yi : BS) (yh : Int) (yA : Option Addr) (yn yc : Nat) (yb : Bool) (w : World) (k0 : w.cell? p0 = some (.string ⟨x.toArray⟩)) (k1 : w.cell? p1 = some (.int .i64 h)) :
    Calls Tryd.prog 74 #[.agg #[.string ⟨yt.toArray⟩, .int .i64 yh, .string ⟨yi.toArray⟩, .slice yA yn yc, .bool yb], .pointer (some p0), .pointer (some p1)] w fun e w' => e = .returned (.bool (yt == x && yh == h)) ∧ Below w.heap.size w w' := by
  have hl0 := World.block_lt_of_cell? w p0 k0
  have hl1 := World.block_lt_of_cell? w p1 k1
  have hb1 := (Below.refl w.heap.size w).alloc (Nat.le_refl _) (.cells #[.string ⟨yt.toArray⟩, .int .i64 yh, .string ⟨yi.toArray⟩, .slice yA yn yc, .bool yb] 33)
  obtain ⟨W1, hW1⟩ : ∃ W, W = w.alloc (.cells #[.string ⟨yt.toArray⟩, .int .i64 yh, .string ⟨yi.toArray⟩, .slice yA yn yc, .bool yb] 33) := ⟨_, rfl⟩
  have q0 := (World.cell?_alloc_lt w (.cells #[.string ⟨yt.toArray⟩, .int .i64 yh, .string ⟨yi.toArray⟩, .slice yA yn yc, .bool yb] 33) p0 hl0).trans k0
  have q1 := (World.cell?_alloc_lt w (.cells #[.string ⟨yt.toArray⟩, .int .i64 yh, .string ⟨yi.toArray⟩, .slice yA yn yc, .bool yb] 33) p1 hl1).trans k1
  by_cases h1 : yt = x
  · have d1 : (yt == x) = true := by simp [h1]
    by_cases h2 : yh = h
    · have d2 : (yh == h) = true := by simp [h2]
      have HV : Hid ((yt == x && yh == h) = true) := by show _ = _; rw [d1, d2]; rfl
      clear h1 h2
      go_enter Tryd.func74, Tryd.ntmps74
      go_wp2_with fail
      go_ret
      exact ⟨by rw [HV.out]; rfl, hb1⟩
    · have d2 : (yh == h) = false := by simp [h2]
      have HV : Hid ((yt == x && yh == h) = false) := by show _ = _; rw [d1, d2]; rfl
      clear h1 h2
      go_enter Tryd.func74, Tryd.ntmps74
      go_wp2_with fail
      go_ret
      exact ⟨by rw [HV.out]; rfl, hb1⟩
  · have d1 : (yt == x) = false := by simp [h1]
    have HV : Hid ((yt == x && yh == h) = false) := by show _ = _; rw [d1]; rfl
    clear h1
    go_enter Tryd.func74, Tryd.ntmps74
    go_wp2_with fail
    go_ret
    exact ⟨by rw [HV.out]; rfl, hb1⟩
set_option maxRecDepth 100000 in
set_option maxHeartbeats 1000000 in
theorem idxT_any {α : Type} (f0 f1 f2 f3 f4 : α → Value) (p : α → Bool) (l : List α) (n : Nat) (hnl : n = l.length) (A : Option Addr) (c : Nat) (p0 p1 : Addr) (Keep : World → Prop) (w : World) (B : Nat)
    (hr : Reads w B 5 A n (cellsK (fun x => [f0 x, f1 x, f2 x, f3 x, f4 x]) l)) (hB : B ≤ w.heap.size) (hn : n ≤ 5000000000000) (hp : PredK Tryd.prog 74 #[.pointer (some p0), .pointer (some p1)] (fun x => #[f0 x, f1 x, f2 x, f3 x, f4 x]) (· ∈ l) p Keep) (hk0 : Keep w) :
    Calls Tryd.prog 73 #[.slice A n c, .func (.func 74) #[] #[.pointer (some p0), .pointer (some p1)]] w fun e w' => e = .returned (.int .i64 (firstI p l)) ∧ Below w.heap.size w w' := by
  have HN := Lib.hid hnl
  have HP := Lib.hid hp
  clear hnl hp
  go_enter Tryd.func73, Tryd.ntmps73
  go_wp2_with fail
  go_loopw [8] (fun j wr => ∃ k : Nat, k ≤ n ∧ j = .int .i64 (k : Int) ∧ Hid (∀ y ∈ l.take k, p y = false) ∧ Below w.heap.size w wr ∧ Keep wr) (fun j _ => n - (intOf j).toNat)
  case atStart => exact ⟨0, Nat.zero_le _, rfl, (show ∀ y ∈ _, _ by simp), Below.refl _ _, hk0⟩
  case round =>
    obtain ⟨k, hk, rfl, hno, hbw, hkw⟩ := hrel
    by_cases hlt : k < n
    · have hki : (k : Int) < (n : Int) := by omega
      have hkl : k < l.length := by have := HN.out; omega
      obtain ⟨ad, rfl, _, c0, c1, c2, c3, c4⟩ := (hr.below (hbw.mono hB)).el5 HN.out hlt
      obtain ⟨x, hx⟩ : ∃ x, x = l[k]'hkl := ⟨_, rfl⟩
      rw [← hx] at c0 c1 c2 c3 c4
      have htk := List.take_succ_eq_append_getElem hkl
      rw [← hx] at htk
      have HTK := Lib.hid htk
      have HX := Lib.hid (show l[k]? = some x by rw [hx]; exact List.getElem?_eq_getElem _)
      have hc := HP.out.call x wr (List.mem_of_getElem? HX.out) hkw
      obtain ⟨b, hb⟩ : ∃ b, b = p x := ⟨_, rfl⟩
      rw [← hb] at hc
      have HBX := Lib.hid hb
      simp only [List.append_toArray, List.cons_append, List.nil_append] at hc
      clear hx htk hr hb
      go_wp2_with fail
      refine hc.mono ?_
      clear hc
      rintro e w1 ⟨rfl, hb1⟩
      have hkw1 := HP.out.below wr w1 hkw hb1
      have hbw1 := hbw.trans (hb1.mono hbw.size)
      cases b with
      | true =>
        go_wp2_with fail
        go_ret
        have hf := firstP_eq p l k x hno.out HX.out HBX.out.symm
        exact ⟨by unfold firstI; rw [hf, if_pos hkl]; rfl, hbw1⟩
      | false =>
        go_wp2_with fail
        go_roundw
        case rel =>
          refine ⟨k + 1, by omega, by go_num, ?_, hbw1, hkw1⟩
          show ∀ y ∈ l.take (k + 1), p y = false
          intro y hy
          rw [HTK.out] at hy
          rcases List.mem_append.1 hy with hy | hy
          · exact hno.out y hy
          · simp at hy; subst hy; exact HBX.out.symm
        case measure => simp [intOf]; omega
    · have hkn : k = n := by omega
      have HF : Hid (firstI p l = -1) := by
        show _ = _
        unfold firstI
        rw [firstP_none p l (fun y hy => hno.out y (by rw [List.take_of_length_le (by rw [hkn, HN.out]; exact Nat.le_refl _)]; exact hy)), if_neg (Nat.lt_irrefl _)]
      clear hr hkn
      go_wp2_with fail
      go_ret
      exact ⟨by rw [HF.out]; rfl, hbw⟩
/-- where a session stands -/
def placeI (t : TabC) (x : BS) (h : Int) : Int × Int :=
  if tabE t = 9 then (0, 9) else if firstI (sesAt x h) t.opn < 0 then (0, 72) else (firstI (sesAt x h) t.opn, 0)
theorem tabE_09 (t : TabC) : tabE t = 0 ∨ tabE t = 9 := by unfold tabE; split <;> simp
set_option maxRecDepth 100000 in
set_option maxHeartbeats 2000000 in
theorem place_any (t : TabR) (x : BS) (h : Int) (w : World) (B : Nat) (hr : t.rd w B) (hB : B ≤ w.heap.size) (hz : t.sz) (hmx : HasMax w) :
    Calls Tryd.prog 38 #[t.val, .string ⟨x.toArray⟩, .int .i64 h] w fun e w' => e = .returned (.tuple #[.int .i64 (placeI t.con x h).1, .int .i64 (placeI t.con x h).2]) ∧ Below w.heap.size w w' := by
  have hCk := fun W (hb : Below w.heap.size w W) => check_any t W B (hr.below (hb.mono hB)) (Nat.le_trans hB hb.size) hz (hmx.below hb)
  obtain ⟨V, hV⟩ : ∃ V, V = placeI t.con x h := ⟨_, rfl⟩
  rw [← hV]
  obtain ⟨T, hT0⟩ : ∃ T, T = t.con := ⟨_, rfl⟩
  have hTo : T.opn = t.opn.l.map SesR.con := by rw [hT0]; rfl
  rw [← hT0] at hCk hV
  clear hT0
  obtain ⟨⟨oA, on, oc, ol⟩, ⟨dA, dn, dc, dl⟩⟩ := t
  have hsz : on ≤ 1000000000 := hz.opn
  have hrh : Reads w B 5 oA on (cellsK encSes ol) := hr.opn.2.2
  have hnl : on = ol.length := hr.opn.1
  show Calls Tryd.prog 38 #[.agg #[.slice oA on oc, .slice dA dn dc], .string ⟨x.toArray⟩, .int .i64 h] w _
  have hb1 := (Below.refl w.heap.size w).alloc (Nat.le_refl _) (.cells #[.slice oA on oc, .slice dA dn dc] 25)
  have kT := Blk.new w 25 #[.slice oA on oc, .slice dA dn dc]
  obtain ⟨W1, hW1⟩ : ∃ W, W = w.alloc (.cells #[.slice oA on oc, .slice dA dn dc] 25) := ⟨_, rfl⟩
  have hsz1 : W1.heap.size = w.heap.size + 1 := by rw [hW1]; simp
  rw [← hW1] at hb1 kT
  have hT := Lib.hid (fun (W' : World) (hB' : Below W1.heap.size W1 W') => (⟨(kT.below hB' (by omega)).cell 0, (kT.below hB' (by omega)).cell 1⟩ : W'.cell? ⟨w.heap.size, 0, none⟩ = some (.slice oA on oc) ∧ W'.cell? ⟨w.heap.size, 1, none⟩ = some (.slice dA dn dc)))
  have kT2 := kT.below ((Below.refl _ _).alloc (Nat.le_refl _) (.cells #[.string ⟨x.toArray⟩] 9)) (by omega)
  have e1 : (W1.alloc (.cells #[.string ⟨x.toArray⟩] 9)).heap.size = w.heap.size + 2 := by simp; omega
  have kX := Blk.new W1 9 #[.string ⟨x.toArray⟩]
  rw [hsz1] at kX
  obtain ⟨W0, hW0⟩ : ∃ W, W = (W1.alloc (.cells #[.string ⟨x.toArray⟩] 9)).alloc (.cells #[.int .i64 h] 3) := ⟨_, rfl⟩
  have kX2 := kX.alloc (.cells #[.int .i64 h] 3)
  have kT3 := kT2.alloc (.cells #[.int .i64 h] 3)
  have kH := Blk.new (W1.alloc (.cells #[.string ⟨x.toArray⟩] 9)) 3 #[.int .i64 h]
  rw [e1] at kH
  have hb0 : Below w.heap.size w W0 := by rw [hW0]; exact (hb1.alloc hb1.size _).alloc (by rw [e1]; omega) _
  rw [← hW0] at kX2 kT3 kH
  have hsz0 : W0.heap.size = w.heap.size + 3 := by rw [hW0]; show (World.heap _ |>.push _).size = _; rw [Array.size_push, e1]
  have hS := Lib.hid (fun (W' : World) (hB' : Below W0.heap.size W0 W') => (⟨(kT3.below hB' (by omega)).cell 0, (kT3.below hB' (by omega)).cell 1, (kX2.below hB' (by omega)).cell 0, (kH.below hB' (by omega)).cell 0⟩ : W'.cell? ⟨w.heap.size, 0, none⟩ = some (.slice oA on oc) ∧ W'.cell? ⟨w.heap.size, 1, none⟩ = some (.slice dA dn dc) ∧ W'.cell? ⟨w.heap.size + 1, 0, none⟩ = some (.string ⟨x.toArray⟩) ∧ W'.cell? ⟨w.heap.size + 2, 0, none⟩ = some (.int .i64 h)))
  have HUP : Hid (∀ W, Below W0.heap.size W0 W → Below w.heap.size w W) := fun W h => hb0.trans (h.mono (by omega))
  have hCk : Hid (∀ W, Below W0.heap.size W0 W → Calls Tryd.prog 29 #[.agg #[.slice oA on oc, .slice dA dn dc]] W fun e W' => e = .returned (.int .i64 (tabE T)) ∧ Below W.heap.size W W') := fun W h => hCk W (HUP.out W h)
  have hIx : Hid (∀ W, Below W0.heap.size W0 W → Calls Tryd.prog 73 #[.slice oA on oc, .func (.func 74) #[] #[.pointer (some ⟨w.heap.size + 1, 0, none⟩), .pointer (some ⟨w.heap.size + 2, 0, none⟩)]] W fun e W' => e = .returned (.int .i64 (firstI (sesAt x h) T.opn)) ∧ Below W.heap.size W W') := by
    show ∀ W, _ → _
    intro W hb
    rw [hTo, firstI_map]
    refine idxT_any (fun s : SesR => .string ⟨s.ten.toArray⟩) (fun s => .int .i64 s.hd) (fun s => .string ⟨s.into.toArray⟩) (fun s => .slice s.rest.A s.rest.n s.rest.c) (fun s => .bool s.bad) (fun s => sesAt x h s.con) ol on hnl oA oc ⟨w.heap.size + 1, 0, none⟩ ⟨w.heap.size + 2, 0, none⟩ (fun W => W.cell? ⟨w.heap.size + 1, 0, none⟩ = some (.string ⟨x.toArray⟩) ∧ W.cell? ⟨w.heap.size + 2, 0, none⟩ = some (.int .i64 h)) W B (hrh.below ((HUP.out W hb).mono hB)) (Nat.le_trans hB (HUP.out W hb).size) (by omega) ⟨?_, ?_⟩ ⟨(hS.out W hb).2.2.1, (hS.out W hb).2.2.2⟩
    · intro s W2 _ hk
      exact place1_any x h _ _ s.ten s.into s.hd s.rest.A s.rest.n s.rest.c s.bad W2 hk.1 hk.2
    · rintro W2 W3 ⟨k0, k1⟩ hb2
      exact ⟨(hb2.cell (World.block_lt_of_cell? W2 _ k0)).trans k0, (hb2.cell (World.block_lt_of_cell? W2 _ k1)).trans k1⟩
  have h2 := tabE_09 T
  obtain ⟨E, hE⟩ : ∃ E, E = tabE T := ⟨_, rfl⟩
  rw [← hE] at h2 hCk
  obtain ⟨z, hz0⟩ : ∃ z, z = firstI (sesAt x h) T.opn := ⟨_, rfl⟩
  rw [← hz0] at hIx
  have HV : Hid (V = if E = 9 then (0, 9) else if z < 0 then (0, 72) else (z, 0)) := by show _ = _; rw [hV, hE, hz0]; rfl
  have hc := hCk.out _ (Below.refl _ _)
  obtain ⟨c0, c1, c2, c3⟩ := hS.out _ (Below.refl _ _)
  rw [hW0, hW1] at c0 c1 c2 c3
  clear kT kT2 kT3 kX kX2 kH hb1 hb0 e1 hsz1 hsz0 hCk hV hTo hE hz0 hr hz hmx hrh hnl
  go_enter Tryd.func38, Tryd.ntmps38
  go_wp2_with fail
  rw [← hW1, ← hW0]
  refine hc.mono ?_
  clear hc c0 c1 c2 c3 hW0 hW1
  rintro e w2 ⟨rfl, hb2⟩
  have HB2 := Lib.hid hb2
  obtain ⟨c0, c1, c2, c3⟩ := hS.out _ hb2
  clear hb2
  rcases h2 with rfl | rfl
  · have hc := hIx.out _ HB2.out
    go_wp2_with fail
    refine hc.mono ?_
    clear hc c0 c1 c2 c3
    rintro e w3 ⟨rfl, hb3⟩
    have HB3 := Lib.hid (HUP.out _ (HB2.out.trans (hb3.mono HB2.out.size)))
    by_cases hz : z < 0
    · have HF : Hid (V = (0, 72)) := by show _ = _; rw [HV.out, if_neg (by decide), if_pos hz]
      go_wp2_with fail
      refine bodyPost_ret (v := .tuple #[.int .i64 0, .int .i64 72]) (by simp [results, Tryd.results38, go_sem]) rfl ⟨?_, HB3.out⟩
      rw [HF.out]
    · have HF : Hid (V = (z, 0)) := by show _ = _; rw [HV.out, if_neg (by decide), if_neg hz]
      go_wp2_with fail
      refine bodyPost_ret (v := .tuple #[.int .i64 z, .int .i64 0]) (by simp [results, Tryd.results38, go_sem]) rfl ⟨?_, HB3.out⟩
      rw [HF.out]
  · have HF : Hid (V = (0, 9)) := by show _ = _; rw [HV.out, if_pos rfl]
    have HB3 := Lib.hid (HUP.out _ HB2.out)
    go_wp2_with fail
    refine bodyPost_ret (v := .tuple #[.int .i64 0, .int .i64 9]) (by simp [results, Tryd.results38, go_sem]) rfl ⟨?_, HB3.out⟩
    rw [HF.out]
end Go.Proofs.YtjdebhemoeojiaaDoor
