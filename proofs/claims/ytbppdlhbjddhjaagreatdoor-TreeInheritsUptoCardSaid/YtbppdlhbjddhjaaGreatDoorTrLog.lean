/-
  tree.odd; slices.IndexFunc and ContainsFunc at entries: by their contracts.
-/
import Derived.Test.YtbppdlhbjddhjaaGreatDoorTrStg
namespace Go.Proofs.YtbppdlhbjddhjaaGreatDoor
open Go.RowKit

def entryP (us : BS) (kd : Int) (pa : BS) (er : Int) : Bool := (us == [] || nameB us) && pathB pa && amt kd 0 && amt er 0
theorem entryB_P (x : EntryR) : entryB x = entryP x.user x.kind x.path x.err := rfl
set_option maxRecDepth 100000 in
set_option maxHeartbeats 2000000 in
theorem odd14_any (us : BS) (kd : Int) (pa : BS) (er : Int) (w : World) (hpa : pa.length ≤ 4000000000) (hmx : HasMax w) :
    Calls Tryz.prog 87 #[.agg #[.string ⟨us.toArray⟩, .int .i64 kd, .string ⟨pa.toArray⟩, .int .i64 er]] w fun e w' => e = .returned (.bool (!(entryP us kd pa er))) ∧ Below w.heap.size w w' := by
  have hb1 := (Below.refl w.heap.size w).alloc (Nat.le_refl _) (.cells #[.string ⟨us.toArray⟩, .int .i64 kd, .string ⟨pa.toArray⟩, .int .i64 er] 83)
  have kT := Blk.new w 83 #[.string ⟨us.toArray⟩, .int .i64 kd, .string ⟨pa.toArray⟩, .int .i64 er]
  obtain ⟨W1, hW1⟩ : ∃ W, W = w.alloc (.cells #[.string ⟨us.toArray⟩, .int .i64 kd, .string ⟨pa.toArray⟩, .int .i64 er] 83) := ⟨_, rfl⟩
  have hsz1 : W1.heap.size = w.heap.size + 1 := by rw [hW1]; simp
  rw [← hW1] at hb1 kT
  have hT := Lib.hid (fun (W' : World) (hB' : Below W1.heap.size W1 W') => (⟨(kT.below hB' (by omega)).cell 0, (kT.below hB' (by omega)).cell 1, (kT.below hB' (by omega)).cell 2, (kT.below hB' (by omega)).cell 3⟩ : W'.cell? ⟨w.heap.size, 0, none⟩ = some (.string ⟨us.toArray⟩) ∧ W'.cell? ⟨w.heap.size, 1, none⟩ = some (.int .i64 kd) ∧ W'.cell? ⟨w.heap.size, 2, none⟩ = some (.string ⟨pa.toArray⟩) ∧ W'.cell? ⟨w.heap.size, 3, none⟩ = some (.int .i64 er)))
  have hN : Hid (∀ W, Below W1.heap.size W1 W → Calls Tryz.prog 81 #[.string ⟨us.toArray⟩] W fun e W' => e = .returned (.bool (nameB us)) ∧ Below W.heap.size W W') := fun W _ => name_any ⟨us.toArray⟩ W
  have hP : Hid (∀ W, Below W1.heap.size W1 W → Calls Tryz.prog 57 #[.string ⟨pa.toArray⟩] W fun e W' => e = .returned (.bool (pathB pa)) ∧ Below W.heap.size W W') := fun W hb => path_any ⟨pa.toArray⟩ W (by show pa.length ≤ _; exact hpa) (hmx.below (hb1.trans (hb.mono (by omega))))
  have hA0 : Hid (∀ W, Below W1.heap.size W1 W → Calls Tryz.prog 82 #[.int .i64 kd, .int .i64 0] W fun e W' => e = .returned (.bool (amt kd 0)) ∧ Below W.heap.size W W') := fun W _ => amountB_any kd 0 W
  have hA1 : Hid (∀ W, Below W1.heap.size W1 W → Calls Tryz.prog 82 #[.int .i64 er, .int .i64 0] W fun e W' => e = .returned (.bool (amt er 0)) ∧ Below W.heap.size W W') := fun W _ => amountB_any er 0 W
  have HV : Hid ((!(entryP us kd pa er)) = !((us == [] || nameB us) && (pathB pa && (amt kd 0 && amt er 0)))) := by
    show _ = _
    unfold entryP
    simp only [Bool.and_assoc]
  obtain ⟨V, hV⟩ : ∃ V, V = (!(entryP us kd pa er)) := ⟨_, rfl⟩
  obtain ⟨bN, hbN⟩ : ∃ V, V = nameB us := ⟨_, rfl⟩
  obtain ⟨bP, hbP⟩ : ∃ V, V = pathB pa := ⟨_, rfl⟩
  obtain ⟨bA, hbA⟩ : ∃ V, V = amt kd 0 := ⟨_, rfl⟩
  obtain ⟨bX, hbX⟩ : ∃ V, V = amt er 0 := ⟨_, rfl⟩
  rw [← hV] at HV ⊢
  rw [← hbN] at HV hN
  rw [← hbP] at HV hP
  rw [← hbA] at HV hA0
  rw [← hbX] at HV hA1
  have HB1 := Lib.hid hb1
  have HSZ1 := Lib.hid hsz1
  clear hV hbN hbA hbP hbX hb1 hsz1 kT
  have hW0 := Below.refl W1.heap.size W1
  by_cases hu : us = []
  · subst hu
    have HV : Hid (V = !(true && (bP && (bA && bX)))) := by show _ = _; rw [HV.out]; rfl
    go_enter Tryz.func87, Tryz.ntmps87
    have hc := hP.out _ hW0
    cases bP with
    | false =>
      go_wp2_with fail
      rw [← hW1]
      refine hc.mono ?_
      clear hc
      rintro e w11 ⟨rfl, hbw11⟩
      have hWw11 := hW0.trans (hbw11.mono hW0.size)
      clear hbw11 
      obtain ⟨t0, t1, t2, t3⟩ := hT.out _ hWw11
      have HB : Hid (V = true) := by show _ = _; rw [HV.out]; rfl
      go_wp2_with fail
      go_ret
      exact ⟨by rw [HB.out]; rfl, HB1.out.trans (hWw11.mono (by have := HSZ1.out; omega))⟩
    | true =>
      go_wp2_with fail
      rw [← hW1]
      refine hc.mono ?_
      clear hc
      rintro e w11 ⟨rfl, hbw11⟩
      have hWw11 := hW0.trans (hbw11.mono hW0.size)
      clear hbw11 
      obtain ⟨t0, t1, t2, t3⟩ := hT.out _ hWw11
      have hc := hA0.out _ hWw11
      cases bA with
      | false =>
        go_wp2_with fail
        refine hc.mono ?_
        clear hc
        rintro e w12 ⟨rfl, hbw12⟩
        have hWw12 := hWw11.trans (hbw12.mono hWw11.size)
        clear hbw12 
        obtain ⟨t0, t1, t2, t3⟩ := hT.out _ hWw12
        have HB : Hid (V = true) := by show _ = _; rw [HV.out]; rfl
        go_wp2_with fail
        go_ret
        exact ⟨by rw [HB.out]; rfl, HB1.out.trans (hWw12.mono (by have := HSZ1.out; omega))⟩
      | true =>
        go_wp2_with fail
        refine hc.mono ?_
        clear hc
        rintro e w12 ⟨rfl, hbw12⟩
        have hWw12 := hWw11.trans (hbw12.mono hWw11.size)
        clear hbw12 
        obtain ⟨t0, t1, t2, t3⟩ := hT.out _ hWw12
        have hc := hA1.out _ hWw12
        cases bX with
        | false =>
          go_wp2_with fail
          refine hc.mono ?_
          clear hc
          rintro e w13 ⟨rfl, hbw13⟩
          have hWw13 := hWw12.trans (hbw13.mono hWw12.size)
          clear hbw13 
          obtain ⟨t0, t1, t2, t3⟩ := hT.out _ hWw13
          have HB : Hid (V = true) := by show _ = _; rw [HV.out]; rfl
          go_wp2_with fail
          go_ret
          exact ⟨by rw [HB.out]; rfl, HB1.out.trans (hWw13.mono (by have := HSZ1.out; omega))⟩
        | true =>
          go_wp2_with fail
          refine hc.mono ?_
          clear hc
          rintro e w13 ⟨rfl, hbw13⟩
          have hWw13 := hWw12.trans (hbw13.mono hWw12.size)
          clear hbw13 
          obtain ⟨t0, t1, t2, t3⟩ := hT.out _ hWw13
          have HB : Hid (V = false) := by show _ = _; rw [HV.out]; rfl
          go_wp2_with fail
          go_ret
          exact ⟨by rw [HB.out]; rfl, HB1.out.trans (hWw13.mono (by have := HSZ1.out; omega))⟩
  · have hu1 : (us == []) = false := by simpa using hu
    have hu2 : us.isEmpty = false := by cases us <;> simp_all
    have HV : Hid (V = !(bN && (bP && (bA && bX)))) := by show _ = _; rw [HV.out, hu1]; rfl
    clear hu
    go_enter Tryz.func87, Tryz.ntmps87
    have hc := hN.out _ hW0
    cases bN with
    | false =>
      go_wp2_with fail
      rw [← hW1]
      refine hc.mono ?_
      clear hc
      rintro e w11 ⟨rfl, hbw11⟩
      have hWw11 := hW0.trans (hbw11.mono hW0.size)
      clear hbw11 
      obtain ⟨t0, t1, t2, t3⟩ := hT.out _ hWw11
      have HB : Hid (V = true) := by show _ = _; rw [HV.out]; rfl
      go_wp2_with fail
      go_ret
      exact ⟨by rw [HB.out]; rfl, HB1.out.trans (hWw11.mono (by have := HSZ1.out; omega))⟩
    | true =>
      go_wp2_with fail
      rw [← hW1]
      refine hc.mono ?_
      clear hc
      rintro e w11 ⟨rfl, hbw11⟩
      have hWw11 := hW0.trans (hbw11.mono hW0.size)
      clear hbw11 
      obtain ⟨t0, t1, t2, t3⟩ := hT.out _ hWw11
      have hc := hP.out _ hWw11
      cases bP with
      | false =>
        go_wp2_with fail
        refine hc.mono ?_
        clear hc
        rintro e w12 ⟨rfl, hbw12⟩
        have hWw12 := hWw11.trans (hbw12.mono hWw11.size)
        clear hbw12 
        obtain ⟨t0, t1, t2, t3⟩ := hT.out _ hWw12
        have HB : Hid (V = true) := by show _ = _; rw [HV.out]; rfl
        go_wp2_with fail
        go_ret
        exact ⟨by rw [HB.out]; rfl, HB1.out.trans (hWw12.mono (by have := HSZ1.out; omega))⟩
      | true =>
        go_wp2_with fail
        refine hc.mono ?_
        clear hc
        rintro e w12 ⟨rfl, hbw12⟩
        have hWw12 := hWw11.trans (hbw12.mono hWw11.size)
        clear hbw12 
        obtain ⟨t0, t1, t2, t3⟩ := hT.out _ hWw12
        have hc := hA0.out _ hWw12
        cases bA with
        | false =>
          go_wp2_with fail
          refine hc.mono ?_
          clear hc
          rintro e w13 ⟨rfl, hbw13⟩
          have hWw13 := hWw12.trans (hbw13.mono hWw12.size)
          clear hbw13 
          obtain ⟨t0, t1, t2, t3⟩ := hT.out _ hWw13
          have HB : Hid (V = true) := by show _ = _; rw [HV.out]; rfl
          go_wp2_with fail
          go_ret
          exact ⟨by rw [HB.out]; rfl, HB1.out.trans (hWw13.mono (by have := HSZ1.out; omega))⟩
        | true =>
          go_wp2_with fail
          refine hc.mono ?_
          clear hc
          rintro e w13 ⟨rfl, hbw13⟩
          have hWw13 := hWw12.trans (hbw13.mono hWw12.size)
          clear hbw13 
          obtain ⟨t0, t1, t2, t3⟩ := hT.out _ hWw13
          have hc := hA1.out _ hWw13
          cases bX with
          | false =>
            go_wp2_with fail
            refine hc.mono ?_
            clear hc
            rintro e w14 ⟨rfl, hbw14⟩
            have hWw14 := hWw13.trans (hbw14.mono hWw13.size)
            clear hbw14 
            obtain ⟨t0, t1, t2, t3⟩ := hT.out _ hWw14
            have HB : Hid (V = true) := by show _ = _; rw [HV.out]; rfl
            go_wp2_with fail
            go_ret
            exact ⟨by rw [HB.out]; rfl, HB1.out.trans (hWw14.mono (by have := HSZ1.out; omega))⟩
          | true =>
            go_wp2_with fail
            refine hc.mono ?_
            clear hc
            rintro e w14 ⟨rfl, hbw14⟩
            have hWw14 := hWw13.trans (hbw14.mono hWw13.size)
            clear hbw14 
            obtain ⟨t0, t1, t2, t3⟩ := hT.out _ hWw14
            have HB : Hid (V = false) := by show _ = _; rw [HV.out]; rfl
            go_wp2_with fail
            go_ret
            exact ⟨by rw [HB.out]; rfl, HB1.out.trans (hWw14.mono (by have := HSZ1.out; omega))⟩
set_option maxRecDepth 100000 in
set_option maxHeartbeats 1000000 in
theorem fiEnt_index {α : Type} (f0 f1 f2 f3 : α → Value) (p : α → Bool) (l : List α) (n : Nat) (hnl : n = l.length) (A : Option Addr) (c : Nat) (Keep : World → Prop) (w : World) (B : Nat)
    (hr : Reads w B 4 A n (cellsK (fun x => [f0 x, f1 x, f2 x, f3 x]) l)) (hB : B ≤ w.heap.size) (hn : n ≤ 5000000000000) (hp : PredK Tryz.prog 87 #[] (fun x => #[f0 x, f1 x, f2 x, f3 x]) (· ∈ l) p Keep) (hk0 : Keep w) :
    Calls Tryz.prog 137 #[.slice A n c, .func (.func 87) #[] #[]] w fun e w' => e = .returned (.int .i64 (firstI p l)) ∧ Below w.heap.size w w' := by
  have HN := Lib.hid hnl
  have HP := Lib.hid hp
  clear hnl hp
  go_enter Tryz.func137, Tryz.ntmps137
  go_wp2_with fail
  go_loopw [8] (fun j wr => ∃ k : Nat, k ≤ n ∧ j = .int .i64 (k : Int) ∧ Hid (∀ y ∈ l.take k, p y = false) ∧ Below w.heap.size w wr ∧ Keep wr) (fun j _ => n - (intOf j).toNat)
  case atStart => exact ⟨0, Nat.zero_le _, rfl, (show ∀ y ∈ _, _ by simp), Below.refl _ _, hk0⟩
  case round =>
    obtain ⟨k, hk, rfl, hno, hbw, hkw⟩ := hrel
    by_cases hlt : k < n
    · have hki : (k : Int) < (n : Int) := by omega
      have hkl : k < l.length := by have := HN.out; omega
      obtain ⟨ad, rfl, _, c0, c1, c2, c3⟩ := (hr.below (hbw.mono hB)).el4 HN.out hlt
      obtain ⟨x, hx⟩ : ∃ x, x = l[k]'hkl := ⟨_, rfl⟩
      rw [← hx] at c0 c1 c2 c3
      have htk := List.take_succ_eq_append_getElem hkl
      rw [← hx] at htk
      have HTK := Lib.hid htk
      have HX := Lib.hid (show l[k]? = some x by rw [hx]; exact List.getElem?_eq_getElem _)
      have hc := HP.out.call x wr (List.mem_of_getElem? HX.out) hkw
      obtain ⟨b, hb⟩ : ∃ b, b = p x := ⟨_, rfl⟩
      rw [← hb] at hc
      have HBX := Lib.hid hb
      simp only [List.append_toArray, List.cons_append, List.nil_append] at hc
      clear hx htk hr hb
      go_wp2_with fail
      refine hc.mono ?_
      clear hc
      rintro e w1 ⟨rfl, hb1⟩
      have hkw1 := HP.out.below wr w1 hkw hb1
      have hbw1 := hbw.trans (hb1.mono hbw.size)
      cases b with
      | true =>
        go_wp2_with fail
        go_ret
        have hf := firstP_eq p l k x hno.out HX.out HBX.out.symm
        exact ⟨by unfold firstI; rw [hf, if_pos hkl]; rfl, hbw1⟩
      | false =>
        go_wp2_with fail
        go_roundw
        case rel =>
          refine ⟨k + 1, by omega, by go_num, ?_, hbw1, hkw1⟩
          show ∀ y ∈ l.take (k + 1), p y = false
          intro y hy
          rw [HTK.out] at hy
          rcases List.mem_append.1 hy with hy | hy
          · exact hno.out y hy
          · simp at hy; subst hy; exact HBX.out.symm
        case measure => simp [intOf]; omega
    · have hkn : k = n := by omega
      have HF : Hid (firstI p l = -1) := by
        show _ = _
        unfold firstI
        rw [firstP_none p l (fun y hy => hno.out y (by rw [List.take_of_length_le (by rw [hkn, HN.out]; exact Nat.le_refl _)]; exact hy)), if_neg (Nat.lt_irrefl _)]
      clear hr hkn
      go_wp2_with fail
      go_ret
      exact ⟨by rw [HF.out]; rfl, hbw⟩
set_option maxRecDepth 100000 in
theorem oddLog_any (l : List EntryR) (n : Nat) (hnl : n = l.length) (A : Option Addr) (c : Nat) (w : World) (B : Nat) (hr : Reads w B 4 A n (cellsK encEntry l)) (hB : B ≤ w.heap.size) (hn : n ≤ 1000000000000) (hv : ∀ y ∈ l, y.sz) (hmx : HasMax w) :
    Calls Tryz.prog 86 #[.slice A n c, .func (.func 87) #[] #[]] w fun e w' => e = .returned (.bool (!(l.all entryB))) ∧ Below w.heap.size w w' := by
  have HC := Lib.hid (fiEnt_index (fun x : EntryR => .string ⟨x.user.toArray⟩) (fun x => .int .i64 x.kind) (fun x => .string ⟨x.path.toArray⟩) (fun x => .int .i64 x.err) (fun x => !(entryB x)) l n hnl A c HasMax w B hr hB (by omega)
    ⟨fun x W hx hm => odd14_any x.user x.kind x.path x.err W (hv x hx).path hm, fun W W' hm hb => hm.below hb⟩ hmx)
  have HA : Hid (decide ((0 : Int) ≤ firstI (fun x => !(entryB x)) l) = !(l.all entryB)) := by
    show _ = _
    rw [firstI_any, List.all_eq_not_any_not, Bool.not_not]
  clear hnl hr hv
  go_enter Tryz.func86, Tryz.ntmps86
  go_wp2_with fail
  refine HC.out.mono ?_
  rintro e w1 ⟨rfl, hb⟩
  go_wp2_with fail
  go_ret
  exact ⟨by rw [← HA.out]; rfl, hb⟩
end Go.Proofs.YtbppdlhbjddhjaaGreatDoor
