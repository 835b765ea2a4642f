/-
  fields.Number, Numbers, Write: by their contracts.
-/
import Derived.Lib.AppendStr
import Derived.Deep.RegionHeld3
import Derived.Handy
import Derived.Test.YthfjfkjlgdnohaaRows
import Derived.Test.YthfjfkjlgdnohaaZ1
import Derived.Test.YthfjfkjlgdnohaaZ3
import Derived.Test.YthfjfkjlgdnohaaZ4
import Derived.Test.YthfjfkjlgdnohaaZ6
namespace Go.Proofs.Ythfjfkjlgdnohaa
open Go.RowKit

theorem strCells_bts (xs : List UInt8) : Lib.strCells ⟨xs.toArray⟩ = bts xs := by
  simp [Lib.strCells, bts]
section
variable {P : Program}
theorem wpList_append_str {ops : Array Oper} {rest : List Oper} {o : Oper} {a : Act} {w : World} {Q : Exit → Act → World → Prop} (hgd : o.guard = none) (sl x : Operand) (t u : TypeId)
    (ho : o.op = .call { callee := .builtin .append, args := #[sl, x], argTypes := #[t, u] })
    (base : Nat) (e : TypeId) (i : TypeInfo) (ht : P.underlying t = some (.slice e)) (hu : P.underlying u = some .string) (hi : P.info? e = some i) (hz : i.zero = some (.int .u8 0))
    (hsize : i.size = 1) (hby : i.bytes = 1)
    (v : Value) (n : Nat) (xs : List Value) (hs : a.eval sl = v) (hown : w.ownsRow base e 1 v n xs) (s : ByteArray) (hx : a.eval x = .string s)
    (h63 : n + s.size ≤ maxLen) (hbytes : n + s.size ≤ 140737488355328) (hbase : base ≤ w.heap.size)
    (h : ∀ v' w', w'.ownsRow base e 1 v' (n + s.size) (xs ++ Lib.strCells s) → w.grownBy w' v.ownBlock → wpList P ops Q rest (a.put o.dst v') w') : wpList P ops Q (o :: rest) a w := by
  obtain ⟨v', w', hr, h2, h3, h4⟩ := Lib.run_append_own_string (P := P) w base t u o.type e i ht hu hi hz hsize hby v n xs hown s h63 hbytes hbase
  refine wpList_plain hgd fun _ hK => ?_
  unfold Oper.wp execOp
  simp only [ho, resolve, invoke, builtin, Sem.run_bind, Sem.run_pure, Result.andThen_ok, List.map_toArray, List.map_cons, List.map_nil, hs, hx, hr]
  exact hK _ _ (h v' w' h2 h3)
end

/-! ### Number -/
def fnE (s : BS) : Int := if s.length < 8 then 8 else if 8 < s.length then 5 else numE s
def fnV (s : BS) : Int := if s.length = 8 then numV s else 0
theorem fnE_num8 (s : BS) : num8 s = if fnE s = 0 then some (fnV s) else none := by
  unfold num8 fnE fnV numE numV
  by_cases h : s.length = 8
  · by_cases h2 : 4611686018427387903 < numN s
    · have h3 : ¬ numN s ≤ 4611686018427387903 := by omega
      simp [h, h2, h3]
    · have h3 : numN s ≤ 4611686018427387903 := by omega
      simp [h, h2, h3]
  · by_cases h3 : s.length < 8
    · simp [h, h3]
    · have h4 : 8 < s.length := by omega
      simp [h, h3, h4]
set_option maxRecDepth 100000 in
set_option maxHeartbeats 1000000 in
theorem fnumber_any (s : BS) (w : World) : Calls Try.prog 120 #[.string ⟨s.toArray⟩] w fun e w' => e = .returned (.tuple #[.int .i64 (fnV s), .int .i64 (fnE s)]) ∧ Below w.heap.size w w' := by
  by_cases h8 : s.length < 8
  · have HE : Hid (fnE s = 8 ∧ fnV s = 0) := ⟨by unfold fnE; rw [if_pos h8], by unfold fnV; rw [if_neg (by omega)]⟩
    go_enter Try.func120, Try.ntmps120
    go_wp2_with fail
    go_ret2
    exact ⟨by rw [HE.out.1, HE.out.2]; rfl, Below.refl _ _⟩
  · by_cases h9 : 8 < s.length
    · have HE : Hid (fnE s = 5 ∧ fnV s = 0) := ⟨by unfold fnE; rw [if_neg h8, if_pos h9], by unfold fnV; rw [if_neg (by omega)]⟩
      go_enter Try.func120, Try.ntmps120
      go_wp2_with fail
      go_ret2
      exact ⟨by rw [HE.out.1, HE.out.2]; rfl, Below.refl _ _⟩
    · have HE : Hid (fnE s = numE s ∧ fnV s = numV s) := ⟨by unfold fnE; rw [if_neg h8, if_neg h9], by unfold fnV; rw [if_pos (by omega)]⟩
      have hcv := Lib.hid (Lib.run_convert_string_bytes (P := Try.prog) w 9 28 5 ⟨s.toArray⟩ Try.underlying9 Try.underlying28 Try.underlying5)
      have hb := Lib.hid (bytesWorld_below w 5 ⟨s.toArray⟩)
      have hr := bytesWorld_reads w 5 ⟨s.toArray⟩
      have hsz : (⟨s.toArray⟩ : ByteArray).size = s.length := by show s.toArray.size = _; simp
      have hnum := Lib.hid (number_any s (⟨s.toArray⟩ : ByteArray).size hsz (some ⟨w.heap.size, 0, none⟩) (grownCap w (⟨s.toArray⟩ : ByteArray).size 0 5) (Lib.bytesWorld w 5 ⟨s.toArray⟩) _ (by simpa using hr) (by omega))
      clear hr
      go_enter Try.func120, Try.ntmps120
      go_wp2_with fail
      rw [hcv.out]
      go_wp2_with fail
      refine hnum.out.mono ?_
      rintro e w2 ⟨rfl, hw⟩
      rw [← hw]
      clear hw w2
      go_wp2_with fail
      go_ret2
      exact ⟨by rw [HE.out.1, HE.out.2]; rfl, hb.out⟩

/-! ### Numbers -/
def icells (l : List Int) : List Value := l.map (.int .i64 ·)
set_option maxRecDepth 100000 in
set_option maxHeartbeats 1000000 in
theorem numbers_any (l : List Int) (n : Nat) (hnl : n = l.length) (A : Option Addr) (c : Nat) (w : World) (B : Nat) (hr : Reads w B 1 A n (icells l)) (hB : B ≤ w.heap.size) (hn : n ≤ 100) :
    Calls Try.prog 88 #[.slice A n c] w fun e w' => ∃ v, e = .returned v ∧ w'.ownsRow w.heap.size 9 1 v n (scells (l.map n8)) ∧ Below w.heap.size w w' := by
  obtain ⟨i0, hi0, hz0, hz1, hz2⟩ := info_parts Try.infoS
  have HN := Lib.hid hnl
  clear hnl
  go_enter Try.func88, Try.ntmps88
  go_wp2_with fail
  go_loopw [3, 8] (fun o i wr => ∃ (k : Nat) (A1 : Option Addr) (c1 : Nat), k ≤ n ∧ i = .int .i64 (k : Int) ∧ o = .slice A1 k c1 ∧ wr.ownsRow w.heap.size 9 1 (.slice A1 k c1) k (scells ((l.take k).map n8)) ∧ Below w.heap.size w wr) (fun _ i _ => n - (intOf i).toNat)
  case atStart => exact ⟨0, none, 0, Nat.zero_le _, rfl, rfl, ⟨rfl, .inl ⟨rfl, rfl⟩⟩, Below.refl _ _⟩
  case round =>
    obtain ⟨k, A1, c1, hk, rfl, rfl, hown, hbw⟩ := hrel
    by_cases hlt : k < n
    · have hki : (k : Int) < (n : Int) := by omega
      have hkl : k < l.length := by have := HN.out; omega
      obtain ⟨ad, u, rfl, hadB, hxu, hcell⟩ := (hr.below (hbw.mono hB)).at_ hlt
      obtain ⟨x, hx⟩ : ∃ x, x = l[k]'hkl := ⟨_, rfl⟩
      have hux : u = .int .i64 x := by
        unfold icells at hxu
        rw [List.getElem?_map, List.getElem?_eq_getElem hkl, ← hx] at hxu
        exact (Option.some.inj hxu).symm
      subst hux
      have htk := List.take_succ_eq_append_getElem hkl
      rw [← hx] at htk
      have HT : Hid (scells ((l.take (k + 1)).map n8) = scells ((l.take k).map n8) ++ [.string ⟨(putL x 8).toArray⟩]) := by show _ = _; rw [htk, List.map_append, scells_append]; rfl
      have HOWN := Lib.hid hown
      have HBW := Lib.hid hbw
      clear hx htk hr hown hbw hxu
      go_wp2_with fail
      refine (put_any x 8 8 (by decide) wr).mono ?_
      rintro e w2 ⟨v2, rfl, hown2, hb2⟩
      obtain ⟨A2, c2, rfl, _, _, hr2⟩ := own_form hown2
      have hst := str_of (P := Try.prog) (c := c2) hr2 (putL_length x 8).symm Try.underlying28 Try.underlying5 Try.underlying9
      have hown3 := own_below HOWN.out hb2
      have hb3 := HBW.out.trans (hb2.mono HBW.out.size)
      have hsz3 := hb3.size
      clear hown2 hr2 hb2
      go_wp2_with (at_builtin; (refine wpList_push _ rfl (.tmp 12) (.tmp 16) 69 rfl w.heap.size 9 i0 (.string ByteArray.empty) 1 16 Try.underlying69 hi0 hz0 hz1 hz2 rfl (by decide) (.slice A1 k c1) k _ rfl hown3 1 #[.string ⟨(putL x 8).toArray⟩] 9 (by simp [Act.eval]) rfl (by simp [Value.oneCell']) (by unfold maxLen; omega) (by omega) hsz3 ?_); intro v4 w4 hown4 hb4 _)
      obtain ⟨A4, c4, rfl, _, _, _⟩ := own_form hown4
      have HB5 := Lib.hid (hb3.trans hb4)
      have HO : Hid (w4.ownsRow w.heap.size 9 1 (.slice A4 (k + 1) c4) (k + 1) (scells ((l.take (k + 1)).map n8))) := by show World.ownsRow _ _ _ _ _ _ _; rw [HT.out]; exact hown4
      clear hown3 hown4 hb3 hb4 hcell
      go_wp2_with fail
      go_roundw
      case rel => exact ⟨k + 1, A4, c4, by omega, by go_num, rfl, HO.out, HB5.out⟩
      case measure => simp [intOf]; omega
    · have hkn : k = n := by omega
      have HO : Hid (wr.ownsRow w.heap.size 9 1 (.slice A1 k c1) n (scells (l.map n8))) := by
        show World.ownsRow _ _ _ _ _ _ _
        rw [List.take_of_length_le (by have := HN.out; omega)] at hown
        rw [← hkn]
        exact hown
      clear hr hown hkn
      go_wp2_with fail
      go_ret
      exact ⟨_, rfl, HO.out, hbw⟩

/-! ### Write -/
set_option maxRecDepth 100000 in
theorem long_any (s : BS) (hs : s.length ≤ 65536) (w : World) : Calls Try.prog 87 #[.string ⟨s.toArray⟩] w fun e w' => e = .returned (.bool false) ∧ w' = w := by
  go_enter Try.func87, Try.ntmps87
  have hd : ¬ (65536 : Int) < (s.length : Int) := by omega
  go_wp2_with fail
  go_ret
  exact ⟨rfl, by trivial⟩
set_option maxRecDepth 100000 in
theorem idxLong_any (l : List BS) (hl : ∀ s ∈ l, s.length ≤ 65536) (n : Nat) (hnl : n = l.length) (A : Option Addr) (c : Nat) (w : World) (B : Nat) (hr : Reads w B 1 A n (scells l)) (hn : n ≤ 1024) :
    Calls Try.prog 116 #[.slice A n c, .func (.func 87) #[] #[]] w fun e w' => e = .returned (.int .i64 (-1)) ∧ w' = w := by
  have HN := Lib.hid hnl
  have HL := Lib.hid hl
  clear hnl hl
  go_enter Try.func116, Try.ntmps116
  go_wp2_with fail
  go_loopw [8] (fun i wr => ∃ k : Nat, k ≤ n ∧ i = .int .i64 (k : Int) ∧ wr = w) (fun i _ => n - (intOf i).toNat)
  case atStart => exact ⟨0, Nat.zero_le _, rfl, rfl⟩
  case round =>
    obtain ⟨k, hk, rfl, rfl⟩ := hrel
    by_cases hlt : k < n
    · have hki : (k : Int) < (n : Int) := by omega
      have hkl : k < l.length := by have := HN.out; omega
      obtain ⟨ad, rfl, hadB, hcell⟩ := strs_at hr HN.out hlt
      obtain ⟨x, hx⟩ : ∃ x, x = l[k]'hkl := ⟨_, rfl⟩
      rw [← hx] at hcell
      have HX := Lib.hid (HL.out x (by rw [hx]; exact List.getElem_mem _))
      simp only [strV] at hcell
      clear hx
      go_wp2_with fail
      refine (long_any x HX.out _).mono ?_
      rintro e w2 ⟨rfl, hw⟩
      rw [hw]
      clear hw w2
      go_wp2_with fail
      go_roundw
      case rel => exact ⟨k + 1, by omega, by go_num, by trivial⟩
      case measure => simp [intOf]; omega
    · clear hr
      go_wp2_with fail
      go_ret
      exact ⟨rfl, by trivial⟩
set_option maxRecDepth 100000 in
theorem contLong_any (l : List BS) (hl : ∀ s ∈ l, s.length ≤ 65536) (n : Nat) (hnl : n = l.length) (A : Option Addr) (c : Nat) (w : World) (B : Nat) (hr : Reads w B 1 A n (scells l)) (hn : n ≤ 1024) :
    Calls Try.prog 86 #[.slice A n c, .func (.func 87) #[] #[]] w fun e w' => e = .returned (.bool false) ∧ w' = w := by
  have hcall := Lib.hid (idxLong_any l hl n hnl A c w B hr hn)
  clear hnl hr hl
  go_enter Try.func86, Try.ntmps86
  go_wp2_with fail
  refine hcall.out.mono ?_
  rintro e w2 ⟨rfl, hw⟩
  rw [hw]
  clear hw w2
  go_wp2_with fail
  go_ret
  exact ⟨rfl, by trivial⟩
def fsum (l : List BS) : Nat := (l.flatMap fone).length
theorem fone_len (s : BS) : (fone s).length = 3 + s.length := by unfold fone; rw [List.length_append, putL_length]
theorem fsum_le (l : List BS) (h : ∀ s ∈ l, s.length ≤ 1000) : (l.flatMap fone).length ≤ 1003 * l.length := by
  induction l with
  | nil => simp
  | cons s l ih =>
    have h1 := ih (fun x hx => h x (List.mem_cons_of_mem _ hx))
    have h2 := h s (List.mem_cons_self ..)
    rw [List.flatMap_cons, List.length_append, fone_len, List.length_cons]
    omega
set_option maxRecDepth 100000 in
set_option maxHeartbeats 2000000 in
theorem fwrite_any (l : List BS) (hl : ∀ s ∈ l, s.length ≤ 1000) (n : Nat) (hnl : n = l.length) (A : Option Addr) (c : Nat) (w : World) (B : Nat) (hr : Reads w B 1 A n (scells l)) (hB : B ≤ w.heap.size) (hn : n ≤ 100) :
    Calls Try.prog 51 #[.slice A n c] w fun e w' => ∃ v, e = .returned (.tuple #[v, .int .i64 0]) ∧ w'.ownsRow w.heap.size 5 1 v (fwrite l).length (bts (fwrite l)) ∧ Below w.heap.size w w' := by
  obtain ⟨i0, hi0, hz0, hz1, hz2⟩ := info_parts Try.infoU8c
  have hct := contLong_any l (fun s hs => Nat.le_trans (hl s hs) (by omega)) n hnl A c w B hr (by omega)
  have HN := Lib.hid hnl
  have HL := Lib.hid hl
  have HW : Hid (fwrite l = putL (n : Int) 2 ++ l.flatMap fone) := by show _ = _; rw [hnl]; rfl
  have hn1 : ¬ (1024 : Int) < (n : Int) := by omega
  clear hnl hl
  go_enter Try.func51, Try.ntmps51
  go_wp2_with fail
  refine hct.mono ?_
  rintro e w1 ⟨rfl, hw⟩
  rw [hw]
  clear hw w1 hct
  go_wp2_with fail
  refine (put_any (n : Int) 2 2 (by decide) w).mono ?_
  rintro e w1 ⟨v1, rfl, hown1, hb1⟩
  have HO1 := Lib.hid hown1
  clear hown1
  go_wp2_with fail
  go_loopw [4, 19] (fun v i wr => ∃ k q : Nat, k ≤ n ∧ i = .int .i64 (k : Int) ∧ Hid (q = (putL (n : Int) 2 ++ (l.take k).flatMap fone).length) ∧ q ≤ 2 + 1003 * k ∧ wr.ownsRow w.heap.size 5 1 v q (bts (putL (n : Int) 2 ++ (l.take k).flatMap fone)) ∧ Below w.heap.size w wr) (fun _ i _ => n - (intOf i).toNat)
  case atStart => exact ⟨0, 2, Nat.zero_le _, rfl, (show 2 = _ by simp [putL_length]), by omega, by simpa using HO1.out, hb1⟩
  case round =>
    obtain ⟨k, q, hk, rfl, hq, hqb, hown, hbw⟩ := hrel
    obtain ⟨A1, c1, rfl, _, _, _⟩ := own_form hown
    by_cases hlt : k < n
    · have hki : (k : Int) < (n : Int) := by omega
      have hkl : k < l.length := by have := HN.out; omega
      obtain ⟨ad, rfl, hadB, hcell⟩ := strs_at (hr.below (hbw.mono hB)) HN.out hlt
      obtain ⟨x, hx⟩ : ∃ x, x = l[k]'hkl := ⟨_, rfl⟩
      rw [← hx] at hcell
      have hxl := HL.out x (by rw [hx]; exact List.getElem_mem _)
      have htk := List.take_succ_eq_append_getElem hkl
      rw [← hx] at htk
      simp only [strV] at hcell
      have HT : Hid (bts (putL (n : Int) 2 ++ (l.take (k + 1)).flatMap fone) = bts (putL (n : Int) 2 ++ (l.take k).flatMap fone) ++ bts (putL (x.length : Int) 3) ++ bts x) := by
        show _ = _
        rw [htk, List.flatMap_append]
        simp [fone, bts_append]
      have HQ : Hid (q + 3 + x.length = (putL (n : Int) 2 ++ (l.take (k + 1)).flatMap fone).length) := by
        show _ = _
        rw [htk, List.flatMap_append, ← List.append_assoc, List.length_append, ← hq.out]
        simp [fone_len]
        omega
      have HXL := Lib.hid hxl
      have HOWN := Lib.hid hown
      have HBW := Lib.hid hbw
      generalize bts (putL (n : Int) 2 ++ (l.take k).flatMap fone) = ob at HT HOWN
      clear hx htk hr hown hbw hxl HO1 hq
      go_wp2_with fail
      refine (put_any (x.length : Int) 3 3 (by decide) wr).mono ?_
      rintro e w2 ⟨v2, rfl, hown2, hb2⟩
      obtain ⟨A2, c2, rfl, _, _, hr2⟩ := own_form hown2
      have hown3 := own_below HOWN.out hb2
      have hb3 := HBW.out.trans (hb2.mono HBW.out.size)
      have hsz3 := hb3.size
      clear hown2 hb2
      have hxs : (⟨x.toArray⟩ : ByteArray).size = x.length := by show x.toArray.size = _; simp
      have HXS := Lib.hid hxs
      clear hxs
      have HO3 := Lib.hid hown3
      have HB3 := Lib.hid hb3
      have HR2 := Lib.hid hr2
      have hq3 := Lib.hid (show q + 3 + (⟨x.toArray⟩ : ByteArray).size ≤ maxLen by unfold maxLen; have := HXS.out; have := HXL.out; omega)
      have hq4 := Lib.hid (show q + 3 + (⟨x.toArray⟩ : ByteArray).size ≤ 140737488355328 by have := HXS.out; have := HXL.out; omega)
      clear hown3 hb3 hr2
      go_wp2_with (at_builtin; first
        | (refine wpList_append_any w2 rfl (.tmp 23) (.tmp 26) 28 rfl w.heap.size 5 i0 (.int .u8 0) 1 1 Try.underlying28 hi0 hz0 hz1 hz2 rfl (by decide) (.slice A1 q c1) q ob rfl HO3.out _ A2 3 c2 _ (by simp [Act.eval]) HR2.out (bts_one _) (by unfold maxLen; omega) (by omega) hsz3 ?_; intro v4 w4 hown4 hg4 _; obtain ⟨A4, c4, rfl, _, _, _⟩ := own_form hown4; have HB5 := Lib.hid (HB3.out.grown hg4 hsz3 (fun r hr => (HO3.out.lt r hr).1)); have hsz5 := HB5.out.size; have HO4 := Lib.hid hown4; clear hown4 hg4)
        | (refine wpList_append_str rfl (.tmp 28) (.tmp 29) 28 9 rfl w.heap.size 5 i0 Try.underlying28 Try.underlying9 hi0 hz0 hz1 hz2 (.slice A4 (q + 3) c4) (q + 3) _ (by simp [Act.eval]) HO4.out ⟨x.toArray⟩ (by simp [Act.eval]) hq3.out hq4.out hsz5 ?_; intro v6 w6 hown6 hg6))
      have HO6 : Hid (w6.ownsRow w.heap.size 5 1 v6 (q + 3 + x.length) (bts (putL (n : Int) 2 ++ (l.take (k + 1)).flatMap fone))) := by
        show World.ownsRow _ _ _ _ _ _ _
        rw [HT.out, ← strCells_bts x, ← HXS.out]
        exact hown6
      have HB7 := Lib.hid (HB5.out.grown hg6 hsz5 (fun r hr => (HO4.out.lt r hr).1))
      clear hown6 hg6 hcell hq3 hq4
      go_wp2_with fail
      go_roundw
      case rel => exact ⟨k + 1, q + 3 + x.length, by omega, by go_num, HQ.out, by have := HXL.out; omega, HO6.out, HB7.out⟩
      case measure => simp [intOf]; omega
    · have HO : Hid (wr.ownsRow w.heap.size 5 1 (.slice A1 q c1) (fwrite l).length (bts (fwrite l))) := by
        show World.ownsRow _ _ _ _ _ _ _
        have hq2 := hq.out
        rw [List.take_of_length_le (by have := HN.out; omega), ← HW.out] at hown hq2
        rw [← hq2]
        exact hown
      clear hr hown hq
      go_wp2_with fail
      go_ret2
      exact ⟨_, rfl, HO.out, hbw⟩
end Go.Proofs.Ythfjfkjlgdnohaa

/-
  slices.Clone at bytes, by its contract (at a seat whose Clone is tplb/XClone).
-/
namespace Go.Proofs.Ythfjfkjlgdnohaa
open Go.RowKit

set_option maxRecDepth 100000 in
theorem clone_any (xs : List Value) (n : Nat) (A : Option Addr) (c : Nat) (w : World) (B : Nat) (hr : Reads w B 1 A n xs) (hB : B ≤ w.heap.size) (h1 : ∀ u ∈ xs, u.oneCell' = true) (hn : n ≤ 140737488351232) :
    Calls Try.prog 130 #[.slice A n c] w fun e w' => ∃ v, e = .returned v ∧ w'.ownsRow w.heap.size 5 1 v n xs ∧ Below w.heap.size w w' := by
  obtain ⟨i0, hi0, hz0, hz1, hz2⟩ := info_parts Try.infoU8c
  rcases A with _ | ad
  · obtain rfl : n = 0 := by
      rcases Nat.eq_zero_or_pos n with h | h
      · exact h
      · obtain ⟨_, h, _⟩ := hr.2 h; cases h
    obtain rfl : xs = [] := List.eq_nil_of_length_eq_zero (by simpa using hr.1)
    have heq := fun W => Lib.run_eql_slice_nil (P := Try.prog) W 28 5 none 0 c 0 0 Try.underlying28
    go_enter Try.func130, Try.ntmps130
    go_wp2_with fail
    go_ret
    exact ⟨_, rfl, World.ownsRow_nil _ _ _ _, Below.refl _ _⟩
  · have heq := fun W => Lib.run_eql_slice_nil (P := Try.prog) W 28 5 (some ad) n c 0 0 Try.underlying28
    have hown : (w.alloc (.cells #[] 5)).ownsRow w.heap.size 5 1 (.slice (some ⟨w.heap.size, 0, none⟩) 0 0) 0 [] := World.ownsRow_made w #[] 0 (Nat.le_refl _) (by simp [maxLen]) rfl
    have hra := hr.alloc hB (.cells #[] 5)
    go_enter Try.func130, Try.ntmps130
    go_wp2_with (at_builtin; (refine wpList_append_any _ rfl (.tmp 5) (.tmp 6) _ rfl w.heap.size 5 i0 _ 1 1 Try.underlying28 hi0 hz0 hz1 hz2 rfl (by omega) (.slice (some ⟨w.heap.size, 0, none⟩) 0 0) 0 [] rfl hown B (some ad) n c xs rfl hra h1 (by unfold maxLen; omega) (by omega) (by simp) ?_); intro v1 w2 hown1 hg1 hat1)
    go_ret
    refine ⟨v1, rfl, by simpa using hown1, ((Below.refl _ _).alloc (Nat.le_refl _) _).grown hg1 (by simp) (fun k hk => ?_)⟩
    simp [Value.ownBlock] at hk
    omega
end Go.Proofs.Ythfjfkjlgdnohaa

/-
  octets.Cut, by its contract.
-/
namespace Go.Proofs.Ythfjfkjlgdnohaa
open Go.RowKit

/-- what Cut leaves where it cuts -/
def CutPost (w : World) (b : List UInt8) (k : Nat) (e : Ending) (w' : World) : Prop :=
  ∃ v1 v2, e = .returned (.tuple #[v1, v2, .int .i64 0]) ∧ w'.ownsRow w.heap.size 5 1 v1 k (bts (b.take k)) ∧ w'.ownsRow w.heap.size 5 1 v2 (b.length - k) (bts (b.drop k)) ∧ Below w.heap.size w w'

set_option maxRecDepth 100000 in
theorem cut_any (b : List UInt8) (n : Nat) (hnb : n = b.length) (A : Option Addr) (c : Nat) (k : Nat) (hk : k ≤ n) (w : World) (B : Nat) (hr : Reads w B 1 A n (bts b)) (hB : B ≤ w.heap.size) (hc : n ≤ c) (hcm : c ≤ 9223372036854775807) (hn : n ≤ 140737488351232) :
    Calls Try.prog 119 #[.slice A n c, .int .i64 (k : Int)] w (CutPost w b k) := by
  subst hnb
  have hp := hr.bpre hk
  have hkc : k ≤ c := by omega
  have hk0 : (0 : Int) ≤ (k : Int) := by omega
  have hki : (k : Int) ≤ (b.length : Int) := by omega
  have hkl : (k : Int) ≤ (c : Int) := by omega
  have hd : Reads w B 1 (if c = k then A else A.map (·.add k)) (b.length - k) (bts (b.drop k)) := by
    have := hr.cut hk hc
    simp only [Nat.mul_one] at this
    rwa [← bts_drop] at this
  have hss := (Below.refl w.heap.size w).drew
  rcases A with _ | ad
  · obtain rfl : b = [] := by
      rcases Nat.eq_zero_or_pos b.length with h | h
      · exact List.eq_nil_of_length_eq_zero h
      · obtain ⟨_, h, _⟩ := hr.2 h; cases h
    obtain rfl : k = 0 := by simpa using hk
    have hp1 := Lib.hid (show Reads w B 1 none 0 (bts []) from Reads.none_)
    have hd1 := hp1
    clear hp hd hr
    simp only [List.length_nil] at hk hki hn hc ⊢
    · go_enter Try.func119, Try.ntmps119
      go_wp2_with fail
      go_region_held3 (fun w' => Below w.heap.size w w')
        (first | (with_reducible exact hss) | (with_reducible exact hbs.out))
        (first
          | (go_at_call 130; have tok1 := hp1; (with_reducible refine (clone_any (bts []) 0 none c _ B ?_ ?_ (bts_one _) ?_).mono ?_); (exact tok1.out.below (Below.mono (by assumption) hB)); (exact below_size (w := w) (by assumption) hB); (omega); clear tok1; rintro e w1 ⟨v1, rfl, hown1, hb1⟩; have hbs := Lib.hid (below_step (w := w) (by assumption) hb1); have hO1 := Lib.hid (own_mono hown1 (Below.size (by assumption : Below w.heap.size w _))); clear hp1 hown1 hb1)
          | (go_at_call 130; (with_reducible refine (clone_any (bts []) 0 none c _ B ?_ ?_ (bts_one _) ?_).mono ?_); (exact hd1.out.below (Below.mono (by assumption) hB)); (exact below_size (w := w) (by assumption) hB); (omega); rintro e w2 ⟨v2, rfl, hown2, hb2⟩; have hO1' := Lib.hid (own_below hO1.out hb2); have hO2 := Lib.hid (own_mono hown2 (Below.size (by assumption : Below w.heap.size w _))); have hbs := Lib.hid (below_step (w := w) (by assumption) hb2); clear hown2 hb2))
      go_wp2_with fail
      go_ret3
      exact ⟨v1, v2, rfl, hO1'.out, hO2.out, by assumption⟩
  · by_cases hck : c = k
    · rw [if_pos hck] at hd
      have h00 : b.length - k = 0 := by omega
      rw [h00] at hd
      have H00 := Lib.hid h00
      clear h00
      have hp1 := Lib.hid hp
      have hd1 := Lib.hid hd
      clear hp hd hr
      subst hck
      go_enter Try.func119, Try.ntmps119
      go_wp2_with fail
      go_region_held3 (fun w' => Below w.heap.size w w')
        (first | (with_reducible exact hss) | (with_reducible exact hbs.out))
        (first
          | (go_at_call 130; have tok1 := hp1; (with_reducible refine (clone_any (bts (b.take c)) c (some ad) c _ B ?_ ?_ (bts_one _) ?_).mono ?_); (exact tok1.out.below (Below.mono (by assumption) hB)); (exact below_size (w := w) (by assumption) hB); (omega); clear tok1; rintro e w1 ⟨v1, rfl, hown1, hb1⟩; have hbs := Lib.hid (below_step (w := w) (by assumption) hb1); have hO1 := Lib.hid (own_mono hown1 (Below.size (by assumption : Below w.heap.size w _))); clear hp1 hown1 hb1)
          | (go_at_call 130; (with_reducible refine (clone_any (bts (b.drop c)) 0 (some ad) 0 _ B ?_ ?_ (bts_one _) ?_).mono ?_); (exact hd1.out.below (Below.mono (by assumption) hB)); (exact below_size (w := w) (by assumption) hB); (omega); rintro e w2 ⟨v2, rfl, hown2, hb2⟩; have hO1' := Lib.hid (own_below hO1.out hb2); have hO2 := Lib.hid (own_mono hown2 (Below.size (by assumption : Below w.heap.size w _))); have hbs := Lib.hid (below_step (w := w) (by assumption) hb2); clear hown2 hb2))
      go_wp2_with fail
      go_ret3
      exact ⟨v1, v2, rfl, hO1'.out, (by rw [H00.out]; exact hO2.out), by assumption⟩
    · rw [if_neg hck] at hd
      simp only [Option.map_some] at hd
      have hp1 := Lib.hid hp
      have hd1 := Lib.hid hd
      clear hp hd hr
      go_enter Try.func119, Try.ntmps119
      go_wp2_with fail
      go_region_held3 (fun w' => Below w.heap.size w w')
        (first | (with_reducible exact hss) | (with_reducible exact hbs.out))
        (first
          | (go_at_call 130; have tok1 := hp1; (with_reducible refine (clone_any (bts (b.take k)) k (some ad) c _ B ?_ ?_ (bts_one _) ?_).mono ?_); (exact tok1.out.below (Below.mono (by assumption) hB)); (exact below_size (w := w) (by assumption) hB); (omega); clear tok1; rintro e w1 ⟨v1, rfl, hown1, hb1⟩; have hbs := Lib.hid (below_step (w := w) (by assumption) hb1); have hO1 := Lib.hid (own_mono hown1 (Below.size (by assumption : Below w.heap.size w _))); clear hp1 hown1 hb1)
          | (go_at_call 130; (with_reducible refine (clone_any (bts (b.drop k)) (b.length - k) (some (ad.add k)) (c - k) _ B ?_ ?_ (bts_one _) ?_).mono ?_); (exact hd1.out.below (Below.mono (by assumption) hB)); (exact below_size (w := w) (by assumption) hB); (omega); rintro e w2 ⟨v2, rfl, hown2, hb2⟩; have hO1' := Lib.hid (own_below hO1.out hb2); have hO2 := Lib.hid (own_mono hown2 (Below.size (by assumption : Below w.heap.size w _))); have hbs := Lib.hid (below_step (w := w) (by assumption) hb2); clear hown2 hb2))
      go_wp2_with fail
      go_ret3
      exact ⟨v1, v2, rfl, hO1'.out, hO2.out, by assumption⟩
end Go.Proofs.Ythfjfkjlgdnohaa

/-
  fields.taken, fields.Read: by their contracts.
-/
namespace Go.Proofs.Ythfjfkjlgdnohaa
open Go.RowKit

set_option maxRecDepth 100000 in
theorem cut_short (n k : Nat) (A : Option Addr) (c : Nat) (h : n < k) (w : World) :
    Calls Try.prog 119 #[.slice A n c, .int .i64 (k : Int)] w fun e w' => e = .returned (.tuple #[.slice none 0 0, .slice none 0 0, .int .i64 8]) ∧ w' = w := by
  have hk0 : ¬ (k : Int) < 0 := by omega
  have hki : (n : Int) < (k : Int) := by omega
  go_enter Try.func119, Try.ntmps119
  go_wp2_with fail
  go_ret3
  exact ⟨rfl, by trivial⟩
theorem add_off (b o k : Nat) : (⟨b, o, none⟩ : Addr).add k = ⟨b, o + k, none⟩ := by
  unfold Addr.add
  split <;> simp_all
theorem bpre2 {w : World} {B n : Nat} {A : Option Addr} {b : List UInt8} (h : Reads w B 1 A n (bts b)) (hn : n = b.length) {k : Nat} (hk : k ≤ n) : Reads w B 1 A k (bts (b.take k)) := by
  subst hn
  exact h.bpre hk
theorem numN_take2 (b : BS) : numN (b.take 2) < 65536 := by
  have := numN_lt (b.take 2)
  have h2 : (b.take 2).length ≤ 2 := by simp; omega
  have h3 : 256 ^ (b.take 2).length ≤ 256 ^ 2 := Nat.pow_le_pow_right (by decide) h2
  omega
theorem numN_take3 (b : BS) : numN (b.take 3) < 16777216 := by
  have := numN_lt (b.take 3)
  have h2 : (b.take 3).length ≤ 3 := by simp; omega
  have h3 : 256 ^ (b.take 3).length ≤ 256 ^ 3 := Nat.pow_le_pow_right (by decide) h2
  omega
theorem numVE_small (b : BS) (h0 : b.length ≠ 0) (h : b.length ≤ 7) : numV b = numN b ∧ numE b = 0 := by
  have h1 := numN_lt b
  have h3 : 256 ^ b.length ≤ 72057594037927936 := pow_le8 h
  unfold numV numE
  rw [if_neg (by omega), if_neg h0, if_neg (by omega), if_neg (by omega)]
  exact ⟨rfl, rfl⟩
set_option maxRecDepth 100000 in
set_option maxHeartbeats 1000000 in
theorem taken_any (b : BS) (n : Nat) (hnb : n = b.length) (A : Option Addr) (c : Nat) (w : World) (B : Nat) (hr : Reads w B 1 A n (bts b)) (hB : B ≤ w.heap.size) (hc : n ≤ c) (hcm : c ≤ 9223372036854775807) (hn : n ≤ 140737488351232) :
    Calls Try.prog 93 #[.slice A n c, .int .i64 2] w fun e w' => ((n < 2 ∧ e = .returned (.tuple #[.int .i64 0, .slice none 0 0, .int .i64 8])) ∨
      (2 ≤ n ∧ ∃ v, e = .returned (.tuple #[.int .i64 (numN (b.take 2) : Int), v, .int .i64 0]) ∧ w'.ownsRow w.heap.size 5 1 v (n - 2) (bts (b.drop 2)))) ∧ Below w.heap.size w w' := by
  by_cases h2 : n < 2
  · have hcut0 := cut_short n 2 A c h2 w
    rw [show ((2 : Nat) : Int) = 2 from rfl] at hcut0
    have hcut := Lib.hid hcut0
    clear hcut0 hnb
    clear hr
    go_enter Try.func93, Try.ntmps93
    go_wp2_with fail
    refine hcut.out.mono ?_
    rintro e w1 ⟨rfl, hw⟩
    rw [hw]
    clear hw w1
    go_wp2_with fail
    go_ret3
    exact ⟨.inl ⟨h2, rfl⟩, Below.refl _ _⟩
  · have hcut := cut_any b n hnb A c 2 (by omega) w B hr hB hc hcm hn
    unfold CutPost at hcut
    rw [← hnb, show ((2 : Nat) : Int) = 2 from rfl] at hcut
    have HV := Lib.hid (numVE_small (b.take 2) (by rw [List.length_take]; omega) (by rw [List.length_take]; omega))
    have hl2 : (b.take 2).length = 2 := by rw [List.length_take]; omega
    have HL2 := Lib.hid hl2
    have HN := Lib.hid h2
    clear hr hnb h2 hl2
    go_enter Try.func93, Try.ntmps93
    go_wp2_with fail
    refine hcut.mono ?_
    clear hcut
    rintro e w1 ⟨v1, v2, rfl, hown1, hown2, hb1⟩
    obtain ⟨A1, c1, rfl, _, _, hr1⟩ := own_form hown1
    have hnum := number_any (b.take 2) 2 HL2.out.symm A1 c1 w1 _ hr1 (by omega)
    rw [HV.out.1, HV.out.2] at hnum
    have HO2 := Lib.hid hown2
    clear hr1 hown1 hown2
    go_wp2_with fail
    refine hnum.mono ?_
    clear hnum
    rintro e w2 ⟨rfl, hw⟩
    rw [← hw]
    clear hw w2
    go_wp2_with fail
    go_ret3
    exact ⟨.inr ⟨by have := HN.out; omega, v2, rfl, HO2.out⟩, hb1⟩

def combR (out : List BS) : Except Int (List BS) → Except Int (List BS)
  | .ok l => .ok (out ++ l)
  | .error e => .error e
def ReadPost (w : World) (r : Except Int (List BS)) (e : Ending) (w' : World) : Prop :=
  (match r with
    | .ok l => ∃ v, e = .returned (.tuple #[v, .int .i64 0]) ∧ w'.ownsRow w.heap.size 9 1 v l.length (scells l)
    | .error x => e = .returned (.tuple #[.slice none 0 0, .int .i64 x])) ∧ Below w.heap.size w w'
set_option maxRecDepth 100000 in
set_option maxHeartbeats 2000000 in
theorem fread_any (b : BS) (n : Nat) (hnb : n = b.length) (A : Option Addr) (c : Nat) (w : World) (B : Nat) (hr : Reads w B 1 A n (bts b)) (hB : B ≤ w.heap.size) (hc : n ≤ c) (hcm : c ≤ 9223372036854775807) (hn : n ≤ 140737488351232) :
    Calls Try.prog 60 #[.slice A n c] w (ReadPost w (fread b)) := by
  obtain ⟨i0, hi0, hz0, hz1, hz2⟩ := info_parts Try.infoS
  have htk := taken_any b n hnb A c w B hr hB hc hcm hn
  obtain ⟨R, hR⟩ : ∃ R, R = fread b := ⟨_, rfl⟩
  rw [← hR]
  have HR := Lib.hid hR
  have HNB := Lib.hid hnb
  obtain ⟨N, hN⟩ : ∃ N, N = numN (b.take 2) := ⟨_, rfl⟩
  rw [← hN] at htk
  have HNN := Lib.hid hN
  have hN6 : N < 65536 := by rw [hN]; exact numN_take2 b
  clear hR hnb hr hN
  go_enter Try.func60, Try.ntmps60
  go_wp2_with fail
  refine htk.mono ?_
  clear htk
  rintro e w1 ⟨⟨h2, rfl⟩ | ⟨h2, v, rfl, hown⟩, hb1⟩
  · have HF : Hid (R = .error 8) := by show _ = _; rw [HR.out]; unfold fread; rw [if_pos (by have := HNB.out; omega)]
    go_wp2_with fail
    go_ret2
    exact ⟨by rw [HF.out]; rfl, hb1⟩
  · by_cases h3 : 1024 < N
    · have HF : Hid (R = .error 3) := by show _ = _; rw [HR.out]; unfold fread; rw [if_neg (by have := HNB.out; omega), if_pos (by rw [← HNN.out]; exact h3)]
      have hi3 : (1024 : Int) < (N : Int) := by omega
      go_wp2_with fail
      go_ret2
      exact ⟨by rw [HF.out]; rfl, hb1⟩
    · have HF : Hid (R = fbody N (b.drop 2)) := by show _ = _; rw [HR.out]; unfold fread; rw [if_neg (by have := HNB.out; omega), if_neg (by rw [← HNN.out]; exact h3), ← HNN.out]
      have hi3 : ¬ (1024 : Int) < (N : Int) := by omega
      obtain ⟨A1, c1, rfl, hq1, hq2, hr1⟩ := own_form hown
      have HQ : Hid (n - 2 = (b.drop 2).length) := by show _ = _; rw [List.length_drop, HNB.out]
      obtain ⟨q0, hq0⟩ : ∃ q, q = n - 2 := ⟨_, rfl⟩
      rw [← hq0] at hr1 hq1 HQ ⊢
      have hqn : q0 ≤ 140737488351232 := by omega
      obtain ⟨rem0, hrem⟩ : ∃ r, r = b.drop 2 := ⟨_, rfl⟩
      rw [← hrem] at hr1 HQ HF
      clear hown HR HNN HNB hq0 hrem h2 h3
      go_wp2_with fail
      go_loopw [0, 6, 23] (fun bv ov iv wr => ∃ (k q : Nat) (A2 : Option Addr) (c2 : Nat) (A3 : Option Addr) (c3 : Nat) (rem : BS) (out : List BS), k ≤ N ∧ iv = .int .i64 (k : Int) ∧ bv = .slice A2 q c2 ∧ q ≤ q0 ∧ q ≤ c2 ∧ c2 ≤ maxLen ∧ Hid (q = rem.length) ∧ Reads wr w1.heap.size 1 A2 q (bts rem) ∧
        Hid (R = combR out (fbody (N - k) rem)) ∧ Hid (k = out.length) ∧ ov = .slice A3 k c3 ∧ wr.ownsRow w1.heap.size 9 1 (.slice A3 k c3) k (scells out) ∧ Below w1.heap.size w1 wr) (fun _ _ iv _ => N - (intOf iv).toNat)
      case atStart => exact ⟨0, q0, A1, c1, none, 0, rem0, [], Nat.zero_le _, rfl, rfl, Nat.le_refl _, hq1, hq2, HQ, hr1, (show R = _ by rw [HF.out]; cases fbody N rem0 <;> rfl), rfl, rfl, ⟨rfl, .inl ⟨rfl, rfl⟩⟩, Below.refl _ _⟩
      case round =>
        obtain ⟨k, q, A2, c2, A3, c3, rem, out, hk, rfl, rfl, hqq, hqc, hcm2, hql, hrd, hRk, hko, rfl, hown, hbw⟩ := hrel
        by_cases hlt : k < N
        · have hki : (k : Int) < (N : Int) := by omega
          obtain ⟨m, hm⟩ : ∃ m, N - k = m + 1 := ⟨N - k - 1, by omega⟩
          have hfb : fbody (N - k) rem = if rem.length < 3 then .error 8 else if 65536 < numN (rem.take 3) then .error 5 else if rem.length < 3 + numN (rem.take 3) then .error 8 else
              match fbody m (rem.drop (3 + numN (rem.take 3))) with
              | .ok l => .ok ((rem.drop 3).take (numN (rem.take 3)) :: l)
              | .error e => .error e := by rw [hm]; rfl
          by_cases hq3 : q < 3
          · have HE : Hid (R = .error 8) := by show _ = _; rw [hRk.out, hfb, if_pos (by rw [← hql.out]; exact hq3)]; rfl
            clear hfb hrd hown hRk
            go_wp2_with fail
            go_ret2
            exact ⟨by rw [HE.out]; rfl, hb1.trans (hbw.mono hb1.size)⟩
          · obtain ⟨S, hS⟩ : ∃ S, S = numN (rem.take 3) := ⟨_, rfl⟩
            rw [← hS] at hfb
            have HFB := Lib.hid hfb
            have hS6 : S < 16777216 := by rw [hS]; exact numN_take3 rem
            have h3l : (rem.take 3).length = 3 := by rw [List.length_take, ← hql.out]; omega
            have hnum := number_any (rem.take 3) 3 h3l.symm A2 c2 wr _ (bpre2 hrd hql.out (by omega)) (by omega)
            have hVE := numVE_small (rem.take 3) (by omega) (by omega)
            rw [hVE.1, hVE.2, ← hS] at hnum
            have HNUM := Lib.hid hnum
            obtain ⟨ad, rfl, hadB, _⟩ := hrd.2 (by omega)
            have hd0 := hrd.cut (k := 3) (cap := c2) (by omega) hqc
            simp only [Nat.mul_one, ← bts_drop] at hd0
            have HOWN := Lib.hid hown
            clear hfb hS h3l hVE hnum hrd hown
            have hq3i : ¬ (q : Int) < 3 := by omega
            have hq3j : (3 : Int) ≤ (q : Int) := by omega
            have hq3k : (3 : Int) ≤ (c2 : Int) := by omega
            by_cases hc3 : c2 = 3
            · subst hc3
              obtain rfl : q = 3 := by omega
              have hrl : rem.length = 3 := hql.out.symm
              have hdr : rem.drop 3 = [] := List.drop_eq_nil_of_le (by omega)
              rw [hdr] at hd0
              simp only [if_true, Nat.sub_self] at hd0
              have HDR := Lib.hid hdr
              have HRL := Lib.hid hrl
              clear hdr hrl hq3i hq3j hq3k
              go_wp2_with fail
              refine HNUM.out.mono ?_
              rintro e w2 ⟨rfl, hw⟩
              rw [← hw]
              clear hw w2 HNUM
              by_cases h65 : 65536 < S
              · have HE : Hid (R = .error 5) := by show _ = _; rw [hRk.out, HFB.out, if_neg (by rw [HRL.out]; omega), if_pos h65]; rfl
                clear hd0
                go_wp2_with fail
                go_ret2
                exact ⟨by rw [HE.out]; rfl, hb1.trans (hbw.mono hb1.size)⟩
              · by_cases hqS : 0 < S
                · have HE : Hid (R = .error 8) := by show _ = _; rw [hRk.out, HFB.out, if_neg (by rw [HRL.out]; omega), if_neg h65, if_pos (by rw [HRL.out]; omega)]; rfl
                  clear hd0
                  go_wp2_with fail
                  go_ret2
                  exact ⟨by rw [HE.out]; rfl, hb1.trans (hbw.mono hb1.size)⟩
                · obtain rfl : S = 0 := by omega
                  have hst := str_of (P := Try.prog) (c := 0) (b := []) hd0 rfl Try.underlying28 Try.underlying5 Try.underlying9
                  obtain ⟨tx, htx⟩ : ∃ tx : BS, tx = [] := ⟨_, rfl⟩
                  have HR2 : Hid (R = combR (out ++ [tx]) (fbody (N - (k + 1)) (rem.drop (3 + 0)))) := by
                    show _ = _
                    rw [hRk.out, HFB.out, if_neg (by rw [HRL.out]; omega), if_neg h65, if_neg (by rw [HRL.out]; omega), show N - (k + 1) = m by omega, htx]
                    cases fbody m (rem.drop (3 + 0)) <;> simp [combR]
                  have HOUT : Hid (scells (out ++ [tx]) = scells out ++ [.string ⟨tx.toArray⟩]) := by show _ = _; rw [scells_append]; rfl
                  rw [← htx] at hst
                  have HC5 : Hid (Reads wr w1.heap.size 1 (some ad) 0 (bts (rem.drop (3 + 0)))) := by show Reads _ _ _ _ _ _; rw [Nat.add_zero, HDR.out]; exact hd0
                  have hown := HOWN.out
                  have hsz := hbw.size
                  clear hd0 HFB hRk htx
                  go_wp2_with (at_builtin; (refine wpList_push _ rfl (.tmp 44) (.tmp 49) 69 rfl w1.heap.size 9 i0 (.string ByteArray.empty) 1 16 Try.underlying69 hi0 hz0 hz1 hz2 rfl (by decide) (.slice A3 k c3) k _ rfl hown 1 #[.string ⟨tx.toArray⟩] 9 (by simp [Act.eval]) rfl (by simp [Value.oneCell']) (by unfold maxLen; omega) (by omega) hsz ?_); intro v4 w4 hown4 hb4 _)
                  obtain ⟨A4, c4, rfl, _, _, _⟩ := own_form hown4
                  have HB4 := Lib.hid (hbw.trans hb4)
                  have HRD := Lib.hid (HC5.out.below hb4)
                  have HO4 : Hid (w4.ownsRow w1.heap.size 9 1 (.slice A4 (k + 1) c4) (k + 1) (scells (out ++ [tx]))) := by show World.ownsRow _ _ _ _ _ _ _; rw [HOUT.out]; exact hown4
                  clear hown4 hb4 hown hst
                  go_wp2_with fail
                  go_roundw
                  case rel => exact ⟨k + 1, _, _, _, A4, c4, rem.drop (3 + 0), out ++ [tx], by omega, by go_num, rfl, by omega, by omega, by omega, (by show _ = _; rw [List.length_drop, ← hql.out] <;> omega), (by have := HRD.out; first | exact this | (simp only [Option.map_some, add_off] at this; exact this) | simpa [Addr.add, Nat.sub_sub] using this), HR2.out, (by show _ = _; rw [List.length_append, ← hko.out]; rfl), rfl, HO4.out, HB4.out⟩
                  case measure => simp [intOf]; omega
            · rw [if_neg hc3] at hd0
              have HD := Lib.hid hd0
              clear hd0
              go_wp2_with fail
              refine HNUM.out.mono ?_
              rintro e w2 ⟨rfl, hw⟩
              rw [← hw]
              clear hw w2 HNUM
              by_cases h65 : 65536 < S
              · have HE : Hid (R = .error 5) := by show _ = _; rw [hRk.out, HFB.out, if_neg (by rw [← hql.out]; exact hq3), if_pos h65]; rfl
                go_wp2_with fail
                go_ret2
                exact ⟨by rw [HE.out]; rfl, hb1.trans (hbw.mono hb1.size)⟩
              · by_cases hqS : q - 3 < S
                · have HE : Hid (R = .error 8) := by show _ = _; rw [hRk.out, HFB.out, if_neg (by rw [← hql.out]; exact hq3), if_neg h65, if_pos (by rw [← hql.out]; omega)]; rfl
                  go_wp2_with fail
                  go_ret2
                  exact ⟨by rw [HE.out]; rfl, hb1.trans (hbw.mono hb1.size)⟩
                · have hd5 : Reads wr w1.heap.size 1 (some ⟨ad.block, ad.off + 3, none⟩) (q - 3) (bts (rem.drop 3)) := HD.out
                  have hq5 : q - 3 = (rem.drop 3).length := by rw [List.length_drop, ← hql.out]
                  have hst := str_of (P := Try.prog) (c := c2 - 3) (bpre2 hd5 hq5 (k := S) (by omega)) (show S = ((rem.drop 3).take S).length by rw [List.length_take, ← hq5]; omega) Try.underlying28 Try.underlying5 Try.underlying9
                  have hc5 := hd5.cut (k := S) (cap := c2 - 3) (by omega) (by omega)
                  simp only [Nat.mul_one, ← bts_drop, List.drop_drop] at hc5
                  have HR2 : Hid (R = combR (out ++ [(rem.drop 3).take S]) (fbody (N - (k + 1)) (rem.drop (3 + S)))) := by
                    show _ = _
                    rw [hRk.out, HFB.out, if_neg (by rw [← hql.out]; exact hq3), if_neg h65, if_neg (by rw [← hql.out]; omega), show N - (k + 1) = m by omega]
                    cases fbody m (rem.drop (3 + S)) <;> simp [combR]
                  have hS0 : (0 : Int) ≤ (S : Int) := by omega
                  have hS1 : (S : Int) ≤ ((q - 3 : Nat) : Int) := by omega
                  have hS2 : (S : Int) ≤ ((c2 - 3 : Nat) : Int) := by omega
                  have HQ5 := Lib.hid hq5
                  have HOUT : Hid (scells (out ++ [(rem.drop 3).take S]) = scells out ++ [.string ⟨((rem.drop 3).take S).toArray⟩]) := by show _ = _; rw [scells_append]; rfl
                  have hown := HOWN.out
                  have hsz := hbw.size
                  generalize (rem.drop 3).take S = tx at hst HOUT HR2
                  clear hd5 hq5 HFB hRk HD
                  by_cases hcs : c2 - 3 = S
                  · rw [if_pos hcs] at hc5
                    rw [hcs] at hst hS2
                    have HC5 := Lib.hid hc5
                    clear hc5
                    go_wp2_with (at_builtin; (refine wpList_push _ rfl (.tmp 44) (.tmp 49) 69 rfl w1.heap.size 9 i0 (.string ByteArray.empty) 1 16 Try.underlying69 hi0 hz0 hz1 hz2 rfl (by decide) (.slice A3 k c3) k _ rfl hown 1 #[.string ⟨tx.toArray⟩] 9 (by simp [Act.eval]) rfl (by simp [Value.oneCell']) (by unfold maxLen; omega) (by omega) hsz ?_); intro v4 w4 hown4 hb4 _)
                    obtain ⟨A4, c4, rfl, _, _, _⟩ := own_form hown4
                    have HB4 := Lib.hid (hbw.trans hb4)
                    have HRD := Lib.hid (HC5.out.below hb4)
                    have HO4 : Hid (w4.ownsRow w1.heap.size 9 1 (.slice A4 (k + 1) c4) (k + 1) (scells (out ++ [tx]))) := by show World.ownsRow _ _ _ _ _ _ _; rw [HOUT.out]; exact hown4
                    clear hown4 hb4 hown hst
                    go_wp2_with fail
                    go_roundw
                    case rel => exact ⟨k + 1, _, _, _, A4, c4, rem.drop (3 + S), out ++ [tx], by omega, by go_num, rfl, by omega, by omega, by omega, (by show _ = _; rw [List.length_drop, ← hql.out] <;> omega), (by have := HRD.out; first | exact this | (simp only [Option.map_some, add_off] at this; exact this) | simpa [Addr.add, Nat.sub_sub] using this), HR2.out, (by show _ = _; rw [List.length_append, ← hko.out]; rfl), rfl, HO4.out, HB4.out⟩
                    case measure => simp [intOf]; omega
                  · rw [if_neg hcs] at hc5
                    have HC5 := Lib.hid hc5
                    clear hc5
                    go_wp2_with (at_builtin; (refine wpList_push _ rfl (.tmp 44) (.tmp 49) 69 rfl w1.heap.size 9 i0 (.string ByteArray.empty) 1 16 Try.underlying69 hi0 hz0 hz1 hz2 rfl (by decide) (.slice A3 k c3) k _ rfl hown 1 #[.string ⟨tx.toArray⟩] 9 (by simp [Act.eval]) rfl (by simp [Value.oneCell']) (by unfold maxLen; omega) (by omega) hsz ?_); intro v4 w4 hown4 hb4 _)
                    obtain ⟨A4, c4, rfl, _, _, _⟩ := own_form hown4
                    have HB4 := Lib.hid (hbw.trans hb4)
                    have HRD := Lib.hid (HC5.out.below hb4)
                    have HO4 : Hid (w4.ownsRow w1.heap.size 9 1 (.slice A4 (k + 1) c4) (k + 1) (scells (out ++ [tx]))) := by show World.ownsRow _ _ _ _ _ _ _; rw [HOUT.out]; exact hown4
                    clear hown4 hb4 hown hst
                    go_wp2_with fail
                    go_roundw
                    case rel => exact ⟨k + 1, _, _, _, A4, c4, rem.drop (3 + S), out ++ [tx], by omega, by go_num, rfl, by omega, by omega, by omega, (by show _ = _; rw [List.length_drop, ← hql.out] <;> omega), (by have := HRD.out; first | exact this | (simp only [Option.map_some, add_off] at this; exact this) | simpa [Addr.add, Nat.sub_sub] using this), HR2.out, (by show _ = _; rw [List.length_append, ← hko.out]; rfl), rfl, HO4.out, HB4.out⟩
                    case measure => simp [intOf]; omega
        · have hkN : k = N := by omega
          have hfin : fbody (N - k) rem = if rem.length = 0 then .ok [] else .error 9 := by rw [show N - k = 0 by omega]; rfl
          by_cases hq0 : q = 0
          · have HE : Hid (R = .ok out) := by show _ = _; rw [hRk.out, hfin, if_pos (by rw [← hql.out]; exact hq0)]; simp [combR]
            have HO := Lib.hid hown
            have HK : Hid (k = out.length) := hko
            subst hq0
            clear hfin hrd hown hRk hql
            go_wp2_with fail
            go_ret2
            refine ⟨?_, hb1.trans (hbw.mono hb1.size)⟩
            rw [HE.out]
            exact ⟨_, rfl, by rw [← HK.out]; exact own_mono HO.out hb1.size⟩
          · have HE : Hid (R = .error 9) := by show _ = _; rw [hRk.out, hfin, if_neg (by rw [← hql.out]; exact hq0)]; rfl
            have hqp : (0 : Int) < (q : Int) := by omega
            clear hfin hrd hown hRk
            go_wp2_with fail
            go_ret2
            exact ⟨by rw [HE.out]; rfl, hb1.trans (hbw.mono hb1.size)⟩
end Go.Proofs.Ythfjfkjlgdnohaa

/-
  The reader of a record's texts: text, number, by their contracts.
-/
namespace Go.Proofs.Ythfjfkjlgdnohaa
open Go.RowKit

theorem grown_of_below {w w' : World} (h : Below w.heap.size w w') (row : Option Nat) : w.grownBy w' row := ⟨h.os, h.tape, h.output, h.size, fun k hk _ => h.block k hk⟩
theorem grown_set (w : World) (g : Nat) (i : Nat) (u : Value) : w.grownBy (w.setCell ⟨g, i, none⟩ u) (some g) := ⟨rfl, rfl, rfl, by simp [World.setCell], fun k _ hne => Below.heap_setCell _ _ _ _ (fun e => hne (by rw [e]))⟩
theorem grown_trans {a b c : World} {row : Option Nat} (h : a.grownBy b row) (k : b.grownBy c row) : a.grownBy c row :=
  ⟨k.os.trans h.os, k.tape.trans h.tape, k.output.trans h.output, Nat.le_trans h.size k.size, fun i hi hne => (k.block i (Nat.lt_of_lt_of_le hi h.size) hne).trans (h.block i hi hne)⟩
/-- a reader at block g: what is left, and whether all went well -/
def RdIn (B g : Nat) (l : List BS) (ok : Bool) (W : World) : Prop := ∃ A n c, Blk W g 137 #[.slice A n c, .bool ok] ∧ n = l.length ∧ Reads W B 1 A n (scells l) ∧ n ≤ c ∧ c ≤ maxLen
theorem reads_at {W W' : World} {B size n g : Nat} {A : Option Addr} {xs : List Value} (h : Reads W B size A n xs) (hg : W.grownBy W' (some g)) (hB : B ≤ g) (hW : B ≤ W.heap.size) : Reads W' B size A n xs :=
  h.below ⟨hg.os, hg.tape, hg.output, hg.size, fun k hk => hg.block k (by omega) (fun e => by cases e; omega)⟩
def txtV (l : List BS) : BS := l.headD []
def txtOk (l : List BS) (ok : Bool) : Bool := if l = [] then false else ok
set_option maxRecDepth 100000 in
set_option maxHeartbeats 1000000 in
theorem rtext_any (l : List BS) (ok : Bool) (B g : Nat) (hB : B ≤ g) (w : World) (h : RdIn B g l ok w) (hn1 : l.length ≤ 100000) :
    Calls Try.prog 94 #[.pointer (some ⟨g, 0, none⟩)] w fun e w' => e = .returned (.string ⟨(txtV l).toArray⟩) ∧ RdIn B g l.tail (txtOk l ok) w' ∧ w.grownBy w' (some g) := by
  obtain ⟨A, n, c, hk, hnl, hr, hc, hcm⟩ := h
  have hBW : B ≤ w.heap.size := by have := hk.lt; omega
  obtain ⟨c0, c1, f0, f1⟩ := blk2 hk
  cases l with
  | nil =>
    obtain rfl : n = 0 := hnl
    have hr2 := reads_at hr (grown_set w g 1 (.bool false)) hB hBW
    have hk2 := hk.set_ 1 (.bool false)
    have HK := Lib.hid hk2
    have HR := Lib.hid hr2
    clear hr hr2 hk2 hk
    go_enter Try.func94, Try.ntmps94
    go_wp2_with fail
    go_ret
    refine ⟨rfl, ⟨A, 0, c, ?_, rfl, HR.out, hc, hcm⟩, grown_set _ _ _ _⟩
    simpa [txtOk] using HK.out
  | cons x l =>
    obtain ⟨m, rfl⟩ : ∃ m, n = m + 1 := ⟨n - 1, by simp only [List.length_cons] at hnl; omega⟩
    have hml : m = l.length := by simp only [List.length_cons] at hnl; omega
    obtain ⟨ad, rfl, hadB, hcell⟩ := strs_at hr hnl (k := 0) (by omega)
    simp only [strV, List.getElem_cons_zero, add_zero] at hcell
    have hcut := hr.cut (k := 1) (cap := c) (by omega) hc
    simp only [Nat.mul_one, Nat.add_sub_cancel] at hcut
    have hdr : (scells (x :: l)).drop 1 = scells l := rfl
    rw [hdr] at hcut
    have hi1 : (1 : Int) ≤ ((m + 1 : Nat) : Int) := by omega
    have hi2 : (1 : Int) ≤ (c : Int) := by omega
    have hne : (((m + 1 : Nat) : Int) == 0) = false := by simp; omega
    have HML := Lib.hid hml
    have hc1l : m + 1 ≤ c := hc
    by_cases hc1 : c = 1
    · subst hc1
      obtain rfl : m = 0 := by omega
      simp only [if_true] at hcut
      have hr2 := reads_at hcut (grown_set w g 0 (.slice (some ad) 0 0)) hB hBW
      have HK := Lib.hid (hk.set_ 0 (.slice (some ad) 0 0))
      have HR := Lib.hid hr2
      clear hr hr2 hcut hk hnl hml hdr
      go_enter Try.func94, Try.ntmps94
      go_wp2_with fail
      go_ret
      refine ⟨rfl, ⟨some ad, 0, 0, ?_, HML.out, HR.out, by omega, by omega⟩, grown_set _ _ _ _⟩
      simpa [txtOk] using HK.out
    · rw [if_neg hc1] at hcut
      have hcut2 : Reads w B 1 (some ⟨ad.block, ad.off + 1, none⟩) m (scells l) := hcut
      have hr2 := reads_at hcut2 (grown_set w g 0 (.slice (some ⟨ad.block, ad.off + 1, none⟩) m (c - 1))) hB hBW
      have HK := Lib.hid (hk.set_ 0 (.slice (some ⟨ad.block, ad.off + 1, none⟩) m (c - 1)))
      have HR := Lib.hid hr2
      clear hr hr2 hcut hcut2 hk hnl hml hdr
      go_enter Try.func94, Try.ntmps94
      go_wp2_with fail
      go_ret
      refine ⟨rfl, ⟨_, m, c - 1, ?_, HML.out, HR.out, by omega, by omega⟩, grown_set _ _ _ _⟩
      simpa [txtOk] using HK.out
def numOk (l : List BS) (ok : Bool) : Bool := txtOk l ok && (fnE (txtV l) == 0)
set_option maxRecDepth 100000 in
set_option maxHeartbeats 1000000 in
theorem rnumber_any (l : List BS) (ok : Bool) (B g : Nat) (hB : B ≤ g) (w : World) (h : RdIn B g l ok w) (hn1 : l.length ≤ 100000) :
    Calls Try.prog 95 #[.pointer (some ⟨g, 0, none⟩)] w fun e w' => e = .returned (.int .i64 (fnV (txtV l))) ∧ RdIn B g l.tail (numOk l ok) w' ∧ w.grownBy w' (some g) := by
  have ht := Lib.hid (rtext_any l ok B g hB w h hn1)
  obtain ⟨A0, n0, c0, hk0, _⟩ := h
  have hgw : g < w.heap.size := hk0.lt
  obtain ⟨E, hE⟩ : ∃ E, E = fnE (txtV l) := ⟨_, rfl⟩
  obtain ⟨V, hV⟩ : ∃ V, V = fnV (txtV l) := ⟨_, rfl⟩
  have hf := fun W => fnumber_any (txtV l) W
  rw [← hE, ← hV] at hf
  rw [← hV]
  obtain ⟨o1, ho1⟩ : ∃ o, o = txtOk l ok := ⟨_, rfl⟩
  have hno : numOk l ok = (o1 && (E == 0)) := by rw [ho1, hE]; rfl
  rw [← ho1] at ht
  rw [hno]
  have HF := Lib.hid hf
  clear hf hE hV ho1 hno hk0
  go_enter Try.func95, Try.ntmps95
  go_wp2_with fail
  refine ht.out.mono ?_
  clear ht
  rintro e w1 ⟨rfl, ⟨A, n, c, hk, hnl, hr, hc, hcm⟩, hg1⟩
  have HG1 := Lib.hid hg1
  have hsz1 := hg1.size
  clear hg1
  go_wp2_with fail
  refine (HF.out w1).mono ?_
  rintro e w2 ⟨rfl, hb2⟩
  have hk := hk.below hb2 (by omega)
  have hr := hr.below (hb2.mono (by omega))
  have HG2 := Lib.hid (grown_trans HG1.out (grown_of_below hb2 (some g)))
  have hBW : B ≤ w2.heap.size := by have := hb2.size; omega
  obtain ⟨c0, c1, f0, f1⟩ := blk2 hk
  have HNL := Lib.hid hnl
  have HR := Lib.hid hr
  have HK := Lib.hid hk
  clear hk hr hb2 HG1 HF hnl
  have hfin : ∀ b : Bool, RdIn B g l.tail b (w2.setCell ⟨g, 1, none⟩ (.bool b)) ∧ w.grownBy (w2.setCell ⟨g, 1, none⟩ (.bool b)) (some g) := by
    intro b
    refine ⟨⟨A, n, c, by simpa using HK.out.set_ 1 (.bool b), HNL.out, reads_at HR.out (grown_set _ _ _ _) hB hBW, hc, hcm⟩, grown_trans HG2.out (grown_set _ _ _ _)⟩
  have HFIN := Lib.hid hfin
  clear hfin
  cases o1 with
  | false =>
    go_wp2_with fail
    go_ret
    exact ⟨rfl, HFIN.out false⟩
  | true =>
    by_cases h0 : E = 0
    · subst h0
      go_wp2_with fail
      go_ret
      exact ⟨rfl, HFIN.out true⟩
    · have hd : (E == 0) = false := by simp [h0]
      go_wp2_with fail
      go_ret
      refine ⟨rfl, ?_⟩
      rw [show (true && E == 0) = false by simp [h0]]
      exact HFIN.out false
end Go.Proofs.Ythfjfkjlgdnohaa

/-
  cmp.Compare at strings, by its contract.
-/
namespace Go.Proofs.Ythfjfkjlgdnohaa
open Go.RowKit

def cmpS (x y : BS) : Int := if Op.bytesLess x y = true then -1 else if Op.bytesLess y x = true then 1 else 0
theorem cmpS_neg (x y : BS) : cmpS x y < 0 ↔ Op.bytesLess x y = true := by
  unfold cmpS
  split
  · rename_i h; simp [h]
  · rename_i h
    split
    · simp [h]
    · simp [h]
theorem cmpS_zero (x y : BS) : cmpS x y = 0 ↔ x = y := by
  unfold cmpS
  split
  · rename_i h
    constructor
    · intro e; cases e
    · intro e; exact absurd e (bl_ne h)
  · rename_i h
    split
    · rename_i h2
      constructor
      · intro e; cases e
      · intro e; exact absurd e.symm (bl_ne h2)
    · rename_i h2
      constructor
      · intro _
        by_cases e : x = y
        · exact e
        · exact absurd (bl_tri x y (by simpa using h) e) h2
      · intro _; rfl
set_option maxRecDepth 100000 in
theorem isNaNS_any (x : BS) (w : World) : Calls Try.prog 127 #[.string ⟨x.toArray⟩] w fun e w' => e = .returned (.bool false) ∧ ∃ q, w' = w.drewN q := by
  go_enter Try.func127, Try.ntmps127
  go_wp2_with fail
  go_ret
  exact ⟨rfl, 0, rfl⟩
set_option maxRecDepth 100000 in
theorem compareS_any (x y : BS) (w : World) : Calls Try.prog 110 #[.string ⟨x.toArray⟩, .string ⟨y.toArray⟩] w fun e w' => e = .returned (.int .i64 (cmpS x y)) ∧ ∃ q, w' = w.drewN q := by
  have hlss := lssS 9 x y
  have hgtr := gtrS 9 x y
  go_enter Try.func110, Try.ntmps110
  go_wp2_with fail
  refine (isNaNS_any x _).mono ?_
  rintro e w1 ⟨rfl, q1, rfl⟩
  go_wp2_with fail
  refine (isNaNS_any y _).mono ?_
  rintro e w1 ⟨rfl, q2, rfl⟩
  cases h1 : Op.bytesLess x y with
  | true =>
    have HV : Hid (cmpS x y = -1) := by show _ = _; unfold cmpS; rw [if_pos h1]
    rw [h1] at hlss hgtr
    clear h1
    go_wp2_with fail
    go_ret
    exact ⟨by rw [HV.out]; rfl, q1 + q2, rfl⟩
  | false =>
    by_cases h2 : x = y
    · have HV : Hid (cmpS x y = 0) := (cmpS_zero x y).2 h2
      have hd : (Op.bytesLess x y || x == y) = true := by simp [h2]
      rw [hd] at hgtr
      rw [h1] at hlss
      clear h1 h2 hd
      go_wp2_with fail
      go_ret
      exact ⟨by rw [HV.out]; rfl, q1 + q2, rfl⟩
    · have HV : Hid (cmpS x y = 1) := by show _ = _; unfold cmpS; rw [if_neg (by rw [h1]; simp), if_pos (bl_tri x y h1 h2)]
      have hd : (Op.bytesLess x y || x == y) = false := by rw [h1]; simpa using h2
      rw [hd] at hgtr
      rw [h1] at hlss
      clear h1 h2 hd
      go_wp2_with fail
      go_ret
      exact ⟨by rw [HV.out]; rfl, q1 + q2, rfl⟩
end Go.Proofs.Ythfjfkjlgdnohaa

/-
  slices.Clone at elements of 2 cells, by its contract.
-/
namespace Go.Proofs.Ythfjfkjlgdnohaa
open Go.RowKit

theorem Try.cloneP_info : (Try.prog.info? 99).map (fun i => (i.zero, i.size, i.bytes)) = some (some (.agg #[.string ByteArray.empty, .string ByteArray.empty]), 2, 32) := by kernel_rfl
set_option maxRecDepth 100000 in
theorem cloneP_any (xs : List Value) (n : Nat) (A : Option Addr) (c : Nat) (w : World) (B : Nat) (hr : Reads w B 2 A n xs) (hB : B ≤ w.heap.size) (h1 : ∀ u ∈ xs, u.oneCell' = true) (hn : n * 32 ≤ 140737488355328) :
    Calls Try.prog 82 #[.slice A n c] w fun e w' => ∃ v, e = .returned v ∧ w'.ownsRow w.heap.size 99 2 v n xs ∧ Below w.heap.size w w' := by
  obtain ⟨i0, hi0, hz0, hz1, hz2⟩ := info_parts Try.cloneP_info
  rcases A with _ | ad
  · obtain rfl : n = 0 := by
      rcases Nat.eq_zero_or_pos n with h | h
      · exact h
      · obtain ⟨_, h, _⟩ := hr.2 h; cases h
    obtain rfl : xs = [] := List.eq_nil_of_length_eq_zero (by simpa using hr.1)
    have heq := fun W => Lib.run_eql_slice_nil (P := Try.prog) W 22 99 none 0 c 0 0 Try.underlying22
    go_enter Try.func82, Try.ntmps82
    go_wp2_with fail
    go_ret
    exact ⟨_, rfl, World.ownsRow_nil _ _ _ _, Below.refl _ _⟩
  · have heq := fun W => Lib.run_eql_slice_nil (P := Try.prog) W 22 99 (some ad) n c 0 0 Try.underlying22
    have hown : (w.alloc (.cells #[] 99)).ownsRow w.heap.size 99 2 (.slice (some ⟨w.heap.size, 0, none⟩) 0 0) 0 [] := World.ownsRow_made w #[] 0 (Nat.le_refl _) (by simp [maxLen]) rfl
    have hra := hr.alloc hB (.cells #[] 99)
    go_enter Try.func82, Try.ntmps82
    go_wp2_with (at_builtin; (refine wpList_append_any _ rfl (.tmp 5) (.tmp 6) _ rfl w.heap.size 99 i0 _ 2 32 Try.underlying22 hi0 hz0 hz1 hz2 rfl (by omega) (.slice (some ⟨w.heap.size, 0, none⟩) 0 0) 0 [] rfl hown B (some ad) n c xs rfl hra h1 (by unfold maxLen; omega) (by omega) (by simp) ?_); intro v1 w2 hown1 hg1 hat1)
    go_ret
    refine ⟨v1, rfl, by simpa using hown1, ((Below.refl _ _).alloc (Nat.le_refl _) _).grown hg1 (by simp) (fun k hk => ?_)⟩
    simp [Value.ownBlock] at hk
    omega
end Go.Proofs.Ythfjfkjlgdnohaa
