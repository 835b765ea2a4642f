/-
  token.number and the page's number, by their contracts.
-/
import Derived.Shelf.Strings.SlTrimAscii
import Derived.Test.YtjdebhemoeojiaaDoorTkDec
namespace Go.Proofs.YtjdebhemoeojiaaDoor
open Go.RowKit

def numV (l : BS) : Value := match numO l with
  | some n => .tuple #[.int .i64 (n : Int), .bool true]
  | none => .tuple #[.int .i64 0, .bool false]
theorem numV_none {l : BS} (h : numO l = none) : numV l = .tuple #[.int .i64 0, .bool false] := by unfold numV; rw [h]
theorem numV_some {l : BS} {n : Nat} (h : numO l = some n) : numV l = .tuple #[.int .i64 (n : Int), .bool true] := by unfold numV; rw [h]
def digsL : BS := [48, 49, 50, 51, 52, 53, 54, 55, 56, 57]
theorem digs_has (c : UInt8) : digsL.contains c = digB c := by
  have h : ∀ n, n < 256 → digsL.contains (UInt8.ofNat n) = digB (UInt8.ofNat n) := by decide +kernel
  have := h c.toNat c.toNat_lt
  rwa [UInt8.ofNat_toNat] at this
theorem dropWhile_nil {l : BS} {p : UInt8 → Bool} : l.dropWhile p = [] ↔ ∀ c ∈ l, p c = true := by
  induction l with
  | nil => simp
  | cons c l ih =>
    rw [List.dropWhile_cons]
    split
    · rename_i h
      rw [ih]
      simp [h]
    · rename_i h
      simp [h]
/-- what a text of digits alone leaves, its digits trimmed -/
theorem trim_digs (l : BS) : Lib.trimS l digsL = [] ↔ l.all digB = true := by
  unfold Lib.trimS Lib.trimLeftS Lib.trimRightS
  rw [dropWhile_nil, List.all_eq_true]
  constructor
  · intro h c hc
    by_cases hd : digB c = true
    · exact hd
    · exfalso
      have hc2 : c ∈ l.reverse := by simpa using hc
      have h3 : c ∈ l.reverse.dropWhile (digsL.contains ·) := by
        have h4 : ∀ m : BS, c ∈ m → c ∈ m.dropWhile (digsL.contains ·) := by
          intro m hm
          induction m with
          | nil => cases hm
          | cons d m ih =>
            rw [List.dropWhile_cons]
            split
            · rename_i h5
              rcases List.mem_cons.1 hm with rfl | hm
              · rw [digs_has] at h5
                exact absurd h5 hd
              · exact ih hm
            · exact hm
        exact h4 _ hc2
      have := h c (by simpa using h3)
      rw [digs_has] at this
      exact hd this
  · intro h c hc
    rw [digs_has]
    have h2 : c ∈ l.reverse.dropWhile (digsL.contains ·) := by simpa using hc
    exact h c (by simpa using (List.dropWhile_suffix _).mem h2)
theorem valL_take (l : BS) (k : Nat) (h : k < l.length) : valL (l.take (k + 1)) = stepV (valL (l.take k)) (l[k]'h) := by
  unfold valL
  rw [List.take_succ_eq_append_getElem h, List.foldl_append]
  rfl
theorem valL_take_le (l : BS) (k : Nat) : valL (l.take k) ≤ valL l := by
  conv => rhs; rw [← List.take_append_drop k l]
  unfold valL
  rw [List.foldl_append]
  exact stepV_le _ _
theorem trim_any (s : ByteArray) (w : World) (hs : s.size ≤ 4000000000) : Calls Tryd.prog 85 #[.string s, .string ⟨#[48, 49, 50, 51, 52, 53, 54, 55, 56, 57]⟩] w fun e w' => e = .returned (.string ⟨(Lib.trimS s.data.toList digsL).toArray⟩) ∧ Below w.heap.size w w' :=
  Any.strings_Trim_laid Tryd.lays160 (by kernel_rfl) s ⟨#[48, 49, 50, 51, 52, 53, 54, 55, 56, 57]⟩ w (by omega) (by decide) (ascii_of_all (by decide))
set_option maxRecDepth 100000 in
set_option maxHeartbeats 2000000 in
theorem tnum_any (s : ByteArray) (w : World) (hs : s.size ≤ 4000000000) :
    Calls Tryd.prog 52 #[.string s] w fun e w' => e = .returned (numV s.data.toList) ∧ Below w.heap.size w w' := by
  have HSZ := Lib.hid (Lib.size_eq s)
  have htl := Lib.hid (toList_data s)
  have htr := Lib.hid (fun W => trim_any s W hs)
  have hcv := Lib.hid (fun W => Lib.run_convert_string_bytes (P := Tryd.prog) W 9 31 5 s Tryd.underlying9 Tryd.underlying31 Tryd.underlying5)
  obtain ⟨l, hl⟩ : ∃ l, l = s.data.toList := ⟨_, rfl⟩
  obtain ⟨V, hV⟩ : ∃ V, V = numV l := ⟨_, rfl⟩
  rw [← hl] at htr HSZ ⊢
  rw [← hV]
  have HL := Lib.hid hl
  have HV := Lib.hid hV
  clear hl hV
  by_cases he : l = []
  · have h0 : s.toList.isEmpty = true := by rw [htl.out, ← HL.out, he]; rfl
    have HN : Hid (V = .tuple #[.int .i64 0, .bool false]) := by show _ = _; rw [HV.out, numV_none (by unfold numO; rw [if_neg (by simp [he])])]
    clear he
    go_enter Tryd.func52, Tryd.ntmps52
    go_wp2_with fail
    refine bodyPost_ret (v := .tuple #[.int .i64 0, .bool false]) (by simp [results, Tryd.results52, go_sem]) rfl ⟨by rw [HN.out], Below.refl _ _⟩
  have h0 : s.toList.isEmpty = false := by
    rw [htl.out, ← HL.out]
    cases l with
    | nil => exact absurd rfl he
    | cons a r => rfl
  have hpos : 0 < s.size := by
    have := HSZ.out
    have : 0 < l.length := List.length_pos_iff.2 he
    omega
  obtain ⟨y0, hy0⟩ : ∃ y, y = s[0]'hpos := ⟨_, rfl⟩
  have hg0 : l[0]? = some y0 := by
    have hb := bget s 0 hpos
    rw [HL.out, List.getElem?_eq_getElem (by rw [← HL.out]; have := HSZ.out; omega), hb, ← hy0]
  have hyv : ((s[0]'hpos).toNat : Int) = (y0.toNat : Int) := by rw [hy0]
  have HG0 := Lib.hid hg0
  have HE := Lib.hid he
  clear hg0 hy0 he
  by_cases hz : y0 = 48 ∧ 1 < s.size
  · have hz1 : (y0.toNat : Int) = 48 := by rw [hz.1]; rfl
    have hz2 : (1 : Int) < (s.size : Int) := by omega
    have HN : Hid (V = .tuple #[.int .i64 0, .bool false]) := by
      show _ = _
      rw [HV.out, numV_none]
      unfold numO
      refine if_neg ?_
      rintro ⟨_, _, h3, _⟩
      exact h3 ⟨by rw [HG0.out, hz.1], by rw [← HSZ.out]; exact hz.2⟩
    clear hz
    go_enter Tryd.func52, Tryd.ntmps52
    go_wp2_with fail
    refine bodyPost_ret (v := .tuple #[.int .i64 0, .bool false]) (by simp [results, Tryd.results52, go_sem]) rfl ⟨by rw [HN.out], Below.refl _ _⟩
  have HZ := Lib.hid hz
  have hzz : (y0.toNat : Int) = 48 → ¬ (1 : Int) < (s.size : Int) := by
    intro h1 h2
    exact hz ⟨UInt8.toNat_inj.1 (by have : (48 : UInt8).toNat = 48 := rfl; omega), by omega⟩
  have hq48 : ((y0.toNat : Int) = 48 ∧ ¬ (1 : Int) < (s.size : Int)) ∨ ¬ (y0.toNat : Int) = 48 := by
    by_cases hy48 : (y0.toNat : Int) = 48
    · exact .inl ⟨hy48, hzz hy48⟩
    · exact .inr hy48
  clear hz hzz
  have hc := htr.out w
  obtain ⟨q, hq⟩ : ∃ q : ByteArray, q = ⟨(Lib.trimS l digsL).toArray⟩ := ⟨_, rfl⟩
  have hqe : q.toList.isEmpty = l.all digB := by
    rw [toList_data, hq]
    show (Lib.trimS l digsL).isEmpty = _
    cases hal : l.all digB with
    | true => rw [(trim_digs l).2 hal]; rfl
    | false =>
      cases ht : Lib.trimS l digsL with
      | nil => rw [(trim_digs l).1 ht] at hal; cases hal
      | cons _ _ => rfl
  rw [← hq] at hc
  clear hq htr
  obtain ⟨al, hal⟩ : ∃ b, b = l.all digB := ⟨_, rfl⟩
  rw [← hal] at hqe
  have HAL := Lib.hid hal
  clear hal
  cases al with
  | false =>
    have HN : Hid (V = .tuple #[.int .i64 0, .bool false]) := by
      show _ = _
      rw [HV.out, numV_none]
      unfold numO
      refine if_neg ?_
      rintro ⟨_, h2, _, _⟩
      rw [← HAL.out] at h2
      cases h2
    go_enter Tryd.func52, Tryd.ntmps52
    rcases hq48 with ⟨hy48, hz2⟩ | hy48
    all_goals
      go_wp2_with fail
      refine hc.mono ?_
      clear hc
      rintro e w1 ⟨rfl, hb1⟩
      go_wp2_with fail
      refine bodyPost_ret (v := .tuple #[.int .i64 0, .bool false]) (by simp [results, Tryd.results52, go_sem]) rfl ⟨by rw [HN.out], hb1⟩
  | true =>
    have HVV : Hid (V = if valL l ≤ 1099511627776 then .tuple #[.int .i64 (valL l : Int), .bool true] else .tuple #[.int .i64 0, .bool false]) := by
      show _ = _
      rw [HV.out]
      have hno : ¬ (l[0]? = some 48 ∧ 1 < l.length) := by
        rintro ⟨h1, h2⟩
        rw [HG0.out] at h1
        exact HZ.out ⟨Option.some.inj h1, by rw [HSZ.out]; exact h2⟩
      by_cases hv : valL l ≤ 1099511627776
      · rw [if_pos hv, numV_some (n := valL l)]
        unfold numO
        rw [if_pos ⟨HE.out, HAL.out.symm, hno, hv⟩]
      · rw [if_neg hv, numV_none]
        unfold numO
        exact if_neg (fun h => hv h.2.2.2)
    have HD : Hid (∀ c ∈ l, digB c = true) := by
      show ∀ c ∈ l, _
      exact List.all_eq_true.1 HAL.out.symm
    go_enter Tryd.func52, Tryd.ntmps52
    rcases hq48 with ⟨hy48, hz2⟩ | hy48
    all_goals
      go_wp2_with fail
      refine hc.mono ?_
      clear hc
      rintro e w1 ⟨rfl, hb1⟩
      go_wp2_with fail
      rw [(hcv.out w1)]
      obtain ⟨zz, hr⟩ := bytesWorld_row w1 5 s
      have hbb := bytesWorld_below w1 5 s
      obtain ⟨n, hn⟩ : ∃ n, n = s.size := ⟨_, rfl⟩
      obtain ⟨W, hW⟩ : ∃ W, W = Lib.bytesWorld w1 5 s := ⟨_, rfl⟩
      rw [← hW, ← hn, ← HL.out] at hr
      rw [← hW] at hbb
      have HNL : Hid (n = l.length) := by show _ = _; rw [hn, HSZ.out]
      have hn4 : n ≤ 4000000000 := by omega
      simp only [← hW, ← hn]
      have HR := Lib.hid hr
      have HBB := Lib.hid (hb1.trans (hbb.mono hb1.size))
      clear hW hn hr hbb hb1 hpos hyv hs h0 hqe
      go_wp2_with fail
      go_loopw [4, 27] (fun nv i wr => ∃ k : Nat, k ≤ n ∧ i = .int .i64 (k : Int) ∧ nv = .int .i64 ((valL (l.take k) : Nat) : Int) ∧ Hid (valL (l.take k) ≤ 1099511627776) ∧ Hid (RowM wr w1.heap.size 5 n (bts (l ++ zz)).toArray) ∧ Hid (Below w.heap.size w wr)) (fun _ i _ => n - (intOf i).toNat)
      case atStart => exact ⟨0, Nat.zero_le _, rfl, rfl, Nat.zero_le _, HR.out, HBB.out⟩
      case round =>
        clear HR HBB
        obtain ⟨k, hk, rfl, rfl, hm, HR, HBB⟩ := hrel
        by_cases hlt : k < n
        · have hki : (k : Int) < (n : Int) := by omega
          have hkl : k < l.length := by have := HNL.out; omega
          obtain ⟨x, hx⟩ : ∃ x, x = l[k]'hkl := ⟨_, rfl⟩
          have hcell : wr.cell? ⟨w1.heap.size, k, none⟩ = some (.int .u8 (x.toNat : Int)) := by
            rw [HR.out.cell k, List.getElem?_toArray, bts_get, List.getElem?_append_left hkl, List.getElem?_eq_getElem hkl, ← hx]
            rfl
          have hdx := HD.out _ (List.getElem_mem hkl)
          rw [← hx] at hdx
          unfold digB at hdx
          rw [Bool.and_eq_true, decide_eq_true_eq, decide_eq_true_eq] at hdx
          have hst := valL_take l k hkl
          rw [← hx] at hst
          obtain ⟨m, hme⟩ : ∃ m, m = valL (l.take k) := ⟨_, rfl⟩
          rw [← hme] at hm hst ⊢
          unfold stepV at hst
          have hm9 : m ≤ 1099511627776 := hm.out
          obtain ⟨m', hme'⟩ : ∃ m', m' = valL (l.take (k + 1)) := ⟨_, rfl⟩
          rw [← hme'] at hst
          have hx1 : ¬ (x.toNat : Int) < 48 := by omega
          have hx2 : ¬ (57 : Int) < (x.toNat : Int) := by omega
          have hw1 : IntKind.i64.wrap ((m : Int) * 10) = (m : Int) * 10 := IntWalk.i64_in _ (by omega)
          have hw2 : IntKind.u8.wrap ((x.toNat : Int) - 48) = (x.toNat : Int) - 48 := IntWalk.u8_in _ (by omega)
          have hw4 : IntKind.i64.wrap ((x.toNat : Int) - 48) = (x.toNat : Int) - 48 := IntWalk.i64_in _ (by omega)
          have hw3 : IntKind.i64.wrap ((m : Int) * 10 + ((x.toNat : Int) - 48)) = (m' : Int) := by
            rw [IntWalk.i64_in _ (by omega)]
            omega
          have HM' := Lib.hid hme'
          clear hst hme hme' hdx hx hm
          by_cases hbig : 1099511627776 < m'
          · have hb1 : (1099511627776 : Int) < (m' : Int) := by omega
            have HN : Hid (V = .tuple #[.int .i64 0, .bool false]) := by
              show _ = _
              rw [HVV.out, if_neg]
              have h1 := valL_take_le l (k + 1)
              rw [← HM'.out] at h1
              omega
            clear hbig
            go_wp2_with fail
            refine bodyPost_ret (v := .tuple #[.int .i64 0, .bool false]) (by simp [results, Tryd.results52, go_sem]) rfl ⟨by rw [HN.out], HBB.out⟩
          · have hb1 : ¬ (1099511627776 : Int) < (m' : Int) := by omega
            have HMB : Hid (m' ≤ 1099511627776) := by show _ ≤ _; omega
            clear hbig
            go_wp2_with fail
            go_roundw
            case rel => exact ⟨k + 1, by omega, by go_num, by rw [HM'.out], by rw [← HM'.out]; exact HMB, HR, HBB⟩
            case measure => simp [intOf]; omega
        · have hki : ¬ (k : Int) < (n : Int) := by omega
          obtain rfl : k = n := by omega
          obtain ⟨m, hme⟩ : ∃ m, m = valL (l.take k) := ⟨_, rfl⟩
          rw [← hme] at hm ⊢
          have HN : Hid (V = .tuple #[.int .i64 (m : Int), .bool true]) := by
            show _ = _
            have h1 : m = valL l := by rw [hme, List.take_of_length_le (by have := HNL.out; omega)]
            rw [HVV.out, if_pos (by rw [← h1]; exact hm.out), h1]
          clear hme
          go_wp2_with fail
          refine bodyPost_ret (v := .tuple #[.int .i64 (m : Int), .bool true]) (by simp [results, Tryd.results52, go_sem]) rfl ⟨by rw [HN.out], HBB.out⟩
/-- what the page's number answers -/
def RNum (l : BS) (w : World) (e : Ending) (w' : World) : Prop := ∃ z : Int, e = .returned (.tuple #[.int .i64 z, .bool (numO l).isSome]) ∧ (∀ m, numO l = some m → z = (m : Int)) ∧ Below w.heap.size w w'
set_option maxRecDepth 100000 in
set_option maxHeartbeats 2000000 in
theorem rnum_any (s : ByteArray) (w : World) (hs : s.size ≤ 4000000000) :
    Calls Tryd.prog 55 #[.string s] w (RNum s.data.toList w) := by
  have HSZ := Lib.hid (Lib.size_eq s)
  obtain ⟨l, hl⟩ : ∃ l, l = s.data.toList := ⟨_, rfl⟩
  rw [← hl] at HSZ ⊢
  have HL := Lib.hid hl
  clear hl
  show Calls _ _ _ _ fun e w' => ∃ z : Int, e = .returned (.tuple #[.int .i64 z, .bool (numO l).isSome]) ∧ (∀ m, numO l = some m → z = (m : Int)) ∧ Below w.heap.size w w'
  obtain ⟨V, hV⟩ : ∃ V, V = (numO l).isSome := ⟨_, rfl⟩
  rw [← hV]
  have HV := Lib.hid hV
  have HO : Hid (∀ z : Int, (numO l = none → V = false) ∧ True) := fun z => ⟨fun h => by rw [HV.out, h]; rfl, trivial⟩
  clear hV
  by_cases he : s.size = 0
  · have hl1 : (s.size : Int) < 1 := by omega
    have HNO : Hid (numO l = none) := by
      show _ = _
      have : l = [] := List.eq_nil_of_length_eq_zero (by rw [← HSZ.out]; exact he)
      unfold numO
      rw [if_neg (by simp [this])]
    have HN : Hid (V = false) := (HO.out 0).1 HNO.out
    clear he
    go_enter Tryd.func55, Tryd.ntmps55
    go_wp2_with fail
    refine bodyPost_ret (v := .tuple #[.int .i64 0, .bool false]) (by simp [results, Tryd.results55, go_sem]) rfl ⟨0, by rw [HN.out], (fun m h => (by rw [HNO.out] at h; cases h)), Below.refl _ _⟩
  have hl1 : ¬ (s.size : Int) < 1 := by omega
  have hpos : 0 < s.size := by omega
  by_cases hb : 13 < s.size
  · have hl2 : (13 : Int) < (s.size : Int) := by omega
    have HNO : Hid (numO l = none) := numO_long l (by rw [← HSZ.out]; exact hb)
    have HN : Hid (V = false) := (HO.out 0).1 HNO.out
    clear hb he
    go_enter Tryd.func55, Tryd.ntmps55
    go_wp2_with fail
    refine bodyPost_ret (v := .tuple #[.int .i64 0, .bool false]) (by simp [results, Tryd.results55, go_sem]) rfl ⟨0, by rw [HN.out], (fun m h => (by rw [HNO.out] at h; cases h)), Below.refl _ _⟩
  have hl2 : ¬ (13 : Int) < (s.size : Int) := by omega
  have hk13 : s.size ≤ 13 := by omega
  obtain ⟨y0, hy0⟩ : ∃ y, y = s[0]'hpos := ⟨_, rfl⟩
  have hg0 : l[0]? = some y0 := by
    have hb := bget s 0 hpos
    rw [HL.out, List.getElem?_eq_getElem (by rw [← HL.out]; have := HSZ.out; omega), hb, ← hy0]
  have hyv : ((s[0]'hpos).toNat : Int) = (y0.toNat : Int) := by rw [hy0]
  have HG0 := Lib.hid hg0
  clear hg0 hy0 he hb
  by_cases hz : y0 = 48 ∧ 1 < s.size
  · have hz1 : (y0.toNat : Int) = 48 := by rw [hz.1]; rfl
    have hz2 : (1 : Int) < (s.size : Int) := by omega
    have HNO : Hid (numO l = none) := by
      show _ = _
      unfold numO
      refine if_neg ?_
      rintro ⟨_, _, h3, _⟩
      exact h3 ⟨by rw [HG0.out, hz.1], by rw [← HSZ.out]; exact hz.2⟩
    have HN : Hid (V = false) := (HO.out 0).1 HNO.out
    clear hz
    go_enter Tryd.func55, Tryd.ntmps55
    go_wp2_with fail
    refine bodyPost_ret (v := .tuple #[.int .i64 0, .bool false]) (by simp [results, Tryd.results55, go_sem]) rfl ⟨0, by rw [HN.out], (fun m h => (by rw [HNO.out] at h; cases h)), Below.refl _ _⟩
  have HZ := Lib.hid hz
  have hq48 : ((y0.toNat : Int) = 48 ∧ ¬ (1 : Int) < (s.size : Int)) ∨ ¬ (y0.toNat : Int) = 48 := by
    by_cases hy48 : (y0.toNat : Int) = 48
    · exact .inl ⟨hy48, fun h2 => hz ⟨UInt8.toNat_inj.1 (by have : (48 : UInt8).toNat = 48 := rfl; omega), by omega⟩⟩
    · exact .inr hy48
  clear hz
  go_enter Tryd.func55, Tryd.ntmps55
  rcases hq48 with ⟨hy48, hz2⟩ | hy48
  all_goals
    go_wp2_with fail
    clear hl1 hl2
    go_loopw [4, 5] (fun nv i wr => ∃ k : Nat, k ≤ s.size ∧ i = .int .i64 (k : Int) ∧ nv = .int .i64 ((valL (l.take k) : Nat) : Int) ∧ Hid ((l.take k).all digB = true) ∧ Below w.heap.size w wr) (fun _ i _ => s.size - (intOf i).toNat)
    case atStart => exact ⟨0, Nat.zero_le _, rfl, rfl, rfl, Below.refl _ _⟩
    case round =>
      obtain ⟨k, hk, rfl, rfl, hm, hbb⟩ := hrel
      have HBB := Lib.hid hbb
      have hbound : valL (l.take k) < 10000000000000 := by
        have h1 := valL_short (l.take k) hm.out 0
        have h2 : (l.take k).length ≤ 13 := by rw [List.length_take]; omega
        have h3 : (10 : Nat) ^ (l.take k).length ≤ 10 ^ 13 := Nat.pow_le_pow_right (by omega) h2
        have h4 : (10 : Nat) ^ 13 = 10000000000000 := by decide
        have h5 : valL (l.take k) < (0 + 1) * 10 ^ (l.take k).length := h1
        omega
      clear hbb
      by_cases hlt : k < s.size
      · have hki : (k : Int) < (s.size : Int) := by omega
        have hkl : k < l.length := by have := HSZ.out; omega
        have hg := bget s k hlt
        obtain ⟨x, hx⟩ : ∃ x, x = s[k]'hlt := ⟨_, rfl⟩
        have hxv : ((s[k]'hlt).toNat : Int) = (x.toNat : Int) := by rw [hx]
        have hxl : l[k]'hkl = x := by
          have h1 : l[k]? = some x := by rw [HL.out, List.getElem?_eq_getElem (by rw [← HL.out]; exact hkl), hg, ← hx]
          rw [List.getElem?_eq_getElem hkl] at h1
          exact Option.some.inj h1
        have hst := valL_take l k hkl
        have hal : (l.take (k + 1)).all digB = ((l.take k).all digB && digB x) := by
          rw [List.take_succ_eq_append_getElem hkl, List.all_append, hxl]
          simp
        rw [hxl] at hst
        obtain ⟨m, hme⟩ : ∃ m, m = valL (l.take k) := ⟨_, rfl⟩
        rw [← hme] at hst hbound ⊢
        unfold stepV at hst
        obtain ⟨m', hme'⟩ : ∃ m', m' = valL (l.take (k + 1)) := ⟨_, rfl⟩
        rw [← hme'] at hst
        have HM' := Lib.hid hme'
        have HAL := Lib.hid hal
        by_cases hd : digB x = true
        · have hdx := hd
          unfold digB at hdx
          rw [Bool.and_eq_true, decide_eq_true_eq, decide_eq_true_eq] at hdx
          have hx1 : ¬ (x.toNat : Int) < 48 := by omega
          have hx2 : ¬ (57 : Int) < (x.toNat : Int) := by omega
          have hw1 : IntKind.i64.wrap (10 * (m : Int)) = 10 * (m : Int) := IntWalk.i64_in _ (by omega)
          have hw2 : IntKind.u8.wrap ((x.toNat : Int) - 48) = (x.toNat : Int) - 48 := IntWalk.u8_in _ (by omega)
          have hw4 : IntKind.i64.wrap ((x.toNat : Int) - 48) = (x.toNat : Int) - 48 := IntWalk.i64_in _ (by omega)
          have hw3 : IntKind.i64.wrap (10 * (m : Int) + ((x.toNat : Int) - 48)) = (m' : Int) := by
            rw [IntWalk.i64_in _ (by omega)]
            omega
          have HD : Hid ((l.take (k + 1)).all digB = true) := by show _ = _; rw [HAL.out, hm.out, hd]; rfl
          clear hst hme hme' hdx hx hm hg hxl hal hd hbound
          go_wp2_with fail
          go_roundw
          case rel => exact ⟨k + 1, by omega, by go_num, by rw [HM'.out], HD, HBB.out⟩
          case measure => simp [intOf]; omega
        · have HNO : Hid (numO l = none) := by
            show _ = _
            unfold numO
            refine if_neg ?_
            rintro ⟨_, h2, _, _⟩
            rw [List.all_eq_true] at h2
            exact hd (by rw [← hxl]; exact h2 _ (List.getElem_mem hkl))
          have HN : Hid (V = false) := (HO.out 0).1 HNO.out
          have hbad : (x.toNat : Int) < 48 ∨ (¬ (x.toNat : Int) < 48 ∧ (57 : Int) < (x.toNat : Int)) := by
            unfold digB at hd
            rw [Bool.and_eq_true, decide_eq_true_eq, decide_eq_true_eq] at hd
            omega
          clear hst hme hme' hx hm hg hxl hal hd hbound
          rcases hbad with hx1 | ⟨hx1, hx2⟩
          · go_wp2_with fail
            refine bodyPost_ret (v := .tuple #[.int .i64 0, .bool false]) (by simp [results, Tryd.results55, go_sem]) rfl ⟨0, by rw [HN.out], (fun m h => (by rw [HNO.out] at h; cases h)), HBB.out⟩
          · go_wp2_with fail
            refine bodyPost_ret (v := .tuple #[.int .i64 0, .bool false]) (by simp [results, Tryd.results55, go_sem]) rfl ⟨0, by rw [HN.out], (fun m h => (by rw [HNO.out] at h; cases h)), HBB.out⟩
      · have hki : ¬ (k : Int) < (s.size : Int) := by omega
        have hfull : l.take k = l := List.take_of_length_le (by have := HSZ.out; omega)
        rw [hfull] at hm hbound ⊢
        obtain ⟨m, hme⟩ : ∃ m, m = valL l := ⟨_, rfl⟩
        rw [← hme] at hbound ⊢
        have hno : numO l = if m ≤ 1099511627776 then some m else none := by
          unfold numO
          rw [← hme]
          by_cases hv : m ≤ 1099511627776
          · rw [if_pos ⟨fun h => by have h1 := HSZ.out; have h2 := congrArg List.length h; simp only [List.length_nil] at h2; omega, hm.out, fun h => HZ.out ⟨by have h1 := h.1; rw [HG0.out] at h1; exact Option.some.inj h1, by rw [HSZ.out]; exact h.2⟩, hv⟩, if_pos hv]
          · rw [if_neg (fun h => hv h.2.2.2), if_neg hv]
        have HNO := Lib.hid hno
        by_cases hv : m ≤ 1099511627776
        · have hvi : (m : Int) ≤ 1099511627776 := by omega
          have HN : Hid (V = true) := by show _ = _; rw [HV.out, hno, if_pos hv]; rfl
          have HMM : Hid (∀ n, numO l = some n → (m : Int) = (n : Int)) := by
            show ∀ n, _ → _
            intro n h
            rw [hno, if_pos hv] at h
            injection h with h
            rw [h]
          clear hme hno hv hfull hm hbound
          go_wp2_with fail
          refine bodyPost_ret (v := .tuple #[.int .i64 (m : Int), .bool true]) (by simp [results, Tryd.results55, go_sem]) rfl ⟨m, by rw [HN.out], HMM.out, HBB.out⟩
        · have hvi : ¬ (m : Int) ≤ 1099511627776 := by omega
          have HNN : Hid (numO l = none) := by show _ = _; rw [hno, if_neg hv]
          have HN : Hid (V = false) := (HO.out 0).1 HNN.out
          clear hme hno hv hfull hm hbound
          go_wp2_with fail
          refine bodyPost_ret (v := .tuple #[.int .i64 (m : Int), .bool false]) (by simp [results, Tryd.results55, go_sem]) rfl ⟨m, by rw [HN.out], (fun n h => (by rw [HNN.out] at h; cases h)), HBB.out⟩
end Go.Proofs.YtjdebhemoeojiaaDoor
