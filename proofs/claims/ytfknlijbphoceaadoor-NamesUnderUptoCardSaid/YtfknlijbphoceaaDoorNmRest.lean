/-
  names.small, Canon, Parent, Under, Split, Join; the law's num, alive.
-/
import Derived.Test.YtfknlijbphoceaaDoorNmPath
import Derived.ShutString
namespace Go.Proofs.YtfknlijbphoceaaDoor
open Go.RowKit

set_option maxRecDepth 100000 in
theorem join_any (s n : ByteArray) (w : World) (hs : s.size ≤ 4000000000000000000) (hn : n.size ≤ 4000000000000000000) :
    Calls Tryd.prog 10 #[.string s, .string n] w fun e w' => e = .returned (.string ⟨(s.data.toList ++ 64 :: n.data.toList).toArray⟩) ∧ w' = w := by
  go_enter Tryd.func10, Tryd.ntmps10
  go_wp2_with fail
  go_ret
  refine ⟨congrArg Ending.returned (congrArg Value.string (eq_mk _ _ ?_)), rfl⟩
  rw [append_data, append_data, List.append_assoc]
  rfl
set_option maxRecDepth 100000 in
theorem under_any (p f : ByteArray) (w : World) (hp : p.size ≤ 4000000000) (hf : f.size ≤ 4000000000) (hm : HasMax w) :
    Calls Tryd.prog 8 #[.string p, .string f] w fun e w' => e = .returned (.bool (underB p.data.toList f.data.toList)) ∧ Below w.heap.size w w' := by
  have htp := Lib.hid (toList_data p)
  have htf := Lib.hid (toList_data f)
  go_enter Tryd.func8, Tryd.ntmps8
  go_wp2_with fail
  refine (path_any p w hp hm).mono ?_
  rintro e w1 ⟨rfl, hb1⟩
  have hm1 := hm.below hb1
  obtain ⟨bp, hbp0⟩ : ∃ b, b = pathB p.data.toList := ⟨_, rfl⟩
  rw [← hbp0]
  have hbp := Lib.hid hbp0
  clear hbp0
  cases bp
  · go_wp2_with fail
    go_ret
    refine ⟨congrArg Ending.returned (congrArg Value.bool ?_), hb1⟩
    unfold underB
    rw [← hbp.out]
    rfl
  · go_wp2_with fail
    refine (path_any f w1 hf hm1).mono ?_
    rintro e w2 ⟨rfl, hb2⟩
    have hb := hb1.trans (hb2.mono hb1.size)
    obtain ⟨bf, hbf0⟩ : ∃ b, b = pathB f.data.toList := ⟨_, rfl⟩
    rw [← hbf0]
    have hbf := Lib.hid hbf0
    clear hbf0
    cases bf
    · go_wp2_with fail
      go_ret
      refine ⟨congrArg Ending.returned (congrArg Value.bool ?_), hb⟩
      unfold underB
      rw [← hbp.out, ← hbf.out]
      rfl
    · go_wp2_with (refine (Tryd.strings_HasPrefix _ _ _).mono ?_; rintro e w3 ⟨rfl, rfl⟩)
      · have h0 : f.toList = [] := by assumption
        rw [htf.out] at h0
        go_ret
        refine ⟨congrArg Ending.returned (congrArg Value.bool ?_), hb⟩
        unfold underB
        rw [← hbp.out, ← hbf.out, h0]
        rfl
      · have h0 : p.toList = f.toList := by assumption
        rw [htf.out, htp.out] at h0
        go_ret
        refine ⟨congrArg Ending.returned (congrArg Value.bool ?_), hb⟩
        unfold underB
        rw [← hbp.out, ← hbf.out, h0]
        simp
      · go_ret
        refine ⟨congrArg Ending.returned (congrArg Value.bool ?_), hb⟩
        unfold underB
        rw [← hbp.out, ← hbf.out, htf.out, htp.out]
        rfl
set_option maxRecDepth 100000 in
theorem parent_any (s : ByteArray) (w : World) (hs : s.size ≤ 4000000000) (hm : HasMax w) :
    Calls Tryd.prog 6 #[.string s] w fun e w' => Below w.heap.size w w' ∧
      ((s.data.toList = [] ∨ pathB s.data.toList = false) ∧ e = .returned (.tuple #[.string ⟨#[]⟩, .bool false]) ∨
       s.data.toList ≠ [] ∧ pathB s.data.toList = true ∧ e = .returned (.tuple #[.string ⟨(upL s.data.toList).toArray⟩, .bool true])) := by
  have hts := Lib.hid (toList_data s)
  go_enter Tryd.func6, Tryd.ntmps6
  go_wp2_with fail
  · have h0 : s.toList = [] := by assumption
    rw [hts.out] at h0
    refine bodyPost_ret (v := .tuple #[.string ⟨#[]⟩, .bool false]) (by simp [results, Tryd.results6, go_sem]) rfl ⟨Below.refl _ _, .inl ⟨.inl h0, rfl⟩⟩
  · have h0 : ¬ s.toList = [] := by assumption
    have hie : s.toList.isEmpty = false := by simpa using h0
    rw [hts.out] at h0
    refine (path_any s w hs hm).mono ?_
    rintro e w1 ⟨rfl, hb1⟩
    obtain ⟨bs, hbs0⟩ : ∃ b, b = pathB s.data.toList := ⟨_, rfl⟩
    rw [← hbs0]
    simp only [hie]
    clear hie
    have hbs := Lib.hid hbs0
    have hne := Lib.hid h0
    have hlast := Lib.hid (last_eq s)
    have hlb := Lib.hid (last_bound s.data.toList)
    clear hbs0 h0
    cases bs
    · go_wp2_with fail
      refine bodyPost_ret (v := .tuple #[.string ⟨#[]⟩, .bool false]) (by simp [results, Tryd.results6, go_sem]) rfl ⟨hb1, .inl ⟨.inr hbs.out.symm, rfl⟩⟩
    · go_wp2_with fail
      refine (Tryd.strings_LastIndexByte s 47 (by omega) _).mono ?_
      rintro e w2 ⟨rfl, rfl⟩
      have hm1 := Lib.hid (show max (Lib.lastIndexByte s 47) 0 = (((lastS s.data.toList).getD 0 : Nat) : Int) from hlast.out)
      obtain ⟨k, hk⟩ : ∃ k, k = (lastS s.data.toList).getD 0 := ⟨_, rfl⟩
      rw [← hk] at hlb hm1
      have HK := Lib.hid hk
      have hks : k ≤ s.size := by rw [Lib.size_eq]; exact hlb.out
      clear hlast hlb hk
      go_wp2_with fail
      · have hv : (s.extract 0 (max (Lib.lastIndexByte s 47) 0).toNat) = ⟨(upL s.data.toList).toArray⟩ := by
          apply eq_mk
          rw [hm1.out, Lib.extract_from_zero]
          unfold upL
          rw [← HK.out]
          rfl
        refine bodyPost_ret (v := .tuple #[.string ⟨(upL s.data.toList).toArray⟩, .bool true]) (by simp [results, Tryd.results6, go_sem, hv]) rfl ⟨hb1, .inr ⟨hne.out, hbs.out.symm, rfl⟩⟩
      · rename_i h0
        exact absurd ⟨by omega, by rw [hm1.out]; omega⟩ h0

theorem bts_set (a r z : List UInt8) (x y : UInt8) {k : Nat} (hk : a.length = k) : (bts (a ++ x :: r ++ z)).toArray.setIfInBounds k (.int .u8 (y.toNat : Int)) = (bts (a ++ [y] ++ r ++ z)).toArray := by
  subst hk
  rw [List.setIfInBounds_toArray, List.append_assoc, bts_append, List.set_append_right _ _ (by rw [bts_length]; exact Nat.le_refl _), bts_length, Nat.sub_self]
  simp [bts]
set_option maxRecDepth 100000 in
set_option maxHeartbeats 1000000 in
theorem small_any (s : ByteArray) (w : World) (hs : s.size ≤ 4000000000) :
    Calls Tryd.prog 23 #[.string s] w fun e w' => e = .returned (.string ⟨(s.data.toList.map lowB).toArray⟩) ∧ Below w.heap.size w w' := by
  have hcv := Lib.hid (Lib.run_convert_string_bytes (P := Tryd.prog) w 9 41 5 s Tryd.underlying9 Tryd.underlying41 Tryd.underlying5)
  have hb := Lib.hid (bytesWorld_below w 5 s)
  obtain ⟨z, hr⟩ := bytesWorld_row w 5 s
  have hsz := Lib.hid (Lib.size_eq s)
  go_enter Tryd.func23, Tryd.ntmps23
  go_wp2_with fail
  rw [hcv.out]
  clear hcv
  obtain ⟨n, hn⟩ : ∃ n, n = s.size := ⟨_, rfl⟩
  obtain ⟨W, hW⟩ : ∃ W, W = Lib.bytesWorld w 5 s := ⟨_, rfl⟩
  obtain ⟨l, hl⟩ : ∃ l, l = s.data.toList := ⟨_, rfl⟩
  rw [← hW, ← hn, ← hl] at hr
  rw [← hW] at hb
  rw [← hn, ← hl] at hsz
  rw [← hn] at hs
  simp only [← hW, ← hn]
  have HR := Lib.hid hr
  have HL := Lib.hid hl
  clear hW hn hl hr
  go_wp2_with fail
  go_loopw [10] (fun j wr => ∃ k : Nat, k ≤ n ∧ j = .int .i64 (k : Int) ∧ Below w.heap.size w wr ∧ Hid (RowM wr w.heap.size 5 n (bts ((l.take k).map lowB ++ l.drop k ++ z)).toArray)) (fun j _ => n - (intOf j).toNat)
  case atStart => exact ⟨0, Nat.zero_le _, rfl, hb.out, (show RowM _ _ _ _ _ from by simpa using HR.out)⟩
  case round =>
    obtain ⟨k, hk, rfl, hbw, hrow⟩ := hrel
    by_cases hlt : k < n
    · have hki : (k : Int) < (n : Int) := by omega
      have hkl : k < l.length := by have := hsz.out; omega
      obtain ⟨x, hx⟩ : ∃ x, x = l[k]'hkl := ⟨_, rfl⟩
      have hdrop : l.drop k = x :: l.drop (k + 1) := by rw [hx]; exact List.drop_eq_getElem_cons hkl
      have htake : l.take (k + 1) = l.take k ++ [x] := by rw [hx]; exact List.take_succ_eq_append_getElem hkl
      have htl : ((l.take k).map lowB).length = k := by rw [List.length_map, List.length_take]; omega
      have hcell : wr.cell? ⟨w.heap.size, k, none⟩ = some (.int .u8 (x.toNat : Int)) := by
        rw [hrow.out.cell k, List.getElem?_toArray, bts_get, List.append_assoc, List.getElem?_append_right (by omega), htl, hdrop]
        simp
      have hfro := hrow.out.frozen hlt
      have hset := Lib.hid (hrow.out.set_ k (.int .u8 ((lowB x).toNat : Int)))
      have hlo := Lib.hid (show RowM wr w.heap.size 5 n (bts ((l.take k).map lowB ++ l.drop k ++ z)).toArray from hrow.out)
      have hnext : Hid ((bts ((l.take k).map lowB ++ l.drop k ++ z)).toArray.setIfInBounds k (.int .u8 ((lowB x).toNat : Int)) = (bts ((l.take (k + 1)).map lowB ++ l.drop (k + 1) ++ z)).toArray) := by
        show _ = _
        rw [hdrop, htake, List.map_append, List.map_cons, List.map_nil]
        exact bts_set _ _ _ _ _ htl
      have hsame : Hid (lowB x = x → (l.take (k + 1)).map lowB ++ l.drop (k + 1) ++ z = (l.take k).map lowB ++ l.drop k ++ z) := by
        show _ → _
        intro h
        rw [hdrop, htake, List.map_append, List.map_cons, List.map_nil, h]
        simp
      have hxb : x.toNat < 256 := x.toNat_lt
      have hlow : Hid ((lowB x).toNat = if 65 ≤ x.toNat ∧ x.toNat ≤ 90 then x.toNat + 32 else x.toNat) := by
        show _ = _
        unfold lowB
        simp only [UInt8.le_iff_toNat_le]
        have e1 : (65 : UInt8).toNat = 65 := rfl
        have e2 : (90 : UInt8).toNat = 90 := rfl
        rw [e1, e2]
        split
        · rw [UInt8.toNat_add]
          have e3 : (32 : UInt8).toNat = 32 := rfl
          rw [e3]; omega
        · rfl
      have HX := Lib.hid hx
      have HT := Lib.hid htl
      clear hx hdrop htake htl hrow
      go_wp2_with fail
      · have h1 : 65 ≤ (x.toNat : Int) := by assumption
        have h2 : (x.toNat : Int) ≤ 90 := by assumption
        have hv : ((x.toNat : Int) + 97 - 65) = ((lowB x).toNat : Int) := by rw [hlow.out, if_pos (by omega)]; omega
        refine ⟨⟨k + 1, by omega, rfl, hbw.setCell (Nat.le_refl _) _, ?_⟩, by simp [intOf]; omega⟩
        rw [hv]
        show RowM _ _ _ _ _
        rw [← hnext.out]
        exact hset.out
      · have h1 : 65 ≤ (x.toNat : Int) := by assumption
        have h2 : 90 < (x.toNat : Int) := by assumption
        have hv : lowB x = x := UInt8.toNat_inj.1 (by rw [hlow.out, if_neg (by omega)])
        refine ⟨⟨k + 1, by omega, rfl, hbw, ?_⟩, by simp [intOf]; omega⟩
        show RowM _ _ _ _ _
        rw [hsame.out hv]
        exact hlo.out
      · have h1 : ¬ 65 ≤ (x.toNat : Int) := by assumption
        have hv : lowB x = x := UInt8.toNat_inj.1 (by rw [hlow.out, if_neg (by omega)])
        refine ⟨⟨k + 1, by omega, rfl, hbw, ?_⟩, by simp [intOf]; omega⟩
        show RowM _ _ _ _ _
        rw [hsame.out hv]
        exact hlo.out
    · have hkn : k = n := by omega
      have hrd := hrow.out.reads (l.map lowB) z (by rw [hkn, hsz.out, List.take_length, List.drop_length, List.append_nil]) (by rw [List.length_map]; exact hsz.out.symm)
      have hst := Lib.hid (str_of (P := Tryd.prog) (c := grownCap w n 0 5) hrd (by rw [List.length_map]; exact hsz.out) Tryd.underlying41 Tryd.underlying5 Tryd.underlying9)
      clear hrd hkn
      go_wp2_with fail
      rw [hst.out]
      go_wp2_with fail
      go_ret
      exact ⟨by rw [HL.out]; rfl, hbw⟩

/-! ### Canon, Split -/
/-- what Canon answers -/
def canonV (l : List UInt8) : Value := if pathB (canonL l) = true then .tuple #[.string ⟨(canonL l).toArray⟩, .int .i64 0] else .tuple #[.string ⟨#[]⟩, .int .i64 31]
theorem trimL_le (l : List UInt8) : (trimL l).length ≤ l.length := by
  unfold trimL
  split
  · rw [List.length_dropLast]; omega
  · exact Nat.le_refl _
theorem canonL_le (l : List UInt8) : (canonL l).length ≤ l.length := by
  unfold canonL
  have := trimL_le (l.map lowB)
  rw [List.length_map] at this
  exact this
set_option maxRecDepth 100000 in
theorem canon_any (s : ByteArray) (w : World) (hs : s.size ≤ 4000000000) (hm : HasMax w) :
    Calls Tryd.prog 12 #[.string s] w fun e w' => e = .returned (canonV s.data.toList) ∧ Below w.heap.size w w' := by
  go_enter Tryd.func12, Tryd.ntmps12
  go_wp2_with fail
  refine (small_any s w hs).mono ?_
  rintro e w1 ⟨rfl, hb1⟩
  have hm1 := hm.below hb1
  have hle := canonL_le s.data.toList
  have hsz := Lib.size_eq s
  obtain ⟨q, hq⟩ : ∃ q : ByteArray, q = ⟨(canonL s.data.toList).toArray⟩ := ⟨_, rfl⟩
  have hqd : q.data.toList = canonL s.data.toList := by rw [hq]
  have hqs : q.size ≤ 4000000000 := by rw [Lib.size_eq q, hqd]; omega
  have htr : ∀ w, Calls Tryd.prog 22 #[.string ⟨(s.data.toList.map lowB).toArray⟩, .string ⟨#[47]⟩] w fun e w' => e = .returned (.string q) ∧ w' = w := by
    intro w
    refine (Tryd.strings_TrimSuffix ⟨(s.data.toList.map lowB).toArray⟩ ⟨#[47]⟩ w (by rw [Lib.size_eq]; simp; omega)).mono ?_
    rintro e w' ⟨h1, h2⟩
    refine ⟨?_, h2⟩
    rw [h1, hq]
    exact congrArg (fun l : List UInt8 => Ending.returned (Value.string ⟨l.toArray⟩)) (trim_eq (s.data.toList.map lowB))
  have hcv := Lib.hid (show canonV s.data.toList = if pathB q.data.toList = true then .tuple #[.string q, .int .i64 0] else .tuple #[.string ⟨#[]⟩, .int .i64 31] by rw [hqd, hq]; rfl)
  clear hq hqd hle hsz
  go_wp2_with fail
  refine (htr _).mono ?_
  clear htr
  rintro e w2 ⟨rfl, rfl⟩
  go_wp2_with fail
  refine (path_any q w2 hqs hm1).mono ?_
  rintro e w3 ⟨rfl, hb3⟩
  have hb := hb1.trans (hb3.mono hb1.size)
  obtain ⟨b, hbb⟩ : ∃ b, b = pathB q.data.toList := ⟨_, rfl⟩
  rw [← hbb] at hcv ⊢
  clear hbb
  cases b
  · go_wp2_with fail
    exact bodyPost_ret (v := .tuple #[.string ⟨#[]⟩, .int .i64 31]) (by simp [results, Tryd.results12, go_sem]) rfl ⟨by rw [hcv.out]; rfl, hb⟩
  · go_wp2_with fail
    exact bodyPost_ret (v := .tuple #[.string q, .int .i64 0]) (by simp [results, Tryd.results12, go_sem]) rfl ⟨by rw [hcv.out]; rfl, hb⟩

/-- what Split answers -/
def splitV (l : List UInt8) : Value := match atL l with
  | some (p, n) => if (pathB p && nameB n) = true then .tuple #[.string ⟨p.toArray⟩, .string ⟨n.toArray⟩, .int .i64 0] else .tuple #[.string ⟨#[]⟩, .string ⟨#[]⟩, .int .i64 31]
  | none => .tuple #[.string ⟨#[]⟩, .string ⟨#[]⟩, .int .i64 31]
theorem atL_len (l p n : List UInt8) (h : atL l = some (p, n)) : p.length + n.length < l.length := by
  induction l generalizing p with
  | nil => cases h
  | cons a r ih =>
    unfold atL at h
    split at h
    · simp only [Option.some.injEq, Prod.mk.injEq] at h
      obtain ⟨rfl, rfl⟩ := h
      simp
    · split at h
      · rename_i p' n' e
        simp only [Option.some.injEq, Prod.mk.injEq] at h
        obtain ⟨rfl, rfl⟩ := h
        have := ih _ e
        simp
        omega
      · cases h
set_option maxRecDepth 100000 in
theorem split_any (s : ByteArray) (w : World) (hs : s.size ≤ 4000000000) (hm : HasMax w) :
    Calls Tryd.prog 9 #[.string s] w fun e w' => e = .returned (splitV s.data.toList) ∧ Below w.heap.size w w' := by
  obtain ⟨m, hmm⟩ := id hm
  have hcut : ∃ p n : ByteArray, ∃ b : Bool, p.size ≤ 4000000000 ∧ splitV s.data.toList = (if (b && pathB p.data.toList && nameB n.data.toList) = true then .tuple #[.string p, .string n, .int .i64 0] else .tuple #[.string ⟨#[]⟩, .string ⟨#[]⟩, .int .i64 31]) ∧
      Calls Tryd.prog 19 #[.string s, .string ⟨#[64]⟩] w fun e w' => e = .returned (.tuple #[.string p, .string n, .bool b]) ∧ ∃ q, w' = w.drewN q := by
    have hc := Tryd.strings_Cut s ⟨#[64]⟩ m w (by omega) hmm
    have he := cut_at s.data.toList
    have hsz := Lib.size_eq s
    cases ha : atL s.data.toList with
    | none =>
      rw [ha] at he
      refine ⟨s, ⟨#[]⟩, false, hs, by unfold splitV; rw [ha]; rfl, hc.mono ?_⟩
      rintro e w' ⟨h1, h2⟩
      refine ⟨?_, h2⟩
      rw [h1]
      simp only at he
      rw [he]
    | some pn =>
      obtain ⟨p, n⟩ := pn
      rw [ha] at he
      have hl := atL_len _ _ _ ha
      refine ⟨⟨p.toArray⟩, ⟨n.toArray⟩, true, by rw [Lib.size_eq]; simp; omega, by unfold splitV; rw [ha]; rfl, hc.mono ?_⟩
      rintro e w' ⟨h1, h2⟩
      refine ⟨?_, h2⟩
      rw [h1]
      simp only at he
      rw [he]
  clear hmm
  obtain ⟨p, n, b, hps, hv, hcut⟩ := hcut
  have HV := Lib.hid hv
  clear hv
  go_enter Tryd.func9, Tryd.ntmps9
  go_wp2_with fail
  refine hcut.mono ?_
  clear hcut
  rintro e w1 ⟨rfl, q, rfl⟩
  have hb1 : Below w.heap.size w (w.drewN q) := below_drewN (Below.refl _ _) q
  have hm1 := hm.below hb1
  cases b
  · go_wp2_with fail
    exact bodyPost_ret (v := .tuple #[.string ⟨#[]⟩, .string ⟨#[]⟩, .int .i64 31]) (by simp [results, Tryd.results9, go_sem]) rfl ⟨by rw [HV.out]; rfl, hb1⟩
  · go_wp2_with fail
    refine (path_any p _ hps hm1).mono ?_
    rintro e w2 ⟨rfl, hb2⟩
    have hb := hb1.trans (hb2.mono hb1.size)
    obtain ⟨b, hbb⟩ : ∃ b, b = pathB p.data.toList := ⟨_, rfl⟩
    rw [← hbb] at HV ⊢
    clear hbb
    cases b
    · go_wp2_with fail
      exact bodyPost_ret (v := .tuple #[.string ⟨#[]⟩, .string ⟨#[]⟩, .int .i64 31]) (by simp [results, Tryd.results9, go_sem]) rfl ⟨by rw [HV.out]; rfl, hb⟩
    · go_wp2_with fail
      refine (name_any n _).mono ?_
      rintro e w3 ⟨rfl, hb3⟩
      have hb' := hb.trans (hb3.mono hb.size)
      obtain ⟨b, hbb⟩ : ∃ b, b = nameB n.data.toList := ⟨_, rfl⟩
      rw [← hbb] at HV ⊢
      clear hbb
      cases b
      · go_wp2_with fail
        exact bodyPost_ret (v := .tuple #[.string ⟨#[]⟩, .string ⟨#[]⟩, .int .i64 31]) (by simp [results, Tryd.results9, go_sem]) rfl ⟨by rw [HV.out]; rfl, hb'⟩
      · go_wp2_with fail
        exact bodyPost_ret (v := .tuple #[.string p, .string n, .int .i64 0]) (by simp [results, Tryd.results9, go_sem]) rfl ⟨by rw [HV.out]; rfl, hb'⟩
end Go.Proofs.YtfknlijbphoceaaDoor
