/-
  names.Parent and names.Split, by their contracts.
-/
import Derived.Test.YtbppdlhbjddhjaaGreatDoorNmPath
import Derived.ShutString
namespace Go.Proofs.YtbppdlhbjddhjaaGreatDoor
open Go.RowKit

set_option maxRecDepth 100000 in
theorem parent_any (s : ByteArray) (w : World) (hs : s.size ≤ 4000000000) (hm : HasMax w) :
    Calls Tryz.prog 58 #[.string s] w fun e w' => Below w.heap.size w w' ∧
      ((s.data.toList = [] ∨ pathB s.data.toList = false) ∧ e = .returned (.tuple #[.string ⟨#[]⟩, .bool false]) ∨
       s.data.toList ≠ [] ∧ pathB s.data.toList = true ∧ e = .returned (.tuple #[.string ⟨(upL s.data.toList).toArray⟩, .bool true])) := by
  have hts := Lib.hid (toList_data s)
  go_enter Tryz.func58, Tryz.ntmps58
  go_wp2_with fail
  · have h0 : s.toList = [] := by assumption
    rw [hts.out] at h0
    refine bodyPost_ret (v := .tuple #[.string ⟨#[]⟩, .bool false]) (by simp [results, Tryz.results58, go_sem]) rfl ⟨Below.refl _ _, .inl ⟨.inl h0, rfl⟩⟩
  · have h0 : ¬ s.toList = [] := by assumption
    have hie : s.toList.isEmpty = false := by simpa using h0
    rw [hts.out] at h0
    refine (path_any s w hs hm).mono ?_
    rintro e w1 ⟨rfl, hb1⟩
    obtain ⟨bs, hbs0⟩ : ∃ b, b = pathB s.data.toList := ⟨_, rfl⟩
    rw [← hbs0]
    simp only [hie]
    clear hie
    have hbs := Lib.hid hbs0
    have hne := Lib.hid h0
    have hlast := Lib.hid (last_eq s)
    have hlb := Lib.hid (last_bound s.data.toList)
    clear hbs0 h0
    cases bs
    · go_wp2_with fail
      refine bodyPost_ret (v := .tuple #[.string ⟨#[]⟩, .bool false]) (by simp [results, Tryz.results58, go_sem]) rfl ⟨hb1, .inl ⟨.inr hbs.out.symm, rfl⟩⟩
    · go_wp2_with fail
      refine (Tryz.strings_LastIndexByte s 47 (by omega) _).mono ?_
      rintro e w2 ⟨rfl, rfl⟩
      have hm1 := Lib.hid (show max (Lib.lastIndexByte s 47) 0 = (((lastS s.data.toList).getD 0 : Nat) : Int) from hlast.out)
      obtain ⟨k, hk⟩ : ∃ k, k = (lastS s.data.toList).getD 0 := ⟨_, rfl⟩
      rw [← hk] at hlb hm1
      have HK := Lib.hid hk
      have hks : k ≤ s.size := by rw [Lib.size_eq]; exact hlb.out
      clear hlast hlb hk
      go_wp2_with fail
      · have hv : (s.extract 0 (max (Lib.lastIndexByte s 47) 0).toNat) = ⟨(upL s.data.toList).toArray⟩ := by
          apply eq_mk
          rw [hm1.out, Lib.extract_from_zero]
          unfold upL
          rw [← HK.out]
          rfl
        refine bodyPost_ret (v := .tuple #[.string ⟨(upL s.data.toList).toArray⟩, .bool true]) (by simp [results, Tryz.results58, go_sem, hv]) rfl ⟨hb1, .inr ⟨hne.out, hbs.out.symm, rfl⟩⟩
      · rename_i h0
        exact absurd ⟨by omega, by rw [hm1.out]; omega⟩ h0

/-- what Split answers -/
def splitV (l : List UInt8) : Value := match atL l with
  | some (p, n) => if (pathB p && nameB n) = true then .tuple #[.string ⟨p.toArray⟩, .string ⟨n.toArray⟩, .int .i64 0] else .tuple #[.string ⟨#[]⟩, .string ⟨#[]⟩, .int .i64 31]
  | none => .tuple #[.string ⟨#[]⟩, .string ⟨#[]⟩, .int .i64 31]
theorem atL_len (l p n : List UInt8) (h : atL l = some (p, n)) : p.length + n.length < l.length := by
  induction l generalizing p with
  | nil => cases h
  | cons a r ih =>
    unfold atL at h
    split at h
    · simp only [Option.some.injEq, Prod.mk.injEq] at h
      obtain ⟨rfl, rfl⟩ := h
      simp
    · split at h
      · rename_i p' n' e
        simp only [Option.some.injEq, Prod.mk.injEq] at h
        obtain ⟨rfl, rfl⟩ := h
        have := ih _ e
        simp
        omega
      · cases h
set_option maxRecDepth 100000 in
theorem split_any (s : ByteArray) (w : World) (hs : s.size ≤ 4000000000) (hm : HasMax w) :
    Calls Tryz.prog 155 #[.string s] w fun e w' => e = .returned (splitV s.data.toList) ∧ Below w.heap.size w w' := by
  obtain ⟨m, hmm⟩ := id hm
  have hcut : ∃ p n : ByteArray, ∃ b : Bool, p.size ≤ 4000000000 ∧ splitV s.data.toList = (if (b && pathB p.data.toList && nameB n.data.toList) = true then .tuple #[.string p, .string n, .int .i64 0] else .tuple #[.string ⟨#[]⟩, .string ⟨#[]⟩, .int .i64 31]) ∧
      Calls Tryz.prog 173 #[.string s, .string ⟨#[64]⟩] w fun e w' => e = .returned (.tuple #[.string p, .string n, .bool b]) ∧ ∃ q, w' = w.drewN q := by
    have hc := Tryz.strings_Cut s ⟨#[64]⟩ m w (by omega) hmm
    have he := cut_at s.data.toList
    have hsz := Lib.size_eq s
    cases ha : atL s.data.toList with
    | none =>
      rw [ha] at he
      refine ⟨s, ⟨#[]⟩, false, hs, by unfold splitV; rw [ha]; rfl, hc.mono ?_⟩
      rintro e w' ⟨h1, h2⟩
      refine ⟨?_, h2⟩
      rw [h1]
      simp only at he
      rw [he]
    | some pn =>
      obtain ⟨p, n⟩ := pn
      rw [ha] at he
      have hl := atL_len _ _ _ ha
      refine ⟨⟨p.toArray⟩, ⟨n.toArray⟩, true, by rw [Lib.size_eq]; simp; omega, by unfold splitV; rw [ha]; rfl, hc.mono ?_⟩
      rintro e w' ⟨h1, h2⟩
      refine ⟨?_, h2⟩
      rw [h1]
      simp only at he
      rw [he]
  clear hmm
  obtain ⟨p, n, b, hps, hv, hcut⟩ := hcut
  have HV := Lib.hid hv
  clear hv
  go_enter Tryz.func155, Tryz.ntmps155
  go_wp2_with fail
  refine hcut.mono ?_
  clear hcut
  rintro e w1 ⟨rfl, q, rfl⟩
  have hb1 : Below w.heap.size w (w.drewN q) := below_drewN (Below.refl _ _) q
  have hm1 := hm.below hb1
  cases b
  · go_wp2_with fail
    exact bodyPost_ret (v := .tuple #[.string ⟨#[]⟩, .string ⟨#[]⟩, .int .i64 31]) (by simp [results, Tryz.results155, go_sem]) rfl ⟨by rw [HV.out]; rfl, hb1⟩
  · go_wp2_with fail
    refine (path_any p _ hps hm1).mono ?_
    rintro e w2 ⟨rfl, hb2⟩
    have hb := hb1.trans (hb2.mono hb1.size)
    obtain ⟨b, hbb⟩ : ∃ b, b = pathB p.data.toList := ⟨_, rfl⟩
    rw [← hbb] at HV ⊢
    clear hbb
    cases b
    · go_wp2_with fail
      exact bodyPost_ret (v := .tuple #[.string ⟨#[]⟩, .string ⟨#[]⟩, .int .i64 31]) (by simp [results, Tryz.results155, go_sem]) rfl ⟨by rw [HV.out]; rfl, hb⟩
    · go_wp2_with fail
      refine (name_any n _).mono ?_
      rintro e w3 ⟨rfl, hb3⟩
      have hb' := hb.trans (hb3.mono hb.size)
      obtain ⟨b, hbb⟩ : ∃ b, b = nameB n.data.toList := ⟨_, rfl⟩
      rw [← hbb] at HV ⊢
      clear hbb
      cases b
      · go_wp2_with fail
        exact bodyPost_ret (v := .tuple #[.string ⟨#[]⟩, .string ⟨#[]⟩, .int .i64 31]) (by simp [results, Tryz.results155, go_sem]) rfl ⟨by rw [HV.out]; rfl, hb'⟩
      · go_wp2_with fail
        exact bodyPost_ret (v := .tuple #[.string p, .string n, .int .i64 0]) (by simp [results, Tryz.results155, go_sem]) rfl ⟨by rw [HV.out]; rfl, hb'⟩
end Go.Proofs.YtbppdlhbjddhjaaGreatDoor
