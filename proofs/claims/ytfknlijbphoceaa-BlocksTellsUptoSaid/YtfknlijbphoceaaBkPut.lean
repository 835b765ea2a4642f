/-
  blocks.Put, by its contract.
-/
import Derived.Test.YtfknlijbphoceaaBkAlive
import Derived.Test.YtfknlijbphoceaaBkSearch
import Derived.Test.YtfknlijbphoceaaBkInsert
namespace Go.Proofs.Ytfknlijbphoceaa
open Go.RowKit

def cmpI (x y : Int) : Int := if x < y then -1 else if y < x then 1 else 0
theorem cmpI_neg (x y : Int) : cmpI x y < 0 ↔ x < y := by unfold cmpI; split <;> (try split) <;> omega
theorem cmpI_zero (x y : Int) : cmpI x y = 0 ↔ x = y := by unfold cmpI; split <;> (try split) <;> omega
set_option maxRecDepth 100000 in
theorem isNaN_any (x : Int) (w : World) : Calls Try.prog 50 #[.int .i64 x] w fun e w' => e = .returned (.bool false) ∧ ∃ q, w' = w.drewN q := by
  go_enter Try.func50, Try.ntmps50
  go_wp2_with fail
  go_ret
  exact ⟨rfl, 0, rfl⟩
set_option maxRecDepth 100000 in
theorem compare_any (x y : Int) (w : World) : Calls Try.prog 43 #[.int .i64 x, .int .i64 y] w fun e w' => e = .returned (.int .i64 (cmpI x y)) ∧ ∃ q, w' = w.drewN q := by
  go_enter Try.func43, Try.ntmps43
  go_wp2_with fail
  refine (isNaN_any x _).mono ?_
  rintro e w1 ⟨rfl, q1, rfl⟩
  go_wp2_with fail
  refine (isNaN_any y _).mono ?_
  rintro e w1 ⟨rfl, q2, rfl⟩
  by_cases h1 : x < y
  · go_wp2_with fail
    go_ret
    exact ⟨by unfold cmpI; rw [if_pos h1]; rfl, q1 + q2, rfl⟩
  · by_cases h2 : y < x
    · go_wp2_with fail
      go_ret
      exact ⟨by unfold cmpI; rw [if_neg (by omega), if_pos h2]; rfl, q1 + q2, rfl⟩
    · go_wp2_with fail
      go_ret
      exact ⟨by unfold cmpI; rw [if_neg (by omega), if_neg (by omega)]; rfl, q1 + q2, rfl⟩
set_option maxRecDepth 100000 in
theorem by_any (x : Int) (s : ByteArray) (y : Int) (w : World) : Calls Try.prog 28 #[.agg #[.int .i64 x, .string s], .int .i64 y] w fun e w' => e = .returned (.int .i64 (cmpI x y)) ∧ Below w.heap.size w w' := by
  have hb0 := (Below.refl w.heap.size w).alloc (Nat.le_refl _) (.cells #[.int .i64 x, .string s] 30)
  have hc := (Blk.new w 30 #[.int .i64 x, .string s]).cell 0
  go_enter Try.func28, Try.ntmps28
  go_wp2_with fail
  refine (compare_any x y _).mono ?_
  rintro e w2 ⟨rfl, q, rfl⟩
  go_wp2_with fail
  go_ret
  exact ⟨rfl, below_drewN hb0 q⟩

/-! ### the plain law's words -/
def Asc (l : BL) : Prop := ∀ (i j : Nat) (x y : Int × List UInt8), i < j → l[i]? = some x → l[j]? = some y → x.1 < y.1
theorem okFrom_asc (p : Option Int) (l : BL) (h : okFrom p l = true) : Asc l ∧ ∀ q, p = some q → ∀ x ∈ l, q < x.1 := by
  induction l generalizing p with
  | nil => exact ⟨fun i j x y _ h => by simp at h, fun _ _ x hx => by simp at hx⟩
  | cons z r ih =>
    simp only [okFrom, Bool.and_eq_true] at h
    obtain ⟨⟨_, h4⟩, h5⟩ := h
    obtain ⟨i1, i2⟩ := ih _ h5
    have i3 := i2 z.1 rfl
    refine ⟨fun i j x y hij hx hy => ?_, fun q hq x hx => ?_⟩
    · cases j with
      | zero => omega
      | succ j =>
        cases i with
        | zero =>
          cases hx
          exact i3 y (List.mem_of_getElem? (by simpa using hy))
        | succ i => exact i1 i j x y (by omega) (by simpa using hx) (by simpa using hy)
    · subst hq
      have h6 : q < z.1 := by simpa using h4
      rcases List.mem_cons.1 hx with rfl | hx
      · exact h6
      · have := i3 x hx
        omega
theorem okL_asc (l : BL) (h : okL l = true) : Asc l := (okFrom_asc none l h).1
def cfB (t : Int) : Int × List UInt8 → Int := fun x => cmpI x.1 t
theorem cfB_asc (l : BL) (h : Asc l) (t : Int) : SignAsc (cfB t) l := by
  intro i j x y hij hx hy hlt
  have h1 := h i j x y hij hx hy
  unfold cfB at hlt ⊢
  rw [cmpI_neg] at hlt ⊢
  omega
def putE (l : BL) (i : Int) (d : List UInt8) : Int := if okL l = true then (if 0 ≤ i ∧ i < 1024 then (if d.length = 16 then 0 else 5) else 4) else 9
def putL11 (l : BL) (i : Int) (d : List UInt8) : BL := l.take (posF (cfB i) l) ++ [(i, d)] ++ l.drop (posF (cfB i) l + if atF (cfB i) l = true then 1 else 0)
def PutPost (w : World) (l : BL) (i : Int) (d : List UInt8) (e : Ending) (w' : World) : Prop :=
  ∃ v, e = .returned (.tuple #[v, .int .i64 (putE l i d)]) ∧ (if putE l i d = 0 then w'.ownsRow w.heap.size 30 2 v (putL11 l i d).length (bcells (putL11 l i d)) else v = .slice none 0 0) ∧ Below w.heap.size w w'
theorem bcells_one (l : BL) : ∀ u ∈ bcells l, u.oneCell' = true := by
  intro u hu
  simp only [bcells, List.mem_flatMap] at hu
  obtain ⟨x, _, hx⟩ := hu
  rcases List.mem_cons.1 hx with rfl | hx
  · rfl
  · rcases List.mem_cons.1 hx with rfl | hx
    · rfl
    · cases hx
theorem bcells_take (l : BL) (k : Nat) : bcells (l.take k) = (bcells l).take (k * 2) := cellsK_take (enc := fun x : Int × List UInt8 => [.int .i64 x.1, .string ⟨x.2.toArray⟩]) (fun _ => rfl) l k
theorem bcells_drop (l : BL) (k : Nat) : bcells (l.drop k) = (bcells l).drop (k * 2) := cellsK_drop (enc := fun x : Int × List UInt8 => [.int .i64 x.1, .string ⟨x.2.toArray⟩]) (fun _ => rfl) l k
theorem set_at (l : BL) (p : Nat) (i : Int) (d : List UInt8) (h : (l[p]?).any (fun x => cfB i x == 0) = true) : (bcells l).set (p * 2 + 1) (.string ⟨d.toArray⟩) = bcells (l.take p ++ [(i, d)] ++ l.drop (p + 1)) := by
  cases hp : l[p]? with
  | none => rw [hp] at h; simp at h
  | some x =>
    rw [hp] at h
    have hx : x.1 = i := (cmpI_zero _ _).1 (by simpa [cfB] using h)
    obtain ⟨hlt, hpx⟩ := List.getElem?_eq_some_iff.1 hp
    have hl : l = l.take p ++ [x] ++ l.drop (p + 1) := by
      conv => lhs; rw [← List.take_append_drop p l]
      rw [List.drop_eq_getElem_cons hlt, hpx]
      simp
    conv => lhs; rw [hl]
    rw [bcells_append, bcells_append, bcells_append, bcells_append, List.append_assoc, List.append_assoc]
    rw [List.set_append_right _ _ (by rw [bcells_length, List.length_take]; omega), bcells_length, List.length_take, Nat.min_eq_left (by omega), show p * 2 + 1 - p * 2 = 1 by omega]
    subst hx
    rfl

set_option maxRecDepth 100000 in
set_option maxHeartbeats 2000000 in
theorem bkPut_any (l : BL) (n : Nat) (hnl : n = l.length) (A : Option Addr) (c : Nat) (i : Int) (d : List UInt8) (w : World) (B : Nat) (hr : Reads w B 2 A n (bcells l)) (hB : B ≤ w.heap.size) (hn : n ≤ 5000000000000) :
    Calls Try.prog 10 #[.slice A n c, .int .i64 i, .string ⟨d.toArray⟩] w (PutPost w l i d) := by
  have hck := checkBk_any l n hnl A c w B hr hB (by omega)
  by_cases hok : okL l = true
  · have h1 : okE l = 0 := by unfold okE; rw [if_pos hok]
    rw [h1] at hck
    by_cases hi : 0 ≤ i ∧ i < 1024
    · obtain ⟨hi1, hi2⟩ := hi
      by_cases hdl : d.length = 16
      · have hpe : putE l i d = 0 := by unfold putE; rw [if_pos hok, if_pos ⟨hi1, hi2⟩, if_pos hdl]
        have hs := okL_small l hok
        have hsr := fun w' (hb : Below w.heap.size w w') => searchB_any (fun x : Int × List UInt8 => .int .i64 x.1) (fun x => .string ⟨x.2.toArray⟩) (cfB i) l (cfB_asc l (okL_asc l hok) i) n hnl A c (.int .i64 i) w' B (hr.below (hb.mono hB)) (by have := hb.size; omega) hn (fun x W _ => by_any x.1 _ i W)
        have hcl := fun w' (hb : Below w.heap.size w w') => cloneB_any (bcells l) n A c w' B (hr.below (hb.mono hB)) (by have := hb.size; omega) (bcells_one l) hn
        have hp := posF_le (cfB i) l
        obtain ⟨p, hpp⟩ : ∃ p, p = posF (cfB i) l := ⟨_, rfl⟩
        obtain ⟨t, htt⟩ : ∃ t, t = atF (cfB i) l := ⟨_, rfl⟩
        have hpl : putL11 l i d = l.take p ++ [(i, d)] ++ l.drop (p + if t = true then 1 else 0) := by unfold putL11; rw [← hpp, ← htt]
        have hat : t = (l[p]?).any (fun x => cfB i x == 0) := by rw [htt, hpp]; rfl
        rw [← hpp, ← htt] at hsr
        have hpn : p ≤ n := by omega
        have hll : (putL11 l i d).length = if t = true then n else n + 1 := by
          rw [hpl]
          simp only [List.length_append, List.length_take, List.length_drop, List.length_cons, List.length_nil]
          cases t with
          | true =>
            have : p < l.length := by
              rcases Nat.lt_or_ge p l.length with h | h
              · exact h
              · rw [List.getElem?_eq_none h] at hat; cases hat
            simp; omega
          | false => simp; omega
        have HPE := Lib.hid hpe
        have HPL := Lib.hid hpl
        have HAT := Lib.hid hat
        have HLL := Lib.hid hll
        have HN := Lib.hid hnl
        have HD := Lib.hid hdl
        have g3a : ((d.length : Int) == 16) = true := by simp [hdl]
        have g3b : ((d.length : Int) != 16) = false := by simp [hdl]
        clear hpp htt hpl hat hll hnl hdl hpe h1 hok hr hp
        go_enter Try.func10, Try.ntmps10
        go_wp2_with fail
        refine hck.mono ?_
        clear hck
        rintro e w1 ⟨rfl, hb1⟩
        go_wp2_with fail
        refine (hsr w1 hb1).mono ?_
        clear hsr
        rintro e w2 ⟨rfl, hb2⟩
        have hb12 := hb1.trans (hb2.mono hb1.size)
        clear hb1 hb2
        go_wp2_with fail
        refine (hcl w2 hb12).mono ?_
        clear hcl
        rintro e w3 ⟨v3, rfl, hown, hb3⟩
        have hbb := hb12.trans (hb3.mono hb12.size)
        have hsz := hb12.size
        have hsz3 : w2.heap.size ≤ w3.heap.size := hb3.size
        clear hb12 hb3 g3a g3b
        cases t with
        | true =>
          have hpn' : p < n := by
            have h1 := HAT.out
            have h2 := HN.out
            rcases Nat.lt_or_ge p l.length with h | h
            · omega
            · rw [List.getElem?_eq_none h] at h1; cases h1
          rcases hown.2 with ⟨_, h0⟩ | ⟨g, cap, cur, rfl, hbg, _, _, _, _, _⟩
          · omega
          · have hst := hown.stored (p * 2 + 1) (.string ⟨d.toArray⟩)
            have hl := HAT.out
            rw [set_at l p i d hl.symm] at hst
            have hcell := (hown.cellAt (p * 2 + 1) (by omega)).trans (bcells_get l p (by have := HN.out; omega)).2
            generalize (l[p]'(by have := HN.out; omega)).2 = old at hcell
            have hfz := hown.frozenAt (p * 2 + 1)
            have hpi : (p : Int) < (n : Int) := by omega
            have HST := Lib.hid hst
            clear hl hst
            go_wp2_with fail
            go_ret2
            refine ⟨_, by rw [HPE.out]; rfl, ?_, hbb.setCell (by show _ ≤ g; omega) _⟩
            rw [if_pos HPE.out, HLL.out, HPL.out, if_pos trivial, if_pos trivial]
            exact own_mono HST.out.1 hsz
        | false =>
          obtain ⟨A3, c3, rfl, _, _, _⟩ := own_form hown
          have hown4 := hown.alloc (.cells #[.int .i64 i, .string ⟨d.toArray⟩] 30)
          have hnew := Blk.new w3 30 #[.int .i64 i, .string ⟨d.toArray⟩]
          have hins := insBk_any #[.int .i64 i, .string ⟨d.toArray⟩] rfl (by simp [Value.oneCell']) (bcells l) (bcells_one l) w3.heap.size 30 _ n p A3 c3 _ hpn hown4 (by show w2.heap.size ≤ _; simp; omega) hn hnew (fun e => by have := (hown.lt _ e).2; omega)
          have HLT := Lib.hid (fun k hk => (hown4.lt k hk).1)
          have HB2 := Lib.hid (hbb.alloc (by omega) (.cells #[.int .i64 i, .string ⟨d.toArray⟩] 30))
          clear hown4 hnew hown
          go_wp2_with fail
          refine hins.mono ?_
          clear hins
          rintro e w4 ⟨v4, rfl, hown5, hg⟩
          have HO := Lib.hid hown5
          have HG := Lib.hid hg
          clear hown5 hg
          go_wp2_with fail
          go_ret2
          refine ⟨v4, by rw [HPE.out]; rfl, ?_, HB2.out.grown HG.out (by simp; omega) (fun k hk => by have := HLT.out k hk; omega)⟩
          rw [if_pos HPE.out, HLL.out, HPL.out, if_neg (by simp), if_neg (by simp), bcells_append, bcells_append, bcells_take, bcells_drop]
          exact own_mono HO.out hsz
      · have hpe : putE l i d = 5 := by unfold putE; rw [if_pos hok, if_pos ⟨hi1, hi2⟩, if_neg hdl]
        have g3a : ((d.length : Int) == 16) = false := by simp; omega
        have g3b : ((d.length : Int) != 16) = true := by simp; omega
        have HPE := Lib.hid hpe
        clear hpe hok h1 hdl hnl hr
        go_enter Try.func10, Try.ntmps10
        go_wp2_with fail
        refine hck.mono ?_
        clear hck
        rintro e w1 ⟨rfl, hb1⟩
        go_wp2_with fail
        go_ret2
        refine ⟨_, by rw [HPE.out]; rfl, ?_, hb1⟩
        rw [HPE.out, if_neg (by decide)]; rfl
    · have hpe : putE l i d = 4 := by unfold putE; rw [if_pos hok, if_neg hi]
      have HPE := Lib.hid hpe
      clear hpe hok h1 hnl hr
      by_cases hi0 : i < 0
      · clear hi
        go_enter Try.func10, Try.ntmps10
        go_wp2_with fail
        refine hck.mono ?_
        clear hck
        rintro e w1 ⟨rfl, hb1⟩
        go_wp2_with fail
        go_ret2
        refine ⟨_, by rw [HPE.out]; rfl, ?_, hb1⟩
        rw [HPE.out, if_neg (by decide)]; rfl
      · have hi1 : 0 ≤ i := by omega
        have hi2 : 1024 ≤ i := by omega
        clear hi hi0
        go_enter Try.func10, Try.ntmps10
        go_wp2_with fail
        refine hck.mono ?_
        clear hck
        rintro e w1 ⟨rfl, hb1⟩
        go_wp2_with fail
        go_ret2
        refine ⟨_, by rw [HPE.out]; rfl, ?_, hb1⟩
        rw [HPE.out, if_neg (by decide)]; rfl
  · have h1 : okE l = 9 := by unfold okE; rw [if_neg hok]
    rw [h1] at hck
    have hpe : putE l i d = 9 := by unfold putE; rw [if_neg hok]
    have HPE := Lib.hid hpe
    clear hpe hok h1 hnl hr
    go_enter Try.func10, Try.ntmps10
    go_wp2_with fail
    refine hck.mono ?_
    clear hck
    rintro e w1 ⟨rfl, hb1⟩
    go_wp2_with fail
    go_ret2
    refine ⟨_, by rw [HPE.out]; rfl, ?_, hb1⟩
    rw [HPE.out, if_neg (by decide)]; rfl
end Go.Proofs.Ytfknlijbphoceaa
