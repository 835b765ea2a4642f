/-
  The page's Get and Diff of contents, by their contracts.
-/
import Derived.Test.YtcbeadldieeceaaZ15
import Derived.Test.YtcbeadldieeceaaBkRefy
namespace Go.Proofs.Ytcbeadldieeceaa
open Go.RowKit

set_option maxRecDepth 100000 in
set_option maxHeartbeats 1000000 in
theorem rget_any (l : BL) (n : Nat) (hnl : n = l.length) (A : Option Addr) (c : Nat) (i : Int) (w : World) (B : Nat) (hr : Reads w B 2 A n (bcells l)) (hB : B ≤ w.heap.size) (hn : n ≤ 140737488351232) :
    Calls Try.prog 45 #[.slice A n c, .int .i64 i] w fun e w' => e = .returned (.tuple #[.string ⟨(getL l i).toArray⟩, .bool (hasL l i)]) ∧ Below w.heap.size w w' := by
  have HN := Lib.hid hnl
  clear hnl
  go_enter Try.func45, Try.ntmps45
  go_wp2_with fail
  go_loopw [6] (fun j wr => ∃ k : Nat, k ≤ n ∧ j = .int .i64 (k : Int) ∧ Hid (∀ x ∈ l.take k, (x.1 == i) = false) ∧ Below w.heap.size w wr) (fun j _ => n - (intOf j).toNat)
  case atStart => exact ⟨0, Nat.zero_le _, rfl, (show ∀ x ∈ _, _ by simp), Below.refl _ _⟩
  case round =>
    obtain ⟨k, hk, rfl, hno, hbw⟩ := hrel
    by_cases hlt : k < n
    · obtain ⟨ad, rfl, _, c0, c1⟩ := (hr.below (hbw.mono hB)).blk2 HN.out hlt
      have hki : (k : Int) < (n : Int) := by omega
      obtain ⟨x, hx⟩ : ∃ x, x = l[k]'(by have := HN.out; omega) := ⟨_, rfl⟩
      rw [← hx] at c0 c1
      have HX := Lib.hid hx
      obtain ⟨xi, xs⟩ := x
      simp only at c0 c1
      clear hx hr
      have hkl : k < l.length := by have := HN.out; omega
      have htk := List.take_succ_eq_append_getElem hkl
      rw [← HX.out] at htk
      have HTK := Lib.hid htk
      clear htk
      by_cases hxi : xi = i
      · have hxb : (xi == i) = true := by simp [hxi]
        have hfin : Hid (getL l i = xs ∧ hasL l i = true) := by
          have hsp : l = l.take k ++ ((xi, xs) :: l.drop (k + 1)) := by
            conv => lhs; rw [← List.take_append_drop k l]
            rw [List.drop_eq_getElem_cons hkl, ← HX.out]
          have hf : (l.take k).find? (fun x => x.1 == i) = none := List.find?_eq_none.2 (fun x hx => by simp [hno.out x hx])
          have hff : l.find? (fun x => x.1 == i) = some (xi, xs) := by
            rw [hsp, List.find?_append, hf, List.find?_cons]
            simp [hxi]
          refine ⟨?_, ?_⟩
          · unfold getL; rw [hff]
          · unfold hasL; rw [List.any_eq_true]; exact ⟨_, List.mem_of_find?_eq_some hff, by simpa using hxi⟩
        subst hxi
        clear hno
        go_wp2_with fail
        go_ret2
        exact ⟨by rw [hfin.out.1, hfin.out.2]; rfl, hbw⟩
      · have hxb : (xi == i) = false := by simp [hxi]
        have HNO : Hid (∀ x ∈ l.take (k + 1), (x.1 == i) = false) := by
          intro x hx
          rw [HTK.out, List.mem_append] at hx
          rcases hx with hx | hx
          · exact hno.out x hx
          · simp at hx
            subst hx
            exact hxb
        clear hno hxi
        go_wp2_with fail
        go_roundw
        case rel => exact ⟨k + 1, by omega, by go_num, HNO, hbw⟩
        case measure => simp [intOf]; omega
    · obtain rfl : k = n := by omega
      have hfin : Hid (getL l i = [] ∧ hasL l i = false) := by
        have hall : l.take k = l := List.take_of_length_le (by rw [HN.out]; exact Nat.le_refl _)
        rw [hall] at hno
        have hf : l.find? (fun x => x.1 == i) = none := List.find?_eq_none.2 (fun x hx => by simp [hno.out x hx])
        refine ⟨?_, ?_⟩
        · unfold getL; rw [hf]
        · unfold hasL
          rw [List.any_eq_false]
          intro x hx
          simp [hno.out x hx]
      clear hno hr
      go_wp2_with fail
      go_ret2
      exact ⟨by rw [hfin.out.1, hfin.out.2]; rfl, hbw⟩


structure RdfI (w0 : World) (a b : BL) (o : RL) (run : Bool) (k : Nat) (v : Value) (wr : World) : Prop where
  own : wr.ownsRow w0.heap.size 47 12 v o.length (rcells o)
  bel : Below w0.heap.size w0 wr
  ghost : runFrom a b (1024 - k) (k : Int) (o, run) = runFrom a b 1024 0 ([], false)
  cnt : ∀ r ∈ o, 0 ≤ r.2.2.1 ∧ r.2.2.1 ≤ (k : Int)
  len : o.length ≤ k
  last : run = true → o ≠ []
theorem bump_cnt {o : RL} {c : Nat} (h : ∀ r ∈ o, 0 ≤ r.2.2.1 ∧ r.2.2.1 ≤ (c : Int)) : ∀ r ∈ bumpR o, 0 ≤ r.2.2.1 ∧ r.2.2.1 ≤ ((c + 1 : Nat) : Int) := by
  intro r hr
  unfold bumpR at hr
  cases hl : o.getLast? with
  | none => rw [hl] at hr; have := h r hr; omega
  | some q =>
    rw [hl] at hr
    simp only at hr
    rcases List.mem_append.1 hr with hr | hr
    · have := h r (List.dropLast_subset o hr); omega
    · simp at hr; subst hr; have := h q (List.mem_of_getLast? hl); simp; omega
theorem bump_len (o : RL) : (bumpR o).length = o.length := by
  unfold bumpR
  cases hl : o.getLast? with
  | none => rfl
  | some q =>
    cases o with
    | nil => cases hl
    | cons x r => simp
section
variable {w0 : World} {a b : BL} {o : RL} {run : Bool} {k : Nat} {v : Value} {wr : World}
theorem RdfI.step (h : RdfI w0 a b o run k v wr) (hk : k < 1024) {o' : RL} {g : Bool} (hS : refStep a b (k : Int) (o, run) = (o', g)) {v' : Value} {w' : World} (hown : w'.ownsRow w0.heap.size 47 12 v' o'.length (rcells o')) (hb : Below w0.heap.size w0 w')
    (hc : ∀ r ∈ o', 0 ≤ r.2.2.1 ∧ r.2.2.1 ≤ ((k + 1 : Nat) : Int)) (hl : o'.length ≤ k + 1) (hg : g = true → o' ≠ []) : RdfI w0 a b o' g (k + 1) v' w' := by
  refine ⟨hown, hb, ?_, hc, hl, hg⟩
  rw [← h.ghost, show 1024 - k = (1024 - (k + 1)) + 1 by omega]
  show _ = runFrom a b (1024 - (k + 1)) ((k : Int) + 1) (refStep a b (k : Int) (o, run))
  rw [hS]
  rfl
theorem RdfI.push (h : RdfI w0 a b o run k v wr) (r : Int × Int × Int × List UInt8) (hr : 0 ≤ r.2.2.1 ∧ r.2.2.1 ≤ 1) : (∀ q ∈ o ++ [r], 0 ≤ q.2.2.1 ∧ q.2.2.1 ≤ ((k + 1 : Nat) : Int)) ∧ (o ++ [r]).length ≤ k + 1 ∧ o ++ [r] ≠ [] := by
  refine ⟨fun q hq => ?_, by have := h.len; simp; omega, by simp⟩
  rcases List.mem_append.1 hq with hq | hq
  · have := h.cnt q hq; omega
  · simp at hq; subst hq; omega
end
set_option maxRecDepth 100000 in
set_option maxHeartbeats 4000000 in
theorem rdiff_ok (a b : BL) (n m : Nat) (hna : n = a.length) (hmb : m = b.length) (A B : Option Addr) (c c2 : Nat) (w : World) (hra : Reads w w.heap.size 2 A n (bcells a)) (hrb : Reads w w.heap.size 2 B m (bcells b)) (ha : okL a = true) (hb : okL b = true) :
    Calls Try.prog 23 #[.slice A n c, .slice B m c2] w (DiffPost w a b) := by
  obtain ⟨i0, hi0, hz0, hz1, hz2⟩ := info_parts Try.infoR
  have hn1 := okL_small a ha
  have hm1 := okL_small b hb
  have hn2 : n ≤ 1024 := by omega
  have hm2 : m ≤ 1024 := by omega
  have hE : diffE a b = 0 := (diffE_ok a b).2 ⟨ha, hb⟩
  have hO : diffO a b = (runFrom a b 1024 0 ([], false)).1 := by unfold diffO; rw [if_pos hE]; exact diff_ref a b ha hb
  have hck1 := bkrcheck_any a n hna A c w w.heap.size hra (Nat.le_refl _) (by omega)
  have hck2 := fun W (hb : Below w.heap.size w W) => bkrcheck_any b m hmb B c2 W w.heap.size (hrb.below hb) hb.size (by omega)
  have hg1 := fun i W (hb : Below w.heap.size w W) => rget_any a n hna A c i W w.heap.size (hra.below hb) hb.size (by omega)
  have hg2 := fun i W (hb : Below w.heap.size w W) => rget_any b m hmb B c2 i W w.heap.size (hrb.below hb) hb.size (by omega)
  have q1 : okE a = 0 := by unfold okE; rw [if_pos ha]
  have q2 : okE b = 0 := by unfold okE; rw [if_pos hb]
  rw [q1] at hck1
  rw [q2] at hck2
  have HE := Lib.hid hE
  have HO := Lib.hid hO
  have HG1 := Lib.hid hg1
  have HG2 := Lib.hid hg2
  clear q1 q2 ha hb hE hO hna hmb hra hrb hn1 hm1 hg1 hg2
  go_enter Try.func23, Try.ntmps23
  go_wp2_with fail
  refine hck1.mono ?_
  clear hck1
  rintro e w1 ⟨rfl, hb1⟩
  go_wp2_with fail
  refine (hck2 _ hb1).mono ?_
  clear hck2
  rintro e w0 ⟨rfl, hb2⟩
  have hb12 := Lib.hid (hb1.trans (hb2.mono hb1.size))
  have hs2 := hb12.out.size
  clear hb1 hb2
  go_wp2_with fail
  go_loopw [6, 7, 8] (fun v rn i wr => ∃ (k : Nat) (o : RL) (run : Bool), k ≤ 1024 ∧ rn = .bool run ∧ i = .int .i64 (k : Int) ∧ RdfI w0 a b o run k v wr) (fun _ _ i _ => 1024 - (intOf i).toNat)
  case atStart => exact ⟨0, [], false, Nat.zero_le _, rfl, rfl, ⟨World.ownsRow_nil _ _ _ _, Below.refl _ _, rfl, (fun r h => by cases h), Nat.le_refl _, fun h => by cases h⟩⟩
  case round =>
    obtain ⟨k, o, run, hk, rfl, rfl, hI⟩ := hrel
    have HI := Lib.hid hI
    have hbw := hb12.out.trans (hI.bel.mono hs2)
    obtain ⟨A1, c1, rfl, _, _, _⟩ := own_form hI.own
    have HOWN := Lib.hid hI.own
    have HB := Lib.hid hI.bel
    have hs1 := hI.bel.size
    have hln := hI.len
    obtain ⟨n1, hn1⟩ : ∃ n1, n1 = o.length := ⟨_, rfl⟩
    have HN1 := Lib.hid hn1
    rw [← hn1] at HOWN hln
    have hrefl : ∀ (x y : Bool), x = y → x = y := fun _ _ h => h
    clear hI hrefl
    rw [← hn1]
    clear hn1
    by_cases hlt : k < 1024
    · have hki : (k : Int) < 1024 := by omega
      have g1 := HG1.out (k : Int) wr hbw
      have g2 := fun W (hb : Below wr.heap.size wr W) => HG2.out (k : Int) W (hbw.trans (hb.mono hbw.size))
      obtain ⟨sx, hsx⟩ : ∃ sx, sx = getL a (k : Int) := ⟨_, rfl⟩
      obtain ⟨sy, hsy⟩ : ∃ sy, sy = getL b (k : Int) := ⟨_, rfl⟩
      obtain ⟨is, his⟩ : ∃ is, is = hasL a (k : Int) := ⟨_, rfl⟩
      obtain ⟨was, hwas⟩ : ∃ was, was = hasL b (k : Int) := ⟨_, rfl⟩
      have hst : refStep a b (k : Int) (o, run) = (if (is && !was) && run then bumpR o else if is && !was then o ++ [(3, (k : Int), 1, [])] else if was && (!is || sx != sy) then o ++ [(2, (k : Int), 0, sy)] else o, is && !was) := by
        rw [hsx, hsy, his, hwas]; rfl
      rw [← hsx, ← his] at g1
      rw [← hsy, ← hwas] at g2
      have HST := Lib.hid hst
      clear hst hsx hsy his hwas
      cases is with
      | true =>
        cases was with
        | false =>
          cases run with
          | true =>
            rcases List.eq_nil_or_concat o with rfl | ⟨o', r, ho⟩
            · exact absurd rfl (HI.out.last rfl)
            · rw [List.concat_eq_append] at ho
              subst ho
              obtain ⟨p, hp⟩ : ∃ p, p = o'.length := ⟨_, rfl⟩
              obtain rfl : n1 = p + 1 := by have := HN1.out; simp at this; omega
              have hcr := HI.out.cnt r (by simp)
              have hbump : bumpR (o' ++ [r]) = o' ++ [(r.1, r.2.1, r.2.2.1 + 1, r.2.2.2)] := by unfold bumpR; simp
              have HBU := Lib.hid hbump
              have HP := Lib.hid hp
              clear hbump hp
              go_wp2_with fail
              refine g1.mono ?_
              clear g1
              rintro e w5 ⟨rfl, hb5⟩
              go_wp2_with fail
              refine (g2 _ hb5).mono ?_
              clear g2
              rintro e w6 ⟨rfl, hb6⟩
              have hb7 := hb5.trans (hb6.mono hb5.size)
              replace HOWN := Lib.hid (own_below HOWN.out hb7)
              replace HB := Lib.hid (HB.out.trans (hb7.mono hs1))
              have hs1 := HB.out.size
              clear hb5 hb6
              rcases HOWN.out.2 with ⟨_, h0⟩ | ⟨rb, cap, cur, hv, hbr, _, _, _, _, _⟩
              · omega
              · injection hv with q1 _ q2
                subst q1 q2
                have hk6 := HOWN.out.cellAt (p * 12 + 6) (by omega)
                rw [cellsK_get encR_len (o' ++ [r]) p (by rw [HP.out]; simp) 6 (by omega)] at hk6
                simp only [HP.out, List.getElem_concat_length, encR, List.getElem?_cons_zero, List.getElem?_cons_succ] at hk6
                rw [← HP.out] at hk6
                have hf6 := HOWN.out.frozenAt (p * 12 + 6)
                have hst := Lib.hid (HOWN.out.stored (p * 12 + 6) (.int .i64 (r.2.2.1 + 1)))
                have hbs := Lib.hid (bump_set o' r p HP.out)
                obtain ⟨cn, hcn⟩ : ∃ cn, cn = r.2.2.1 := ⟨_, rfl⟩
                rw [← hcn] at hk6 hcr
                have hw2 : IntKind.i64.wrap (cn + 1) = cn + 1 := IntWalk.i64_in _ (by omega)
                have HCN := Lib.hid hcn
                clear hcn
                go_wp2_with fail
                go_roundw
                case rel =>
                  refine ⟨k + 1, _, true, by omega, rfl, by go_num, HI.out.step hlt (o' := bumpR (o' ++ [r])) (by rw [HST.out]; rfl) ?_ (HB.out.setCell (by show w0.heap.size ≤ rb; omega) _) (bump_cnt HI.out.cnt) (by rw [bump_len]; have := HI.out.len; omega) (fun _ => by rw [HBU.out]; simp)⟩
                  rw [HBU.out, ← hbs.out, HCN.out, show (o' ++ [(r.1, r.2.1, r.2.2.1 + 1, r.2.2.2)]).length = p + 1 by simp [HP.out]]
                  exact hst.out.1
                case measure => simp [intOf]; omega
          | false =>
            go_wp2_with fail
            refine g1.mono ?_
            clear g1
            rintro e w5 ⟨rfl, hb5⟩
            go_wp2_with fail
            refine (g2 _ hb5).mono ?_
            clear g2
            rintro e w6 ⟨rfl, hb6⟩
            have hb7 := hb5.trans (hb6.mono hb5.size)
            replace HOWN := Lib.hid (own_below HOWN.out hb7)
            replace HB := Lib.hid (HB.out.trans (hb7.mono hs1))
            have hs1 := HB.out.size
            clear hb5 hb6 hb7
            go_wp2_with (at_builtin; (refine wpList_push _ rfl (.tmp 60) (.tmp 63) 36 rfl w0.heap.size 47 i0 (.agg #[.int .i64 0, .string ByteArray.empty, .int .i64 0, .int .i64 0, .slice none 0 0, .int .i64 0, .int .i64 0, .string ByteArray.empty, .int .u64 0, .int .u64 0, .int .u64 0, .int .u64 0]) 12 128 Try.underlying36 hi0 hz0 hz1 hz2 rfl (by decide) (.slice A1 n1 c1) n1 _ rfl HOWN.out 1 #[.int .i64 3, .string ByteArray.empty, .int .i64 0, .int .i64 0, .slice none 0 0, .int .i64 (k : Int), .int .i64 1, .string ByteArray.empty, .int .u64 0, .int .u64 0, .int .u64 0, .int .u64 0] 47 rfl rfl (by simp [Value.oneCell']) (by unfold maxLen; omega) (by omega) hs1 ?_); intro v5 w5 hown5 hb5 hg5; obtain ⟨A5, c5, rfl, _, _, _⟩ := own_form hown5; have HO5 := Lib.hid hown5; have HB5 := Lib.hid (HB.out.trans (hb5.mono (Nat.le_refl _))); clear hown5 hb5 hg5)
            go_roundw
            case rel => exact ⟨k + 1, _, true, by omega, rfl, by go_num, HI.out.step hlt (o' := o ++ [(3, (k : Int), 1, [])]) (by rw [HST.out]; rfl) (by rw [show (o ++ [(3, (k : Int), 1, [])] : RL).length = n1 + 1 by simp [HN1.out], show rcells (o ++ [(3, (k : Int), 1, [])]) = rcells o ++ rcells [(3, (k : Int), 1, [])] from cellsK_append _ _ _]; exact HO5.out) HB5.out (HI.out.push _ (by simp)).1 (HI.out.push ((3, (k : Int), 1, [])) (by simp)).2.1 (fun _ => (HI.out.push ((3, (k : Int), 1, [])) (by simp)).2.2)⟩
            case measure => simp [intOf]; omega
        | true =>
          by_cases hss : sx = sy
          · have hb1 : (sx == sy) = true := by simp [hss]
            have hb2 : (sx != sy) = false := by simp [hss]
            have HSS := Lib.hid hss
            clear hss
            go_wp2_with fail
            refine g1.mono ?_
            clear g1
            rintro e w5 ⟨rfl, hb5⟩
            go_wp2_with fail
            refine (g2 _ hb5).mono ?_
            clear g2
            rintro e w6 ⟨rfl, hb6⟩
            have hb7 := hb5.trans (hb6.mono hb5.size)
            replace HOWN := Lib.hid (own_below HOWN.out hb7)
            replace HB := Lib.hid (HB.out.trans (hb7.mono hs1))
            have hs1 := HB.out.size
            clear hb5 hb6
            go_wp2_with fail
            go_roundw
            case rel => exact ⟨k + 1, _, false, by omega, rfl, by go_num, HI.out.step hlt (o' := o) (by rw [HST.out, HSS.out]; simp) (by rw [← HN1.out]; exact HOWN.out) HB.out (fun r hr => by have := HI.out.cnt r hr; omega) (by have := HI.out.len; omega) (fun h => by cases h)⟩
            case measure => simp [intOf]; omega
          · have hb1 : (sx == sy) = false := by simpa using hss
            have hb2 : (sx != sy) = true := by simpa using hss
            have HSS := Lib.hid hss
            clear hss
            go_wp2_with fail
            refine g1.mono ?_
            clear g1
            rintro e w5 ⟨rfl, hb5⟩
            go_wp2_with fail
            refine (g2 _ hb5).mono ?_
            clear g2
            rintro e w6 ⟨rfl, hb6⟩
            have hb7 := hb5.trans (hb6.mono hb5.size)
            replace HOWN := Lib.hid (own_below HOWN.out hb7)
            replace HB := Lib.hid (HB.out.trans (hb7.mono hs1))
            have hs1 := HB.out.size
            clear hb5 hb6 hb7
            go_wp2_with (at_builtin; (refine wpList_push _ rfl (.tmp 76) (.tmp 80) 36 rfl w0.heap.size 47 i0 (.agg #[.int .i64 0, .string ByteArray.empty, .int .i64 0, .int .i64 0, .slice none 0 0, .int .i64 0, .int .i64 0, .string ByteArray.empty, .int .u64 0, .int .u64 0, .int .u64 0, .int .u64 0]) 12 128 Try.underlying36 hi0 hz0 hz1 hz2 rfl (by decide) (.slice A1 n1 c1) n1 _ rfl HOWN.out 1 #[.int .i64 2, .string ByteArray.empty, .int .i64 0, .int .i64 0, .slice none 0 0, .int .i64 (k : Int), .int .i64 0, .string ⟨sy.toArray⟩, .int .u64 0, .int .u64 0, .int .u64 0, .int .u64 0] 47 rfl rfl (by simp [Value.oneCell']) (by unfold maxLen; omega) (by omega) hs1 ?_); intro v5 w5 hown5 hb5 hg5; obtain ⟨A5, c5, rfl, _, _, _⟩ := own_form hown5; have HO5 := Lib.hid hown5; have HB5 := Lib.hid (HB.out.trans (hb5.mono (Nat.le_refl _))); clear hown5 hb5 hg5)
            go_roundw
            case rel => exact ⟨k + 1, _, false, by omega, rfl, by go_num, HI.out.step hlt (o' := o ++ [(2, (k : Int), 0, sy)]) (by rw [HST.out]; simp [HSS.out]) (by rw [show (o ++ [(2, (k : Int), 0, sy)] : RL).length = n1 + 1 by simp [HN1.out], show rcells (o ++ [(2, (k : Int), 0, sy)]) = rcells o ++ rcells [(2, (k : Int), 0, sy)] from cellsK_append _ _ _]; exact HO5.out) HB5.out (HI.out.push _ (by simp)).1 (HI.out.push ((2, (k : Int), 0, sy)) (by simp)).2.1 (fun _ => (HI.out.push ((2, (k : Int), 0, sy)) (by simp)).2.2)⟩
            case measure => simp [intOf]; omega
      | false =>
        cases was with
        | false =>
          go_wp2_with fail
          refine g1.mono ?_
          clear g1
          rintro e w5 ⟨rfl, hb5⟩
          go_wp2_with fail
          refine (g2 _ hb5).mono ?_
          clear g2
          rintro e w6 ⟨rfl, hb6⟩
          have hb7 := hb5.trans (hb6.mono hb5.size)
          replace HOWN := Lib.hid (own_below HOWN.out hb7)
          replace HB := Lib.hid (HB.out.trans (hb7.mono hs1))
          have hs1 := HB.out.size
          clear hb5 hb6
          go_wp2_with fail
          go_roundw
          case rel => exact ⟨k + 1, _, false, by omega, rfl, by go_num, HI.out.step hlt (o' := o) (by rw [HST.out]; rfl) (by rw [← HN1.out]; exact HOWN.out) HB.out (fun r hr => by have := HI.out.cnt r hr; omega) (by have := HI.out.len; omega) (fun h => by cases h)⟩
          case measure => simp [intOf]; omega
        | true =>
          go_wp2_with fail
          refine g1.mono ?_
          clear g1
          rintro e w5 ⟨rfl, hb5⟩
          go_wp2_with fail
          refine (g2 _ hb5).mono ?_
          clear g2
          rintro e w6 ⟨rfl, hb6⟩
          have hb7 := hb5.trans (hb6.mono hb5.size)
          replace HOWN := Lib.hid (own_below HOWN.out hb7)
          replace HB := Lib.hid (HB.out.trans (hb7.mono hs1))
          have hs1 := HB.out.size
          clear hb5 hb6 hb7
          go_wp2_with (at_builtin; (refine wpList_push _ rfl (.tmp 76) (.tmp 80) 36 rfl w0.heap.size 47 i0 (.agg #[.int .i64 0, .string ByteArray.empty, .int .i64 0, .int .i64 0, .slice none 0 0, .int .i64 0, .int .i64 0, .string ByteArray.empty, .int .u64 0, .int .u64 0, .int .u64 0, .int .u64 0]) 12 128 Try.underlying36 hi0 hz0 hz1 hz2 rfl (by decide) (.slice A1 n1 c1) n1 _ rfl HOWN.out 1 #[.int .i64 2, .string ByteArray.empty, .int .i64 0, .int .i64 0, .slice none 0 0, .int .i64 (k : Int), .int .i64 0, .string ⟨sy.toArray⟩, .int .u64 0, .int .u64 0, .int .u64 0, .int .u64 0] 47 rfl rfl (by simp [Value.oneCell']) (by unfold maxLen; omega) (by omega) hs1 ?_); intro v5 w5 hown5 hb5 hg5; obtain ⟨A5, c5, rfl, _, _, _⟩ := own_form hown5; have HO5 := Lib.hid hown5; have HB5 := Lib.hid (HB.out.trans (hb5.mono (Nat.le_refl _))); clear hown5 hb5 hg5)
          go_roundw
          case rel => exact ⟨k + 1, _, false, by omega, rfl, by go_num, HI.out.step hlt (o' := o ++ [(2, (k : Int), 0, sy)]) (by rw [HST.out]; rfl) (by rw [show (o ++ [(2, (k : Int), 0, sy)] : RL).length = n1 + 1 by simp [HN1.out], show rcells (o ++ [(2, (k : Int), 0, sy)]) = rcells o ++ rcells [(2, (k : Int), 0, sy)] from cellsK_append _ _ _]; exact HO5.out) HB5.out (HI.out.push _ (by simp)).1 (HI.out.push ((2, (k : Int), 0, sy)) (by simp)).2.1 (fun _ => (HI.out.push ((2, (k : Int), 0, sy)) (by simp)).2.2)⟩
          case measure => simp [intOf]; omega
    · obtain rfl : k = 1024 := by omega
      go_wp2_with fail
      go_ret2
      refine ⟨_, by rw [HE.out]; rfl, ?_, hbw⟩
      have hgh := HI.out.ghost
      rw [HO.out, ← hgh]
      show wr.ownsRow _ _ _ _ o.length (rcells o)
      rw [← HN1.out]
      exact own_mono HOWN.out hs2
theorem okE_cases (l : BL) : okE l = 0 ∨ okE l = 9 := by unfold okE; split <;> simp
set_option maxRecDepth 100000 in
set_option maxHeartbeats 2000000 in
theorem rdiff_any (a b : BL) (n m : Nat) (hna : n = a.length) (hmb : m = b.length) (A B : Option Addr) (c c2 : Nat) (w : World) (hra : Reads w w.heap.size 2 A n (bcells a)) (hrb : Reads w w.heap.size 2 B m (bcells b)) (hn : n ≤ 6000000000000) (hm : m ≤ 6000000000000) :
    Calls Try.prog 23 #[.slice A n c, .slice B m c2] w (DiffPost w a b) := by
  by_cases hE : diffE a b = 0
  · obtain ⟨ha, hb⟩ := (diffE_ok a b).1 hE
    exact rdiff_ok a b n m hna hmb A B c c2 w hra hrb ha hb
  · have hck1 := bkrcheck_any a n hna A c w w.heap.size hra (Nat.le_refl _) (by omega)
    have hck2 := fun W (hb : Below w.heap.size w W) => bkrcheck_any b m hmb B c2 W w.heap.size (hrb.below hb) hb.size (by omega)
    have hO : diffO a b = [] := by unfold diffO; rw [if_neg hE]
    have hz : diffE a b = 9 := by
      unfold diffE orI at hE ⊢
      rcases okE_cases a with h1 | h1 <;> rcases okE_cases b with h2 | h2 <;> rw [h1, h2] at hE ⊢ <;> simp at hE ⊢
    have HO := Lib.hid hO
    have HZ := Lib.hid hz
    by_cases ha : okE a = 0
    · have hb : okE b = 9 := by
        rcases okE_cases b with h | h
        · unfold diffE orI at hE; rw [ha, h] at hE; simp at hE
        · exact h
      rw [ha] at hck1
      rw [hb] at hck2
      clear hO hz hna hmb hra hrb hE ha hb
      go_enter Try.func23, Try.ntmps23
      go_wp2_with fail
      refine hck1.mono ?_
      clear hck1
      rintro e w1 ⟨rfl, hb1⟩
      go_wp2_with fail
      refine (hck2 _ hb1).mono ?_
      clear hck2
      rintro e w2 ⟨rfl, hb2⟩
      go_wp2_with fail
      go_ret2
      refine ⟨.slice none 0 0, by rw [HZ.out]; rfl, ?_, hb1.trans (hb2.mono hb1.size)⟩
      rw [HO.out]
      exact World.ownsRow_nil _ _ _ _
    · have ha : okE a = 9 := by
        rcases okE_cases a with h | h
        · exact absurd h ha
        · exact h
      rw [ha] at hck1
      clear hO hz hna hmb hra hrb hE ha hck2
      go_enter Try.func23, Try.ntmps23
      go_wp2_with fail
      refine hck1.mono ?_
      clear hck1
      rintro e w1 ⟨rfl, hb1⟩
      go_wp2_with fail
      go_ret2
      refine ⟨.slice none 0 0, by rw [HZ.out]; rfl, ?_, hb1⟩
      rw [HO.out]
      exact World.ownsRow_nil _ _ _ _
end Go.Proofs.Ytcbeadldieeceaa
