/-
  The page's Words and Feed, by their contracts.
-/
import Derived.Handy
import Derived.BigRegion
import Derived.BigQuiet
import Derived.Test.YtcbeadldieeceaaZ2
import Derived.Test.YtcbeadldieeceaaZ8
import Derived.Test.YtcbeadldieeceaaZ16
import Derived.Test.YtcbeadldieeceaaZ24
import Derived.Test.YtcbeadldieeceaaZ26
namespace Go.Proofs.Ytcbeadldieeceaa
open Go.RowKit

def part (b : List UInt8) (j : Nat) : Nat → Nat
  | 0 => 0
  | t + 1 => part b j t * 256 + (b.getD (j + t) 0).toNat
theorem part_lt (b : List UInt8) (j t : Nat) : part b j t < 256 ^ t := by
  induction t with
  | zero => simp [part]
  | succ t ih =>
    have := (b.getD (j + t) 0).toNat_lt
    simp only [part, Nat.pow_succ]
    omega
theorem part4 (b : List UInt8) (k : Nat) : part b (4 * k) 4 = wordAt b k := by
  simp only [part, wordAt, w4, Nat.add_zero]
  omega

set_option maxRecDepth 100000 in
set_option maxHeartbeats 1000000 in
theorem rwords_any (b : List UInt8) (n : Nat) (hnb : n = b.length) (A : Option Addr) (c : Nat) (w : World) (B : Nat) (hr : Reads w B 1 A n (bts b)) (hB : B ≤ w.heap.size) (hn : n ≤ 140737488351232) :
    Calls Try.prog 46 #[.slice A n c] w fun e w' => ∃ v, e = .returned v ∧ w'.ownsRow w.heap.size 104 1 v (words b).length (u32s (words b)) ∧ Below w.heap.size w w' := by
  subst hnb
  obtain ⟨i0, hi0, hz0, hz1, hz2⟩ := info_parts Try.infoU32
  go_enter Try.func46, Try.ntmps46
  go_wp2_with fail
  go_loopw [3, 4] (fun v i wr => ∃ k j : Nat, Hid (j = 4 * k) ∧ j < b.length + 4 ∧ i = .int .i64 (j : Int) ∧ wr.ownsRow w.heap.size 104 1 v k (u32s (wordsN b k)) ∧ Below w.heap.size w wr) (fun _ i _ => b.length + 4 - (intOf i).toNat)
  case atStart => exact ⟨0, 0, (show _ = _ by simp), by omega, rfl, by simpa [wordsN, u32s] using World.ownsRow_nil _ _ _ _, Below.refl _ _⟩
  case round =>
    obtain ⟨k, j, hj, hjl, rfl, hown, hbw⟩ := hrel
    have hr2 := hr.below (hbw.mono hB)
    by_cases hlt : j < b.length
    · go_wp2_with fail
      go_loop [5, 6] (fun p x => ∃ t m s : Nat, t ≤ 4 ∧ Hid (s = j + t) ∧ j ≤ s ∧ s ≤ j + 4 ∧ x = .int .i64 (s : Int) ∧ p = .int .u32 (m : Int) ∧ Hid (m = part b j t)) (fun _ x => j + 4 - (intOf x).toNat)
      case atStart => exact ⟨0, 0, j, by omega, (show _ = _ by simp), by omega, by omega, rfl, rfl, (show _ = _ by simp [part])⟩
      case round =>
        obtain ⟨t, m, s, ht, hs, hs1, hs2, rfl, rfl, hm⟩ := hrel
        have hst := hs.out
        by_cases ht4 : s < j + 4
        · have hm3 : m < 16777216 := by
            have h1 := part_lt b j t
            have h2 : 256 ^ t ≤ 256 ^ 3 := Nat.pow_le_pow_right (by omega) (by omega)
            have h3 : (256 : Nat) ^ 3 = 16777216 := by decide
            rw [hm.out]; omega
          clear hst
          by_cases hsl : s < b.length
          · obtain ⟨ad, u, rfl, _, hu, hcu⟩ := hr2.at_ (by omega : s < b.length)
            obtain rfl : u = .int .u8 ((b[s]).toNat : Int) := by rw [bts_get, List.getElem?_eq_getElem hsl] at hu; simpa using hu.symm
            have hy := (b[s]).toNat_lt
            have hgd : (b.getD (j + t) 0).toNat = (b[s]).toNat := by rw [← hs.out]; simp [List.getD_eq_getElem?_getD, List.getElem?_eq_getElem hsl]
            obtain ⟨y, hyy⟩ : ∃ y, y = (b[s]).toNat := ⟨_, rfl⟩
            rw [← hyy] at hcu hy hgd
            have HG := Lib.hid hgd
            clear hyy hu hr hr2 hgd
            go_wp2_with fail
            go_round
            case rel => exact ⟨t + 1, m * 256 + y, s + 1, by have := hs.out; omega, (show _ = _ by rw [hs.out]; omega), by omega, by omega, by go_num, by go_num, (show _ = _ by simp only [part]; rw [HG.out, hm.out])⟩
            case measure => simp [intOf]; omega
          · have HG := Lib.hid (show (b.getD (j + t) 0).toNat = 0 by rw [← hs.out]; simp [List.getD_eq_getElem?_getD, List.getElem?_eq_none (show b.length ≤ s by omega)])
            clear hr hr2
            go_wp2_with fail
            go_round
            case rel => exact ⟨t + 1, m * 256, s + 1, by have := hs.out; omega, (show _ = _ by rw [hs.out]; omega), by omega, by omega, by go_num, by go_num, (show _ = _ by simp only [part]; rw [HG.out, hm.out]; omega)⟩
            case measure => simp [intOf]; omega
        · obtain rfl : t = 4 := by omega
          obtain rfl : s = j + 4 := by omega
          have hmw := Lib.hid (show m = wordAt b k by rw [hm.out, hj.out, part4])
          have hk : k < b.length := by have := hj.out; omega
          clear hst hr hr2
          go_wp2_with (at_builtin; (refine wpList_push _ rfl (.tmp 33) (.tmp 35) _ rfl w.heap.size 104 i0 _ 1 4 Try.underlying102 hi0 hz0 hz1 hz2 rfl (by omega) _ k _ rfl hown 1 _ _ rfl rfl (by simp [Value.oneCell']) (by unfold maxLen; omega) (by have := hj.out; omega) hbw.size ?_); intro v2 w2 hown2 hb2 _)
          go_roundw
          case rel => exact ⟨k + 1, j + 4, (show _ = _ by rw [hj.out]; omega), by omega, by go_num, by rw [wordsN_succ]; simpa [u32s, hmw.out] using hown2, hbw.trans hb2⟩
          case measure => simp [intOf]; omega
    · have hw : words b = wordsN b k := by unfold words; rw [show (b.length + 3) / 4 = k by have := hj.out; omega]
      have HW := Lib.hid (show (words b).length = k ∧ u32s (words b) = u32s (wordsN b k) by rw [hw]; exact ⟨wordsN_length _ _, rfl⟩)
      clear hw hr2
      go_wp2_with fail
      go_ret
      exact ⟨_, rfl, by rw [HW.out.1, HW.out.2]; exact hown, hbw⟩
end Go.Proofs.Ytcbeadldieeceaa

/-
  The page's Feed, by its contract.
-/
namespace Go.Proofs.Ytcbeadldieeceaa
open Go.RowKit

set_option maxRecDepth 100000 in
set_option maxHeartbeats 400000 in
theorem rfeed_any (s : Sm) (b : List UInt8) (A : Option Addr) (c : Nat) (w : World) (B : Nat) (hr : Reads w B 1 A b.length (bts b)) (hB : B ≤ w.heap.size) (hn : b.length ≤ 140737488351232) :
    Calls Try.prog 24 #[s.val, .slice A b.length c] w fun e w' => e = .returned (feedL s (words b)).val ∧ Below w.heap.size w w' := by
  obtain ⟨sa, sb, sc, sd⟩ := s
  show Calls _ _ #[.agg #[.int .u64 sa, .int .u64 sb, .int .u64 sc, .int .u64 sd], _] _ _
  go_enter Try.func24, Try.ntmps24
  go_wp2_with fail
  refine (rwords_any b b.length rfl A c _ B (hr.below (by go_grown)) (by simp; omega) hn).mono ?_
  rintro e w1 ⟨v, rfl, hown, hb1⟩
  obtain ⟨A2, c2, rfl, hc2, hm2, hr2⟩ := own_form hown
  simp only []
  have hwl : (words b).length ≤ 140737488351232 := by simp [words, wordsN_length]; omega
  obtain ⟨l, hl⟩ : ∃ l, l = words b := ⟨_, rfl⟩
  rw [← hl] at hc2 hr2 hwl hown ⊢
  have HL := Lib.hid hl
  clear hl hr2 hr
  have hsz := hb1.size
  simp at hsz
  have hk1 : Blk w1 w.heap.size 42 #[.int .u64 sa, .int .u64 sb, .int .u64 sc, .int .u64 sd] := ((Blk.new w _ _).alloc _).below hb1 (by simp; omega)
  have hk2 : Blk w1 (w.heap.size + 1) 42 #[.int .u64 0, .int .u64 0, .int .u64 0, .int .u64 0] := by
    have := (Blk.new (w.alloc (Obj.cells #[.int .u64 sa, .int .u64 sb, .int .u64 sc, .int .u64 sd] 42)) 42 #[.int .u64 0, .int .u64 0, .int .u64 0, .int .u64 0]).below hb1 (by simp)
    simpa using this
  have hbel1 : Below w.heap.size w w1 := (((Below.refl _ _).alloc (Nat.le_refl _) _).alloc (by simp) _).trans (hb1.mono (by simp; omega))
  have hown1 : w1.ownsRow (w.heap.size + 2) 104 1 (.slice A2 l.length c2) l.length (u32s l) := own_mono hown (by simp)
  clear hown hb1
  go_wp2_with fail
  go_loopw [6] (fun i wr => ∃ k : Nat, k ≤ l.length ∧ i = .int .i64 (k : Int) ∧ FeedRel ⟨sa, sb, sc, sd⟩ l k w.heap.size 42 wr ∧ Blk wr (w.heap.size + 1) 42 #[.int .u64 0, .int .u64 0, .int .u64 0, .int .u64 0] ∧ wr.ownsRow (w.heap.size + 2) 104 1 (.slice A2 l.length c2) l.length (u32s l) ∧ Below w.heap.size w wr) (fun i _ => l.length - (intOf i).toNat)
  case atStart => exact ⟨0, Nat.zero_le _, rfl, hk1, hk2, hown1, hbel1⟩
  case round =>
    obtain ⟨k, hk, rfl, hF, hK2, hO, hB1⟩ := hrel
    unfold FeedRel at hF
    have hst := feedL_take ⟨sa, sb, sc, sd⟩ l k
    obtain ⟨st, est⟩ : ∃ st, st = feedL ⟨sa, sb, sc, sd⟩ (l.take k) := ⟨_, rfl⟩
    rw [← est] at hF hst
    have EST := Lib.hid est
    have HST := Lib.hid hst
    clear est hst
    obtain ⟨ya, yb, yc, yd⟩ := st
    obtain ⟨c0, c1, c3, c4, f0, f1, f3, f4⟩ := blk4 hF
    by_cases hlt : k < l.length
    · obtain ⟨_, _, hv, _, _, hR⟩ := own_form hO
      obtain ⟨rfl, rfl⟩ : _ = A2 ∧ _ = c2 := by injection hv with h1 _ h2; exact ⟨h1.symm, h2.symm⟩
      obtain ⟨ad, u, rfl, _, hu, hcu⟩ := hR.at_ hlt
      obtain ⟨x, hx⟩ : ∃ x, l[k]? = some x := ⟨_, List.getElem?_eq_getElem hlt⟩
      have hxl : x < 4294967296 := words_lt b x (by rw [← HL.out]; exact List.mem_of_getElem? hx)
      obtain rfl : u = .int .u32 (x : Int) := by simp [u32s, hx] at hu; exact hu.symm
      have HX := Lib.hid hx
      clear hv hR hu hx
      have hki : (k : Int) < (l.length : Int) := by omega
      go_wp2_with fail
      go_region
      go_wp2_with fail
      go_roundw
      case rel => exact ⟨k + 1, by omega, by go_num, Blk.drew (feed_rel hF (HST.out x HX.out)), ((((hK2.far (by simp) _).far (by simp) _).far (by simp) _).far (by simp) _).drew, own_drew (own_setCell_below (own_setCell_below (own_setCell_below (own_setCell_below hO (by simp) _) (by simp) _) (by simp) _) (by simp) _), ((((hB1.setCell (by simp) _).setCell (by simp) _).setCell (by simp) _).setCell (by simp) _).drew⟩
      case measure => simp [intOf]; omega
    · obtain ⟨d0, d1, d3, d4, g0, g1, g3, g4⟩ := blk4 hK2
      clear hF hK2 hO hown1 hk1 hk2 hbel1 hc2 hsz hwl
      go_wp2_with fail
      refine bodyPost_ret (v := .agg #[.int .u64 ya, .int .u64 yb, .int .u64 yc, .int .u64 yd]) (by simp [results, Try.results24, go_sem, d0, d1, d3, d4]) rfl ⟨?_, ?_⟩
      · have hk' : k = l.length := by omega
        have := EST.out
        rw [hk', List.take_length, HL.out] at this
        rw [← this]; rfl
      · exact (((hB1.setCell (by simp) _).setCell (by simp) _).setCell (by simp) _).setCell (by simp) _
end Go.Proofs.Ytcbeadldieeceaa

/-
  The law StreamSums, walked.
-/
namespace Go.Proofs.Ytcbeadldieeceaa
open Go.RowKit

theorem words_fill (b : BS) (j : Nat) (h : (b.length + j) % 4 = 0) (hj : b.length + j ≤ (b.length + 3) / 4 * 4) : words (b ++ List.replicate j 0) = words b ∧ (words b).length * 4 = b.length + j := by
  have hl : (b.length + j + 3) / 4 = (b.length + 3) / 4 := by omega
  constructor
  · unfold words wordsN
    rw [List.length_append, List.length_replicate, hl]
    apply List.map_congr_left
    intro k hk
    have hg : ∀ i, (b ++ List.replicate j 0).getD i 0 = b.getD i 0 := by
      intro i
      simp only [List.getD_eq_getElem?_getD]
      by_cases hi : i < b.length
      · rw [List.getElem?_append_left hi]
      · rw [List.getElem?_append_right (by omega), List.getElem?_eq_none (l := b) (by omega)]
        simp [List.getElem?_replicate]
        split <;> rfl
    unfold wordAt
    rw [hg, hg, hg, hg]
  · unfold words
    rw [wordsN_length]
    omega
theorem word_of (b : BS) (i : Nat) (y0 y1 y2 y3 : Nat) (h0 : y0 = (b.getD (4 * i) 0).toNat) (h1 : y1 = (b.getD (4 * i + 1) 0).toNat) (h2 : y2 = (b.getD (4 * i + 2) 0).toNat) (h3 : y3 = (b.getD (4 * i + 3) 0).toNat) (hi : i < (words b).length) : (words b)[i]? = some (y0 * 16777216 + y1 * 65536 + y2 * 256 + y3) := by
  unfold words at hi ⊢
  rw [wordsN_length] at hi
  unfold wordsN
  rw [List.getElem?_map, List.getElem?_range hi]
  simp only [Option.map_some, wordAt, w4]
  rw [h0, h1, h2, h3]
theorem Try.sumsB : (Try.prog.info? 5).map (fun i => (i.zero, i.size, i.bytes)) = some (some (.int .u8 0), 1, 1) := by kernel_rfl
theorem num_eq (x : Int) (w : World) : Calls Try.prog 9 #[.int .i64 x] w fun e w' => e = .returned (.int .i64 x) ∧ w' = w := num_any x w
set_option maxRecDepth 100000 in
set_option maxHeartbeats 8000000 in
theorem streamSums_any (l : List RcR) (n : Nat) (hnl : n = l.length) (A : Option Addr) (c : Nat) (w : World) (hr : Reads w w.heap.size 12 A n (cellsK RcR.cs l)) (hn : n ≤ 1048576) (hrd : ∀ x ∈ l, x.rd w w.heap.size) (hsz : ∀ x ∈ l, x.sz) :
    LawCalls Try.prog 5 #[.slice A n c] w := by
  obtain ⟨i0, hi0, hz0, hz1, hz2⟩ := info_parts Try.sumsB
  have HN := Lib.hid hnl
  have HR := Lib.hid hr
  have HRD := Lib.hid hrd
  have HSZ := Lib.hid hsz
  clear hnl hr hrd hsz
  unfold LawCalls
  go_enter Try.func5, Try.ntmps5
  go_wp2_with fail
  refine (alive_any w).mono ?_
  rintro e w1 ⟨rfl, hb1⟩
  have hsum := sum_any l n HN.out A c w1 ((HR.out.below hb1).more hb1.size) hn (fun x hx => ((HRD.out x hx).below hb1).more hb1.size) HSZ.out
  have HSUM := Lib.hid hsum
  have HB1 := Lib.hid hb1
  clear hsum hb1
  go_wp2_with fail
  refine HSUM.out.mono ?_
  clear HSUM
  rintro e w2 ⟨rfl, hb2⟩
  have HB2 := Lib.hid (HB1.out.trans (hb2.mono HB1.out.size))
  clear hb2 HB1
  obtain ⟨⟨sa, sb, sc, sd⟩, hS⟩ : ∃ s, s = sumR (l.map RcR.r) := ⟨_, rfl⟩
  obtain ⟨E, hE⟩ : ∃ E, E = sumE (l.map RcR.r) := ⟨_, rfl⟩
  rw [← hS, ← hE]
  have HS := Lib.hid hS
  have HE := Lib.hid hE
  clear hS hE
  simp only [Sm.val]
  obtain ⟨g, hg⟩ : ∃ g, g = w2.heap.size := ⟨_, rfl⟩
  obtain ⟨W3, hW3⟩ : ∃ W, W = (w2.alloc (.cells #[.int .u64 sa, .int .u64 sb, .int .u64 sc, .int .u64 sd] 42)).alloc (.cells #[.int .u64 0, .int .u64 0, .int .u64 0, .int .u64 0] 42) := ⟨_, rfl⟩
  have kS : Blk W3 g 42 #[.int .u64 sa, .int .u64 sb, .int .u64 sc, .int .u64 sd] := by rw [hW3, hg]; exact (Blk.new w2 _ _).alloc _
  have kW : Blk W3 (g + 1) 42 #[.int .u64 0, .int .u64 0, .int .u64 0, .int .u64 0] := by
    rw [hW3, hg]
    have := Blk.new (w2.alloc (.cells #[.int .u64 sa, .int .u64 sb, .int .u64 sc, .int .u64 sd] 42)) 42 #[.int .u64 0, .int .u64 0, .int .u64 0, .int .u64 0]
    simp at this
    exact this
  have hb3 : Below w.heap.size w W3 := by rw [hW3]; exact (HB2.out.alloc HB2.out.size _).alloc (by have := HB2.out.size; simp; omega) _
  have HG : Hid (w.heap.size ≤ g) := by show _ ≤ _; rw [hg]; exact HB2.out.size
  have HKS := Lib.hid kS
  have HKW := Lib.hid kW
  have HB3 := Lib.hid hb3
  clear kS kW hb3 HB2
  go_upto_region 5 with (fail)
  rw [← hW3, ← hg]
  clear hW3 hg
  go_wp2_with fail
  go_loopw [6] (fun i wr => ∃ k : Nat, k ≤ n ∧ i = .int .i64 (k : Int) ∧ Hid (sumE ((l.take k).map RcR.r) = 0) ∧ Hid (Blk wr g 42 #[.int .u64 sa, .int .u64 sb, .int .u64 sc, .int .u64 sd]) ∧ (∃ t : Sm, Hid (t = sumS Sm0 ((l.take k).map RcR.r)) ∧ Hid (Blk wr (g + 1) 42 #[.int .u64 t.a, .int .u64 t.b, .int .u64 t.c, .int .u64 t.d])) ∧ Hid (Below w.heap.size w wr)) (fun i _ => n - (intOf i).toNat)
  case atStart => exact ⟨0, Nat.zero_le _, rfl, rfl, HKS.out, ⟨Sm0, rfl, HKW.out⟩, HB3.out⟩
  case round =>
    clear HKS HKW HB3
    obtain ⟨k, hk, rfl, HE0, HKS, ⟨t, HT, HKW⟩, HB⟩ := hrel
    by_cases hlt : k < n
    · obtain ⟨ad, rfl, hadB, hel⟩ := Reads.elAll (enc := RcR.cs) (k := 12) RcR.cs_len (HR.out.below HB.out) HN.out hlt
      have hkl : k < l.length := by have := HN.out; omega
      have HTK := Lib.hid (take_map_snoc l k hkl)
      have HTE := Lib.hid (sumE_take (l.map RcR.r) k (by simpa using hkl) (by rw [← List.map_take]; exact HE0.out))
      have HX := Lib.hid (HRD.out _ (List.getElem_mem hkl))
      have HXZ := Lib.hid (HSZ.out _ (List.getElem_mem hkl))
      have hki : (k : Int) < (n : Int) := by omega
      obtain ⟨x, hx⟩ : ∃ x, x = l[k]'hkl := ⟨_, rfl⟩
      have hxr : (l.map RcR.r)[k]'(by simpa using hkl) = x.r := by rw [hx]; simp
      rw [hxr] at HTE
      rw [← hx] at hel HTK HX HXZ
      clear hxr hx
      obtain ⟨r, A1, n1, c1⟩ := x
      obtain ⟨cs, hcs⟩ : ∃ cs, cs = RcR.cs ⟨r, A1, n1, c1⟩ := ⟨_, rfl⟩
      have hcl : cs.length = 12 := by rw [hcs]; rfl
      have HCA : Hid (Value.agg cs.toArray = rcV r (.slice A1 n1 c1)) := by show _ = _; rw [hcs]; rfl
      rw [← hcs] at hel
      clear hcs
      have HEL := Lib.hid hel
      have hpe := penc_any r n1 HX.out.1 A1 c1 wr w.heap.size HB.out.size (HX.out.2.below HB.out) HXZ.out.n HXZ.out.ps HXZ.out.nm HXZ.out.sm
      unfold EncPost at hpe
      have HPE := Lib.hid hpe
      clear hel hadB hpe
      go_wp2_with (refine wpList_load_at rfl 47 (.tmp 28) rfl (ad.add (k * 12)) rfl cs _ HEL.out Try.underlying47 rfl (by rw [hcl]; kernel_rfl) ?_)
      clear HEL hcl
      rw [HCA.out]
      refine HPE.out.mono ?_
      clear HPE
      rintro e w4 ⟨v, rfl, hv, hb4⟩
      have HKS4 := Lib.hid (HKS.out.below hb4 HKS.out.lt)
      have HKW4 := Lib.hid (HKW.out.below hb4 HKW.out.lt)
      have HB4 := Lib.hid (HB.out.trans (hb4.mono HB.out.size))
      have hgr : g + 1 < wr.heap.size := HKW.out.lt
      have hq4 := hb4.size
      clear hb4 HKS HKW HB
      by_cases hE : recE r = 0
      · rw [if_pos hE] at hv
        have HSE := Lib.hid (HTE.out.1 hE)
        have hlen := (encL_len r hE).1
        obtain ⟨b, hb⟩ : ∃ b, b = encL r := ⟨_, rfl⟩
        rw [← hb] at hv hlen
        obtain ⟨q, hq⟩ : ∃ q, q = wr.heap.size := ⟨_, rfl⟩
        rw [← hq] at hv hgr hq4
        clear hq
        rw [hE]
        obtain ⟨m, hm⟩ : ∃ m, m = b.length := ⟨_, rfl⟩
        rw [← hm] at hv hlen
        have HBE := Lib.hid hb
        have HM := Lib.hid hm
        have HV := Lib.hid hv
        clear hb hm hE hv
        go_wp2_with fail
        go_loopw [7] (fun u wr => ∃ j : Nat, m + j ≤ (m + 3) / 4 * 4 ∧ Hid (wr.ownsRow q 5 1 u (m + j) (bts (b ++ List.replicate j 0))) ∧ Hid (Blk wr g 42 #[.int .u64 sa, .int .u64 sb, .int .u64 sc, .int .u64 sd]) ∧ Hid (Blk wr (g + 1) 42 #[.int .u64 t.a, .int .u64 t.b, .int .u64 t.c, .int .u64 t.d]) ∧ Hid (Below w.heap.size w wr) ∧ q ≤ wr.heap.size) (fun u _ => (m + 3) / 4 * 4 - lenV u)
        case atStart => exact ⟨0, by omega, (show World.ownsRow _ _ _ _ _ _ _ by simpa using HV.out), HKS4.out, HKW4.out, HB4.out, hq4⟩
        case round =>
          clear HV HKS4 HKW4 HB4 hq4
          obtain ⟨j, hj, HO, HKS, HKW, HB, hqs⟩ := hrel
          rename_i w0r u0 wr2
          obtain ⟨A7, c7, hu7, hc7, hcm7, hr7⟩ := own_form HO.out
          subst hu7
          obtain ⟨M, hM⟩ : ∃ M, M = m + j := ⟨_, rfl⟩
          rw [← hM] at HO hr7 hj hc7 ⊢
          have HMJ := Lib.hid hM
          clear hM
          have htm : ((M : Int).tmod 4) = ((M % 4 : Nat) : Int) := by
            rw [Int.tmod_eq_emod_of_nonneg (by omega)]; omega
          by_cases h4 : M % 4 = 0
          · have h4b : (((M % 4 : Nat) : Int) != 0) = false := by simp; omega
            obtain ⟨B, hB⟩ : ∃ B, B = b ++ List.replicate j 0 := ⟨_, rfl⟩
            have hwf := words_fill b j (by have := HM.out; have := HMJ.out; omega) (by have := HM.out; have := HMJ.out; omega)
            rw [← hB] at HO hr7 hwf
            have HWF := Lib.hid hwf
            have hWM : (words b).length * 4 = M := by have := HM.out; have := HMJ.out; omega
            have HBL : Hid (B.length = M) := by show _ = _; rw [hB, List.length_append, List.length_replicate, HMJ.out, HM.out]
            clear hB hwf
            obtain ⟨nw, hnw⟩ : ∃ x, x = (words b).length := ⟨_, rfl⟩
            rw [← hnw] at hWM
            have HNW := Lib.hid hnw
            clear hnw
            go_wp2_with fail
            go_loopw [9] (fun i wr => ∃ d : Nat, d ≤ nw ∧ i = .int .i64 ((4 * d : Nat) : Int) ∧ Hid (wr.ownsRow q 5 1 (.slice A7 M c7) M (bts B)) ∧ Hid (Blk wr g 42 #[.int .u64 sa, .int .u64 sb, .int .u64 sc, .int .u64 sd]) ∧ Hid (FeedRel t (words b) d (g + 1) 42 wr) ∧ Hid (Below w.heap.size w wr)) (fun i _ => M - (intOf i).toNat)
            case atStart => exact ⟨0, Nat.zero_le _, rfl, HO.out, HKS.out, HKW.out, HB.out⟩
            case round =>
              clear HO HKS HKW HB
              obtain ⟨d, hd, rfl, HO, HKS, HF, HB⟩ := hrel
              obtain ⟨P, hP⟩ : ∃ P, P = 4 * d := ⟨_, rfl⟩
              rw [← hP]
              by_cases hdl : d < nw
              · obtain ⟨_, _, hv, _, _, hR⟩ := own_form HO.out
                obtain ⟨rfl, rfl⟩ : _ = A7 ∧ _ = c7 := by injection hv with h1 _ h2; exact ⟨h1.symm, h2.symm⟩
                have hget : ∀ j, P + j < M → ∃ y : Nat, y = (B.getD (P + j) 0).toNat ∧ y < 256 := fun j _ => ⟨_, rfl, (B.getD (P + j) 0).toNat_lt⟩
                obtain ⟨ad7, rfl, hadb, hcell⟩ := hR.2 (by omega)
                have hcl : ∀ j y : Nat, P + j < M → y = (B.getD (P + j) 0).toNat → wr.cell? (ad7.add (P + j)) = some (.int .u8 (y : Int)) := by
                  intro j y hj hy
                  refine hcell _ _ ?_
                  rw [bts_get, List.getElem?_eq_getElem (by rw [HBL.out]; exact hj), hy]
                  simp [List.getD_eq_getElem?_getD, List.getElem?_eq_getElem (show P + j < B.length by rw [HBL.out]; exact hj)]
                obtain ⟨y0, hy0, hl0⟩ := hget 0 (by omega)
                obtain ⟨y1, hy1, hl1⟩ := hget 1 (by omega)
                obtain ⟨y2, hy2, hl2⟩ := hget 2 (by omega)
                obtain ⟨y3, hy3, hl3⟩ := hget 3 (by omega)
                have e0 := hcl 0 y0 (by omega) hy0
                have e1 := hcl 1 y1 (by omega) hy1
                have e2 := hcl 2 y2 (by omega) hy2
                have e3 := hcl 3 y3 (by omega) hy3
                rw [Nat.add_zero] at e0 hy0
                have k1 := e1
                have k2 := e2
                have k3 := e3
                rw [addr_add_succ] at k1
                rw [show P + 2 = P + 1 + 1 from rfl, addr_add_succ] at k2
                rw [show P + 3 = P + 2 + 1 from rfl, addr_add_succ] at k3
                have HWD : Hid ((words b)[d]? = some (y0 * 16777216 + y1 * 65536 + y2 * 256 + y3)) := by
                  show _ = _
                  rw [← HWF.out.1]
                  rw [hP] at hy0 hy1 hy2 hy3
                  exact word_of B d y0 y1 y2 y3 hy0 hy1 hy2 hy3 (by rw [HWF.out.1, ← HNW.out]; exact hdl)
                have hP4 : P + 3 < M := by omega
                have HPD := Lib.hid hP
                clear hP hget hcl hy0 hy1 hy2 hy3 hcell hR hv hr7
                go_wp2_with fail
                go_big_quiet (fail)
                obtain ⟨X, hX⟩ : ∃ X : Nat, X = y0 * 16777216 + y1 * 65536 + y2 * 256 + y3 := ⟨_, rfl⟩
                rw [← hX] at HWD
                have hXc : (y0 : Int) * 16777216 + (y1 : Int) * 65536 + (y2 : Int) * 256 + (y3 : Int) = (X : Int) := by omega
                rw [hXc]
                clear hX hXc e0 e1 e2 e3 k1 k2 k3
                have hst := feedL_take t (words b) d X HWD.out
                have hF := HF.out
                unfold FeedRel at hF
                obtain ⟨st, est⟩ : ∃ st, st = feedL t ((words b).take d) := ⟨_, rfl⟩
                rw [← est] at hF hst
                clear est
                obtain ⟨ya, yb, yc, yd⟩ := st
                obtain ⟨c0, c1, c3, c4, f0, f1, f3, f4⟩ := blk4 hF
                have hF2 := (feed_rel hF hst).drewN nq
                have hO2 := (own_setCell_below (p := ⟨g + 1, 3, none⟩) (own_setCell_below (p := ⟨g + 1, 2, none⟩) (own_setCell_below (p := ⟨g + 1, 1, none⟩) (own_setCell_below (p := ⟨g + 1, 0, none⟩) HO.out hgr (.int .u64 (IntKind.u64.wrap (ya + X)))) hgr (.int .u64 (IntKind.u64.wrap (yb + IntKind.u64.wrap (ya + X))))) hgr (.int .u64 (IntKind.u64.wrap (yc + IntKind.u64.wrap (yb + IntKind.u64.wrap (ya + X)))))) hgr (.int .u64 (IntKind.u64.wrap (yd + IntKind.u64.wrap (yc + IntKind.u64.wrap (yb + IntKind.u64.wrap (ya + X)))))))
                have hS2 := ((((HKS.out.far (p := ⟨g + 1, 0, none⟩) (by simp) (.int .u64 (IntKind.u64.wrap (ya + X)))).far (p := ⟨g + 1, 1, none⟩) (by simp) (.int .u64 (IntKind.u64.wrap (yb + IntKind.u64.wrap (ya + X))))).far (p := ⟨g + 1, 2, none⟩) (by simp) (.int .u64 (IntKind.u64.wrap (yc + IntKind.u64.wrap (yb + IntKind.u64.wrap (ya + X)))))).far (p := ⟨g + 1, 3, none⟩) (by simp) (.int .u64 (IntKind.u64.wrap (yd + IntKind.u64.wrap (yc + IntKind.u64.wrap (yb + IntKind.u64.wrap (ya + X)))))))
                have hgw : w.heap.size ≤ g + 1 := by have := HG.out; omega
                have hB2 := ((((HB.out.setCell (p := ⟨g + 1, 0, none⟩) hgw (.int .u64 (IntKind.u64.wrap (ya + X)))).setCell (p := ⟨g + 1, 1, none⟩) hgw (.int .u64 (IntKind.u64.wrap (yb + IntKind.u64.wrap (ya + X))))).setCell (p := ⟨g + 1, 2, none⟩) hgw (.int .u64 (IntKind.u64.wrap (yc + IntKind.u64.wrap (yb + IntKind.u64.wrap (ya + X)))))).setCell (p := ⟨g + 1, 3, none⟩) hgw (.int .u64 (IntKind.u64.wrap (yd + IntKind.u64.wrap (yc + IntKind.u64.wrap (yb + IntKind.u64.wrap (ya + X)))))))
                have HH := Lib.hid (show _ ∧ _ ∧ _ ∧ _ from ⟨hF2, own_drewN hO2 nq, hS2.drewN nq, below_drewN hB2 nq⟩)
                clear hF2 hO2 hS2 hB2 hF hst HF HO HKS HB
                go_wp2_with fail
                go_roundw
                case rel => exact ⟨d + 1, by omega, by (have := HPD.out; go_num), HH.out.2.1, HH.out.2.2.1, HH.out.1, HH.out.2.2.2⟩
                case measure => simp [intOf]; have := HPD.out; omega
              · have hPM : P = M := by omega
                have hF := HF.out
                unfold FeedRel at hF
                have htk : (words b).take d = words b := List.take_of_length_le (by rw [← HNW.out]; omega)
                rw [htk] at hF
                have HF2 := Lib.hid hF
                clear hF htk HF hP hr7
                subst hPM
                go_wp2_with fail
                go_roundw
                case rel =>
                  refine ⟨k + 1, by omega, by go_num, ?_, HKS.out, ⟨feedL t (words b), ?_, HF2.out⟩, HB.out⟩
                  · show _ = _
                    rw [List.map_take]; exact HSE.out
                  · show _ = _
                    rw [HTK.out, sumS_snoc, ← HT.out, HBE.out]
                case measure => simp [intOf]; omega
          · have h4b : (((M % 4 : Nat) : Int) != 0) = true := by simp; omega
            go_wp2_with (at_builtin; (refine wpList_push _ rfl (.tmp 48) (.tmp 49) _ rfl q 5 i0 _ 1 1 Try.underlying27 hi0 hz0 hz1 hz2 rfl (by omega) _ M _ rfl HO.out 1 _ _ rfl rfl (by simp [Value.oneCell']) (by unfold maxLen; omega) (by omega) hqs ?_); intro v2 w5 hown2 hb2 _)
            have HO5 : Hid (w5.ownsRow q 5 1 v2 (m + (j + 1)) (bts (b ++ List.replicate (j + 1) 0))) := by
              show World.ownsRow _ _ _ _ _ _ _
              rw [List.replicate_succ', ← List.append_assoc, bts_append, show m + (j + 1) = M + 1 by have := HMJ.out; omega]
              exact hown2
            have HKS5 := Lib.hid (HKS.out.below hb2 (by omega))
            have HKW5 := Lib.hid (HKW.out.below hb2 hgr)
            have HB5 := Lib.hid (HB.out.trans (hb2.mono (by have := HG.out; omega)))
            have hq5 : q ≤ w5.heap.size := Nat.le_trans hqs hb2.size
            obtain ⟨A9, c9, hv9, _⟩ := own_form hown2
            clear HO HKS HKW HB hqs hown2 hb2 hr7
            go_roundw
            case rel => exact ⟨j + 1, by have := HMJ.out; omega, HO5.out, HKS5.out, HKW5.out, HB5.out, hq5⟩
            case measure => rw [hv9]; simp only [lenV]; omega
      · have HSE := Lib.hid (HTE.out.2 hE)
        have hEr : E = recE r := HE.out.trans HSE.out
        rw [if_neg hE] at hv
        subst hv
        have hne : (recE r != 0) = true := by simpa using hE
        have hz : (⟨sa, sb, sc, sd⟩ : Sm) = Sm0 := by rw [HS.out]; unfold sumR; rw [if_neg (by rw [HSE.out]; exact hE)]
        unfold Sm0 at hz
        injection hz with za zb zc zd
        subst za zb zc zd
        obtain ⟨R, hR⟩ : ∃ R, R = recE r := ⟨_, rfl⟩
        rw [← hR] at hne hEr ⊢
        subst hEr
        clear hR hE
        obtain ⟨q0, q1, q2, q3, _⟩ := blk4 HKS4.out
        go_wp2_with fail
        refine (num_any _ _).mono ?_
        rintro e w5 ⟨rfl, hw5⟩
        rw [hw5]
        clear hw5 w5
        go_wp2_with fail
        go_ret
        exact ⟨rfl, HB4.out⟩
    · obtain rfl : k = n := by omega
      have HTL : Hid ((l.take k).map RcR.r = l.map RcR.r) := by show _ = _; rw [HN.out, List.take_length]
      have hE0 : E = 0 := by rw [HE.out, ← HTL.out]; exact HE0.out
      have ht : t = ⟨sa, sb, sc, sd⟩ := by
        rw [HS.out, HT.out, HTL.out]
        unfold sumR
        rw [if_pos (by rw [← HTL.out]; exact HE0.out)]
      subst ht
      subst hE0
      obtain ⟨q0, q1, q2, q3, _⟩ := blk4 HKS.out
      obtain ⟨p0, p1, p2, p3, _⟩ := blk4 HKW.out
      simp only at p0 p1 p2 p3
      clear HS HE HTL HT HE0
      go_wp2_with fail
      refine (num_any _ _).mono ?_
      rintro e w5 ⟨rfl, hw5⟩
      rw [hw5]
      clear hw5 w5
      go_wp2_with fail
      go_ret
      exact ⟨rfl, HB.out⟩
end Go.Proofs.Ytcbeadldieeceaa

/-
  Arguments that are records, or a snapshot.
-/
namespace Go.Proofs.Ytcbeadldieeceaa
open Go.RowKit Go.ChangeShapes Go.WideShapes Go.ChangeAt

theorem list5 {α : Type} {l : List α} (h : l.length = 5) : ∃ a b c d e, l = [a, b, c, d, e] := by
  match l, h with
  | [a, b, c, d, e], _ => exact ⟨a, b, c, d, e, rfl⟩
theorem Try.bofRec : Try.prog.bytesOf 47 = 128 := by kernel_rfl
theorem Try.cofBlock : Try.prog.cellsOf 87 = 2 := by kernel_rfl
theorem Try.bofBlock : Try.prog.bytesOf 87 = 24 := by kernel_rfl
theorem Try.cofBlocks : Try.prog.cellsOf 22 = 1 := by kernel_rfl
theorem Try.cofStrs1 : Try.prog.cellsOf 23 = 1 := by kernel_rfl
theorem Try.cofSnap : Try.prog.cellsOf 26 = 5 := by kernel_rfl
section
variable {H : Type} {enc : TypeId × Value → H} {W : World} {K : Nat} {cs : List Value} {d : DataW H}
theorem ArgIn.recs {v : Value} (h : ArgIn enc Try.prog W 36 v d) :
    ∃ (A : Option Addr) (l : List RcR) (n c : Nat), v = .slice A n c ∧ n = l.length ∧ n ≤ c ∧ n ≤ Rows.uptoBulk d ∧ Reads W W.heap.size 12 A n (cellsK RcR.cs l) ∧ ∀ x ∈ l, x.rd W W.heap.size ∧ x.sz := by
  obtain ⟨A0, n0, c0, rfl, hc⟩ := h.slc Try.underlying36
  obtain ⟨A, l, n, c, hcs, hn, hc, _, _, hK, hr, hg⟩ := hc.list RcR.cs (fun x => x.rd W W.heap.size ∧ x.sz) RcR.cs_len (by decide) Try.cofRec Try.underlying36 (fun cs d h => by
    obtain ⟨r, A, n, c, hcs, hg, _⟩ := h.record
    exact ⟨⟨r, A, n, c⟩, hcs, hg.sz⟩)
  simp at hcs
  obtain ⟨rfl, rfl, rfl⟩ := hcs
  exact ⟨A0, l, n0, c0, rfl, hn, hc, hK, hr, hg⟩
theorem CellsIn.blockS (h : CellsIn enc Try.prog W K 87 cs d) : ∃ x : Int × BS, cs = [.int .i64 x.1, .string ⟨x.2.toArray⟩] ∧ True := by
  obtain ⟨hl, hf⟩ := h.fields Try.underlying87
  obtain ⟨a0, a1, rfl⟩ := list2 (hl.trans Try.cofBlock)
  obtain ⟨y0, q0⟩ := hf 0 _ rfl
  obtain ⟨y1, q1⟩ := hf 1 _ rfl
  obtain ⟨s0, e0, _⟩ := q0.i64 Try.underlying3
  obtain ⟨s1, e1, _⟩ := q1.str Try.underlying9
  simp [Try.cofInt, Try.cofStr] at e0 e1
  exact ⟨(s0, s1), by rw [e0, e1], trivial⟩
theorem ArgIn.snap {v : Value} (h : ArgIn enc Try.prog W 26 v d) : ∃ x : SpR, v = .agg x.cells ∧ x.rd W W.heap.size ∧ x.sz := by
  obtain ⟨cs, rfl, hc⟩ := h.agg Try.underlying26
  obtain ⟨hl, hf⟩ := hc.fields Try.underlying26
  obtain ⟨c0, c1, c2, c3, c4, hcs⟩ := list5 (hl.trans Try.cofSnap)
  rw [hcs] at hf
  obtain ⟨y0, q0⟩ := hf 0 _ rfl
  obtain ⟨y1, q1⟩ := hf 1 _ rfl
  obtain ⟨y2, q2⟩ := hf 2 _ rfl
  obtain ⟨y3, q3⟩ := hf 3 _ rfl
  obtain ⟨y4, q4⟩ := hf 4 _ rfl
  obtain ⟨s0, e0, b0, _⟩ := q0.str Try.underlying9
  obtain ⟨n1, e1, _⟩ := q1.i64 Try.underlying3
  obtain ⟨A2, l2, n2, k2, e2, hn2, hc2, _, hb2, _, hr2, _⟩ := q2.list (fun x : Int × BS => [.int .i64 x.1, .string ⟨x.2.toArray⟩]) (fun _ => True) (fun _ => rfl) (by decide) Try.cofBlock Try.underlying22 (fun _ _ h => h.blockS)
  obtain ⟨A4, l4, n4, k4, e4, hn4, hc4, hcm4, _, hr4, hg4⟩ := q4.props
  have e3 : ∃ A3 n3 k3, c3 = .slice A3 n3 k3 := by
    have := q3.slice Try.underlying23
    simp [Try.cofStrs1] at this
    rcases this with h | ⟨a, n, c, h, _⟩
    · exact ⟨none, 0, 0, h⟩
    · exact ⟨some a, n, c, h⟩
  obtain ⟨A3, n3, k3, rfl⟩ := e3
  simp [Try.cofStr, Try.cofInt, Try.cofBlocks, Try.cofProps] at e0 e1 e2 e4
  subst e0 e1 e2 e4
  rw [Try.bofBlock] at hb2
  refine ⟨⟨s0, n1, ⟨A2, n2, k2, l2⟩, .slice A3 n3 k3, ⟨A4, n4, k4, l4⟩⟩, ?_, ⟨hn2, hc2, ?_, hn4, hr4⟩, ⟨?_, ?_, hg4, b0, rfl⟩⟩
  · show Value.agg _ = Value.agg _
    congr 1
    exact Array.toList_inj.1 (hcs.trans rfl)
  · exact hr2
  · show n2 ≤ 6000000000000
    omega
  · show n4 ≤ 5000000000000
    omega
end
end Go.Proofs.Ytcbeadldieeceaa
