/-
  fletch.Feed, by its contract.
-/
import Derived.Test.YtcchnoadclidcaaFl1
import Derived.Handy
namespace Go.Proofs.Ytcchnoadclidcaa
open Go.RowKit

structure Sm where
  a : Int
  b : Int
  c : Int
  d : Int
def Sm.val (s : Sm) : Value := .agg #[.int .u64 s.a, .int .u64 s.b, .int .u64 s.c, .int .u64 s.d]
structure Sm.ok (s : Sm) : Prop where
  a : 0 ≤ s.a ∧ s.a < 18446744073709551616
  b : 0 ≤ s.b ∧ s.b < 18446744073709551616
  c : 0 ≤ s.c ∧ s.c < 18446744073709551616
  d : 0 ≤ s.d ∧ s.d < 18446744073709551616
def wu (n : Int) : Int := IntKind.u64.wrap n
def Sm.step (s : Sm) (w : Nat) : Sm := ⟨wu (s.a + w), wu (s.b + wu (s.a + w)), wu (s.c + wu (s.b + wu (s.a + w))), wu (s.d + wu (s.c + wu (s.b + wu (s.a + w))))⟩
def feedL (s : Sm) (l : List Nat) : Sm := l.foldl Sm.step s

theorem words_lt (b : List UInt8) : ∀ x ∈ words b, x < 4294967296 := by
  intro x hx
  simp only [words, wordsN, List.mem_map, List.mem_range] at hx
  obtain ⟨k, _, rfl⟩ := hx
  have h0 := (b.getD (4 * k) 0).toNat_lt
  have h1 := (b.getD (4 * k + 1) 0).toNat_lt
  have h2 := (b.getD (4 * k + 2) 0).toNat_lt
  have h3 := (b.getD (4 * k + 3) 0).toNat_lt
  unfold wordAt w4
  omega
theorem feedL_take (s : Sm) (l : List Nat) (k : Nat) (x : Nat) (h : l[k]? = some x) : feedL s (l.take (k + 1)) = (feedL s (l.take k)).step x := by
  obtain ⟨hk, rfl⟩ := List.getElem?_eq_some_iff.1 h
  unfold feedL
  rw [List.take_succ_eq_append_getElem hk, List.foldl_append]
  rfl
def FeedRel (s : Sm) (l : List Nat) (k : Nat) (g : Nat) (T : TypeId) (w : World) : Prop :=
  Blk w g T #[.int .u64 (feedL s (l.take k)).a, .int .u64 (feedL s (l.take k)).b, .int .u64 (feedL s (l.take k)).c, .int .u64 (feedL s (l.take k)).d]

theorem feed_rel {s : Sm} {l : List Nat} {k g : Nat} {T : TypeId} {w : World} {ya yb yc yd : Int} {x : Nat} (h : Blk w g T #[.int .u64 ya, .int .u64 yb, .int .u64 yc, .int .u64 yd])
    (hs : feedL s (l.take (k + 1)) = Sm.step ⟨ya, yb, yc, yd⟩ x) :
    FeedRel s l (k + 1) g T ((((w.setCell ⟨g, 0, none⟩ (.int .u64 (IntKind.u64.wrap (ya + x)))).setCell ⟨g, 1, none⟩ (.int .u64 (IntKind.u64.wrap (yb + IntKind.u64.wrap (ya + x))))).setCell ⟨g, 2, none⟩
      (.int .u64 (IntKind.u64.wrap (yc + IntKind.u64.wrap (yb + IntKind.u64.wrap (ya + x)))))).setCell ⟨g, 3, none⟩ (.int .u64 (IntKind.u64.wrap (yd + IntKind.u64.wrap (yc + IntKind.u64.wrap (yb + IntKind.u64.wrap (ya + x))))))) := by
  unfold FeedRel
  rw [hs]
  exact (((h.set_ 0 _).set_ 1 _).set_ 2 _).set_ 3 _

set_option maxRecDepth 100000 in
set_option maxHeartbeats 400000 in
theorem feed_any (s : Sm) (b : List UInt8) (A : Option Addr) (c : Nat) (w : World) (B : Nat) (hr : Reads w B 1 A b.length (bts b)) (hB : B ≤ w.heap.size) (hc : b.length ≤ c) (hn : b.length ≤ 140737488351232) :
    Calls Try.prog 18 #[s.val, .slice A b.length c] w fun e w' => e = .returned (feedL s (words b)).val ∧ Below w.heap.size w w' := by
  obtain ⟨sa, sb, sc, sd⟩ := s
  show Calls _ _ #[.agg #[.int .u64 sa, .int .u64 sb, .int .u64 sc, .int .u64 sd], _] _ _
  go_enter Try.func18, Try.ntmps18
  go_wp2_with fail
  refine (words_any b A c _ B (hr.below (by go_grown)) (by simp; omega) hc hn).mono ?_
  rintro e w1 ⟨v, rfl, hown, hb1⟩
  obtain ⟨A2, c2, rfl, hc2, hm2, hr2⟩ := own_form hown
  simp only []
  have hwl : (words b).length ≤ 140737488351232 := by simp [words, wordsN_length]; omega
  obtain ⟨l, hl⟩ : ∃ l, l = words b := ⟨_, rfl⟩
  rw [← hl] at hc2 hr2 hwl hown ⊢
  have HL := Lib.hid hl
  clear hl hr2 hr
  have hsz := hb1.size
  simp at hsz
  have hk1 : Blk w1 w.heap.size 24 #[.int .u64 sa, .int .u64 sb, .int .u64 sc, .int .u64 sd] := ((Blk.new w _ _).alloc _).below hb1 (by simp; omega)
  have hk2 : Blk w1 (w.heap.size + 1) 24 #[.int .u64 0, .int .u64 0, .int .u64 0, .int .u64 0] := by
    have := (Blk.new (w.alloc (Obj.cells #[.int .u64 sa, .int .u64 sb, .int .u64 sc, .int .u64 sd] 24)) 24 #[.int .u64 0, .int .u64 0, .int .u64 0, .int .u64 0]).below hb1 (by simp)
    simpa using this
  have hbel1 : Below w.heap.size w w1 := (((Below.refl _ _).alloc (Nat.le_refl _) _).alloc (by simp) _).trans (hb1.mono (by simp; omega))
  have hown1 : w1.ownsRow (w.heap.size + 2) 29 1 (.slice A2 l.length c2) l.length (u32s l) := own_mono hown (by simp)
  clear hown hb1
  go_wp2_with fail
  go_loopw [10] (fun i wr => ∃ k : Nat, k ≤ l.length ∧ i = .int .i64 (k : Int) ∧ FeedRel ⟨sa, sb, sc, sd⟩ l k w.heap.size 24 wr ∧ Blk wr (w.heap.size + 1) 24 #[.int .u64 0, .int .u64 0, .int .u64 0, .int .u64 0] ∧ wr.ownsRow (w.heap.size + 2) 29 1 (.slice A2 l.length c2) l.length (u32s l) ∧ Below w.heap.size w wr) (fun i _ => l.length - (intOf i).toNat)
  case atStart => exact ⟨0, Nat.zero_le _, rfl, hk1, hk2, hown1, hbel1⟩
  case round =>
    obtain ⟨k, hk, rfl, hF, hK2, hO, hB1⟩ := hrel
    unfold FeedRel at hF
    have hst := feedL_take ⟨sa, sb, sc, sd⟩ l k
    obtain ⟨st, est⟩ : ∃ st, st = feedL ⟨sa, sb, sc, sd⟩ (l.take k) := ⟨_, rfl⟩
    rw [← est] at hF hst
    have EST := Lib.hid est
    have HST := Lib.hid hst
    clear est hst
    obtain ⟨ya, yb, yc, yd⟩ := st
    obtain ⟨c0, c1, c3, c4, f0, f1, f3, f4⟩ := blk4 hF
    by_cases hlt : k < l.length
    · obtain ⟨_, _, hv, _, _, hR⟩ := own_form hO
      obtain ⟨rfl, rfl⟩ : _ = A2 ∧ _ = c2 := by injection hv with h1 _ h2; exact ⟨h1.symm, h2.symm⟩
      obtain ⟨ad, u, rfl, _, hu, hcu⟩ := hR.at_ hlt
      obtain ⟨x, hx⟩ : ∃ x, l[k]? = some x := ⟨_, List.getElem?_eq_getElem hlt⟩
      have hxl : x < 4294967296 := words_lt b x (by rw [← HL.out]; exact List.mem_of_getElem? hx)
      obtain rfl : u = .int .u32 (x : Int) := by simp [u32s, hx] at hu; exact hu.symm
      have HX := Lib.hid hx
      clear hv hR hu hx
      go_wp2_with fail
      go_roundw
      case rel => exact ⟨k + 1, by omega, by go_num, feed_rel hF (HST.out x HX.out), (((hK2.far (by simp) _).far (by simp) _).far (by simp) _).far (by simp) _, own_setCell_below (own_setCell_below (own_setCell_below (own_setCell_below hO (by simp) _) (by simp) _) (by simp) _) (by simp) _, (((hB1.setCell (by simp) _).setCell (by simp) _).setCell (by simp) _).setCell (by simp) _⟩
      case measure => simp [intOf]; omega
    · obtain ⟨d0, d1, d3, d4, g0, g1, g3, g4⟩ := blk4 hK2
      clear hF hK2 hO
      go_wp2_with fail
      refine bodyPost_ret (v := .agg #[.int .u64 ya, .int .u64 yb, .int .u64 yc, .int .u64 yd]) (by simp [results, Try.results18, go_sem, d0, d1, d3, d4]) rfl ⟨?_, ?_⟩
      · have hk' : k = l.length := by omega
        have := EST.out
        rw [hk', List.take_length, HL.out] at this
        rw [← this]; rfl
      · exact (((hB1.setCell (by simp) _).setCell (by simp) _).setCell (by simp) _).setCell (by simp) _
theorem feed_n (s : Sm) (b : List UInt8) (n : Nat) (hnb : n = b.length) (A : Option Addr) (c : Nat) (w : World) (B : Nat) (hr : Reads w B 1 A n (bts b)) (hB : B ≤ w.heap.size) (hc : n ≤ c) (hn : n ≤ 140737488351232) :
    Calls Try.prog 18 #[.agg #[.int .u64 s.a, .int .u64 s.b, .int .u64 s.c, .int .u64 s.d], .slice A n c] w fun e w' =>
      e = .returned (.agg #[.int .u64 (feedL s (words b)).a, .int .u64 (feedL s (words b)).b, .int .u64 (feedL s (words b)).c, .int .u64 (feedL s (words b)).d]) ∧ Below w.heap.size w w' := by
  subst hnb
  exact feed_any s b A c w B hr hB hc hn
end Go.Proofs.Ytcchnoadclidcaa
