/-
  blocks.Diff, by its contract.
-/
import Derived.Test.YtcbeadldieeceaaZ14
namespace Go.Proofs.Ytcbeadldieeceaa
open Go.RowKit

def orI (x y : Int) : Int := if x = 0 then y else x
set_option maxRecDepth 100000 in
theorem or2_any (x y : Int) (g : Nat) (w : World) (h0 : w.cell? ⟨g, 0, none⟩ = some (.int .i64 x)) (h1 : w.cell? ⟨g, 1, none⟩ = some (.int .i64 y)) :
    Calls Try.prog 39 #[.slice (some ⟨g, 0, none⟩) 2 2] w fun e w' => e = .returned (.int .i64 (orI x y)) ∧ ∃ q, w' = w.drewN q := by
  by_cases hx : x = 0
  · subst hx
    by_cases hy : y = 0
    · subst hy
      go_enter Try.func39, Try.ntmps39
      go_wp2_with fail
      refine wp_loop_rounds 3 ?_
      rw [rounds_succ]
      go_wp2_with fail
      rw [rounds_succ]
      go_wp2_with fail
      rw [rounds_succ]
      go_wp2_with fail
      go_ret
      exact ⟨rfl, 0, rfl⟩
    · have hyb : (y == 0) = false := by simp [hy]
      go_enter Try.func39, Try.ntmps39
      go_wp2_with fail
      refine wp_loop_rounds 3 ?_
      rw [rounds_succ]
      go_wp2_with fail
      rw [rounds_succ]
      go_wp2_with fail
      go_ret
      exact ⟨by unfold orI; rw [if_pos rfl]; rfl, 0, rfl⟩
  · have hxb : (x == 0) = false := by simp [hx]
    go_enter Try.func39, Try.ntmps39
    go_wp2_with fail
    refine wp_loop_rounds 3 ?_
    rw [rounds_succ]
    go_wp2_with fail
    go_ret
    exact ⟨by unfold orI; rw [if_neg hx]; rfl, 0, rfl⟩
/-! ### Diff -/
def diffE (a b : BL) : Int := orI (okE a) (okE b)
def diffO (a b : BL) : RL := if diffE a b = 0 then (diffGo a b ([], -2)).1 else []
def DiffPost (w : World) (a b : BL) (e : Ending) (w' : World) : Prop :=
  ∃ v, e = .returned (.tuple #[v, .int .i64 (diffE a b)]) ∧ w'.ownsRow w.heap.size 47 12 v (diffO a b).length (rcells (diffO a b)) ∧ Below w.heap.size w w'
theorem diffE_ok (a b : BL) : diffE a b = 0 ↔ okL a = true ∧ okL b = true := by
  unfold diffE orI okE
  cases okL a <;> cases okL b <;> simp
def lenV : Value → Nat
  | .slice _ n _ => n
  | _ => 0
/-- between two rounds -/
structure DfI (w : World) (a b : BL) (n m g : Nat) (va vb : Value) (A' : Option Addr) (n' c' : Nat) (la : BL) (B' : Option Addr) (m' c2 : Nat) (lb : BL) (o : RL) (last : Int) (v : Value) (wr : World) : Prop where
  ea : va = .slice A' n' c'
  eb : vb = .slice B' m' c2
  na : n' = la.length
  nb : m' = lb.length
  ca : n' ≤ c'
  cb : m' ≤ c2
  ra : Reads wr w.heap.size 2 A' n' (bcells la)
  rb : Reads wr w.heap.size 2 B' m' (bcells lb)
  blk : Blk wr g 95 #[v, .int .i64 last]
  own : wr.ownsRow (g + 1) 47 12 v o.length (rcells o)
  gsz : g + 1 ≤ wr.heap.size
  bel : Below w.heap.size w wr
  ghost : diffGo la lb (o, last) = diffGo a b ([], -2)
  lst : -3 ≤ last ∧ last < 1024
  cnt : ∀ r ∈ o, 0 ≤ r.2.2.1 ∧ r.2.2.1 ≤ ((n - n' : Nat) : Int)
  len : o.length ≤ (n - n') + (m - m')
  nn : n' ≤ n
  mm : m' ≤ m
  oka : ∀ x ∈ la, 0 ≤ x.1 ∧ x.1 < 1024
  okb : ∀ x ∈ lb, 0 ≤ x.1 ∧ x.1 < 1024
theorem cut1 {w : World} {B n c : Nat} {A : Option Addr} {l : BL} {x : Int × List UInt8} (h : Reads w B 2 A n (bcells (x :: l))) (hn : 0 < n) (hc : n ≤ c) :
    Reads w B 2 (if c = 1 then A else A.map (·.add 2)) (n - 1) (bcells l) := by
  have := h.cut (k := 1) hn hc
  exact this
theorem gone_cnt {o : RL} {last i : Int} {c : Nat} (h : ∀ r ∈ o, 0 ≤ r.2.2.1 ∧ r.2.2.1 ≤ (c : Int)) : ∀ r ∈ (goneS (o, last) i).1, 0 ≤ r.2.2.1 ∧ r.2.2.1 ≤ ((c + 1 : Nat) : Int) := by
  intro r hr
  unfold goneS at hr
  simp only at hr
  split at hr
  · unfold bumpR at hr
    cases hl : o.getLast? with
    | none => rw [hl] at hr; have := h r hr; omega
    | some q =>
      rw [hl] at hr
      simp only at hr
      rcases List.mem_append.1 hr with hr | hr
      · have := h r (List.dropLast_subset o hr); omega
      · simp at hr; subst hr; have := h q (List.mem_of_getLast? hl); simp; omega
  · rcases List.mem_append.1 hr with hr | hr
    · have := h r hr; omega
    · simp at hr; subst hr; simp; omega
theorem gone_len (o : RL) (last i : Int) : (goneS (o, last) i).1.length ≤ o.length + 1 := by
  unfold goneS
  simp only
  split
  · unfold bumpR
    cases o.getLast? with
    | none => simp
    | some q => simp <;> omega
  · simp
theorem put_cnt {o : RL} {last : Int} {x : Int × List UInt8} {c : Nat} (h : ∀ r ∈ o, 0 ≤ r.2.2.1 ∧ r.2.2.1 ≤ (c : Int)) : ∀ r ∈ (putS (o, last) x).1, 0 ≤ r.2.2.1 ∧ r.2.2.1 ≤ (c : Int) := by
  intro r hr
  unfold putS at hr
  rcases List.mem_append.1 hr with hr | hr
  · exact h r hr
  · simp at hr; subst hr; simp
section
variable {w : World} {a b : BL} {n m g : Nat} {A' B' : Option Addr} {n' c' m' c3 : Nat} {la lb : BL} {o : RL} {last : Int} {v : Value} {wr : World}
theorem DfI.drew (h : DfI w a b n m g (.slice A' n' c') (.slice B' m' c3) A' n' c' la B' m' c3 lb o last v wr) (k : Nat) : DfI w a b n m g (.slice A' n' c') (.slice B' m' c3) A' n' c' la B' m' c3 lb o last v (wr.drewN k) :=
  ⟨rfl, rfl, h.na, h.nb, h.ca, h.cb, h.ra.drewN k, h.rb.drewN k, h.blk.drewN k, own_drewN h.own k, h.gsz, below_drewN h.bel k, h.ghost, h.lst, h.cnt, h.len, h.nn, h.mm, h.oka, h.okb⟩
theorem DfI.drew1 {va vb : Value} (h : DfI w a b n m g va vb A' n' c' la B' m' c3 lb o last v wr) : DfI w a b n m g va vb A' n' c' la B' m' c3 lb o last v wr.drew :=
  ⟨h.ea, h.eb, h.na, h.nb, h.ca, h.cb, h.ra.drew, h.rb.drew, h.blk.drew, own_drew h.own, h.gsz, h.bel.drew, h.ghost, h.lst, h.cnt, h.len, h.nn, h.mm, h.oka, h.okb⟩
theorem DfI.gone {x : Int × List UInt8} (h : DfI w a b n m g (.slice A' n' c') (.slice B' m' c3) A' n' c' (x :: la) B' m' c3 lb o last v wr) (hgs : w.heap.size ≤ g) (hs : lb = [] ∨ ∃ y lb', lb = y :: lb' ∧ x.1 < y.1) {w2 : World} {v2 : Value}
    (hblk : Blk w2 g 95 #[v2, .int .i64 (goneS (o, last) x.1).2]) (hown : w2.ownsRow (g + 1) 47 12 v2 (goneS (o, last) x.1).1.length (rcells (goneS (o, last) x.1).1)) (hb : Below g wr w2) {A2 : Option Addr} (hr : Reads wr w.heap.size 2 A2 (n' - 1) (bcells la)) :
    DfI w a b n m g (.slice A2 (n' - 1) (c' - 1)) (.slice B' m' c3) A2 (n' - 1) (c' - 1) la B' m' c3 lb (goneS (o, last) x.1).1 (goneS (o, last) x.1).2 v2 w2 := by
  have h1 := h.na
  rw [List.length_cons] at h1
  have h2 := h.ca
  have h3 := h.nn
  refine ⟨rfl, rfl, by omega, h.nb, by omega, h.cb, hr.below (hb.mono hgs), h.rb.below (hb.mono hgs), hblk, hown, by have := hb.size; have := h.gsz; omega, h.bel.trans (hb.mono hgs), ?_, ?_, ?_, ?_, by omega, h.mm, fun y hy => h.oka y (List.mem_cons_of_mem _ hy), h.okb⟩
  · rw [← h.ghost]
    rcases hs with rfl | ⟨y, lb', rfl, hxy⟩
    · rw [diffGo]
    · conv => rhs; rw [diffGo]
      rw [if_pos hxy]
  · have := h.oka x (by simp)
    show -3 ≤ x.1 ∧ x.1 < 1024
    omega
  · have := gone_cnt (last := last) (i := x.1) h.cnt
    rw [show n - (n' - 1) = n - n' + 1 by omega]
    exact this
  · have := gone_len o last x.1
    have := h.len
    omega
theorem DfI.put {y : Int × List UInt8} (h : DfI w a b n m g (.slice A' n' c') (.slice B' m' c3) A' n' c' la B' m' c3 (y :: lb) o last v wr) (hgs : w.heap.size ≤ g) (hs : la = [] ∨ ∃ x la', la = x :: la' ∧ y.1 < x.1) {w2 : World} {v2 : Value}
    (hblk : Blk w2 g 95 #[v2, .int .i64 (putS (o, last) y).2]) (hown : w2.ownsRow (g + 1) 47 12 v2 (putS (o, last) y).1.length (rcells (putS (o, last) y).1)) (hb : Below g wr w2) {A2 : Option Addr} (hr : Reads wr w.heap.size 2 A2 (m' - 1) (bcells lb)) :
    DfI w a b n m g (.slice A' n' c') (.slice A2 (m' - 1) (c3 - 1)) A' n' c' la A2 (m' - 1) (c3 - 1) lb (putS (o, last) y).1 (putS (o, last) y).2 v2 w2 := by
  have h1 := h.nb
  rw [List.length_cons] at h1
  have h2 := h.cb
  have h3 := h.mm
  refine ⟨rfl, rfl, h.na, by omega, h.ca, by omega, h.ra.below (hb.mono hgs), hr.below (hb.mono hgs), hblk, hown, by have := hb.size; have := h.gsz; omega, h.bel.trans (hb.mono hgs), ?_, h.lst, put_cnt h.cnt, ?_, h.nn, by omega, h.oka, fun z hz => h.okb z (List.mem_cons_of_mem _ hz)⟩
  · rw [← h.ghost]
    rcases hs with rfl | ⟨x, la', rfl, hxy⟩
    · conv => rhs; rw [diffGo]
    · conv => rhs; rw [diffGo]
      rw [if_neg (by omega), if_pos hxy]
  · have := h.len
    show (o ++ _).length ≤ _
    simp
    omega
theorem DfI.both {x y : Int × List UInt8} (h : DfI w a b n m g (.slice A' n' c') (.slice B' m' c3) A' n' c' (x :: la) B' m' c3 (y :: lb) o last v wr) (hgs : w.heap.size ≤ g) (hxy : x.1 = y.1) {S : RL × Int} (hS : S = if x = y then (o, last) else putS (o, last) y) {w2 : World} {v2 : Value}
    (hblk : Blk w2 g 95 #[v2, .int .i64 S.2]) (hown : w2.ownsRow (g + 1) 47 12 v2 S.1.length (rcells S.1)) (hb : Below g wr w2) {A2 B2 : Option Addr} (hr : Reads wr w.heap.size 2 A2 (n' - 1) (bcells la)) (hr2 : Reads wr w.heap.size 2 B2 (m' - 1) (bcells lb)) :
    DfI w a b n m g (.slice A2 (n' - 1) (c' - 1)) (.slice B2 (m' - 1) (c3 - 1)) A2 (n' - 1) (c' - 1) la B2 (m' - 1) (c3 - 1) lb S.1 S.2 v2 w2 := by
  have h1 := h.na
  rw [List.length_cons] at h1
  have h1b := h.nb
  rw [List.length_cons] at h1b
  have h2 := h.ca
  have h2b := h.cb
  have h3 := h.nn
  have h3b := h.mm
  have hc2 : (S.1 = o ∨ S.1 = (putS (o, last) y).1) ∧ S.2 = last := by
    rw [hS]
    split
    · exact ⟨.inl rfl, rfl⟩
    · exact ⟨.inr rfl, rfl⟩
  refine ⟨rfl, rfl, by omega, by omega, by omega, by omega, hr.below (hb.mono hgs), hr2.below (hb.mono hgs), hblk, hown, by have := hb.size; have := h.gsz; omega, h.bel.trans (hb.mono hgs), ?_, by rw [hc2.2]; exact h.lst, ?_, ?_, by omega, by omega, fun z hz => h.oka z (List.mem_cons_of_mem _ hz), fun z hz => h.okb z (List.mem_cons_of_mem _ hz)⟩
  · rw [← h.ghost]
    conv => rhs; rw [diffGo]
    rw [if_neg (by omega), if_neg (by omega), ← hS]
  · intro r hr
    rcases hc2.1 with e | e
    · rw [e] at hr; have := h.cnt r hr; omega
    · rw [e] at hr; have := put_cnt h.cnt r hr; omega
  · have := h.len
    rcases hc2.1 with e | e
    · rw [e]; omega
    · rw [e]
      show (o ++ _).length ≤ _
      simp
      omega
end

set_option maxRecDepth 100000 in
set_option maxHeartbeats 4000000 in
theorem bkDiff_ok (a b : BL) (n m : Nat) (hna : n = a.length) (hmb : m = b.length) (A B : Option Addr) (c c2 : Nat) (w : World) (hra : Reads w w.heap.size 2 A n (bcells a)) (hrb : Reads w w.heap.size 2 B m (bcells b)) (hc : n ≤ c) (hc2 : m ≤ c2) (ha : okL a = true) (hb : okL b = true) :
    Calls Try.prog 18 #[.slice A n c, .slice B m c2] w (DiffPost w a b) := by
  have hn1 := okL_small a ha
  have hm1 := okL_small b hb
  have hn2 : n ≤ 1024 := by omega
  have hm2 : m ≤ 1024 := by omega
  have hE : diffE a b = 0 := (diffE_ok a b).2 ⟨ha, hb⟩
  have hO : diffO a b = (diffGo a b ([], -2)).1 := by unfold diffO; rw [if_pos hE]
  have hck1 := checkBk_any a n hna A c w w.heap.size hra (Nat.le_refl _) (by omega)
  have hck2 := fun W (hb : Below w.heap.size w W) => checkBk_any b m hmb B c2 W w.heap.size (hrb.below hb) hb.size (by omega)
  have q1 : okE a = 0 := by unfold okE; rw [if_pos ha]
  have q2 : okE b = 0 := by unfold okE; rw [if_pos hb]
  rw [q1] at hck1
  rw [q2] at hck2
  have HOA := Lib.hid (okFrom_bounds none a ha)
  have HOB := Lib.hid (okFrom_bounds none b hb)
  have HNA := Lib.hid hna
  have HMB := Lib.hid hmb
  have HE := Lib.hid hE
  have HO := Lib.hid hO
  have HRA := Lib.hid hra
  have HRB := Lib.hid hrb
  clear q1 q2 ha hb hE hO hna hmb hra hrb hn1 hm1
  go_enter Try.func18, Try.ntmps18
  go_wp2_with fail
  refine hck1.mono ?_
  clear hck1
  rintro e w1 ⟨rfl, hb1⟩
  go_wp2_with fail
  refine (hck2 _ hb1).mono ?_
  clear hck2
  rintro e w2 ⟨rfl, hb2⟩
  have hb12 := hb1.trans (hb2.mono hb1.size)
  have hs2 := hb12.size
  have hnew := (Blk.new w2 121 #[.int .i64 0, .int .i64 0]).cell
  have hor := or2_any 0 0 w2.heap.size (w2.alloc (.cells #[.int .i64 0, .int .i64 0] 28)) ((Blk.new w2 28 #[.int .i64 0, .int .i64 0]).cell 0) ((Blk.new w2 28 #[.int .i64 0, .int .i64 0]).cell 1)
  rw [show orI 0 0 = 0 from rfl] at hor
  have hb3 := hb12.alloc hs2 (.cells #[.int .i64 0, .int .i64 0] 28)
  clear hb12 hb1 hb2 hnew
  go_wp2_with fail
  refine hor.mono ?_
  clear hor
  rintro e w3 ⟨rfl, q, rfl⟩
  have hb4 := below_drewN hb3 q
  generalize ((w2.alloc (.cells #[.int .i64 0, .int .i64 0] 28)).drewN q) = w4 at *
  have hs4 := hb4.size
  clear hb3 hs2
  obtain ⟨g, hg⟩ : ∃ g, g = w4.heap.size := ⟨_, rfl⟩
  have hblk0 := Blk.new w4 95 #[.slice none 0 0, .int .i64 (-2)]
  have hbel0 := hb4.alloc hs4 (.cells #[.slice none 0 0, .int .i64 (-2)] 95)
  have hI0 : DfI w a b n m g (.slice A n c) (.slice B m c2) A n c a B m c2 b [] (-2) (.slice none 0 0) (w4.alloc (.cells #[.slice none 0 0, .int .i64 (-2)] 95)) :=
    ⟨rfl, rfl, HNA.out, HMB.out, hc, hc2, (HRA.out.below hbel0), (HRB.out.below hbel0), by rw [hg]; exact hblk0, World.ownsRow_nil _ _ _ _, by rw [hg]; simp, hbel0, rfl, by omega, (fun r h => by cases h), Nat.zero_le _, Nat.le_refl _, Nat.le_refl _, fun x hx => by have := HOA.out x hx; omega, fun x hx => by have := HOB.out x hx; omega⟩
  have hgs : w.heap.size ≤ g := by omega
  have HI0 := Lib.hid hI0
  have HG := Lib.hid hg
  clear hblk0 hbel0 hI0 hg hb4
  go_wp2_with fail
  rw [← HG.out]
  go_loopw [0, 1] (fun va vb wr => ∃ A' n' c' la B' m' c2 lb o last v, DfI w a b n m g va vb A' n' c' la B' m' c2 lb o last v wr) (fun va vb _ => lenV va + lenV vb)
  case atStart => exact ⟨_, _, _, _, _, _, _, _, _, _, _, HI0.out⟩
  case round =>
    obtain ⟨A', n', c', la, B', m', c3, lb, o, last, v, hI⟩ := hrel
    obtain rfl := hI.ea
    obtain rfl := hI.eb
    cases la with
    | nil =>
      cases lb with
      | nil =>
        obtain rfl : n' = 0 := hI.na
        obtain rfl : m' = 0 := hI.nb
        obtain ⟨d0, d1, _, _⟩ := blk2 hI.blk
        obtain ⟨A5, c5, rfl, _, _, _⟩ := own_form hI.own
        have HI := Lib.hid hI
        clear hI
        go_wp2_with fail
        go_ret2
        refine ⟨_, by rw [HE.out]; rfl, ?_, HI.out.bel⟩
        have hgh := HI.out.ghost
        rw [diffGo] at hgh
        rw [HO.out, ← hgh]
        exact own_mono HI.out.own (by omega)
      | cons y lb =>
        have hng := hI.nn
        have hmg := hI.mm
        obtain rfl : n' = 0 := hI.na
        obtain ⟨bd, rfl, hbdB, k0, k1⟩ := hI.rb.blk2 hI.nb (k := 0) (by have := hI.nb; simp at this; omega)
        simp only [Nat.zero_mul, add_zero, List.getElem_cons_zero] at k0 k1
        have hm0 : 0 < m' := by have := hI.nb; simp at this; omega
        have hmi : (0 : Int) < (m' : Int) := by omega
        have hmb : ((m' : Int) == 0) = false := by simp; omega
        have hy := hI.okb y (by simp)
        have hrb := cut1 hI.rb hm0 hI.cb
        obtain ⟨yi, ys⟩ := y
        simp only at k0 k1 hy
        have HI := Lib.hid hI
        clear hI
        by_cases hc1b : c3 = 1
        · subst hc1b
          obtain rfl : m' = 1 := by have := HI.out.cb; omega
          have HRB2 : Hid (Reads _ _ _ _ _ _) := Lib.hid (show Reads _ _ _ (some bd) _ _ from hrb)
          clear hrb
          go_wp2_with fail
          go_big_quiet (fail)
          have HJ1 := Lib.hid (HI.out.drew nq)
          replace k0 : (wr.drewN nq).cell? bd = some (.int .i64 yi) := k0
          replace k1 : (wr.drewN nq).cell? ⟨bd.block, bd.off + 1, none⟩ = some (.string ⟨ys.toArray⟩) := k1
          replace HRB2 := Lib.hid (HRB2.out.drewN nq)
          generalize wr.drewN nq = wq1 at *
          clear HI
          go_wp2_with fail
          go_big_quiet (fail)
          have HJ2 := Lib.hid (HJ1.out.drew nq)
          replace k0 : (wq1.drewN nq).cell? bd = some (.int .i64 yi) := k0
          replace k1 : (wq1.drewN nq).cell? ⟨bd.block, bd.off + 1, none⟩ = some (.string ⟨ys.toArray⟩) := k1
          replace HRB2 := Lib.hid (HRB2.out.drewN nq)
          generalize wq1.drewN nq = wq2 at *
          clear HJ1
          go_wp2_with fail
          refine (dput_any o last yi ys (by have := HJ2.out.len; omega) g (g + 1) v _ HJ2.out.blk HJ2.out.own (Nat.lt_succ_self _) HJ2.out.gsz).mono ?_
          rintro e w2 ⟨rfl, v2, hblk2, hown2, hb2⟩
          have HN := Lib.hid (HJ2.out.put hgs (.inl rfl) hblk2 hown2 hb2 HRB2.out)
          clear hblk2 hown2 hb2
          go_wp2_with fail
          go_roundw
          case rel => exact ⟨_, _, _, _, _, _, _, _, _, _, _, HN.out⟩
          case measure => simp [lenV] <;> omega
        · have HRB2 : Hid (Reads _ _ _ _ _ _) := Lib.hid (by rw [if_neg hc1b] at hrb; exact hrb)
          clear hrb
          go_wp2_with fail
          go_big_quiet (fail)
          have HJ1 := Lib.hid (HI.out.drew nq)
          replace k0 : (wr.drewN nq).cell? bd = some (.int .i64 yi) := k0
          replace k1 : (wr.drewN nq).cell? ⟨bd.block, bd.off + 1, none⟩ = some (.string ⟨ys.toArray⟩) := k1
          replace HRB2 := Lib.hid (HRB2.out.drewN nq)
          generalize wr.drewN nq = wq1 at *
          clear HI
          go_wp2_with fail
          go_big_quiet (fail)
          have HJ2 := Lib.hid (HJ1.out.drew nq)
          replace k0 : (wq1.drewN nq).cell? bd = some (.int .i64 yi) := k0
          replace k1 : (wq1.drewN nq).cell? ⟨bd.block, bd.off + 1, none⟩ = some (.string ⟨ys.toArray⟩) := k1
          replace HRB2 := Lib.hid (HRB2.out.drewN nq)
          generalize wq1.drewN nq = wq2 at *
          clear HJ1
          go_wp2_with fail
          refine (dput_any o last yi ys (by have := HJ2.out.len; omega) g (g + 1) v _ HJ2.out.blk HJ2.out.own (Nat.lt_succ_self _) HJ2.out.gsz).mono ?_
          rintro e w2 ⟨rfl, v2, hblk2, hown2, hb2⟩
          have HN := Lib.hid (HJ2.out.put hgs (.inl rfl) hblk2 hown2 hb2 HRB2.out)
          clear hblk2 hown2 hb2
          go_wp2_with fail
          go_roundw
          case rel => exact ⟨_, _, _, _, _, _, _, _, _, _, _, HN.out⟩
          case measure => simp [lenV] <;> omega
    | cons x la =>
      cases lb with
      | nil =>
        have hng := hI.nn
        have hmg := hI.mm
        obtain ⟨ad, rfl, hadB, e0, e1⟩ := hI.ra.blk2 hI.na (k := 0) (by have := hI.na; simp at this; omega)
        simp only [Nat.zero_mul, add_zero, List.getElem_cons_zero] at e0 e1
        have hn0 : 0 < n' := by have := hI.na; simp at this; omega
        have hni : (0 : Int) < (n' : Int) := by omega
        have hnb : ((n' : Int) == 0) = false := by simp; omega
        have hx := hI.oka x (by simp)
        have hra := cut1 hI.ra hn0 hI.ca
        obtain ⟨xi, xs⟩ := x
        simp only at e0 e1 hx
        obtain rfl : m' = 0 := hI.nb
        have HI := Lib.hid hI
        clear hI
        by_cases hc1a : c' = 1
        · subst hc1a
          obtain rfl : n' = 1 := by have := HI.out.ca; omega
          have HRA2 : Hid (Reads _ _ _ _ _ _) := Lib.hid (show Reads _ _ _ (some ad) _ _ from hra)
          clear hra
          go_wp2_with fail
          go_big_quiet (fail)
          have HJ1 := Lib.hid (HI.out.drew nq)
          replace e0 : (wr.drewN nq).cell? ad = some (.int .i64 xi) := e0
          replace e1 : (wr.drewN nq).cell? ⟨ad.block, ad.off + 1, none⟩ = some (.string ⟨xs.toArray⟩) := e1
          replace HRA2 := Lib.hid (HRA2.out.drewN nq)
          generalize wr.drewN nq = wq1 at *
          clear HI
          go_wp2_with fail
          refine (gone_any o last xi (by omega) HJ1.out.lst (fun r hr => by have := HJ1.out.cnt r hr; omega) (by have := HJ1.out.len; omega) g (g + 1) v _ HJ1.out.blk HJ1.out.own (Nat.lt_succ_self _) HJ1.out.gsz).mono ?_
          rintro e w2 ⟨rfl, v2, hblk2, hown2, hb2⟩
          have HN := Lib.hid (HJ1.out.gone hgs (.inl rfl) hblk2 hown2 hb2 HRA2.out)
          clear hblk2 hown2 hb2
          go_wp2_with fail
          go_roundw
          case rel => exact ⟨_, _, _, _, _, _, _, _, _, _, _, HN.out⟩
          case measure => simp [lenV] <;> omega
        · have HRA2 : Hid (Reads _ _ _ _ _ _) := Lib.hid (by rw [if_neg hc1a] at hra; exact hra)
          clear hra
          go_wp2_with fail
          go_big_quiet (fail)
          have HJ1 := Lib.hid (HI.out.drew nq)
          replace e0 : (wr.drewN nq).cell? ad = some (.int .i64 xi) := e0
          replace e1 : (wr.drewN nq).cell? ⟨ad.block, ad.off + 1, none⟩ = some (.string ⟨xs.toArray⟩) := e1
          replace HRA2 := Lib.hid (HRA2.out.drewN nq)
          generalize wr.drewN nq = wq1 at *
          clear HI
          go_wp2_with fail
          refine (gone_any o last xi (by omega) HJ1.out.lst (fun r hr => by have := HJ1.out.cnt r hr; omega) (by have := HJ1.out.len; omega) g (g + 1) v _ HJ1.out.blk HJ1.out.own (Nat.lt_succ_self _) HJ1.out.gsz).mono ?_
          rintro e w2 ⟨rfl, v2, hblk2, hown2, hb2⟩
          have HN := Lib.hid (HJ1.out.gone hgs (.inl rfl) hblk2 hown2 hb2 HRA2.out)
          clear hblk2 hown2 hb2
          go_wp2_with fail
          go_roundw
          case rel => exact ⟨_, _, _, _, _, _, _, _, _, _, _, HN.out⟩
          case measure => simp [lenV] <;> omega
      | cons y lb =>
        by_cases hlt : x.1 < y.1
        · have hng := hI.nn
          have hmg := hI.mm
          obtain ⟨ad, rfl, hadB, e0, e1⟩ := hI.ra.blk2 hI.na (k := 0) (by have := hI.na; simp at this; omega)
          simp only [Nat.zero_mul, add_zero, List.getElem_cons_zero] at e0 e1
          have hn0 : 0 < n' := by have := hI.na; simp at this; omega
          have hni : (0 : Int) < (n' : Int) := by omega
          have hnb : ((n' : Int) == 0) = false := by simp; omega
          have hx := hI.oka x (by simp)
          have hra := cut1 hI.ra hn0 hI.ca
          obtain ⟨xi, xs⟩ := x
          simp only at e0 e1 hx
          obtain ⟨bd, rfl, hbdB, k0, k1⟩ := hI.rb.blk2 hI.nb (k := 0) (by have := hI.nb; simp at this; omega)
          simp only [Nat.zero_mul, add_zero, List.getElem_cons_zero] at k0 k1
          have hm0 : 0 < m' := by have := hI.nb; simp at this; omega
          have hmi : (0 : Int) < (m' : Int) := by omega
          have hmb : ((m' : Int) == 0) = false := by simp; omega
          have hy := hI.okb y (by simp)
          have hrb := cut1 hI.rb hm0 hI.cb
          obtain ⟨yi, ys⟩ := y
          simp only at k0 k1 hy
          have HI := Lib.hid hI
          clear hI
          clear hrb
          by_cases hc1a : c' = 1
          · subst hc1a
            obtain rfl : n' = 1 := by have := HI.out.ca; omega
            have HRA2 : Hid (Reads _ _ _ _ _ _) := Lib.hid (show Reads _ _ _ (some ad) _ _ from hra)
            clear hra
            go_wp2_with fail
            go_big_quiet (fail)
            have HJ1 := Lib.hid (HI.out.drew nq)
            replace e0 : (wr.drewN nq).cell? ad = some (.int .i64 xi) := e0
            replace e1 : (wr.drewN nq).cell? ⟨ad.block, ad.off + 1, none⟩ = some (.string ⟨xs.toArray⟩) := e1
            replace k0 : (wr.drewN nq).cell? bd = some (.int .i64 yi) := k0
            replace k1 : (wr.drewN nq).cell? ⟨bd.block, bd.off + 1, none⟩ = some (.string ⟨ys.toArray⟩) := k1
            replace HRA2 := Lib.hid (HRA2.out.drewN nq)
            generalize wr.drewN nq = wq1 at *
            clear HI
            go_wp2_with fail
            refine (gone_any o last xi (by omega) HJ1.out.lst (fun r hr => by have := HJ1.out.cnt r hr; omega) (by have := HJ1.out.len; omega) g (g + 1) v _ HJ1.out.blk HJ1.out.own (Nat.lt_succ_self _) HJ1.out.gsz).mono ?_
            rintro e w2 ⟨rfl, v2, hblk2, hown2, hb2⟩
            have HN := Lib.hid (HJ1.out.gone hgs (.inr ⟨_, _, rfl, hlt⟩) hblk2 hown2 hb2 HRA2.out)
            clear hblk2 hown2 hb2
            go_wp2_with fail
            go_roundw
            case rel => exact ⟨_, _, _, _, _, _, _, _, _, _, _, HN.out⟩
            case measure => simp [lenV] <;> omega
          · have HRA2 : Hid (Reads _ _ _ _ _ _) := Lib.hid (by rw [if_neg hc1a] at hra; exact hra)
            clear hra
            go_wp2_with fail
            go_big_quiet (fail)
            have HJ1 := Lib.hid (HI.out.drew nq)
            replace e0 : (wr.drewN nq).cell? ad = some (.int .i64 xi) := e0
            replace e1 : (wr.drewN nq).cell? ⟨ad.block, ad.off + 1, none⟩ = some (.string ⟨xs.toArray⟩) := e1
            replace k0 : (wr.drewN nq).cell? bd = some (.int .i64 yi) := k0
            replace k1 : (wr.drewN nq).cell? ⟨bd.block, bd.off + 1, none⟩ = some (.string ⟨ys.toArray⟩) := k1
            replace HRA2 := Lib.hid (HRA2.out.drewN nq)
            generalize wr.drewN nq = wq1 at *
            clear HI
            go_wp2_with fail
            refine (gone_any o last xi (by omega) HJ1.out.lst (fun r hr => by have := HJ1.out.cnt r hr; omega) (by have := HJ1.out.len; omega) g (g + 1) v _ HJ1.out.blk HJ1.out.own (Nat.lt_succ_self _) HJ1.out.gsz).mono ?_
            rintro e w2 ⟨rfl, v2, hblk2, hown2, hb2⟩
            have HN := Lib.hid (HJ1.out.gone hgs (.inr ⟨_, _, rfl, hlt⟩) hblk2 hown2 hb2 HRA2.out)
            clear hblk2 hown2 hb2
            go_wp2_with fail
            go_roundw
            case rel => exact ⟨_, _, _, _, _, _, _, _, _, _, _, HN.out⟩
            case measure => simp [lenV] <;> omega
        · by_cases hgt : y.1 < x.1
          · have hng := hI.nn
            have hmg := hI.mm
            obtain ⟨ad, rfl, hadB, e0, e1⟩ := hI.ra.blk2 hI.na (k := 0) (by have := hI.na; simp at this; omega)
            simp only [Nat.zero_mul, add_zero, List.getElem_cons_zero] at e0 e1
            have hn0 : 0 < n' := by have := hI.na; simp at this; omega
            have hni : (0 : Int) < (n' : Int) := by omega
            have hnb : ((n' : Int) == 0) = false := by simp; omega
            have hx := hI.oka x (by simp)
            have hra := cut1 hI.ra hn0 hI.ca
            obtain ⟨xi, xs⟩ := x
            simp only at e0 e1 hx
            obtain ⟨bd, rfl, hbdB, k0, k1⟩ := hI.rb.blk2 hI.nb (k := 0) (by have := hI.nb; simp at this; omega)
            simp only [Nat.zero_mul, add_zero, List.getElem_cons_zero] at k0 k1
            have hm0 : 0 < m' := by have := hI.nb; simp at this; omega
            have hmi : (0 : Int) < (m' : Int) := by omega
            have hmb : ((m' : Int) == 0) = false := by simp; omega
            have hy := hI.okb y (by simp)
            have hrb := cut1 hI.rb hm0 hI.cb
            obtain ⟨yi, ys⟩ := y
            simp only at k0 k1 hy
            have HI := Lib.hid hI
            clear hI
            clear hra
            by_cases hc1b : c3 = 1
            · subst hc1b
              obtain rfl : m' = 1 := by have := HI.out.cb; omega
              have HRB2 : Hid (Reads _ _ _ _ _ _) := Lib.hid (show Reads _ _ _ (some bd) _ _ from hrb)
              clear hrb
              go_wp2_with fail
              go_big_quiet (fail)
              have HJ1 := Lib.hid (HI.out.drew nq)
              replace e0 : (wr.drewN nq).cell? ad = some (.int .i64 xi) := e0
              replace e1 : (wr.drewN nq).cell? ⟨ad.block, ad.off + 1, none⟩ = some (.string ⟨xs.toArray⟩) := e1
              replace k0 : (wr.drewN nq).cell? bd = some (.int .i64 yi) := k0
              replace k1 : (wr.drewN nq).cell? ⟨bd.block, bd.off + 1, none⟩ = some (.string ⟨ys.toArray⟩) := k1
              replace HRB2 := Lib.hid (HRB2.out.drewN nq)
              generalize wr.drewN nq = wq1 at *
              clear HI
              go_wp2_with fail
              go_big_quiet (fail)
              have HJ2 := Lib.hid (HJ1.out.drew nq)
              replace e0 : (wq1.drewN nq).cell? ad = some (.int .i64 xi) := e0
              replace e1 : (wq1.drewN nq).cell? ⟨ad.block, ad.off + 1, none⟩ = some (.string ⟨xs.toArray⟩) := e1
              replace k0 : (wq1.drewN nq).cell? bd = some (.int .i64 yi) := k0
              replace k1 : (wq1.drewN nq).cell? ⟨bd.block, bd.off + 1, none⟩ = some (.string ⟨ys.toArray⟩) := k1
              replace HRB2 := Lib.hid (HRB2.out.drewN nq)
              generalize wq1.drewN nq = wq2 at *
              clear HJ1
              go_wp2_with fail
              refine (dput_any o last yi ys (by have := HJ2.out.len; omega) g (g + 1) v _ HJ2.out.blk HJ2.out.own (Nat.lt_succ_self _) HJ2.out.gsz).mono ?_
              rintro e w2 ⟨rfl, v2, hblk2, hown2, hb2⟩
              have HN := Lib.hid (HJ2.out.put hgs (.inr ⟨_, _, rfl, hgt⟩) hblk2 hown2 hb2 HRB2.out)
              clear hblk2 hown2 hb2
              go_wp2_with fail
              go_roundw
              case rel => exact ⟨_, _, _, _, _, _, _, _, _, _, _, HN.out⟩
              case measure => simp [lenV] <;> omega
            · have HRB2 : Hid (Reads _ _ _ _ _ _) := Lib.hid (by rw [if_neg hc1b] at hrb; exact hrb)
              clear hrb
              go_wp2_with fail
              go_big_quiet (fail)
              have HJ1 := Lib.hid (HI.out.drew nq)
              replace e0 : (wr.drewN nq).cell? ad = some (.int .i64 xi) := e0
              replace e1 : (wr.drewN nq).cell? ⟨ad.block, ad.off + 1, none⟩ = some (.string ⟨xs.toArray⟩) := e1
              replace k0 : (wr.drewN nq).cell? bd = some (.int .i64 yi) := k0
              replace k1 : (wr.drewN nq).cell? ⟨bd.block, bd.off + 1, none⟩ = some (.string ⟨ys.toArray⟩) := k1
              replace HRB2 := Lib.hid (HRB2.out.drewN nq)
              generalize wr.drewN nq = wq1 at *
              clear HI
              go_wp2_with fail
              go_big_quiet (fail)
              have HJ2 := Lib.hid (HJ1.out.drew nq)
              replace e0 : (wq1.drewN nq).cell? ad = some (.int .i64 xi) := e0
              replace e1 : (wq1.drewN nq).cell? ⟨ad.block, ad.off + 1, none⟩ = some (.string ⟨xs.toArray⟩) := e1
              replace k0 : (wq1.drewN nq).cell? bd = some (.int .i64 yi) := k0
              replace k1 : (wq1.drewN nq).cell? ⟨bd.block, bd.off + 1, none⟩ = some (.string ⟨ys.toArray⟩) := k1
              replace HRB2 := Lib.hid (HRB2.out.drewN nq)
              generalize wq1.drewN nq = wq2 at *
              clear HJ1
              go_wp2_with fail
              refine (dput_any o last yi ys (by have := HJ2.out.len; omega) g (g + 1) v _ HJ2.out.blk HJ2.out.own (Nat.lt_succ_self _) HJ2.out.gsz).mono ?_
              rintro e w2 ⟨rfl, v2, hblk2, hown2, hb2⟩
              have HN := Lib.hid (HJ2.out.put hgs (.inr ⟨_, _, rfl, hgt⟩) hblk2 hown2 hb2 HRB2.out)
              clear hblk2 hown2 hb2
              go_wp2_with fail
              go_roundw
              case rel => exact ⟨_, _, _, _, _, _, _, _, _, _, _, HN.out⟩
              case measure => simp [lenV] <;> omega
          · have hxy : x.1 = y.1 := by omega
            by_cases hss : x.2 = y.2
            · have hng := hI.nn
              have hmg := hI.mm
              obtain ⟨ad, rfl, hadB, e0, e1⟩ := hI.ra.blk2 hI.na (k := 0) (by have := hI.na; simp at this; omega)
              simp only [Nat.zero_mul, add_zero, List.getElem_cons_zero] at e0 e1
              have hn0 : 0 < n' := by have := hI.na; simp at this; omega
              have hni : (0 : Int) < (n' : Int) := by omega
              have hnb : ((n' : Int) == 0) = false := by simp; omega
              have hx := hI.oka x (by simp)
              have hra := cut1 hI.ra hn0 hI.ca
              obtain ⟨xi, xs⟩ := x
              simp only at e0 e1 hx
              obtain ⟨bd, rfl, hbdB, k0, k1⟩ := hI.rb.blk2 hI.nb (k := 0) (by have := hI.nb; simp at this; omega)
              simp only [Nat.zero_mul, add_zero, List.getElem_cons_zero] at k0 k1
              have hm0 : 0 < m' := by have := hI.nb; simp at this; omega
              have hmi : (0 : Int) < (m' : Int) := by omega
              have hmb : ((m' : Int) == 0) = false := by simp; omega
              have hy := hI.okb y (by simp)
              have hrb := cut1 hI.rb hm0 hI.cb
              obtain ⟨yi, ys⟩ := y
              simp only at k0 k1 hy
              simp only at hxy hss
              obtain rfl : xi = yi := hxy
              obtain rfl : xs = ys := hss
              have HI := Lib.hid hI
              clear hI
              by_cases hc1a : c' = 1
              · subst hc1a
                obtain rfl : n' = 1 := by have := HI.out.ca; omega
                have HRA2 : Hid (Reads _ _ _ _ _ _) := Lib.hid (show Reads _ _ _ (some ad) _ _ from hra)
                clear hra
                by_cases hc1b : c3 = 1
                · subst hc1b
                  obtain rfl : m' = 1 := by have := HI.out.cb; omega
                  have HRB2 : Hid (Reads _ _ _ _ _ _) := Lib.hid (show Reads _ _ _ (some bd) _ _ from hrb)
                  clear hrb
                  go_wp2_with fail
                  go_big_quiet (fail)
                  have HJ1 := Lib.hid (HI.out.drew nq)
                  replace e0 : (wr.drewN nq).cell? ad = some (.int .i64 xi) := e0
                  replace e1 : (wr.drewN nq).cell? ⟨ad.block, ad.off + 1, none⟩ = some (.string ⟨xs.toArray⟩) := e1
                  replace k0 : (wr.drewN nq).cell? bd = some (.int .i64 xi) := k0
                  replace k1 : (wr.drewN nq).cell? ⟨bd.block, bd.off + 1, none⟩ = some (.string ⟨xs.toArray⟩) := k1
                  replace HRA2 := Lib.hid (HRA2.out.drewN nq)
                  replace HRB2 := Lib.hid (HRB2.out.drewN nq)
                  generalize wr.drewN nq = wq1 at *
                  clear HI
                  go_wp2_with fail
                  go_big_quiet (fail)
                  have HJ2 := Lib.hid (HJ1.out.drew nq)
                  replace e0 : (wq1.drewN nq).cell? ad = some (.int .i64 xi) := e0
                  replace e1 : (wq1.drewN nq).cell? ⟨ad.block, ad.off + 1, none⟩ = some (.string ⟨xs.toArray⟩) := e1
                  replace k0 : (wq1.drewN nq).cell? bd = some (.int .i64 xi) := k0
                  replace k1 : (wq1.drewN nq).cell? ⟨bd.block, bd.off + 1, none⟩ = some (.string ⟨xs.toArray⟩) := k1
                  replace HRA2 := Lib.hid (HRA2.out.drewN nq)
                  replace HRB2 := Lib.hid (HRB2.out.drewN nq)
                  generalize wq1.drewN nq = wq2 at *
                  clear HJ1
                  go_wp2_with fail
                  go_big_quiet (fail)
                  have HJ3 := Lib.hid (HJ2.out.drew nq)
                  replace e0 : (wq2.drewN nq).cell? ad = some (.int .i64 xi) := e0
                  replace e1 : (wq2.drewN nq).cell? ⟨ad.block, ad.off + 1, none⟩ = some (.string ⟨xs.toArray⟩) := e1
                  replace k0 : (wq2.drewN nq).cell? bd = some (.int .i64 xi) := k0
                  replace k1 : (wq2.drewN nq).cell? ⟨bd.block, bd.off + 1, none⟩ = some (.string ⟨xs.toArray⟩) := k1
                  replace HRA2 := Lib.hid (HRA2.out.drewN nq)
                  replace HRB2 := Lib.hid (HRB2.out.drewN nq)
                  generalize wq2.drewN nq = wq3 at *
                  clear HJ2
                  go_wp2_with fail
                  have HN := Lib.hid (HJ3.out.both hgs rfl (S := (o, last)) (by rw [if_pos rfl]) HJ3.out.blk HJ3.out.own (Below.refl _ _) HRA2.out HRB2.out)
                  go_region
                  go_wp2_with fail
                  go_roundw
                  case rel => exact ⟨_, _, _, _, _, _, _, _, _, _, _, HN.out.drew1⟩
                  case measure => simp [lenV] <;> omega
                · have HRB2 : Hid (Reads _ _ _ _ _ _) := Lib.hid (by rw [if_neg hc1b] at hrb; exact hrb)
                  clear hrb
                  go_wp2_with fail
                  go_big_quiet (fail)
                  have HJ1 := Lib.hid (HI.out.drew nq)
                  replace e0 : (wr.drewN nq).cell? ad = some (.int .i64 xi) := e0
                  replace e1 : (wr.drewN nq).cell? ⟨ad.block, ad.off + 1, none⟩ = some (.string ⟨xs.toArray⟩) := e1
                  replace k0 : (wr.drewN nq).cell? bd = some (.int .i64 xi) := k0
                  replace k1 : (wr.drewN nq).cell? ⟨bd.block, bd.off + 1, none⟩ = some (.string ⟨xs.toArray⟩) := k1
                  replace HRA2 := Lib.hid (HRA2.out.drewN nq)
                  replace HRB2 := Lib.hid (HRB2.out.drewN nq)
                  generalize wr.drewN nq = wq1 at *
                  clear HI
                  go_wp2_with fail
                  go_big_quiet (fail)
                  have HJ2 := Lib.hid (HJ1.out.drew nq)
                  replace e0 : (wq1.drewN nq).cell? ad = some (.int .i64 xi) := e0
                  replace e1 : (wq1.drewN nq).cell? ⟨ad.block, ad.off + 1, none⟩ = some (.string ⟨xs.toArray⟩) := e1
                  replace k0 : (wq1.drewN nq).cell? bd = some (.int .i64 xi) := k0
                  replace k1 : (wq1.drewN nq).cell? ⟨bd.block, bd.off + 1, none⟩ = some (.string ⟨xs.toArray⟩) := k1
                  replace HRA2 := Lib.hid (HRA2.out.drewN nq)
                  replace HRB2 := Lib.hid (HRB2.out.drewN nq)
                  generalize wq1.drewN nq = wq2 at *
                  clear HJ1
                  go_wp2_with fail
                  go_big_quiet (fail)
                  have HJ3 := Lib.hid (HJ2.out.drew nq)
                  replace e0 : (wq2.drewN nq).cell? ad = some (.int .i64 xi) := e0
                  replace e1 : (wq2.drewN nq).cell? ⟨ad.block, ad.off + 1, none⟩ = some (.string ⟨xs.toArray⟩) := e1
                  replace k0 : (wq2.drewN nq).cell? bd = some (.int .i64 xi) := k0
                  replace k1 : (wq2.drewN nq).cell? ⟨bd.block, bd.off + 1, none⟩ = some (.string ⟨xs.toArray⟩) := k1
                  replace HRA2 := Lib.hid (HRA2.out.drewN nq)
                  replace HRB2 := Lib.hid (HRB2.out.drewN nq)
                  generalize wq2.drewN nq = wq3 at *
                  clear HJ2
                  go_wp2_with fail
                  have HN := Lib.hid (HJ3.out.both hgs rfl (S := (o, last)) (by rw [if_pos rfl]) HJ3.out.blk HJ3.out.own (Below.refl _ _) HRA2.out HRB2.out)
                  go_region
                  go_wp2_with fail
                  go_roundw
                  case rel => exact ⟨_, _, _, _, _, _, _, _, _, _, _, HN.out.drew1⟩
                  case measure => simp [lenV] <;> omega
              · have HRA2 : Hid (Reads _ _ _ _ _ _) := Lib.hid (by rw [if_neg hc1a] at hra; exact hra)
                clear hra
                by_cases hc1b : c3 = 1
                · subst hc1b
                  obtain rfl : m' = 1 := by have := HI.out.cb; omega
                  have HRB2 : Hid (Reads _ _ _ _ _ _) := Lib.hid (show Reads _ _ _ (some bd) _ _ from hrb)
                  clear hrb
                  go_wp2_with fail
                  go_big_quiet (fail)
                  have HJ1 := Lib.hid (HI.out.drew nq)
                  replace e0 : (wr.drewN nq).cell? ad = some (.int .i64 xi) := e0
                  replace e1 : (wr.drewN nq).cell? ⟨ad.block, ad.off + 1, none⟩ = some (.string ⟨xs.toArray⟩) := e1
                  replace k0 : (wr.drewN nq).cell? bd = some (.int .i64 xi) := k0
                  replace k1 : (wr.drewN nq).cell? ⟨bd.block, bd.off + 1, none⟩ = some (.string ⟨xs.toArray⟩) := k1
                  replace HRA2 := Lib.hid (HRA2.out.drewN nq)
                  replace HRB2 := Lib.hid (HRB2.out.drewN nq)
                  generalize wr.drewN nq = wq1 at *
                  clear HI
                  go_wp2_with fail
                  go_big_quiet (fail)
                  have HJ2 := Lib.hid (HJ1.out.drew nq)
                  replace e0 : (wq1.drewN nq).cell? ad = some (.int .i64 xi) := e0
                  replace e1 : (wq1.drewN nq).cell? ⟨ad.block, ad.off + 1, none⟩ = some (.string ⟨xs.toArray⟩) := e1
                  replace k0 : (wq1.drewN nq).cell? bd = some (.int .i64 xi) := k0
                  replace k1 : (wq1.drewN nq).cell? ⟨bd.block, bd.off + 1, none⟩ = some (.string ⟨xs.toArray⟩) := k1
                  replace HRA2 := Lib.hid (HRA2.out.drewN nq)
                  replace HRB2 := Lib.hid (HRB2.out.drewN nq)
                  generalize wq1.drewN nq = wq2 at *
                  clear HJ1
                  go_wp2_with fail
                  go_big_quiet (fail)
                  have HJ3 := Lib.hid (HJ2.out.drew nq)
                  replace e0 : (wq2.drewN nq).cell? ad = some (.int .i64 xi) := e0
                  replace e1 : (wq2.drewN nq).cell? ⟨ad.block, ad.off + 1, none⟩ = some (.string ⟨xs.toArray⟩) := e1
                  replace k0 : (wq2.drewN nq).cell? bd = some (.int .i64 xi) := k0
                  replace k1 : (wq2.drewN nq).cell? ⟨bd.block, bd.off + 1, none⟩ = some (.string ⟨xs.toArray⟩) := k1
                  replace HRA2 := Lib.hid (HRA2.out.drewN nq)
                  replace HRB2 := Lib.hid (HRB2.out.drewN nq)
                  generalize wq2.drewN nq = wq3 at *
                  clear HJ2
                  go_wp2_with fail
                  have HN := Lib.hid (HJ3.out.both hgs rfl (S := (o, last)) (by rw [if_pos rfl]) HJ3.out.blk HJ3.out.own (Below.refl _ _) HRA2.out HRB2.out)
                  go_region
                  go_wp2_with fail
                  go_roundw
                  case rel => exact ⟨_, _, _, _, _, _, _, _, _, _, _, HN.out.drew1⟩
                  case measure => simp [lenV] <;> omega
                · have HRB2 : Hid (Reads _ _ _ _ _ _) := Lib.hid (by rw [if_neg hc1b] at hrb; exact hrb)
                  clear hrb
                  go_wp2_with fail
                  go_big_quiet (fail)
                  have HJ1 := Lib.hid (HI.out.drew nq)
                  replace e0 : (wr.drewN nq).cell? ad = some (.int .i64 xi) := e0
                  replace e1 : (wr.drewN nq).cell? ⟨ad.block, ad.off + 1, none⟩ = some (.string ⟨xs.toArray⟩) := e1
                  replace k0 : (wr.drewN nq).cell? bd = some (.int .i64 xi) := k0
                  replace k1 : (wr.drewN nq).cell? ⟨bd.block, bd.off + 1, none⟩ = some (.string ⟨xs.toArray⟩) := k1
                  replace HRA2 := Lib.hid (HRA2.out.drewN nq)
                  replace HRB2 := Lib.hid (HRB2.out.drewN nq)
                  generalize wr.drewN nq = wq1 at *
                  clear HI
                  go_wp2_with fail
                  go_big_quiet (fail)
                  have HJ2 := Lib.hid (HJ1.out.drew nq)
                  replace e0 : (wq1.drewN nq).cell? ad = some (.int .i64 xi) := e0
                  replace e1 : (wq1.drewN nq).cell? ⟨ad.block, ad.off + 1, none⟩ = some (.string ⟨xs.toArray⟩) := e1
                  replace k0 : (wq1.drewN nq).cell? bd = some (.int .i64 xi) := k0
                  replace k1 : (wq1.drewN nq).cell? ⟨bd.block, bd.off + 1, none⟩ = some (.string ⟨xs.toArray⟩) := k1
                  replace HRA2 := Lib.hid (HRA2.out.drewN nq)
                  replace HRB2 := Lib.hid (HRB2.out.drewN nq)
                  generalize wq1.drewN nq = wq2 at *
                  clear HJ1
                  go_wp2_with fail
                  go_big_quiet (fail)
                  have HJ3 := Lib.hid (HJ2.out.drew nq)
                  replace e0 : (wq2.drewN nq).cell? ad = some (.int .i64 xi) := e0
                  replace e1 : (wq2.drewN nq).cell? ⟨ad.block, ad.off + 1, none⟩ = some (.string ⟨xs.toArray⟩) := e1
                  replace k0 : (wq2.drewN nq).cell? bd = some (.int .i64 xi) := k0
                  replace k1 : (wq2.drewN nq).cell? ⟨bd.block, bd.off + 1, none⟩ = some (.string ⟨xs.toArray⟩) := k1
                  replace HRA2 := Lib.hid (HRA2.out.drewN nq)
                  replace HRB2 := Lib.hid (HRB2.out.drewN nq)
                  generalize wq2.drewN nq = wq3 at *
                  clear HJ2
                  go_wp2_with fail
                  have HN := Lib.hid (HJ3.out.both hgs rfl (S := (o, last)) (by rw [if_pos rfl]) HJ3.out.blk HJ3.out.own (Below.refl _ _) HRA2.out HRB2.out)
                  go_region
                  go_wp2_with fail
                  go_roundw
                  case rel => exact ⟨_, _, _, _, _, _, _, _, _, _, _, HN.out.drew1⟩
                  case measure => simp [lenV] <;> omega
            · have hng := hI.nn
              have hmg := hI.mm
              obtain ⟨ad, rfl, hadB, e0, e1⟩ := hI.ra.blk2 hI.na (k := 0) (by have := hI.na; simp at this; omega)
              simp only [Nat.zero_mul, add_zero, List.getElem_cons_zero] at e0 e1
              have hn0 : 0 < n' := by have := hI.na; simp at this; omega
              have hni : (0 : Int) < (n' : Int) := by omega
              have hnb : ((n' : Int) == 0) = false := by simp; omega
              have hx := hI.oka x (by simp)
              have hra := cut1 hI.ra hn0 hI.ca
              obtain ⟨xi, xs⟩ := x
              simp only at e0 e1 hx
              obtain ⟨bd, rfl, hbdB, k0, k1⟩ := hI.rb.blk2 hI.nb (k := 0) (by have := hI.nb; simp at this; omega)
              simp only [Nat.zero_mul, add_zero, List.getElem_cons_zero] at k0 k1
              have hm0 : 0 < m' := by have := hI.nb; simp at this; omega
              have hmi : (0 : Int) < (m' : Int) := by omega
              have hmb : ((m' : Int) == 0) = false := by simp; omega
              have hy := hI.okb y (by simp)
              have hrb := cut1 hI.rb hm0 hI.cb
              obtain ⟨yi, ys⟩ := y
              simp only at k0 k1 hy
              simp only at hxy hss
              obtain rfl : xi = yi := hxy
              have hb1 : (xs == ys) = false := by simpa using hss
              have hb2 : (xs != ys) = true := by simpa using hss
              have hne := Lib.hid hss
              clear hss
              have HI := Lib.hid hI
              clear hI
              by_cases hc1a : c' = 1
              · subst hc1a
                obtain rfl : n' = 1 := by have := HI.out.ca; omega
                have HRA2 : Hid (Reads _ _ _ _ _ _) := Lib.hid (show Reads _ _ _ (some ad) _ _ from hra)
                clear hra
                by_cases hc1b : c3 = 1
                · subst hc1b
                  obtain rfl : m' = 1 := by have := HI.out.cb; omega
                  have HRB2 : Hid (Reads _ _ _ _ _ _) := Lib.hid (show Reads _ _ _ (some bd) _ _ from hrb)
                  clear hrb
                  go_wp2_with fail
                  go_big_quiet (fail)
                  have HJ1 := Lib.hid (HI.out.drew nq)
                  replace e0 : (wr.drewN nq).cell? ad = some (.int .i64 xi) := e0
                  replace e1 : (wr.drewN nq).cell? ⟨ad.block, ad.off + 1, none⟩ = some (.string ⟨xs.toArray⟩) := e1
                  replace k0 : (wr.drewN nq).cell? bd = some (.int .i64 xi) := k0
                  replace k1 : (wr.drewN nq).cell? ⟨bd.block, bd.off + 1, none⟩ = some (.string ⟨ys.toArray⟩) := k1
                  replace HRA2 := Lib.hid (HRA2.out.drewN nq)
                  replace HRB2 := Lib.hid (HRB2.out.drewN nq)
                  generalize wr.drewN nq = wq1 at *
                  clear HI
                  go_wp2_with fail
                  go_big_quiet (fail)
                  have HJ2 := Lib.hid (HJ1.out.drew nq)
                  replace e0 : (wq1.drewN nq).cell? ad = some (.int .i64 xi) := e0
                  replace e1 : (wq1.drewN nq).cell? ⟨ad.block, ad.off + 1, none⟩ = some (.string ⟨xs.toArray⟩) := e1
                  replace k0 : (wq1.drewN nq).cell? bd = some (.int .i64 xi) := k0
                  replace k1 : (wq1.drewN nq).cell? ⟨bd.block, bd.off + 1, none⟩ = some (.string ⟨ys.toArray⟩) := k1
                  replace HRA2 := Lib.hid (HRA2.out.drewN nq)
                  replace HRB2 := Lib.hid (HRB2.out.drewN nq)
                  generalize wq1.drewN nq = wq2 at *
                  clear HJ1
                  go_wp2_with fail
                  go_big_quiet (fail)
                  have HJ3 := Lib.hid (HJ2.out.drew nq)
                  replace e0 : (wq2.drewN nq).cell? ad = some (.int .i64 xi) := e0
                  replace e1 : (wq2.drewN nq).cell? ⟨ad.block, ad.off + 1, none⟩ = some (.string ⟨xs.toArray⟩) := e1
                  replace k0 : (wq2.drewN nq).cell? bd = some (.int .i64 xi) := k0
                  replace k1 : (wq2.drewN nq).cell? ⟨bd.block, bd.off + 1, none⟩ = some (.string ⟨ys.toArray⟩) := k1
                  replace HRA2 := Lib.hid (HRA2.out.drewN nq)
                  replace HRB2 := Lib.hid (HRB2.out.drewN nq)
                  generalize wq2.drewN nq = wq3 at *
                  clear HJ2
                  go_wp2_with fail
                  refine (dput_any o last xi ys (by have := HJ3.out.len; omega) g (g + 1) v _ HJ3.out.blk HJ3.out.own (Nat.lt_succ_self _) HJ3.out.gsz).mono ?_
                  rintro e w2 ⟨rfl, v2, hblk2, hown2, hb2⟩
                  have HN := Lib.hid (HJ3.out.both hgs rfl (S := putS (o, last) (xi, ys)) (by rw [if_neg (by intro e; injection e with _ e; exact hne.out e)]) hblk2 hown2 hb2 HRA2.out HRB2.out)
                  clear hblk2 hown2 hb2
                  go_wp2_with fail
                  go_region
                  go_wp2_with fail
                  go_roundw
                  case rel => exact ⟨_, _, _, _, _, _, _, _, _, _, _, HN.out.drew1⟩
                  case measure => simp [lenV] <;> omega
                · have HRB2 : Hid (Reads _ _ _ _ _ _) := Lib.hid (by rw [if_neg hc1b] at hrb; exact hrb)
                  clear hrb
                  go_wp2_with fail
                  go_big_quiet (fail)
                  have HJ1 := Lib.hid (HI.out.drew nq)
                  replace e0 : (wr.drewN nq).cell? ad = some (.int .i64 xi) := e0
                  replace e1 : (wr.drewN nq).cell? ⟨ad.block, ad.off + 1, none⟩ = some (.string ⟨xs.toArray⟩) := e1
                  replace k0 : (wr.drewN nq).cell? bd = some (.int .i64 xi) := k0
                  replace k1 : (wr.drewN nq).cell? ⟨bd.block, bd.off + 1, none⟩ = some (.string ⟨ys.toArray⟩) := k1
                  replace HRA2 := Lib.hid (HRA2.out.drewN nq)
                  replace HRB2 := Lib.hid (HRB2.out.drewN nq)
                  generalize wr.drewN nq = wq1 at *
                  clear HI
                  go_wp2_with fail
                  go_big_quiet (fail)
                  have HJ2 := Lib.hid (HJ1.out.drew nq)
                  replace e0 : (wq1.drewN nq).cell? ad = some (.int .i64 xi) := e0
                  replace e1 : (wq1.drewN nq).cell? ⟨ad.block, ad.off + 1, none⟩ = some (.string ⟨xs.toArray⟩) := e1
                  replace k0 : (wq1.drewN nq).cell? bd = some (.int .i64 xi) := k0
                  replace k1 : (wq1.drewN nq).cell? ⟨bd.block, bd.off + 1, none⟩ = some (.string ⟨ys.toArray⟩) := k1
                  replace HRA2 := Lib.hid (HRA2.out.drewN nq)
                  replace HRB2 := Lib.hid (HRB2.out.drewN nq)
                  generalize wq1.drewN nq = wq2 at *
                  clear HJ1
                  go_wp2_with fail
                  go_big_quiet (fail)
                  have HJ3 := Lib.hid (HJ2.out.drew nq)
                  replace e0 : (wq2.drewN nq).cell? ad = some (.int .i64 xi) := e0
                  replace e1 : (wq2.drewN nq).cell? ⟨ad.block, ad.off + 1, none⟩ = some (.string ⟨xs.toArray⟩) := e1
                  replace k0 : (wq2.drewN nq).cell? bd = some (.int .i64 xi) := k0
                  replace k1 : (wq2.drewN nq).cell? ⟨bd.block, bd.off + 1, none⟩ = some (.string ⟨ys.toArray⟩) := k1
                  replace HRA2 := Lib.hid (HRA2.out.drewN nq)
                  replace HRB2 := Lib.hid (HRB2.out.drewN nq)
                  generalize wq2.drewN nq = wq3 at *
                  clear HJ2
                  go_wp2_with fail
                  refine (dput_any o last xi ys (by have := HJ3.out.len; omega) g (g + 1) v _ HJ3.out.blk HJ3.out.own (Nat.lt_succ_self _) HJ3.out.gsz).mono ?_
                  rintro e w2 ⟨rfl, v2, hblk2, hown2, hb2⟩
                  have HN := Lib.hid (HJ3.out.both hgs rfl (S := putS (o, last) (xi, ys)) (by rw [if_neg (by intro e; injection e with _ e; exact hne.out e)]) hblk2 hown2 hb2 HRA2.out HRB2.out)
                  clear hblk2 hown2 hb2
                  go_wp2_with fail
                  go_region
                  go_wp2_with fail
                  go_roundw
                  case rel => exact ⟨_, _, _, _, _, _, _, _, _, _, _, HN.out.drew1⟩
                  case measure => simp [lenV] <;> omega
              · have HRA2 : Hid (Reads _ _ _ _ _ _) := Lib.hid (by rw [if_neg hc1a] at hra; exact hra)
                clear hra
                by_cases hc1b : c3 = 1
                · subst hc1b
                  obtain rfl : m' = 1 := by have := HI.out.cb; omega
                  have HRB2 : Hid (Reads _ _ _ _ _ _) := Lib.hid (show Reads _ _ _ (some bd) _ _ from hrb)
                  clear hrb
                  go_wp2_with fail
                  go_big_quiet (fail)
                  have HJ1 := Lib.hid (HI.out.drew nq)
                  replace e0 : (wr.drewN nq).cell? ad = some (.int .i64 xi) := e0
                  replace e1 : (wr.drewN nq).cell? ⟨ad.block, ad.off + 1, none⟩ = some (.string ⟨xs.toArray⟩) := e1
                  replace k0 : (wr.drewN nq).cell? bd = some (.int .i64 xi) := k0
                  replace k1 : (wr.drewN nq).cell? ⟨bd.block, bd.off + 1, none⟩ = some (.string ⟨ys.toArray⟩) := k1
                  replace HRA2 := Lib.hid (HRA2.out.drewN nq)
                  replace HRB2 := Lib.hid (HRB2.out.drewN nq)
                  generalize wr.drewN nq = wq1 at *
                  clear HI
                  go_wp2_with fail
                  go_big_quiet (fail)
                  have HJ2 := Lib.hid (HJ1.out.drew nq)
                  replace e0 : (wq1.drewN nq).cell? ad = some (.int .i64 xi) := e0
                  replace e1 : (wq1.drewN nq).cell? ⟨ad.block, ad.off + 1, none⟩ = some (.string ⟨xs.toArray⟩) := e1
                  replace k0 : (wq1.drewN nq).cell? bd = some (.int .i64 xi) := k0
                  replace k1 : (wq1.drewN nq).cell? ⟨bd.block, bd.off + 1, none⟩ = some (.string ⟨ys.toArray⟩) := k1
                  replace HRA2 := Lib.hid (HRA2.out.drewN nq)
                  replace HRB2 := Lib.hid (HRB2.out.drewN nq)
                  generalize wq1.drewN nq = wq2 at *
                  clear HJ1
                  go_wp2_with fail
                  go_big_quiet (fail)
                  have HJ3 := Lib.hid (HJ2.out.drew nq)
                  replace e0 : (wq2.drewN nq).cell? ad = some (.int .i64 xi) := e0
                  replace e1 : (wq2.drewN nq).cell? ⟨ad.block, ad.off + 1, none⟩ = some (.string ⟨xs.toArray⟩) := e1
                  replace k0 : (wq2.drewN nq).cell? bd = some (.int .i64 xi) := k0
                  replace k1 : (wq2.drewN nq).cell? ⟨bd.block, bd.off + 1, none⟩ = some (.string ⟨ys.toArray⟩) := k1
                  replace HRA2 := Lib.hid (HRA2.out.drewN nq)
                  replace HRB2 := Lib.hid (HRB2.out.drewN nq)
                  generalize wq2.drewN nq = wq3 at *
                  clear HJ2
                  go_wp2_with fail
                  refine (dput_any o last xi ys (by have := HJ3.out.len; omega) g (g + 1) v _ HJ3.out.blk HJ3.out.own (Nat.lt_succ_self _) HJ3.out.gsz).mono ?_
                  rintro e w2 ⟨rfl, v2, hblk2, hown2, hb2⟩
                  have HN := Lib.hid (HJ3.out.both hgs rfl (S := putS (o, last) (xi, ys)) (by rw [if_neg (by intro e; injection e with _ e; exact hne.out e)]) hblk2 hown2 hb2 HRA2.out HRB2.out)
                  clear hblk2 hown2 hb2
                  go_wp2_with fail
                  go_region
                  go_wp2_with fail
                  go_roundw
                  case rel => exact ⟨_, _, _, _, _, _, _, _, _, _, _, HN.out.drew1⟩
                  case measure => simp [lenV] <;> omega
                · have HRB2 : Hid (Reads _ _ _ _ _ _) := Lib.hid (by rw [if_neg hc1b] at hrb; exact hrb)
                  clear hrb
                  go_wp2_with fail
                  go_big_quiet (fail)
                  have HJ1 := Lib.hid (HI.out.drew nq)
                  replace e0 : (wr.drewN nq).cell? ad = some (.int .i64 xi) := e0
                  replace e1 : (wr.drewN nq).cell? ⟨ad.block, ad.off + 1, none⟩ = some (.string ⟨xs.toArray⟩) := e1
                  replace k0 : (wr.drewN nq).cell? bd = some (.int .i64 xi) := k0
                  replace k1 : (wr.drewN nq).cell? ⟨bd.block, bd.off + 1, none⟩ = some (.string ⟨ys.toArray⟩) := k1
                  replace HRA2 := Lib.hid (HRA2.out.drewN nq)
                  replace HRB2 := Lib.hid (HRB2.out.drewN nq)
                  generalize wr.drewN nq = wq1 at *
                  clear HI
                  go_wp2_with fail
                  go_big_quiet (fail)
                  have HJ2 := Lib.hid (HJ1.out.drew nq)
                  replace e0 : (wq1.drewN nq).cell? ad = some (.int .i64 xi) := e0
                  replace e1 : (wq1.drewN nq).cell? ⟨ad.block, ad.off + 1, none⟩ = some (.string ⟨xs.toArray⟩) := e1
                  replace k0 : (wq1.drewN nq).cell? bd = some (.int .i64 xi) := k0
                  replace k1 : (wq1.drewN nq).cell? ⟨bd.block, bd.off + 1, none⟩ = some (.string ⟨ys.toArray⟩) := k1
                  replace HRA2 := Lib.hid (HRA2.out.drewN nq)
                  replace HRB2 := Lib.hid (HRB2.out.drewN nq)
                  generalize wq1.drewN nq = wq2 at *
                  clear HJ1
                  go_wp2_with fail
                  go_big_quiet (fail)
                  have HJ3 := Lib.hid (HJ2.out.drew nq)
                  replace e0 : (wq2.drewN nq).cell? ad = some (.int .i64 xi) := e0
                  replace e1 : (wq2.drewN nq).cell? ⟨ad.block, ad.off + 1, none⟩ = some (.string ⟨xs.toArray⟩) := e1
                  replace k0 : (wq2.drewN nq).cell? bd = some (.int .i64 xi) := k0
                  replace k1 : (wq2.drewN nq).cell? ⟨bd.block, bd.off + 1, none⟩ = some (.string ⟨ys.toArray⟩) := k1
                  replace HRA2 := Lib.hid (HRA2.out.drewN nq)
                  replace HRB2 := Lib.hid (HRB2.out.drewN nq)
                  generalize wq2.drewN nq = wq3 at *
                  clear HJ2
                  go_wp2_with fail
                  refine (dput_any o last xi ys (by have := HJ3.out.len; omega) g (g + 1) v _ HJ3.out.blk HJ3.out.own (Nat.lt_succ_self _) HJ3.out.gsz).mono ?_
                  rintro e w2 ⟨rfl, v2, hblk2, hown2, hb2⟩
                  have HN := Lib.hid (HJ3.out.both hgs rfl (S := putS (o, last) (xi, ys)) (by rw [if_neg (by intro e; injection e with _ e; exact hne.out e)]) hblk2 hown2 hb2 HRA2.out HRB2.out)
                  clear hblk2 hown2 hb2
                  go_wp2_with fail
                  go_region
                  go_wp2_with fail
                  go_roundw
                  case rel => exact ⟨_, _, _, _, _, _, _, _, _, _, _, HN.out.drew1⟩
                  case measure => simp [lenV] <;> omega

set_option maxRecDepth 100000 in
set_option maxHeartbeats 2000000 in
theorem bkDiff_any (a b : BL) (n m : Nat) (hna : n = a.length) (hmb : m = b.length) (A B : Option Addr) (c c2 : Nat) (w : World) (hra : Reads w w.heap.size 2 A n (bcells a)) (hrb : Reads w w.heap.size 2 B m (bcells b)) (hc : n ≤ c) (hc2 : m ≤ c2) (hn : n ≤ 6000000000000) (hm : m ≤ 6000000000000) :
    Calls Try.prog 18 #[.slice A n c, .slice B m c2] w (DiffPost w a b) := by
  by_cases hE : diffE a b = 0
  · obtain ⟨ha, hb⟩ := (diffE_ok a b).1 hE
    exact bkDiff_ok a b n m hna hmb A B c c2 w hra hrb hc hc2 ha hb
  · have hck1 := checkBk_any a n hna A c w w.heap.size hra (Nat.le_refl _) (by omega)
    have hck2 := fun W (hb : Below w.heap.size w W) => checkBk_any b m hmb B c2 W w.heap.size (hrb.below hb) hb.size (by omega)
    have hO : diffO a b = [] := by unfold diffO; rw [if_neg hE]
    obtain ⟨x, hx⟩ : ∃ x, x = okE a := ⟨_, rfl⟩
    obtain ⟨y, hy⟩ : ∃ y, y = okE b := ⟨_, rfl⟩
    obtain ⟨z, hz⟩ : ∃ z, z = diffE a b := ⟨_, rfl⟩
    have hzz : orI x y = z := by rw [hz, hx, hy]; rfl
    rw [← hx] at hck1
    rw [← hy] at hck2
    rw [← hz] at hE
    have hzb : (z == 0) = false := by simp [hE]
    have HO := Lib.hid hO
    have HZ := Lib.hid hz
    have HZZ := Lib.hid hzz
    clear hO hx hy hz hzz hna hmb hra hrb hE
    go_enter Try.func18, Try.ntmps18
    go_wp2_with fail
    refine hck1.mono ?_
    clear hck1
    rintro e w1 ⟨rfl, hb1⟩
    go_wp2_with fail
    refine (hck2 _ hb1).mono ?_
    clear hck2
    rintro e w2 ⟨rfl, hb2⟩
    have hb12 := hb1.trans (hb2.mono hb1.size)
    have hs2 := hb12.size
    have hor := or2_any x y w2.heap.size (w2.alloc (.cells #[.int .i64 x, .int .i64 y] 28)) ((Blk.new w2 28 #[.int .i64 x, .int .i64 y]).cell 0) ((Blk.new w2 28 #[.int .i64 x, .int .i64 y]).cell 1)
    rw [HZZ.out] at hor
    have hb3 := hb12.alloc hs2 (.cells #[.int .i64 x, .int .i64 y] 28)
    clear hb12 hb1 hb2
    go_wp2_with fail
    refine hor.mono ?_
    clear hor
    rintro e w3 ⟨rfl, q, rfl⟩
    have hb4 := below_drewN hb3 q
    go_wp2_with fail
    go_ret2
    refine ⟨.slice none 0 0, by rw [← HZ.out]; rfl, ?_, hb4⟩
    rw [HO.out]
    exact World.ownsRow_nil _ _ _ _
end Go.Proofs.Ytcbeadldieeceaa
