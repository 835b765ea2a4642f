/-
  blocks.Octets, by its contract.
-/
import Derived.Lib.ConvBytes
import Derived.Test.YtcbeadldieeceaaRows
import Derived.Handy
import Derived.Lib.AppendZeros
import Derived.Test.YtcbeadldieeceaaZ1
import Derived.Test.YtcbeadldieeceaaZ3
import Derived.Test.YtcbeadldieeceaaZ5
import Derived.Test.YtcbeadldieeceaaZ11
namespace Go.Proofs.Ytcbeadldieeceaa
open Go.RowKit

theorem below_bytesWorld (W : World) (e : TypeId) (s : ByteArray) : Below W.heap.size W (Lib.bytesWorld W e s) :=
  ⟨by unfold Lib.bytesWorld World.freeze; split <;> rfl, by unfold Lib.bytesWorld World.freeze; split <;> rfl, by unfold Lib.bytesWorld World.freeze; split <;> rfl, by rw [Lib.bytesWorld_size]; omega, fun k hk => Lib.bytesWorld_at_old W e s k hk⟩
theorem conv_bytes (W : World) (l : List UInt8) : (convert 9 27 (.string ⟨l.toArray⟩)).run Try.prog W = .ok (.slice (some ⟨W.heap.size, 0, none⟩) l.length (grownCap W l.length 0 5)) (Lib.bytesWorld W 5 ⟨l.toArray⟩) :=
  Lib.run_convert_string_bytes W _ _ 5 ⟨l.toArray⟩ Try.underlying9 Try.underlying27 Try.underlying5
theorem PieceIn.conv (W : World) (l : List UInt8) (hm : l.length ≤ maxLen) : PieceIn l.length l (.slice (some ⟨W.heap.size, 0, none⟩) l.length (grownCap W l.length 0 5)) (Lib.bytesWorld W 5 ⟨l.toArray⟩) := by
  refine ⟨rfl, _, _, rfl, grownCap_ge _ _ _ _, grownCap_le_maxLen _ _ _ _ hm, by rw [bts_length, Nat.mul_one], fun _ => ⟨_, rfl, by rw [Lib.bytesWorld_size]; simp, fun j u hu => ?_⟩⟩
  have hj : j < l.length := by
    have := (List.getElem?_eq_some_iff.1 hu).1
    rwa [bts_length] at this
  rw [addr_add0, Lib.bytesWorld_cell W 5 ⟨l.toArray⟩ j hj]
  rw [bts_get, List.getElem?_eq_getElem hj] at hu
  rw [← Option.some.inj hu]
  simp [List.getD_eq_getElem?_getD, hj]

/-- a content's octets -/
def bkOct (l : BL) : List UInt8 := l.flatMap fun x => putL x.1 2 ++ x.2
theorem bkOct_append (a b : BL) : bkOct (a ++ b) = bkOct a ++ bkOct b := by simp [bkOct]
theorem okFrom_len (p : Option Int) (l : BL) (h : okFrom p l = true) : ∀ x ∈ l, x.2.length = 16 ∧ 0 ≤ x.1 ∧ x.1 < 1024 := by
  induction l generalizing p with
  | nil => intro x hx; cases hx
  | cons y r ih =>
    simp only [okFrom, Bool.and_eq_true, decide_eq_true_eq] at h
    obtain ⟨⟨⟨⟨h1, h2⟩, h3⟩, _⟩, h5⟩ := h
    intro x hx
    rcases List.mem_cons.1 hx with rfl | hx
    · exact ⟨h3, h1, h2⟩
    · exact ih _ h5 x hx
theorem okL_len (l : BL) (h : okL l = true) : ∀ x ∈ l, x.2.length = 16 ∧ 0 ≤ x.1 ∧ x.1 < 1024 := okFrom_len none l h
def OctPost (w : World) (l : BL) (e : Ending) (w' : World) : Prop :=
  ∃ v m, e = .returned (.tuple #[v, .int .i64 (okE l)]) ∧ PieceIn m (if okL l then bkOct l else []) v w' ∧ Below w.heap.size w w'

end Go.Proofs.Ytcbeadldieeceaa

/-
  Contents and their octets: the plain law.
-/
namespace Go.Proofs.Ytcbeadldieeceaa
open Go.RowKit

theorem putL2b (n : Int) : putL n 2 = [toByte (n / 256), toByte n] := by
  simp [putL, putF, bkDown, putStep, List.range, List.range.loop, List.replicate]
theorem numN2b (n : Int) : (numN (putL n 2) : Int) = n % 65536 := by
  rw [putL2b]
  simp only [numN, List.foldl_cons, List.foldl_nil]
  have a := toByte_int n
  have b := toByte_int (n / 256)
  omega
theorem numV2b (n : Int) (h : 0 ≤ n ∧ n < 65536) : numV (putL n 2) = n := by
  have := numN2b n
  unfold numV
  rw [if_neg (by rw [putL_length]; omega)]
  omega
theorem put_numV (x y : UInt8) : putL (numV [x, y]) 2 = [x, y] := by
  have h : numV [x, y] = ((x.toNat * 256 + y.toNat : Nat) : Int) := by
    have hx := x.toNat_lt
    have hy := y.toNat_lt
    have e : numN [x, y] = x.toNat * 256 + y.toNat := by simp [numN]
    unfold numV
    rw [e, if_neg]
    simp only [List.length_cons, List.length_nil]
    omega
  have hx := x.toNat_lt
  have hy := y.toNat_lt
  rw [h, putL2b]
  have a := toByte_int ((x.toNat * 256 + y.toNat : Nat) : Int)
  have b := toByte_int (((x.toNat * 256 + y.toNat : Nat) : Int) / 256)
  have e1 : toByte (((x.toNat * 256 + y.toNat : Nat) : Int) / 256) = x := UInt8.toNat_inj.1 (by omega)
  have e2 : toByte ((x.toNat * 256 + y.toNat : Nat) : Int) = y := UInt8.toNat_inj.1 (by omega)
  rw [e1, e2]

def rdN : Nat → List UInt8 → BL
  | 0, _ => []
  | k + 1, b => rdOne (b.take 18) :: rdN k (b.drop 18)
theorem rdL_range (k : Nat) (b : List UInt8) : rdL b (List.range k) = rdN k b := by
  induction k generalizing b with
  | zero => rfl
  | succ k ih =>
    rw [List.range_succ_eq_map]
    unfold rdL at *
    rw [List.map_cons, List.map_map, rdN, ← ih (b.drop 18)]
    congr 1
    apply List.map_congr_left
    intro j _
    show rdOne (chunkEL b (j + 1)) = rdOne (chunkEL (b.drop 18) j)
    unfold chunkEL
    rw [List.drop_drop, show 18 * (j + 1) = 18 + 18 * j by omega]
theorem bkOct_cons (x : Int × List UInt8) (l : BL) : bkOct (x :: l) = putL x.1 2 ++ x.2 ++ bkOct l := by simp [bkOct]
theorem oct_rdN (k : Nat) (b : List UInt8) (h : b.length = 18 * k) : bkOct (rdN k b) = b := by
  induction k generalizing b with
  | zero => rw [List.eq_nil_of_length_eq_zero (l := b) (by omega)]; rfl
  | succ k ih =>
    rw [rdN, bkOct_cons, ih _ (by rw [List.length_drop]; omega)]
    match b, h with
    | x :: y :: r, h =>
      have h2 : ((x :: y :: r).take 18).take 2 = [x, y] := by simp
      have h3 : ((x :: y :: r).take 18).drop 2 = r.take 16 := by simp
      show putL (numV (((x :: y :: r).take 18).take 2)) 2 ++ ((x :: y :: r).take 18).drop 2 ++ (x :: y :: r).drop 18 = _
      rw [h2, h3, put_numV]
      show x :: y :: (r.take 16 ++ r.drop 16) = _
      rw [List.take_append_drop]
    | [_], h => simp at h; omega
    | [], h => simp at h
/-- octets come back -/
theorem oct_read (b : List UInt8) (h : b.length % 18 = 0) : bkOct (readL b) = b := by
  unfold readL
  rw [rdL_range]
  exact oct_rdN _ _ (by omega)
theorem rdN_oct (l : BL) (h : ∀ x ∈ l, x.2.length = 16 ∧ 0 ≤ x.1 ∧ x.1 < 1024) : (bkOct l).length = 18 * l.length ∧ rdN l.length (bkOct l) = l := by
  induction l with
  | nil => exact ⟨rfl, rfl⟩
  | cons x l ih =>
    obtain ⟨h1, h2, h3⟩ := h x (List.mem_cons_self ..)
    obtain ⟨i1, i2⟩ := ih fun y hy => h y (List.mem_cons_of_mem _ hy)
    have hpl := putL_length x.1 2
    refine ⟨by rw [bkOct_cons, List.length_append, List.length_append, i1, hpl, h1, List.length_cons]; omega, ?_⟩
    have e1 : (bkOct (x :: l)).take 18 = putL x.1 2 ++ x.2 := by rw [bkOct_cons, List.take_append_of_le_length (by simp [hpl, h1]), List.take_of_length_le (by simp [hpl, h1])]
    have e2 : (bkOct (x :: l)).drop 18 = bkOct l := by
      rw [bkOct_cons]
      exact List.drop_left' (by simp [hpl, h1])
    rw [List.length_cons, rdN, e1, e2, i2]
    congr 1
    unfold rdOne
    rw [List.take_left' hpl, List.drop_left' hpl, numV2b _ (by omega)]
/-- a content comes back -/
theorem read_oct (l : BL) (h : okL l = true) : (bkOct l).length = 18 * l.length ∧ readL (bkOct l) = l := by
  obtain ⟨h1, h2⟩ := rdN_oct l (okL_len l h)
  refine ⟨h1, ?_⟩
  unfold readL
  rw [rdL_range, h1, show 18 * l.length / 18 = l.length by omega, h2]
/-- a content has no more than 1024 blocks -/
theorem okFrom_small (p : Int) (l : BL) (hp : -1 ≤ p) (h : okFrom (some p) l = true) : (l.length : Int) + p < 1024 ∨ l = [] := by
  induction l generalizing p with
  | nil => exact .inr rfl
  | cons x l ih =>
    simp only [okFrom, Bool.and_eq_true, decide_eq_true_eq] at h
    obtain ⟨⟨⟨⟨h1, h2⟩, _⟩, h4⟩, h5⟩ := h
    left
    rcases ih x.1 (by omega) h5 with h | rfl
    · rw [List.length_cons]; omega
    · simp; omega
theorem okL_small (l : BL) (h : okL l = true) : l.length ≤ 1024 := by
  cases l with
  | nil => simp
  | cons x l =>
    unfold okL at h
    simp only [okFrom, Bool.and_eq_true, decide_eq_true_eq] at h
    obtain ⟨⟨⟨⟨h1, h2⟩, _⟩, _⟩, h5⟩ := h
    rcases okFrom_small x.1 l (by omega) h5 with h | rfl
    · rw [List.length_cons]; omega
    · simp
end Go.Proofs.Ytcbeadldieeceaa

/-
  alive (layer 11): a block put into no content, and read.
-/
namespace Go.Proofs.Ytcbeadldieeceaa
open Go.RowKit

set_option maxRecDepth 100000 in
theorem search_nil (i : Int) (f : Value) (w : World) :
    Calls Try.prog 54 #[.slice none 0 0, .int .i64 i, f] w fun e w' => e = .returned (.tuple #[.int .i64 0, .bool false]) ∧ ∃ q, w' = w.drewN q := by
  go_enter Try.func54, Try.ntmps54
  go_wp2_with fail
  refine wp_loop_rounds 1 ?_
  rw [rounds_succ]
  go_wp2_with fail
  go_ret2
  exact ⟨rfl, 0, rfl⟩
set_option maxRecDepth 100000 in
theorem cloneB_any (xs : List Value) (n : Nat) (A : Option Addr) (c : Nat) (w : World) (B : Nat) (hr : Reads w B 2 A n xs) (hB : B ≤ w.heap.size) (h1 : ∀ u ∈ xs, u.oneCell' = true) (hn : n ≤ 5000000000000) :
    Calls Try.prog 36 #[.slice A n c] w fun e w' => ∃ v, e = .returned v ∧ w'.ownsRow w.heap.size 87 2 v n xs ∧ Below w.heap.size w w' := by
  obtain ⟨i0, hi0, hz0, hz1, hz2⟩ := info_parts Try.infoB
  rcases A with _ | ad
  · obtain rfl : n = 0 := by
      rcases Nat.eq_zero_or_pos n with h | h
      · exact h
      · obtain ⟨_, h, _⟩ := hr.2 h; cases h
    obtain rfl : xs = [] := List.eq_nil_of_length_eq_zero (by simpa using hr.1)
    have heq := fun W => Lib.run_eql_slice_nil (P := Try.prog) W 22 87 none 0 c 0 0 Try.underlying22
    go_enter Try.func36, Try.ntmps36
    go_wp2_with fail
    go_ret
    exact ⟨_, rfl, World.ownsRow_nil _ _ _ _, Below.refl _ _⟩
  · have heq := fun W => Lib.run_eql_slice_nil (P := Try.prog) W 22 87 (some ad) n c 0 0 Try.underlying22
    have hown : (w.alloc (.cells #[] 87)).ownsRow w.heap.size 87 2 (.slice (some ⟨w.heap.size, 0, none⟩) 0 0) 0 [] := World.ownsRow_made w #[] 0 (Nat.le_refl _) (by simp [maxLen]) rfl
    have hra := hr.alloc hB (.cells #[] 87)
    go_enter Try.func36, Try.ntmps36
    go_wp2_with (at_builtin; (refine wpList_append_any _ rfl (.tmp 5) (.tmp 6) _ rfl w.heap.size 87 i0 _ 2 24 Try.underlying22 hi0 hz0 hz1 hz2 rfl (by omega) (.slice (some ⟨w.heap.size, 0, none⟩) 0 0) 0 [] rfl hown B (some ad) n c xs rfl hra h1 (by unfold maxLen; omega) (by omega) (by simp) ?_); intro v1 w2 hown1 hg1 hat1)
    go_ret
    refine ⟨v1, rfl, by simpa using hown1, ((Below.refl _ _).alloc (Nat.le_refl _) _).grown hg1 (by simp) (fun k hk => ?_)⟩
    simp [Value.ownBlock] at hk
    omega
set_option maxRecDepth 100000 in
theorem insB_end (x : Int) (s : ByteArray) (g c : Nat) (w : World) (base n : Nat) (A0 : Option Addr) (c0 : Nat) (xs : List Value) (hown : w.ownsRow base 87 2 (.slice A0 n c0) n xs) (hb : base ≤ w.heap.size) (hn : n ≤ 5000000000000)
    (h0 : w.cell? ⟨g, 0, none⟩ = some (.int .i64 x)) (h1 : w.cell? ⟨g, 1, none⟩ = some (.string s)) :
    Calls Try.prog 56 #[.slice A0 n c0, .int .i64 n, .slice (some ⟨g, 0, none⟩) 1 c] w fun e w' => ∃ v, e = .returned v ∧ w'.ownsRow base 87 2 v (n + 1) (xs ++ [.int .i64 x, .string s]) ∧ w.grownBy w' (Value.slice A0 n c0).ownBlock := by
  obtain ⟨i0, hi0, hz0, hz1, hz2⟩ := info_parts Try.infoB
  obtain ⟨hc, hm, _⟩ := own_reads hown
  unfold maxLen at hm
  have hnew : ∀ (j : Nat) (u : Value), ([.int .i64 x, .string s] : List Value)[j]? = some u → w.cell? ((⟨g, 0, none⟩ : Addr).add j) = some u := by
    intro j u hu
    rcases j with _ | _ | j
    · cases hu; exact h0
    · cases hu; exact h1
    · simp at hu
  by_cases hcn : c0 = n
  · subst hcn
    go_enter Try.func56, Try.ntmps56
    go_wp2_with (at_builtin; refine wpList_append_own _ rfl _ _ 22 rfl base 87 i0 (.agg #[.int .i64 0, .string ByteArray.empty]) 2 24 Try.underlying22 hi0 hz0 hz1 hz2 rfl (by decide) (.slice A0 c0 c0) c0 xs rfl hown ⟨g, 0, none⟩ 1 c [.int .i64 x, .string s] rfl rfl hnew (by simp [Value.oneCell']) (by unfold maxLen; omega) (by omega) hb ?_)
    intro v1 w1 hown1 hg1 _
    go_wp2_with fail
    go_ret
    exact ⟨v1, rfl, hown1, hg1⟩
  · go_enter Try.func56, Try.ntmps56
    go_wp2_with (at_builtin; refine wpList_append_own _ rfl _ _ 22 rfl base 87 i0 (.agg #[.int .i64 0, .string ByteArray.empty]) 2 24 Try.underlying22 hi0 hz0 hz1 hz2 rfl (by decide) (.slice A0 n c0) n xs rfl hown ⟨g, 0, none⟩ 1 c [.int .i64 x, .string s] rfl rfl hnew (by simp [Value.oneCell']) (by unfold maxLen; omega) (by omega) hb ?_)
    intro v1 w1 hown1 hg1 _
    go_wp2_with fail
    go_ret
    exact ⟨v1, rfl, hown1, hg1⟩
def S16 : List UInt8 := [48, 49, 50, 51, 52, 53, 54, 55, 56, 57, 97, 98, 99, 100, 101, 102]
def Put11 (w : World) (e : Ending) (w' : World) : Prop := ∃ v, e = .returned (.tuple #[v, .int .i64 0]) ∧ w'.ownsRow w.heap.size 87 2 v 1 (bcells [(3, S16)]) ∧ Below w.heap.size w w'
set_option maxRecDepth 100000 in
set_option maxHeartbeats 1000000 in
theorem putB_nil (w : World) :
    Calls Try.prog 37 #[.slice none 0 0, .int .i64 3, .string ⟨#[48, 49, 50, 51, 52, 53, 54, 55, 56, 57, 97, 98, 99, 100, 101, 102]⟩] w (Put11 w) := by
  have hck := checkBk_any [] 0 rfl none 0 w w.heap.size Reads.none_ (Nat.le_refl _) (by omega)
  rw [show okE [] = 0 from rfl] at hck
  go_enter Try.func37, Try.ntmps37
  go_wp2_with fail
  refine hck.mono ?_
  clear hck
  rintro e w1 ⟨rfl, hb1⟩
  go_wp2_with fail
  refine (search_nil _ _ _).mono ?_
  rintro e w2 ⟨rfl, q, rfl⟩
  go_wp2_with fail
  refine (cloneB_any [] 0 none 0 _ _ Reads.none_ (Nat.le_refl _) (by simp) (by omega)).mono ?_
  rintro e w3 ⟨v3, rfl, hown3, hb3⟩
  obtain ⟨A3, c3, rfl, _, _, _⟩ := own_form hown3
  have hs1 := hb1.size
  have hs3 : w1.heap.size ≤ w3.heap.size := hb3.size
  have hown4 := hown3.alloc (.cells #[.int .i64 3, .string ⟨#[48, 49, 50, 51, 52, 53, 54, 55, 56, 57, 97, 98, 99, 100, 101, 102]⟩] 87)
  have hnew := (Blk.new w3 87 #[.int .i64 3, .string ⟨#[48, 49, 50, 51, 52, 53, 54, 55, 56, 57, 97, 98, 99, 100, 101, 102]⟩]).cell
  have hbb := (hb1.trans (below_drewN (Below.refl _ w1) q)).trans (hb3.mono hs1)
  go_wp2_with fail
  refine (insB_end 3 _ w3.heap.size 1 _ _ 0 A3 c3 [] hown4 (by show w1.heap.size ≤ _; simp; omega) (by omega) (hnew 0) (hnew 1)).mono ?_
  rintro e w4 ⟨v4, rfl, hown5, hg⟩
  go_wp2_with fail
  go_ret2
  exact ⟨v4, rfl, own_mono hown5 hs1, (hbb.alloc (by omega) _).grown hg (by simp; omega) (fun k hk => by have := (hown4.lt k hk).1; have h2 : (w1.drewN q).heap.size = w1.heap.size := rfl; omega)⟩

end Go.Proofs.Ytcbeadldieeceaa

/-
  slices.BinarySearchFunc at elements of 2 cells, by its contract.
-/
namespace Go.Proofs.Ytcbeadldieeceaa
open Go.RowKit

set_option maxRecDepth 100000 in
set_option maxHeartbeats 1000000 in
theorem searchB_any {α : Type} (f0 f1 : α → Value) (cf : α → Int) (l : List α) (hl : SignAsc cf l) (n : Nat) (hnl : n = l.length) (A : Option Addr) (c : Nat) (tgt : Value) (w : World) (B : Nat)
    (hr : Reads w B 2 A n (cellsK (fun x => [f0 x, f1 x]) l)) (hB : B ≤ w.heap.size) (hn : n ≤ 5000000000000)
    (hcmp : ∀ x W, Below w.heap.size w W → Calls Try.prog 55 #[.agg #[f0 x, f1 x], tgt] W fun e W' => e = .returned (.int .i64 (cf x)) ∧ Below W.heap.size W W') :
    Calls Try.prog 54 #[.slice A n c, tgt, .func (.func 55) #[] #[]] w fun e w' => e = .returned (.tuple #[.int .i64 (posF cf l), .bool (atF cf l)]) ∧ Below w.heap.size w w' := by
  have HN := Lib.hid hnl
  have HL := Lib.hid hl
  have HC := Lib.hid hcmp
  clear hnl hl hcmp
  go_enter Try.func54, Try.ntmps54
  go_wp2_with fail
  go_loopw [9, 10] (fun i j wr => ∃ a b : Nat, a ≤ b ∧ b ≤ n ∧ i = .int .i64 (a : Int) ∧ j = .int .i64 (b : Int) ∧ Hid ((∀ (k : Nat) (x : α), k < a → l[k]? = some x → cf x < 0) ∧ ∀ (k : Nat) (x : α), b ≤ k → l[k]? = some x → 0 ≤ cf x) ∧ Below w.heap.size w wr) (fun i j _ => (intOf j).toNat - (intOf i).toNat)
  case atStart => exact ⟨0, n, Nat.zero_le _, Nat.le_refl _, rfl, rfl, ⟨fun k x hk _ => by omega, fun k x hk hx => by have := (List.getElem?_eq_some_iff.1 hx).1; have := HN.out; omega⟩, Below.refl _ _⟩
  case round =>
    obtain ⟨a, b, hab, hbn, rfl, rfl, hI, hbw⟩ := hrel
    by_cases hlt : a < b
    · obtain ⟨h, hh⟩ : ∃ h, h = (a + b) / 2 := ⟨_, rfl⟩
      have hha : a ≤ h := by omega
      have hhb : h < b := by omega
      have hlI : (a : Int) < (b : Int) := by omega
      have hrw := hr.below (hbw.mono hB)
      obtain ⟨ad, rfl, hadB, c0, c1⟩ := hrw.el2 HN.out (show h < n by omega)
      obtain ⟨x, hx⟩ : ∃ x, x = l[h]'(by have := HN.out; omega) := ⟨_, rfl⟩
      rw [← hx] at c0 c1
      have HX := Lib.hid (show l[h]? = some x by rw [hx]; exact List.getElem?_eq_getElem _)
      have HH := Lib.hid hh
      have hcx := HC.out x wr hbw
      obtain ⟨z, hz⟩ : ∃ z, z = cf x := ⟨_, rfl⟩
      rw [← hz] at hcx
      have HZ := Lib.hid hz
      clear hx hr hz
      rw [hh] at c0 c1
      clear hh
      go_wp2_with fail
      refine hcx.mono ?_
      clear hcx
      rintro e w1 ⟨rfl, hb1⟩
      have hbw1 := hbw.trans (hb1.mono hbw.size)
      by_cases hz0 : z < 0
      · go_wp2_with fail
        go_roundw
        case rel =>
          refine ⟨h + 1, b, by omega, hbn, by rw [HH.out]; go_num, rfl, ⟨fun k y hk hy => ?_, hI.out.2⟩, hbw1⟩
          by_cases hkh : k = h
          · subst hkh
            have := HX.out
            rw [hy] at this
            cases this
            have := HZ.out
            omega
          · exact HL.out k h y x (by omega) hy HX.out (by have := HZ.out; omega)
        case measure => simp [intOf]; omega
      · go_wp2_with fail
        go_roundw
        case rel =>
          refine ⟨a, h, by omega, by omega, rfl, by rw [HH.out]; go_num, ⟨hI.out.1, fun k y hk hy => ?_⟩, hbw1⟩
          by_cases hkh : k = h
          · subst hkh
            have := HX.out
            rw [hy] at this
            cases this
            have := HZ.out
            omega
          · have h1 := HL.out h k x y (by omega) HX.out hy
            have := HZ.out
            omega
        case measure => simp [intOf]; omega
    · obtain rfl : a = b := by omega
      have hpos : posF cf l = a := posF_eq cf l a (by have := HN.out; omega) hI.out.1 (fun x hx => hI.out.2 a x (Nat.le_refl _) hx)
      have hrw := hr.below (hbw.mono hB)
      by_cases han : a < n
      · obtain ⟨ad, rfl, hadB, c0, c1⟩ := hrw.el2 HN.out han
        obtain ⟨x, hx⟩ : ∃ x, x = l[a]'(by have := HN.out; omega) := ⟨_, rfl⟩
        rw [← hx] at c0 c1
        have hat : atF cf l = (cf x == 0) := by
          unfold atF
          rw [hpos, List.getElem?_eq_getElem (by have := HN.out; omega), ← hx]
          rfl
        have hcx := HC.out x wr hbw
        obtain ⟨z, hz⟩ : ∃ z, z = cf x := ⟨_, rfl⟩
        rw [← hz] at hcx hat
        have HZ := Lib.hid hz
        have HPOS := Lib.hid hpos
        have HAT := Lib.hid hat
        clear hx hr hrw hpos hat hz
        go_wp2_with fail
        refine hcx.mono ?_
        clear hcx
        rintro e w1 ⟨rfl, hb1⟩
        have hbw1 := hbw.trans (hb1.mono hbw.size)
        go_wp2_with fail
        go_ret2
        exact ⟨by rw [HPOS.out, HAT.out]; rfl, hbw1⟩
      · have hat : atF cf l = false := by
          unfold atF
          rw [hpos, List.getElem?_eq_none (by have := HN.out; omega)]
          rfl
        have HPOS := Lib.hid hpos
        have HAT := Lib.hid hat
        clear hr hrw hpos hat
        go_wp2_with fail
        go_ret2
        exact ⟨by rw [HPOS.out, HAT.out]; rfl, hbw⟩
end Go.Proofs.Ytcbeadldieeceaa

/-
  slices.Insert of one element into a row of the call's own, by its contract.
-/
namespace Go.Proofs.Ytcbeadldieeceaa
open Go.RowKit

theorem Try.insBk_info : (Try.prog.info? 87).map (fun i => (i.zero, i.size, i.bytes)) = some (some (.agg #[.int .i64 0, .string ByteArray.empty]), 2, 24) := by kernel_rfl
theorem Try.insBk_size : (Try.prog.info? 87).map (·.size) = some 2 := by kernel_rfl
theorem Try.insBk_ov : Try.prog.funcs[76]? = some Try.f76 := by kernel_rfl

section
variable (news : Array Value) (hnl : news.size = 2) (h1n : ∀ u ∈ news.toList, u.oneCell' = true) (xs : List Value) (h1x : ∀ u ∈ xs, u.oneCell' = true) (vb : Nat) (T : TypeId) (base n i : Nat)
set_option maxRecDepth 100000 in
include hnl h1n h1x in
theorem insBk_shift (g c0 : Nat) (w : World) (cur : List Value) (hlt : i < n) (hroom : n + 1 ≤ c0) (hcm : c0 ≤ maxLen) (hg : w.heap[g]? = some (.cells cur.toArray 87 (0, 0))) (hcl : cur.length = c0 * 2) (hxs : cur.take (n * 2) = xs) (hbg : base ≤ g) (hv : Blk w vb T news) (hne : g ≠ vb) :
    Calls Try.prog 56 #[.slice (some ⟨g, 0, none⟩) n c0, .int .i64 i, .slice (some ⟨vb, 0, none⟩) 1 1] w fun e w' =>
      ∃ v, e = .returned v ∧ w'.ownsRow base 87 2 v (n + 1) (xs.take (i * 2) ++ news.toList ++ xs.drop (i * 2)) ∧ w.grownBy w' (some g) := by
  have hxl : xs.length = n * 2 := by rw [← hxs, List.length_take, hcl]; omega
  have hsb := shape_of hg
  have hsa := shape_of hv
  have HX2 := Lib.hid (show ∀ (j : Nat) (u : Value), (xs.drop (i * 2))[j]? = some u → w.cell? ((⟨g, i * 2, none⟩ : Addr).add j) = some u from fun j u hj => by
    rw [List.getElem?_drop] at hj
    have e : (⟨g, i * 2, none⟩ : Addr).add j = ⟨g, i * 2 + j, none⟩ := by unfold Addr.add; split <;> simp_all
    rw [e, Blk.cell (t := 87) hg, ← hj, ← hxs, List.getElem?_take, if_pos (by have := (List.getElem?_eq_some_iff.1 hj).1; omega)]
    simp)
  have HV := Lib.hid (show ∀ (w' : World), w.grownBy w' (some g) → ∀ (j : Nat) (u : Value), news.toList[j]? = some u → w'.cell? ((⟨vb, 0, none⟩ : Addr).add j) = some u from fun w' hg' j u hj => by
    rw [addr_add0, (hv.grown hg' (by intro e; injection e with e; exact hne e.symm)).cell j]
    simpa using hj)
  have hov : ∀ lb cb, (callFunc 76 #[.slice (some ⟨vb, 0, none⟩) 1 1, .slice (some ⟨g, (i + 1) * 2, none⟩) lb cb]).run Try.prog w = .ok (.value (.bool false)) w := fun lb cb => by
    rw [run_callFunc_extern Try.insBk_ov (by kernel_rfl) (by kernel_rfl) (by kernel_rfl) (e := Extern.SlicesOverlaps.overlaps #[22, 22] #[4]) (by kernel_rfl),
      Lib.run_overlaps_apart w 22 4 87 Try.underlying22 2 (by intro w; exact Try.sizeOf87 w) ⟨vb, 0, none⟩ ⟨g, (i + 1) * 2, none⟩ 1 1 lb cb (fun e => hne e.symm) T 87 news.size cur.toArray.size hsa hsb (by rw [List.size_toArray, hcl]; omega) (hv.frozen 0) (by rw [hnl]; exact hv.frozen 2)]
    rfl
  have HG := Lib.hid hg
  have HXS := Lib.hid hxs
  have HCL := Lib.hid hcl
  have HXL := Lib.hid hxl
  have HN := Lib.hid hnl
  unfold maxLen at hcm
  have hw1 : IntKind.i64.wrap ((i : Int) + 1) = (i : Int) + 1 := by rw [IntKind.wrap_i64]; omega
  have hb1 : (0 : Int) ≤ (i : Int) + 1 := by omega
  have hin : i ≤ n := by omega
  have htn : ((i : Int) + 1).toNat = i + 1 := by omega
  have hb2 : ¬ (c0 = i + 1) := by omega
  have hb3 : (i : Int) ≤ (n : Int) + 1 := by omega
  have hb4 : ¬ (c0 = i) := by omega
  clear hg hxs hcl hxl hsa hsb hnl hv
  go_enter Try.func56, Try.ntmps56
  go_wp2_with (simp only [hov])
  go_region_law (refine step_copyK rfl _ _ 22 22 rfl 87 2 Try.underlying22 Try.insBk_size g ((i + 1) * 2) (n - i) (c0 - (i + 1)) ⟨g, i * 2, none⟩ (n + 1 - i) (c0 - i) (n - i) (by simp [Act.eval, Act.put]) (by simp [Act.eval, Act.put]) cur 87 HG.out (xs.drop (i * 2)) (by simp only [Nat.min_def]; split <;> omega) (by rw [List.length_drop, HXL.out]; omega) HX2.out (by rw [List.length_drop, HXL.out, HCL.out]; omega) (fun u hu => h1x u (List.mem_of_mem_drop hu)) ?_; intro w1 hg1 hgr1)
  have hgr1' := grown_drew hgr1
  obtain ⟨cur1, hc1⟩ : ∃ cur1, cur1 = splice cur ((i + 1) * 2) (xs.drop (i * 2)) := ⟨_, rfl⟩
  rw [← hc1] at hg1
  have hl1 : cur1.length = c0 * 2 := by rw [hc1, length_splice _ _ _ (by rw [List.length_drop, HXL.out, HCL.out]; omega)]; exact HCL.out
  have HL1 := Lib.hid hl1
  have HC1 := Lib.hid hc1
  have HGR := Lib.hid hgr1'
  clear hl1 hc1 hgr1 hgr1' hov hw1 htn
  go_wp2_with (with_reducible refine wpList_copyK rfl (.tmp 80) (.tmp 81) 22 22 rfl 87 2 Try.underlying22 Try.insBk_size g (i * 2) (n + 1 - i) (c0 - i) ⟨vb, 0, none⟩ 1 1 1 rfl rfl cur1 87 hg1.out news.toList (by simp only [Nat.min_def]; split <;> omega) (by rw [Array.length_toList, HN.out]) (HV.out w1 HGR.out) (by rw [Array.length_toList, HN.out, HL1.out]; omega) h1n ?_; intro w2 hg2 hgr2)
  go_ret
  refine ⟨_, rfl, ?_, HGR.out.trans hgr2⟩
  refine own_of_row hg2.out hbg hroom (by unfold maxLen; exact hcm) ?_ ?_
  · rw [length_splice _ _ _ (by rw [Array.length_toList, HN.out, HL1.out]; omega)]; exact HL1.out
  · rw [HC1.out, show (n + 1) * 2 = n * 2 + 2 by omega, show (i + 1) * 2 = i * 2 + 2 by omega]
    exact take_shift HXS.out (by omega) (by rw [Array.length_toList, HN.out]) (by rw [HCL.out]; omega)
set_option maxRecDepth 100000 in
include hnl h1n h1x in
theorem insBk_grow (g : Nat) (w : World) (cur : List Value) (hlt : i < n) (hn : n ≤ 5000000000000) (hg : w.heap[g]? = some (.cells cur.toArray 87 (0, 0))) (hcl : cur.length = n * 2) (hxs : cur.take (n * 2) = xs) (hb : base ≤ w.heap.size) (hv : Blk w vb T news) :
    Calls Try.prog 56 #[.slice (some ⟨g, 0, none⟩) n n, .int .i64 i, .slice (some ⟨vb, 0, none⟩) 1 1] w fun e w' =>
      ∃ v, e = .returned v ∧ w'.ownsRow base 87 2 v (n + 1) (xs.take (i * 2) ++ news.toList ++ xs.drop (i * 2)) ∧ w.grownBy w' none := by
  obtain ⟨i0, hi0, hz0, hzs, hzb⟩ := info_parts Try.insBk_info
  have hxl : xs.length = n * 2 := by rw [← hxs, List.length_take, hcl]; omega
  have hgl := heap_lt hg
  have hvl := hv.lt
  have hold : (Builtin.firstCells i0.size i (.slice (some ⟨g, 0, none⟩) i n)).run Try.prog w.drew = .ok (xs.take (i * 2)).toArray w.drew := by
    rw [hzs]
    exact run_firstCells_some w.drew 2 i ⟨g, 0, none⟩ i n (xs.take (i * 2)) (by rw [List.length_take, hxl]; omega) (fun j v hj => by
      rw [addr_add0]
      rw [List.getElem?_take] at hj
      split at hj
      · have : (w.drew).cell? ⟨g, j, none⟩ = cur.toArray[j]? := Blk.cell (t := 87) hg j
        rw [this, ← hj, ← hxs, List.getElem?_take, if_pos (by omega)]
        simp
      · cases hj)
  have hkk : (n : Int) + 1 - (i : Int) = ((n + 1 - i : Nat) : Int) := by omega
  have hik : i + (n + 1 - i) = n + 1 := by omega
  have hrz : ∀ ty, (Builtin.append_ #[22, 3] ty #[.slice (some ⟨g, 0, none⟩) i n, .int .i64 ((n : Int) + 1 - (i : Int))]).run Try.prog w =
      .ok (.slice (some ⟨w.heap.size, 0, none⟩) (n + 1) (grownCap w (n + 1) n 87)) (w.drew.alloc (.cells ((xs.take (i * 2)).toArray ++ Builtin.zeroCells (Value.cells (.agg #[.int .i64 0, .string ByteArray.empty])) (n + 1 - i) ++ Builtin.zeroCells (Value.cells (.agg #[.int .i64 0, .string ByteArray.empty])) (grownCap w (n + 1) n 87 - (n + 1))) 87)) := fun ty => by
    have h := Lib.run_append_grow_zeros w 22 3 ty 87 i0 _ .i64 .i64 Try.underlying22 Try.underlying3 hi0 hz0 (some ⟨g, 0, none⟩) i n (xs.take (i * 2)) hold (n + 1 - i) (by omega) (by rw [hzs]; omega) (by omega) (by omega) (by rw [hzb]; omega) (by rw [hzb, hik]; exact growslice_fits (by omega) (by omega))
    rw [hik] at h
    rw [hkk]
    exact h
  obtain ⟨G, hG⟩ : ∃ G, G = grownCap w (n + 1) n 87 := ⟨_, rfl⟩
  have hGn : n + 1 ≤ G := by rw [hG]; exact grownCap_ge w _ _ _
  have hGm : G ≤ maxLen := by rw [hG]; exact grownCap_le_maxLen w (n + 1) n 87 (by unfold maxLen; omega)
  obtain ⟨ROW, hROW⟩ : ∃ ROW : List Value, ROW = xs.take (i * 2) ++ ((Builtin.zeroCells (Value.cells (.agg #[.int .i64 0, .string ByteArray.empty])) (n + 1 - i)).toList ++ (Builtin.zeroCells (Value.cells (.agg #[.int .i64 0, .string ByteArray.empty])) (G - (n + 1))).toList) := ⟨_, rfl⟩
  have hRA : (xs.take (i * 2)).toArray ++ Builtin.zeroCells (Value.cells (.agg #[.int .i64 0, .string ByteArray.empty])) (n + 1 - i) ++ Builtin.zeroCells (Value.cells (.agg #[.int .i64 0, .string ByteArray.empty])) (G - (n + 1)) = ROW.toArray := by
    rw [hROW]
    apply Array.toList_inj.1
    simp
  rw [← hG, hRA] at hrz
  have hRl : ROW.length = G * 2 := by
    rw [hROW]
    simp [Builtin.zeroCells, Value.cells, hxl]
    omega
  have hRt : ROW.take (i * 2) = xs.take (i * 2) := by
    rw [hROW, List.take_append_of_le_length (by rw [List.length_take, hxl]; omega), List.take_take, Nat.min_self]
  obtain ⟨W1, hW1⟩ : ∃ W1, W1 = w.drew.alloc (.cells ROW.toArray 87) := ⟨_, rfl⟩
  rw [← hW1] at hrz
  have hrow : W1.heap[w.heap.size]? = some (.cells ROW.toArray 87 (0, 0)) := by rw [hW1]; exact heap_alloc_new w.drew _
  have hgr0 : w.grownBy W1 none := by
    rw [hW1]
    exact ⟨rfl, rfl, rfl, by simp, fun k hk _ => Below.heap_alloc w.drew _ k hk⟩
  have HX2 := Lib.hid (show ∀ (W : World), W.heap[g]? = w.heap[g]? → ∀ (j : Nat) (u : Value), (xs.drop (i * 2))[j]? = some u → W.cell? ((⟨g, i * 2, none⟩ : Addr).add j) = some u from fun W hW j u hj => by
    rw [List.getElem?_drop] at hj
    have e : (⟨g, i * 2, none⟩ : Addr).add j = ⟨g, i * 2 + j, none⟩ := by unfold Addr.add; split <;> simp_all
    rw [e, Blk.cell (w := W) (t := 87) (hW.trans hg), ← hj, ← hxs, List.getElem?_take, if_pos (by have := (List.getElem?_eq_some_iff.1 hj).1; omega)]
    simp)
  have HV := Lib.hid (show ∀ (w' : World), w.grownBy w' none → ∀ (j : Nat) (u : Value), news.toList[j]? = some u → w'.cell? ((⟨vb, 0, none⟩ : Addr).add j) = some u from fun w' hg' j u hj => by
    rw [addr_add0, (hv.grown hg' (by simp)).cell j]
    simpa using hj)
  have HXS := Lib.hid hxs
  have HCL := Lib.hid hcl
  have HXL := Lib.hid hxl
  have HN := Lib.hid hnl
  have HROW := Lib.hid hrow
  have HRL := Lib.hid hRl
  have HRT := Lib.hid hRt
  have HGR0 := Lib.hid hgr0
  unfold maxLen at hGm
  have hw1 : IntKind.i64.wrap ((i : Int) + 1) = (i : Int) + 1 := by rw [IntKind.wrap_i64]; omega
  have hb1 : (0 : Int) ≤ (i : Int) + 1 := by omega
  have hin : i ≤ n := by omega
  have htn : ((i : Int) + 1).toNat = i + 1 := by omega
  have hb3 : (i : Int) ≤ (n : Int) := by omega
  have hGi : ¬ (G = i) := by omega
  have hGim : ¬ (G = i + 1) := by omega
  have hci : ¬ (n = i) := by omega
  clear hg hxs hcl hxl hnl hv hold hkk hik hG hRA hROW hRl hRt hrow hgr0 hW1 hi0 hz0 hzs hzb
  go_enter Try.func56, Try.ntmps56
  go_wp2_with (first
    | (at_builtin; refine Lib.wpList_append_run _ rfl _ _ _ _ rfl _ _ rfl rfl _ _ (hrz _) ?_)
    | (with_reducible refine wpList_copyK rfl (.tmp 43) (.tmp 44) 22 22 rfl 87 2 Try.underlying22 Try.insBk_size w.heap.size (i * 2) (n + 1 - i) (G - i) ⟨vb, 0, none⟩ 1 1 1 rfl rfl ROW 87 HROW.out news.toList (by simp only [Nat.min_def]; split <;> omega) (by rw [Array.length_toList, HN.out]) (HV.out W1 HGR0.out) (by rw [Array.length_toList, HN.out, HRL.out]; omega) h1n ?_; intro w1 hg1 hgr1))
  clear hrz
  have hgr1' := grown_fresh HGR0.out hgr1 (Nat.le_refl _)
  obtain ⟨row1, hr1⟩ : ∃ row1, row1 = splice ROW (i * 2) news.toList := ⟨_, rfl⟩
  rw [← hr1] at hg1
  have hl1 : row1.length = G * 2 := by rw [hr1, length_splice _ _ _ (by rw [Array.length_toList, HN.out, HRL.out]; omega)]; exact HRL.out
  have HL1 := Lib.hid hl1
  have HR1 := Lib.hid hr1
  have HGR := Lib.hid hgr1'
  clear hl1 hr1 hgr1 hgr1'
  go_region_law (refine step_copyK rfl _ _ 22 22 rfl 87 2 Try.underlying22 Try.insBk_size w.heap.size ((i + 1) * 2) (n - i) (G - (i + 1)) ⟨g, i * 2, none⟩ (n - i) (n - i) (n - i) (by simp [Act.eval, Act.put]) (by simp [Act.eval, Act.put]) row1 87 hg1.out (xs.drop (i * 2)) (by simp only [Nat.min_def]; split <;> omega) (by rw [List.length_drop, HXL.out]; omega) (HX2.out w1.drew (HGR.out.block g hgl (by simp))) (by rw [List.length_drop, HXL.out, HL1.out]; omega) (fun u hu => h1x u (List.mem_of_mem_drop hu)) ?_; intro w2 hg2 hgr2)
  go_wp2_with fail
  go_ret
  refine ⟨_, rfl, ?_, grown_fresh HGR.out (grown_drew hgr2) (Nat.le_refl _)⟩
  refine own_of_row hg2.out hb hGn (by unfold maxLen; exact hGm) ?_ ?_
  · rw [length_splice _ _ _ (by rw [List.length_drop, HXL.out, HL1.out]; omega)]; exact HL1.out
  · rw [HR1.out, show (n + 1) * 2 = i * 2 + 2 + (n - i) * 2 by omega, show (i + 1) * 2 = i * 2 + 2 by omega]
    exact take_grow HRT.out (by rw [List.length_take, HXL.out]; omega) (by rw [Array.length_toList, HN.out]) (by rw [List.length_drop, HXL.out]; omega)
set_option maxRecDepth 100000 in
include hnl h1n in
theorem insBk_end (A0 : Option Addr) (c0 : Nat) (w : World) (hown : w.ownsRow base 87 2 (.slice A0 n c0) n xs) (hb : base ≤ w.heap.size) (hn : n ≤ 5000000000000) (hv : Blk w vb T news) :
    Calls Try.prog 56 #[.slice A0 n c0, .int .i64 n, .slice (some ⟨vb, 0, none⟩) 1 1] w fun e w' =>
      ∃ v, e = .returned v ∧ w'.ownsRow base 87 2 v (n + 1) (xs ++ news.toList) ∧ w.grownBy w' (Value.slice A0 n c0).ownBlock := by
  obtain ⟨i0, hi0, hz0, hz1, hz2⟩ := info_parts Try.insBk_info
  obtain ⟨hc, hm, _⟩ := own_reads hown
  unfold maxLen at hm
  have HN := Lib.hid hnl
  have HNEW := Lib.hid (show ∀ (j : Nat) (u : Value), news.toList[j]? = some u → w.cell? ((⟨vb, 0, none⟩ : Addr).add j) = some u from fun j u hj => by rw [addr_add0, hv.cell j]; simpa using hj)
  clear hnl hv
  by_cases hcn : c0 = n
  · subst hcn
    go_enter Try.func56, Try.ntmps56
    go_wp2_with (at_builtin; refine wpList_append_own _ rfl _ _ 22 rfl base 87 i0 (.agg #[.int .i64 0, .string ByteArray.empty]) 2 24 Try.underlying22 hi0 hz0 hz1 hz2 rfl (by decide) (.slice A0 c0 c0) c0 xs rfl hown ⟨vb, 0, none⟩ 1 1 news.toList rfl (by rw [Array.length_toList, HN.out]) HNEW.out h1n (by unfold maxLen; omega) (by omega) hb ?_)
    intro v1 w1 hown1 hg1 _
    go_wp2_with fail
    go_ret
    exact ⟨v1, rfl, hown1, hg1⟩
  · go_enter Try.func56, Try.ntmps56
    go_wp2_with (at_builtin; refine wpList_append_own _ rfl _ _ 22 rfl base 87 i0 (.agg #[.int .i64 0, .string ByteArray.empty]) 2 24 Try.underlying22 hi0 hz0 hz1 hz2 rfl (by decide) (.slice A0 n c0) n xs rfl hown ⟨vb, 0, none⟩ 1 1 news.toList rfl (by rw [Array.length_toList, HN.out]) HNEW.out h1n (by unfold maxLen; omega) (by omega) hb ?_)
    intro v1 w1 hown1 hg1 _
    go_wp2_with fail
    go_ret
    exact ⟨v1, rfl, hown1, hg1⟩
include hnl h1n h1x in
/-- one element put in at a place -/
theorem insBk_any (A0 : Option Addr) (c0 : Nat) (w : World) (hi : i ≤ n) (hown : w.ownsRow base 87 2 (.slice A0 n c0) n xs) (hb : base ≤ w.heap.size) (hn : n ≤ 5000000000000) (hv : Blk w vb T news) (hne : (Value.slice A0 n c0).ownBlock ≠ some vb) :
    Calls Try.prog 56 #[.slice A0 n c0, .int .i64 i, .slice (some ⟨vb, 0, none⟩) 1 1] w fun e w' =>
      ∃ v, e = .returned v ∧ w'.ownsRow base 87 2 v (n + 1) (xs.take (i * 2) ++ news.toList ++ xs.drop (i * 2)) ∧ w.grownBy w' (Value.slice A0 n c0).ownBlock := by
  by_cases hin : i = n
  · subst hin
    rw [List.take_of_length_le (by rw [hown.1]; exact Nat.le_refl _), List.drop_eq_nil_of_le (by rw [hown.1]; exact Nat.le_refl _), List.append_nil]
    exact insBk_end news hnl h1n xs vb T base i A0 c0 w hown hb hn hv
  · rcases hown.2 with ⟨_, h0⟩ | ⟨g, cap, cur, hs, hbg, hh, hnc, hcm, hsz, hx⟩
    · omega
    · injection hs with e1 _ e2
      subst e1 e2
      by_cases hroom : n + 1 ≤ c0
      · exact (insBk_shift news hnl h1n xs h1x vb T base n i g c0 w cur.toList (by omega) hroom hcm (by simpa using hh) (by simpa using hsz) hx hbg hv (fun e => hne (by rw [e]; rfl))).mono (fun e w' h => h)
      · obtain rfl : c0 = n := by omega
        refine (insBk_grow news hnl h1n xs h1x vb T base c0 i g w cur.toList (by omega) hn (by simpa using hh) (by simpa using hsz) hx hb hv).mono ?_
        rintro e w' ⟨v, h1, h2, h3⟩
        exact ⟨v, h1, h2, ⟨h3.os, h3.tape, h3.output, h3.size, fun k hk _ => h3.block k hk (by simp)⟩⟩
end
end Go.Proofs.Ytcbeadldieeceaa

/-
  blocks.Put, by its contract.
-/
namespace Go.Proofs.Ytcbeadldieeceaa
open Go.RowKit

def cmpI (x y : Int) : Int := if x < y then -1 else if y < x then 1 else 0
theorem cmpI_neg (x y : Int) : cmpI x y < 0 ↔ x < y := by unfold cmpI; split <;> (try split) <;> omega
theorem cmpI_zero (x y : Int) : cmpI x y = 0 ↔ x = y := by unfold cmpI; split <;> (try split) <;> omega
set_option maxRecDepth 100000 in
theorem isNaN_any (x : Int) (w : World) : Calls Try.prog 95 #[.int .i64 x] w fun e w' => e = .returned (.bool false) ∧ ∃ q, w' = w.drewN q := by
  go_enter Try.func95, Try.ntmps95
  go_wp2_with fail
  go_ret
  exact ⟨rfl, 0, rfl⟩
set_option maxRecDepth 100000 in
theorem compare_any (x y : Int) (w : World) : Calls Try.prog 75 #[.int .i64 x, .int .i64 y] w fun e w' => e = .returned (.int .i64 (cmpI x y)) ∧ ∃ q, w' = w.drewN q := by
  go_enter Try.func75, Try.ntmps75
  go_wp2_with fail
  refine (isNaN_any x _).mono ?_
  rintro e w1 ⟨rfl, q1, rfl⟩
  go_wp2_with fail
  refine (isNaN_any y _).mono ?_
  rintro e w1 ⟨rfl, q2, rfl⟩
  by_cases h1 : x < y
  · go_wp2_with fail
    go_ret
    exact ⟨by unfold cmpI; rw [if_pos h1]; rfl, q1 + q2, rfl⟩
  · by_cases h2 : y < x
    · go_wp2_with fail
      go_ret
      exact ⟨by unfold cmpI; rw [if_neg (by omega), if_pos h2]; rfl, q1 + q2, rfl⟩
    · go_wp2_with fail
      go_ret
      exact ⟨by unfold cmpI; rw [if_neg (by omega), if_neg (by omega)]; rfl, q1 + q2, rfl⟩
set_option maxRecDepth 100000 in
theorem by_any (x : Int) (s : ByteArray) (y : Int) (w : World) : Calls Try.prog 55 #[.agg #[.int .i64 x, .string s], .int .i64 y] w fun e w' => e = .returned (.int .i64 (cmpI x y)) ∧ Below w.heap.size w w' := by
  have hb0 := (Below.refl w.heap.size w).alloc (Nat.le_refl _) (.cells #[.int .i64 x, .string s] 87)
  have hc := (Blk.new w 87 #[.int .i64 x, .string s]).cell 0
  go_enter Try.func55, Try.ntmps55
  go_wp2_with fail
  refine (compare_any x y _).mono ?_
  rintro e w2 ⟨rfl, q, rfl⟩
  go_wp2_with fail
  go_ret
  exact ⟨rfl, below_drewN hb0 q⟩

/-! ### the plain law's words -/
def Asc (l : BL) : Prop := ∀ (i j : Nat) (x y : Int × List UInt8), i < j → l[i]? = some x → l[j]? = some y → x.1 < y.1
theorem okFrom_asc (p : Option Int) (l : BL) (h : okFrom p l = true) : Asc l ∧ ∀ q, p = some q → ∀ x ∈ l, q < x.1 := by
  induction l generalizing p with
  | nil => exact ⟨fun i j x y _ h => by simp at h, fun _ _ x hx => by simp at hx⟩
  | cons z r ih =>
    simp only [okFrom, Bool.and_eq_true] at h
    obtain ⟨⟨_, h4⟩, h5⟩ := h
    obtain ⟨i1, i2⟩ := ih _ h5
    have i3 := i2 z.1 rfl
    refine ⟨fun i j x y hij hx hy => ?_, fun q hq x hx => ?_⟩
    · cases j with
      | zero => omega
      | succ j =>
        cases i with
        | zero =>
          cases hx
          exact i3 y (List.mem_of_getElem? (by simpa using hy))
        | succ i => exact i1 i j x y (by omega) (by simpa using hx) (by simpa using hy)
    · subst hq
      have h6 : q < z.1 := by simpa using h4
      rcases List.mem_cons.1 hx with rfl | hx
      · exact h6
      · have := i3 x hx
        omega
theorem okL_asc (l : BL) (h : okL l = true) : Asc l := (okFrom_asc none l h).1
def cfB (t : Int) : Int × List UInt8 → Int := fun x => cmpI x.1 t
theorem cfB_asc (l : BL) (h : Asc l) (t : Int) : SignAsc (cfB t) l := by
  intro i j x y hij hx hy hlt
  have h1 := h i j x y hij hx hy
  unfold cfB at hlt ⊢
  rw [cmpI_neg] at hlt ⊢
  omega
def putE (l : BL) (i : Int) (d : List UInt8) : Int := if okL l = true then (if 0 ≤ i ∧ i < 1024 then (if d.length = 16 then 0 else 5) else 4) else 9
def putL11 (l : BL) (i : Int) (d : List UInt8) : BL := l.take (posF (cfB i) l) ++ [(i, d)] ++ l.drop (posF (cfB i) l + if atF (cfB i) l = true then 1 else 0)
def PutPost (w : World) (l : BL) (i : Int) (d : List UInt8) (e : Ending) (w' : World) : Prop :=
  ∃ v, e = .returned (.tuple #[v, .int .i64 (putE l i d)]) ∧ (if putE l i d = 0 then w'.ownsRow w.heap.size 87 2 v (putL11 l i d).length (bcells (putL11 l i d)) else v = .slice none 0 0) ∧ Below w.heap.size w w'
theorem bcells_one (l : BL) : ∀ u ∈ bcells l, u.oneCell' = true := by
  intro u hu
  simp only [bcells, List.mem_flatMap] at hu
  obtain ⟨x, _, hx⟩ := hu
  rcases List.mem_cons.1 hx with rfl | hx
  · rfl
  · rcases List.mem_cons.1 hx with rfl | hx
    · rfl
    · cases hx
theorem bcells_take (l : BL) (k : Nat) : bcells (l.take k) = (bcells l).take (k * 2) := cellsK_take (enc := fun x : Int × List UInt8 => [.int .i64 x.1, .string ⟨x.2.toArray⟩]) (fun _ => rfl) l k
theorem bcells_drop (l : BL) (k : Nat) : bcells (l.drop k) = (bcells l).drop (k * 2) := cellsK_drop (enc := fun x : Int × List UInt8 => [.int .i64 x.1, .string ⟨x.2.toArray⟩]) (fun _ => rfl) l k
theorem set_at (l : BL) (p : Nat) (i : Int) (d : List UInt8) (h : (l[p]?).any (fun x => cfB i x == 0) = true) : (bcells l).set (p * 2 + 1) (.string ⟨d.toArray⟩) = bcells (l.take p ++ [(i, d)] ++ l.drop (p + 1)) := by
  cases hp : l[p]? with
  | none => rw [hp] at h; simp at h
  | some x =>
    rw [hp] at h
    have hx : x.1 = i := (cmpI_zero _ _).1 (by simpa [cfB] using h)
    obtain ⟨hlt, hpx⟩ := List.getElem?_eq_some_iff.1 hp
    have hl : l = l.take p ++ [x] ++ l.drop (p + 1) := by
      conv => lhs; rw [← List.take_append_drop p l]
      rw [List.drop_eq_getElem_cons hlt, hpx]
      simp
    conv => lhs; rw [hl]
    rw [bcells_append, bcells_append, bcells_append, bcells_append, List.append_assoc, List.append_assoc]
    rw [List.set_append_right _ _ (by rw [bcells_length, List.length_take]; omega), bcells_length, List.length_take, Nat.min_eq_left (by omega), show p * 2 + 1 - p * 2 = 1 by omega]
    subst hx
    rfl

set_option maxRecDepth 100000 in
set_option maxHeartbeats 2000000 in
theorem bkPut_any (l : BL) (n : Nat) (hnl : n = l.length) (A : Option Addr) (c : Nat) (i : Int) (d : List UInt8) (w : World) (B : Nat) (hr : Reads w B 2 A n (bcells l)) (hB : B ≤ w.heap.size) (hn : n ≤ 5000000000000) :
    Calls Try.prog 37 #[.slice A n c, .int .i64 i, .string ⟨d.toArray⟩] w (PutPost w l i d) := by
  have hck := checkBk_any l n hnl A c w B hr hB (by omega)
  by_cases hok : okL l = true
  · have h1 : okE l = 0 := by unfold okE; rw [if_pos hok]
    rw [h1] at hck
    by_cases hi : 0 ≤ i ∧ i < 1024
    · obtain ⟨hi1, hi2⟩ := hi
      by_cases hdl : d.length = 16
      · have hpe : putE l i d = 0 := by unfold putE; rw [if_pos hok, if_pos ⟨hi1, hi2⟩, if_pos hdl]
        have hs := okL_small l hok
        have hsr := fun w' (hb : Below w.heap.size w w') => searchB_any (fun x : Int × List UInt8 => .int .i64 x.1) (fun x => .string ⟨x.2.toArray⟩) (cfB i) l (cfB_asc l (okL_asc l hok) i) n hnl A c (.int .i64 i) w' B (hr.below (hb.mono hB)) (by have := hb.size; omega) hn (fun x W _ => by_any x.1 _ i W)
        have hcl := fun w' (hb : Below w.heap.size w w') => cloneB_any (bcells l) n A c w' B (hr.below (hb.mono hB)) (by have := hb.size; omega) (bcells_one l) hn
        have hp := posF_le (cfB i) l
        obtain ⟨p, hpp⟩ : ∃ p, p = posF (cfB i) l := ⟨_, rfl⟩
        obtain ⟨t, htt⟩ : ∃ t, t = atF (cfB i) l := ⟨_, rfl⟩
        have hpl : putL11 l i d = l.take p ++ [(i, d)] ++ l.drop (p + if t = true then 1 else 0) := by unfold putL11; rw [← hpp, ← htt]
        have hat : t = (l[p]?).any (fun x => cfB i x == 0) := by rw [htt, hpp]; rfl
        rw [← hpp, ← htt] at hsr
        have hpn : p ≤ n := by omega
        have hll : (putL11 l i d).length = if t = true then n else n + 1 := by
          rw [hpl]
          simp only [List.length_append, List.length_take, List.length_drop, List.length_cons, List.length_nil]
          cases t with
          | true =>
            have : p < l.length := by
              rcases Nat.lt_or_ge p l.length with h | h
              · exact h
              · rw [List.getElem?_eq_none h] at hat; cases hat
            simp; omega
          | false => simp; omega
        have HPE := Lib.hid hpe
        have HPL := Lib.hid hpl
        have HAT := Lib.hid hat
        have HLL := Lib.hid hll
        have HN := Lib.hid hnl
        have HD := Lib.hid hdl
        have g3a : ((d.length : Int) == 16) = true := by simp [hdl]
        have g3b : ((d.length : Int) != 16) = false := by simp [hdl]
        clear hpp htt hpl hat hll hnl hdl hpe h1 hok hr hp
        go_enter Try.func37, Try.ntmps37
        go_wp2_with fail
        refine hck.mono ?_
        clear hck
        rintro e w1 ⟨rfl, hb1⟩
        go_wp2_with fail
        refine (hsr w1 hb1).mono ?_
        clear hsr
        rintro e w2 ⟨rfl, hb2⟩
        have hb12 := hb1.trans (hb2.mono hb1.size)
        clear hb1 hb2
        go_wp2_with fail
        refine (hcl w2 hb12).mono ?_
        clear hcl
        rintro e w3 ⟨v3, rfl, hown, hb3⟩
        have hbb := hb12.trans (hb3.mono hb12.size)
        have hsz := hb12.size
        have hsz3 : w2.heap.size ≤ w3.heap.size := hb3.size
        clear hb12 hb3 g3a g3b
        cases t with
        | true =>
          have hpn' : p < n := by
            have h1 := HAT.out
            have h2 := HN.out
            rcases Nat.lt_or_ge p l.length with h | h
            · omega
            · rw [List.getElem?_eq_none h] at h1; cases h1
          rcases hown.2 with ⟨_, h0⟩ | ⟨g, cap, cur, rfl, hbg, _, _, _, _, _⟩
          · omega
          · have hst := hown.stored (p * 2 + 1) (.string ⟨d.toArray⟩)
            have hl := HAT.out
            rw [set_at l p i d hl.symm] at hst
            have hcell := (hown.cellAt (p * 2 + 1) (by omega)).trans (bcells_get l p (by have := HN.out; omega)).2
            generalize (l[p]'(by have := HN.out; omega)).2 = old at hcell
            have hfz := hown.frozenAt (p * 2 + 1)
            have hpi : (p : Int) < (n : Int) := by omega
            have HST := Lib.hid hst
            clear hl hst
            go_wp2_with fail
            go_ret2
            refine ⟨_, by rw [HPE.out]; rfl, ?_, hbb.setCell (by show _ ≤ g; omega) _⟩
            rw [if_pos HPE.out, HLL.out, HPL.out, if_pos trivial, if_pos trivial]
            exact own_mono HST.out.1 hsz
        | false =>
          obtain ⟨A3, c3, rfl, _, _, _⟩ := own_form hown
          have hown4 := hown.alloc (.cells #[.int .i64 i, .string ⟨d.toArray⟩] 87)
          have hnew := Blk.new w3 87 #[.int .i64 i, .string ⟨d.toArray⟩]
          have hins := insBk_any #[.int .i64 i, .string ⟨d.toArray⟩] rfl (by simp [Value.oneCell']) (bcells l) (bcells_one l) w3.heap.size 87 _ n p A3 c3 _ hpn hown4 (by show w2.heap.size ≤ _; simp; omega) hn hnew (fun e => by have := (hown.lt _ e).2; omega)
          have HLT := Lib.hid (fun k hk => (hown4.lt k hk).1)
          have HB2 := Lib.hid (hbb.alloc (by omega) (.cells #[.int .i64 i, .string ⟨d.toArray⟩] 87))
          clear hown4 hnew hown
          go_wp2_with fail
          refine hins.mono ?_
          clear hins
          rintro e w4 ⟨v4, rfl, hown5, hg⟩
          have HO := Lib.hid hown5
          have HG := Lib.hid hg
          clear hown5 hg
          go_wp2_with fail
          go_ret2
          refine ⟨v4, by rw [HPE.out]; rfl, ?_, HB2.out.grown HG.out (by simp; omega) (fun k hk => by have := HLT.out k hk; omega)⟩
          rw [if_pos HPE.out, HLL.out, HPL.out, if_neg (by simp), if_neg (by simp), bcells_append, bcells_append, bcells_take, bcells_drop]
          exact own_mono HO.out hsz
      · have hpe : putE l i d = 5 := by unfold putE; rw [if_pos hok, if_pos ⟨hi1, hi2⟩, if_neg hdl]
        have g3a : ((d.length : Int) == 16) = false := by simp; omega
        have g3b : ((d.length : Int) != 16) = true := by simp; omega
        have HPE := Lib.hid hpe
        clear hpe hok h1 hdl hnl hr
        go_enter Try.func37, Try.ntmps37
        go_wp2_with fail
        refine hck.mono ?_
        clear hck
        rintro e w1 ⟨rfl, hb1⟩
        go_wp2_with fail
        go_ret2
        refine ⟨_, by rw [HPE.out]; rfl, ?_, hb1⟩
        rw [HPE.out, if_neg (by decide)]; rfl
    · have hpe : putE l i d = 4 := by unfold putE; rw [if_pos hok, if_neg hi]
      have HPE := Lib.hid hpe
      clear hpe hok h1 hnl hr
      by_cases hi0 : i < 0
      · clear hi
        go_enter Try.func37, Try.ntmps37
        go_wp2_with fail
        refine hck.mono ?_
        clear hck
        rintro e w1 ⟨rfl, hb1⟩
        go_wp2_with fail
        go_ret2
        refine ⟨_, by rw [HPE.out]; rfl, ?_, hb1⟩
        rw [HPE.out, if_neg (by decide)]; rfl
      · have hi1 : 0 ≤ i := by omega
        have hi2 : 1024 ≤ i := by omega
        clear hi hi0
        go_enter Try.func37, Try.ntmps37
        go_wp2_with fail
        refine hck.mono ?_
        clear hck
        rintro e w1 ⟨rfl, hb1⟩
        go_wp2_with fail
        go_ret2
        refine ⟨_, by rw [HPE.out]; rfl, ?_, hb1⟩
        rw [HPE.out, if_neg (by decide)]; rfl
  · have h1 : okE l = 9 := by unfold okE; rw [if_neg hok]
    rw [h1] at hck
    have hpe : putE l i d = 9 := by unfold putE; rw [if_neg hok]
    have HPE := Lib.hid hpe
    clear hpe hok h1 hnl hr
    go_enter Try.func37, Try.ntmps37
    go_wp2_with fail
    refine hck.mono ?_
    clear hck
    rintro e w1 ⟨rfl, hb1⟩
    go_wp2_with fail
    go_ret2
    refine ⟨_, by rw [HPE.out]; rfl, ?_, hb1⟩
    rw [HPE.out, if_neg (by decide)]; rfl
end Go.Proofs.Ytcbeadldieeceaa
