/-
  octets.Put, by its contract.
-/
import Derived.Test.YthfjfkjlgdnohaaBackward
import Derived.RangeFuncNested
import Derived.RangeFuncFrom
import Derived.RangeFuncWrites
import Derived.Handy
namespace Go.Proofs.Ythfjfkjlgdnohaa
open Go.RowKit Go.Shelf
attribute [local go_sem] Oper.semAt_some

def toByte (v : Int) : UInt8 := UInt8.ofNat (v % 256).toNat
theorem toByte_int (v : Int) : ((toByte v).toNat : Int) = v % 256 := by
  unfold toByte
  rw [UInt8.toNat_ofNat_of_lt' (by show (v % 256).toNat < 256; omega)]
  omega
/-- what the loop makes of a row and a number -/
def putStep (s : List UInt8 × Int) (i : Nat) : List UInt8 × Int := (s.1.set i (toByte s.2), s.2 / 256)
def putF (n : Int) (k : Nat) (l : List Nat) : List UInt8 × Int := l.foldl putStep (List.replicate k 0, n)
/-- a number's octets, the highest first -/
def putL (n : Int) (k : Nat) : List UInt8 := (putF n k (bkDown k k)).1
theorem putF_length (n : Int) (k : Nat) (l : List Nat) : (putF n k l).1.length = k := by
  unfold putF
  suffices h : ∀ (l : List Nat) (s : List UInt8 × Int), (l.foldl putStep s).1.length = s.1.length by rw [h]; simp
  intro l
  induction l with
  | nil => intro s; rfl
  | cons x l ih => intro s; rw [List.foldl_cons, ih]; simp [putStep]
theorem putF_snoc (n : Int) (k : Nat) (l : List Nat) (i : Nat) : putF n k (l ++ [i]) = putStep (putF n k l) i := by simp [putF]
theorem putL_length (n : Int) (k : Nat) : (putL n k).length = k := putF_length _ _ _

theorem Try.infoU8' : (Try.prog.info? 5).map (fun i => (i.zero, i.size, i.bytes)) = some (some (.int .u8 0), 1, 1) := by kernel_rfl

theorem run_make_rowN {P : Program} (t e : TypeId) (i : TypeInfo) (z : Value) (ht : P.underlying t = some (.slice e)) (hi : P.info? e = some i) (hz : i.zero = some z)
    (kl kc : IntKind) (n c : Nat) (hnc : n ≤ c) (hbytes : i.bytes * c ≤ 281474976710656) (h63 : c ≤ 9223372036854775807) (w : World) :
    (Instr.makeSlice t (.int kl (n : Int)) (.int kc (c : Int))).run P w = .ok (.slice (some ⟨w.heap.size, 0, none⟩) n c) (w.alloc (.cells (madeCells z.cells (c * i.size)) e)) := by
  have hb : (i.bytes : Int) * (c : Int) ≤ 281474976710656 := by
    have h : ((i.bytes * c : Nat) : Int) ≤ 281474976710656 := by omega
    rwa [Int.natCast_mul] at h
  have hr := run_make (P := P) w t e i z ht hi hz kl kc n c (by omega) (by omega) hb (by omega)
  simp only [Int.toNat_natCast] at hr
  exact hr
theorem made_bytes (k : Nat) : madeCells (Value.int .u8 0).cells (k * 1) = (bts (List.replicate k 0)).toArray := by
  apply Array.ext
  · simp [madeCells, bts]
  · intro i h1 h2
    have : i % 1 = 0 := by omega
    simp [madeCells, bts, Value.cells, this]

/-- between two rounds -/
def PutI (w : World) (n : Int) (k : Nat) (l : List Nat) (W : World) : Prop :=
  Blk W w.heap.size 3 #[.int .i64 (putF n k l).2] ∧ W.heap[w.heap.size + 1]? = some (.cells (bts (putF n k l).1).toArray 5 (0, 0)) ∧ Blk W (w.heap.size + 1 + 1) 28 #[.slice (some ⟨w.heap.size + 1, 0, none⟩) k k] ∧ Below w.heap.size w W
theorem heap_kept {W W' : World} {row : Option Nat} {k : Nat} {cs : Array Value} {T : TypeId} {fr : Nat × Nat} (h : W.heap[k]? = some (.cells cs T fr)) (hg : W.grownBy W' row) (hr : ∀ r, row = some r → ∃ o : Obj, W.heap[r]? = some o ∧ o.isCells = false) : W'.heap[k]? = some (.cells cs T fr) := by
  rw [hg.block k (Array.getElem?_eq_some_iff.1 h).1 ?_]
  · exact h
  · intro e
    obtain ⟨o, ho, hc⟩ := hr k e.symm
    rw [h] at ho
    cases ho
    cases hc
theorem putI_own {w : World} {n : Int} {k B : Nat} {m : Nat} (hB : w.heap.size ≤ B := by first | omega | (simp; omega)) : OwnFrom B (fun (pre : List (Bk m)) W => PutI w n k (pre.map (·.1.1)) W) := by
  intro s W W' row hs hg hr
  have hr' := fun r e => (hr r e).2
  exact ⟨heap_kept hs.1 hg hr', heap_kept hs.2.1 hg hr', heap_kept hs.2.2.1 hg hr', hs.2.2.2.grown hg (Below.size hs.2.2.2) (fun r e => Nat.le_trans hB (hr r e).1)⟩
theorem kpB_b {w : World} {Bs g n : Nat} (hb : Bs < w.heap.size) (hg : g < w.heap.size) (W : World) (l : Nat) (o o' : Obj) (hl : w.heap.size ≤ l) (_ : W.heap[l]? = some o) (_ : o.isCells = false) (_ : o.isWalk = false) : KpB Bs g n W (W.putObj l o') :=
  ⟨World.putObj_heap_other (by omega), fun ⟨b, h1, h2⟩ => ⟨b, h1, (World.putObj_heap_other (by omega)).trans h2⟩⟩

theorem bts_set (b : List UInt8) (i : Nat) (z : UInt8) : bts (b.set i z) = (bts b).set i (.int .u8 (z.toNat : Int)) := by simp [bts, List.map_set]
/-- where the loop begins -/
theorem put_start (w : World) (n : Int) (k : Nat) (Z : Array Value) (hZ : Z = (bts (List.replicate k 0)).toArray) :
    let W3 := (((w.alloc (.cells #[.int .i64 n] 3)).alloc (.cells Z 5)).alloc (.cells #[.slice (some ⟨w.heap.size + 1, 0, none⟩) k k] 28)).alloc (.cells #[.slice (some ⟨w.heap.size + 1, 0, none⟩) k k] 28)
    Blk W3 w.heap.size 3 #[.int .i64 (putF n k []).2] ∧ W3.heap[w.heap.size + 1]? = some (.cells (bts (putF n k []).1).toArray 5 (0, 0)) ∧ Blk W3 (w.heap.size + 1 + 1) 28 #[.slice (some ⟨w.heap.size + 1, 0, none⟩) k k] ∧
      W3.cell? ⟨w.heap.size + 1 + 1 + 1, 0, none⟩ = some (.slice (some ⟨w.heap.size + 1, 0, none⟩) k k) ∧ Below w.heap.size w W3 := by
  intro W3
  subst hZ
  have s1 : (w.alloc (.cells #[.int .i64 n] 3)).heap.size = w.heap.size + 1 := by simp
  have s2 : ((w.alloc (.cells #[.int .i64 n] 3)).alloc (.cells (bts (List.replicate k 0)).toArray 5)).heap.size = w.heap.size + 1 + 1 := by simp
  have s3 : (((w.alloc (.cells #[.int .i64 n] 3)).alloc (.cells (bts (List.replicate k 0)).toArray 5)).alloc (.cells #[.slice (some ⟨w.heap.size + 1, 0, none⟩) k k] 28)).heap.size = w.heap.size + 1 + 1 + 1 := by simp
  have b1 := (((Blk.new w 3 #[.int .i64 n]).alloc (.cells (bts (List.replicate k 0)).toArray 5)).alloc (.cells #[.slice (some ⟨w.heap.size + 1, 0, none⟩) k k] 28)).alloc (.cells #[.slice (some ⟨w.heap.size + 1, 0, none⟩) k k] 28)
  have b2 := ((Blk.new (w.alloc (.cells #[.int .i64 n] 3)) 5 (bts (List.replicate k 0)).toArray).alloc (.cells #[.slice (some ⟨w.heap.size + 1, 0, none⟩) k k] 28)).alloc (.cells #[.slice (some ⟨w.heap.size + 1, 0, none⟩) k k] 28)
  have b3 := (Blk.new ((w.alloc (.cells #[.int .i64 n] 3)).alloc (.cells (bts (List.replicate k 0)).toArray 5)) 28 #[.slice (some ⟨w.heap.size + 1, 0, none⟩) k k]).alloc (.cells #[.slice (some ⟨w.heap.size + 1, 0, none⟩) k k] 28)
  have b4 := Blk.new (((w.alloc (.cells #[.int .i64 n] 3)).alloc (.cells (bts (List.replicate k 0)).toArray 5)).alloc (.cells #[.slice (some ⟨w.heap.size + 1, 0, none⟩) k k] 28)) 28 #[.slice (some ⟨w.heap.size + 1, 0, none⟩) k k]
  rw [s1] at b2
  rw [s2] at b3
  rw [s3] at b4
  exact ⟨b1, b2, b3, (blk1 b4).1, ((((Below.refl _ w).alloc (Nat.le_refl _) _).alloc (by simp) _).alloc (by simp; omega) _).alloc (by simp; omega) _⟩
theorem putI_step {w W : World} {n : Int} {k i : Nat} {l : List Nat} (h : PutI w n k l W) :
    PutI w n k (l ++ [i]) ((W.setCell ⟨w.heap.size + 1, i, none⟩ (.int .u8 ((putF n k l).2 % 256))).setCell ⟨w.heap.size, 0, none⟩ (.int .i64 ((putF n k l).2 / 256))) ∧
      KpB (w.heap.size + 1 + 1 + 1) (w.heap.size + 1) k W ((W.setCell ⟨w.heap.size + 1, i, none⟩ (.int .u8 ((putF n k l).2 % 256))).setCell ⟨w.heap.size, 0, none⟩ (.int .i64 ((putF n k l).2 / 256))) := by
  obtain ⟨h1, h2, h3, h4⟩ := h
  have e : (.int .u8 ((putF n k l).2 % 256) : Value) = .int .u8 ((toByte (putF n k l).2).toNat : Int) := by rw [toByte_int]
  have hset : ((W.setCell ⟨w.heap.size + 1, i, none⟩ (.int .u8 ((putF n k l).2 % 256))).setCell ⟨w.heap.size, 0, none⟩ (.int .i64 ((putF n k l).2 / 256))).heap[w.heap.size + 1]? = some (.cells (bts (putF n k (l ++ [i])).1).toArray 5 (0, 0)) := by
    rw [Below.heap_setCell _ _ _ _ (by simp)]
    have := Blk.set_ (g := w.heap.size + 1) (t := 5) h2 i (.int .u8 ((putF n k l).2 % 256))
    rw [e] at this ⊢
    rw [putF_snoc]
    unfold Blk at this
    rw [this]
    simp [putStep, bts_set]
  refine ⟨⟨?_, hset, (h3.far (by show (w.heap.size + 1 + 1 : Nat) ≠ w.heap.size + 1; omega) _).far (by show (w.heap.size + 1 + 1 : Nat) ≠ w.heap.size; omega) _, (h4.setCell (by simp) _).setCell (by simp) _⟩, ?_, fun _ => ⟨_, putF_length _ _ _, hset⟩⟩
  · rw [putF_snoc]
    exact (h1.far (p := ⟨w.heap.size + 1, i, none⟩) (by simp) _).set_ 0 _
  · rw [Below.heap_setCell _ _ _ _ (by show (w.heap.size + 1 + 1 + 1 : Nat) ≠ w.heap.size; omega), Below.heap_setCell _ _ _ _ (by show (w.heap.size + 1 + 1 + 1 : Nat) ≠ w.heap.size + 1; omega)]
theorem put_end {w W : World} {n : Int} {k D : Nat} (hD : w.heap.size + 1 + 1 + 1 + 1 ≤ D) (hK : W.heap[D]? = some (.deferred (some []))) (h2 : W.heap[w.heap.size + 1]? = some (.cells (bts (putF n k (bkDown k k)).1).toArray 5 (0, 0))) (h4 : Below w.heap.size w W) (hk : k ≤ maxLen := by simp only [maxLen]; omega) :
    (W.putObj D (.deferred none)).ownsRow w.heap.size 5 1 (.slice (some ⟨w.heap.size + 1, 0, none⟩) k k) k (bts (putL n k)) ∧ Below w.heap.size w (W.putObj D (.deferred none)) := by
  refine ⟨⟨by rw [bts_length, putL_length]; simp, .inr ⟨_, k, _, rfl, by omega, (World.putObj_heap_other (by omega)).trans h2, Nat.le_refl _, hk, ?_, ?_⟩⟩, h4.trans (belowK_b (w := w) (Nat.le_refl _) W D _ _ (by omega) hK rfl rfl)⟩
  · simp [bts_length, putF_length]
  · show ((bts (putF n k (bkDown k k)).1).toArray).toList.take _ = _
    rw [List.toList_toArray]
    exact List.take_of_length_le (by rw [bts_length, putF_length]; omega)


set_option maxRecDepth 100000 in
set_option maxHeartbeats 2000000 in
theorem put_in (n : Int) (size : Int) (k : Nat) (hk : min (max size 0) 8 = (k : Int)) (w : World) :
    CallsIn Fence.wide 9 Try.prog 54 #[.int .i64 n, .int .i64 size] w fun e w' => ∃ v, e = .returned v ∧ w'.ownsRow w.heap.size 5 1 v k (bts (putL n k)) ∧ Below w.heap.size w w' := by
  obtain ⟨i0, hi0, hz0, hz1, hz2⟩ := info_parts Try.infoU8'
  obtain ⟨X, hX, hsz⟩ : ∃ X : Int, X = (k : Int) ∧ ((X = 0 ∧ size < 0) ∨ (X = 8 ∧ 8 < size) ∨ (X = size ∧ 0 ≤ size ∧ size ≤ 8)) := ⟨(k : Int), rfl, by omega⟩
  obtain ⟨Z, hZ⟩ : ∃ Z, Z = (bts (List.replicate k 0)).toArray := ⟨_, rfl⟩
  have hmk : ∀ W : World, Sem.run Try.prog (Instr.makeSlice 28 (.int .i64 X) (.int .i64 X)) W = .ok (.slice (some ⟨W.heap.size, 0, none⟩) k k) (W.alloc (.cells Z 5)) := fun W => by
    rw [hX, hZ, run_make_rowN 28 5 i0 _ Try.underlying28 hi0 hz0 .i64 .i64 k k (Nat.le_refl _) (by rw [hz2]; omega) (by omega) W, hz1, made_bytes]
  have HX := Lib.hid hX
  have HZ := Lib.hid hZ
  have hk8 : k ≤ 8 := by omega
  have hW3 := put_start w n k Z hZ
  clear hX hZ hk
  have hro : (Fence.wide).round = none := rfl
  refine callsIn_of_wp_marks Try.func54 rfl trivial ?_ hro
  simp only [Try.ntmps54, List.size_toArray, List.length_cons, List.length_nil, Nat.reduceAdd, Nat.reduceSub, Array.replicate_succ, Array.replicate_zero, List.push_toArray, List.append_toArray, List.nil_append, List.cons_append]
  rcases hsz with ⟨rfl, hs⟩ | ⟨rfl, hs⟩ | ⟨rfl, hs, hs'⟩
  · gi_wp2_with (refine ⟨trivial, ?_⟩; gi_at_call 91; refine (backward_in Fence.wide 8 trivial rfl _ _ _ _).mono ?_; rintro e w' ⟨rfl, rfl⟩)
    refine wpIn_rangeFunc_ownG rfl (by omega) (gf := 118) (lb := #[.pointer (some ⟨w.heap.size + 1 + 1 + 1, 0, none⟩)]) rfl trivial (enters_of Try.func118 (by kernel_rfl) rfl)
      (backward_stops Fence.wide 8 trivial rfl (by omega) (w.heap.size + 1 + 1 + 1) (w.heap.size + 1) k k (by omega) _ (by first | omega | (simp; omega) | simp) (by first | omega | (simp; omega) | simp) hW3.2.2.2.1 ⟨_, putF_length _ _ _, hW3.2.1⟩) KpB.trans (kpB_b (by first | omega | (simp; omega) | simp) (by first | omega | (simp; omega) | simp)) (Below.refl _ _) (fun _ => rfl)
      (fun pre W => PutI w n k (pre.map (·.1.1)) W) (fun _ _ _ => False) (putI_own (by first | omega | (simp; omega) | simp)) (fun _ _ _ _ _ hs _ _ => hs) ⟨hW3.1, hW3.2.1, hW3.2.2.1, hW3.2.2.2.2⟩
      (fun x => { tmps := #[.int .i64 n, .int .i64 0, .pointer (some ⟨w.heap.size, 0, none⟩), undef, .slice none 0 0, .pointer (some ⟨w.heap.size + 1 + 1, 0, none⟩), .int .i64 (x.1.1 : Int), .int .i64 size, .int .i64 0, .int .i64 0, .int .i64 0, .slice (some ⟨w.heap.size + 1, 0, none⟩) k k, .slice (some ⟨w.heap.size + 1, 0, none⟩) k k, .func (.func 118) #[] #[.pointer (some ⟨w.heap.size + 1 + 1 + 1, 0, none⟩)], .int .i64 (x.1.1 : Int), .int .u8 x.1.2, undef, undef, undef, undef, undef, undef, undef, undef], defers := [] }) ?_ ?_ ?_ ?_
    · intro l x W K hK
      gi_wp2
      exact hK
    · rintro l pre x W hI _
      have hx := x.2.1
      obtain ⟨h1, h2, h3, h4⟩ := hI
      obtain ⟨c1, f1⟩ := blk1 h1
      obtain ⟨c3, f3⟩ := blk1 h3
      obtain ⟨y, hy, fy, _, _⟩ := RowB.cell ⟨_, putF_length _ _ _, h2⟩ hx
      have hxi : ((x.1.1 : Nat) : Int) < (k : Int) := by omega
      generalize hxx : x.1.1 = i at *
      have HXX := Lib.hid hxx
      have H12 := Lib.hid (And.intro h1 (And.intro h2 (And.intro h3 h4)))
      clear hxx h1 h2 h3 h4 hW3 hmk
      gi_wp2
      have hgo := putI_step (i := i) H12.out
      refine ⟨((KeepsOthers.setCell _ _ _).trans (KeepsOthers.setCell _ _ _)).from _, hgo.2, ?_⟩
      show PutI w n k ((pre ++ [x]).map (·.1.1)) _
      rw [List.map_append, List.map_singleton, HXX.out]
      exact hgo.1
    · rintro D ys W hD hS hI hK
      obtain ⟨h1, h2, h3, h4⟩ := hI
      obtain ⟨c3, f3⟩ := blk1 h3
      rw [hS] at h2
      have H2 := Lib.hid h2
      have H4 := Lib.hid h4
      clear h1 h2 h3 h4 hW3 hmk
      gi_wp2
      refine ⟨by simp, .inl ⟨_, _, rfl, run_takeDeferred hK, ?_⟩⟩
      refine ⟨_, results_tmp rfl _ _ _, _, rfl, ?_⟩
      exact put_end (by simpa using hD) hK H2.out H4.out
    · rintro D c pre W _ _ h _
      exact h.elim
  · gi_wp2_with (refine ⟨trivial, ?_⟩; gi_at_call 91; refine (backward_in Fence.wide 8 trivial rfl _ _ _ _).mono ?_; rintro e w' ⟨rfl, rfl⟩)
    refine wpIn_rangeFunc_ownG rfl (by omega) (gf := 118) (lb := #[.pointer (some ⟨w.heap.size + 1 + 1 + 1, 0, none⟩)]) rfl trivial (enters_of Try.func118 (by kernel_rfl) rfl)
      (backward_stops Fence.wide 8 trivial rfl (by omega) (w.heap.size + 1 + 1 + 1) (w.heap.size + 1) k k (by omega) _ (by first | omega | (simp; omega) | simp) (by first | omega | (simp; omega) | simp) hW3.2.2.2.1 ⟨_, putF_length _ _ _, hW3.2.1⟩) KpB.trans (kpB_b (by first | omega | (simp; omega) | simp) (by first | omega | (simp; omega) | simp)) (Below.refl _ _) (fun _ => rfl)
      (fun pre W => PutI w n k (pre.map (·.1.1)) W) (fun _ _ _ => False) (putI_own (by first | omega | (simp; omega) | simp)) (fun _ _ _ _ _ hs _ _ => hs) ⟨hW3.1, hW3.2.1, hW3.2.2.1, hW3.2.2.2.2⟩
      (fun x => { tmps := #[.int .i64 n, .int .i64 8, .pointer (some ⟨w.heap.size, 0, none⟩), undef, .slice none 0 0, .pointer (some ⟨w.heap.size + 1 + 1, 0, none⟩), .int .i64 (x.1.1 : Int), .int .i64 size, .int .i64 size, .int .i64 8, .int .i64 8, .slice (some ⟨w.heap.size + 1, 0, none⟩) k k, .slice (some ⟨w.heap.size + 1, 0, none⟩) k k, .func (.func 118) #[] #[.pointer (some ⟨w.heap.size + 1 + 1 + 1, 0, none⟩)], .int .i64 (x.1.1 : Int), .int .u8 x.1.2, undef, undef, undef, undef, undef, undef, undef, undef], defers := [] }) ?_ ?_ ?_ ?_
    · intro l x W K hK
      gi_wp2
      exact hK
    · rintro l pre x W hI _
      have hx := x.2.1
      obtain ⟨h1, h2, h3, h4⟩ := hI
      obtain ⟨c1, f1⟩ := blk1 h1
      obtain ⟨c3, f3⟩ := blk1 h3
      obtain ⟨y, hy, fy, _, _⟩ := RowB.cell ⟨_, putF_length _ _ _, h2⟩ hx
      have hxi : ((x.1.1 : Nat) : Int) < (k : Int) := by omega
      generalize hxx : x.1.1 = i at *
      have HXX := Lib.hid hxx
      have H12 := Lib.hid (And.intro h1 (And.intro h2 (And.intro h3 h4)))
      clear hxx h1 h2 h3 h4 hW3 hmk
      gi_wp2
      have hgo := putI_step (i := i) H12.out
      refine ⟨((KeepsOthers.setCell _ _ _).trans (KeepsOthers.setCell _ _ _)).from _, hgo.2, ?_⟩
      show PutI w n k ((pre ++ [x]).map (·.1.1)) _
      rw [List.map_append, List.map_singleton, HXX.out]
      exact hgo.1
    · rintro D ys W hD hS hI hK
      obtain ⟨h1, h2, h3, h4⟩ := hI
      obtain ⟨c3, f3⟩ := blk1 h3
      rw [hS] at h2
      have H2 := Lib.hid h2
      have H4 := Lib.hid h4
      clear h1 h2 h3 h4 hW3 hmk
      gi_wp2
      refine ⟨by simp, .inl ⟨_, _, rfl, run_takeDeferred hK, ?_⟩⟩
      refine ⟨_, results_tmp rfl _ _ _, _, rfl, ?_⟩
      exact put_end (by simpa using hD) hK H2.out H4.out
    · rintro D c pre W _ _ h _
      exact h.elim
  · gi_wp2_with (refine ⟨trivial, ?_⟩; gi_at_call 91; refine (backward_in Fence.wide 8 trivial rfl _ _ _ _).mono ?_; rintro e w' ⟨rfl, rfl⟩)
    refine wpIn_rangeFunc_ownG rfl (by omega) (gf := 118) (lb := #[.pointer (some ⟨w.heap.size + 1 + 1 + 1, 0, none⟩)]) rfl trivial (enters_of Try.func118 (by kernel_rfl) rfl)
      (backward_stops Fence.wide 8 trivial rfl (by omega) (w.heap.size + 1 + 1 + 1) (w.heap.size + 1) k k (by omega) _ (by first | omega | (simp; omega) | simp) (by first | omega | (simp; omega) | simp) hW3.2.2.2.1 ⟨_, putF_length _ _ _, hW3.2.1⟩) KpB.trans (kpB_b (by first | omega | (simp; omega) | simp) (by first | omega | (simp; omega) | simp)) (Below.refl _ _) (fun _ => rfl)
      (fun pre W => PutI w n k (pre.map (·.1.1)) W) (fun _ _ _ => False) (putI_own (by first | omega | (simp; omega) | simp)) (fun _ _ _ _ _ hs _ _ => hs) ⟨hW3.1, hW3.2.1, hW3.2.2.1, hW3.2.2.2.2⟩
      (fun x => { tmps := #[.int .i64 n, .int .i64 X, .pointer (some ⟨w.heap.size, 0, none⟩), undef, .slice none 0 0, .pointer (some ⟨w.heap.size + 1 + 1, 0, none⟩), .int .i64 (x.1.1 : Int), .int .i64 X, .int .i64 X, .int .i64 X, .int .i64 X, .slice (some ⟨w.heap.size + 1, 0, none⟩) k k, .slice (some ⟨w.heap.size + 1, 0, none⟩) k k, .func (.func 118) #[] #[.pointer (some ⟨w.heap.size + 1 + 1 + 1, 0, none⟩)], .int .i64 (x.1.1 : Int), .int .u8 x.1.2, undef, undef, undef, undef, undef, undef, undef, undef], defers := [] }) ?_ ?_ ?_ ?_
    · intro l x W K hK
      gi_wp2
      exact hK
    · rintro l pre x W hI _
      have hx := x.2.1
      obtain ⟨h1, h2, h3, h4⟩ := hI
      obtain ⟨c1, f1⟩ := blk1 h1
      obtain ⟨c3, f3⟩ := blk1 h3
      obtain ⟨y, hy, fy, _, _⟩ := RowB.cell ⟨_, putF_length _ _ _, h2⟩ hx
      have hxi : ((x.1.1 : Nat) : Int) < (k : Int) := by omega
      generalize hxx : x.1.1 = i at *
      have HXX := Lib.hid hxx
      have H12 := Lib.hid (And.intro h1 (And.intro h2 (And.intro h3 h4)))
      clear hxx h1 h2 h3 h4 hW3 hmk
      gi_wp2
      have hgo := putI_step (i := i) H12.out
      refine ⟨((KeepsOthers.setCell _ _ _).trans (KeepsOthers.setCell _ _ _)).from _, hgo.2, ?_⟩
      show PutI w n k ((pre ++ [x]).map (·.1.1)) _
      rw [List.map_append, List.map_singleton, HXX.out]
      exact hgo.1
    · rintro D ys W hD hS hI hK
      obtain ⟨h1, h2, h3, h4⟩ := hI
      obtain ⟨c3, f3⟩ := blk1 h3
      rw [hS] at h2
      have H2 := Lib.hid h2
      have H4 := Lib.hid h4
      clear h1 h2 h3 h4 hW3 hmk
      gi_wp2
      refine ⟨by simp, .inl ⟨_, _, rfl, run_takeDeferred hK, ?_⟩⟩
      refine ⟨_, results_tmp rfl _ _ _, _, rfl, ?_⟩
      exact put_end (by simpa using hD) hK H2.out H4.out
    · rintro D c pre W _ _ h _
      exact h.elim

/-- octets.Put -/
theorem put_any (n : Int) (size : Int) (k : Nat) (hk : min (max size 0) 8 = (k : Int)) (w : World) :
    Calls Try.prog 54 #[.int .i64 n, .int .i64 size] w fun e w' => ∃ v, e = .returned v ∧ w'.ownsRow w.heap.size 5 1 v k (bts (putL n k)) ∧ Below w.heap.size w w' :=
  (callsIn_wide (n := 9)).1 (put_in n size k hk w)
end Go.Proofs.Ythfjfkjlgdnohaa
