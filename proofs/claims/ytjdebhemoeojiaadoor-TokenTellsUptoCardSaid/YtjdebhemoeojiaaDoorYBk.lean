/-
  The law TokenBack: its walk.
  The law TokenBack at any stage.
-/
import Derived.Test.YtjdebhemoeojiaaDoorTkFitp
import Derived.Test.YtjdebhemoeojiaaDoorGoodG
namespace Go.Proofs.YtjdebhemoeojiaaDoor
open Go.RowKit

theorem operwp_load_at {P : Program} {op : Oper} {a : Act} {w : World} {K : Act → World → Prop} {Q : Exit → Act → World → Prop} (ty : TypeId) (x : Operand) (ho : op.op = .load ty x)
    (ad : Addr) (hx : a.eval x = .pointer (some ad)) (cs : List Value) (d : TypeDesc) (hc : ∀ (j : Nat) (v : Value), cs[j]? = some v → w.cell? (ad.add j) = some v)
    (hu : P.underlying ty = some d) (hd : d.isRow = true) (hi : (P.info? ty).map (·.size) = some cs.length)
    (h : K (a.put op.dst (.agg cs.toArray)) w) : op.wp P a w K Q := by
  unfold Oper.wp execOp
  simp only [ho, hx, Instr.loadAt, Instr.sureAddr, Sem.run_bind, Sem.run_pure, Result.andThen_ok, run_loadVar_at w ad ty cs d hc hu hd hi]
  exact h
theorem wpList_load_atg {P : Program} {ops : Array Oper} {rest : List Oper} {op : Oper} {a : Act} {w : World} {Q : Exit → Act → World → Prop} (hw : Region.wanted op (yielded ops a.tmps) = true) (ty : TypeId) (x : Operand) (ho : op.op = .load ty x)
    (ad : Addr) (hx : a.eval x = .pointer (some ad)) (cs : List Value) (d : TypeDesc) (hc : ∀ (j : Nat) (v : Value), cs[j]? = some v → w.cell? (ad.add j) = some v)
    (hu : P.underlying ty = some d) (hd : d.isRow = true) (hi : (P.info? ty).map (·.size) = some cs.length)
    (h : wpList P ops Q rest (a.put op.dst (.agg cs.toArray)) w) : wpList P ops Q (op :: rest) a w := by
  refine wpList_step fun K hK => ?_
  rw [if_pos hw]
  exact operwp_load_at ty x ho ad hx cs d hc hu hd hi (hK _ _ h)
theorem partsL_sum (s : BS) : ((partsL s).map fun p => p.length + 1).sum = s.length + 1 := by
  induction s with
  | nil => rfl
  | cons c r ih =>
    unfold partsL
    split
    · simp only [List.map_cons, List.sum_cons, ih, List.length_cons, List.length_nil]
      omega
    · split
      · rename_i p ps h
        rw [h] at ih
        simp only [List.map_cons, List.sum_cons, List.length_cons] at ih ⊢
        omega
      · rename_i h
        exact absurd h (partsL_ne r)
theorem sum_bound {α : Type} (f : α → Nat) (l : List α) (k : Nat) (h : ∀ x ∈ l, f x ≤ k) : (l.map f).sum ≤ l.length * k := by
  induction l with
  | nil => simp
  | cons x l ih =>
    have h1 := h x (List.mem_cons_self ..)
    have h2 := ih (fun y hy => h y (List.mem_cons_of_mem _ hy))
    rw [List.map_cons, List.sum_cons, List.length_cons, Nat.add_mul, Nat.one_mul]
    omega
theorem path_len (s : BS) (h : pathB s = true) : s.length ≤ 68 := by
  unfold pathB at h
  rw [Bool.or_eq_true, Bool.and_eq_true, decide_eq_true_eq] at h
  rcases h with h | ⟨h1, h2⟩
  · rw [List.isEmpty_iff] at h
    rw [h]
    simp
  · have h3 : ((partsL s).map fun p => p.length + 1).sum = s.length + 1 := partsL_sum s
    have h4 : ((partsL s).map fun p => p.length + 1).sum ≤ (partsL s).length * 17 := sum_bound (fun p : BS => p.length + 1) (partsL s) 17 (fun x hx => by
      have h5 := List.all_eq_true.1 h2 x hx
      unfold nameB at h5
      simp only [Bool.and_eq_true, decide_eq_true_eq] at h5
      have := h5.1.2
      omega)
    have h6 : (partsL s).length * 17 ≤ 4 * 17 := Nat.mul_le_mul_right _ h1
    omega
theorem decL_short (n : Nat) (h : n ≤ 1099511627776) : (decL n).length ≤ 13 := by
  by_cases h1 : 13 < (decL n).length
  · have h2 := numO_long _ h1
    rw [numO_dec n h] at h2
    cases h2
  · omega
theorem stage_parts {a b c d e f : Bool} (h : (!a && b && c && d && e && f) = true) : a = false ∧ b = true := by
  cases a <;> cases b <;> cases c <;> cases d <;> cases e <;> cases f <;> simp_all
set_option maxRecDepth 100000 in
set_option maxHeartbeats 4000000 in
theorem tokenBack_bad (into : BS) (kind : Int) (nm : BS) (frm gd : Int) (o1 : Option Addr) (o2 o3 : Nat) (ol : List (BS × BS)) (ix ct : Int) (dt : BS) (sa sb sc sd : Int) (b1 : Option Addr) (b2 b3 : Nat) (bl : List BlkT) (at_ nx ua ub uc ud : Int) (done : Bool) (w0 : World) (B : Nat) (hro : Reads w0 B 2 o1 o2 (pcells ol)) (hol : o2 = ol.length) (hrb : Reads w0 B 2 b1 b2 (bcells bl)) (hbl : b2 = bl.length) (hB : B ≤ w0.heap.size)
    (hin : into.length ≤ 4000000000) (ho2 : o2 ≤ 1000000000000) (hb2 : b2 ≤ 1000000000000) (hp : ∀ p ∈ ol, p.1.length ≤ 4000000000 ∧ p.2.length ≤ 4000000000) (hmx : HasMax w0)
    (hno : (!(into == []) && pathB into && beginP kind nm frm gd ol ix ct dt ⟨sa, sb, sc, sd⟩ && okL bl && amt at_ 0 && amt nx 0) = false) :
    Calls Tryd.prog 7 #[.agg #[.string ⟨into.toArray⟩, .int .i64 kind, .string ⟨nm.toArray⟩, .int .i64 frm, .int .i64 gd, .slice o1 o2 o3, .int .i64 ix, .int .i64 ct, .string ⟨dt.toArray⟩, .int .u64 sa, .int .u64 sb, .int .u64 sc, .int .u64 sd, .slice b1 b2 b3, .int .i64 at_, .int .i64 nx, .int .u64 ua, .int .u64 ub, .int .u64 uc, .int .u64 ud, .bool done]] w0 fun e w' => e = .returned (.bool true) ∧ Below w0.heap.size w0 w' := by
  have hb1 := (Below.refl w0.heap.size w0).alloc (Nat.le_refl _) (.cells #[.string ⟨into.toArray⟩, .int .i64 kind, .string ⟨nm.toArray⟩, .int .i64 frm, .int .i64 gd, .slice o1 o2 o3, .int .i64 ix, .int .i64 ct, .string ⟨dt.toArray⟩, .int .u64 sa, .int .u64 sb, .int .u64 sc, .int .u64 sd, .slice b1 b2 b3, .int .i64 at_, .int .i64 nx, .int .u64 ua, .int .u64 ub, .int .u64 uc, .int .u64 ud, .bool done] 60)
  have kT := Blk.new w0 60 #[.string ⟨into.toArray⟩, .int .i64 kind, .string ⟨nm.toArray⟩, .int .i64 frm, .int .i64 gd, .slice o1 o2 o3, .int .i64 ix, .int .i64 ct, .string ⟨dt.toArray⟩, .int .u64 sa, .int .u64 sb, .int .u64 sc, .int .u64 sd, .slice b1 b2 b3, .int .i64 at_, .int .i64 nx, .int .u64 ua, .int .u64 ub, .int .u64 uc, .int .u64 ud, .bool done]
  obtain ⟨W1, hW1⟩ : ∃ W, W = w0.alloc (.cells #[.string ⟨into.toArray⟩, .int .i64 kind, .string ⟨nm.toArray⟩, .int .i64 frm, .int .i64 gd, .slice o1 o2 o3, .int .i64 ix, .int .i64 ct, .string ⟨dt.toArray⟩, .int .u64 sa, .int .u64 sb, .int .u64 sc, .int .u64 sd, .slice b1 b2 b3, .int .i64 at_, .int .i64 nx, .int .u64 ua, .int .u64 ub, .int .u64 uc, .int .u64 ud, .bool done] 60) := ⟨_, rfl⟩
  have hsz1 : W1.heap.size = w0.heap.size + 1 := by rw [hW1]; simp
  rw [← hW1] at hb1 kT
  have HLG : Hid (∀ W, Below W1.heap.size W1 W → ∀ (j : Nat) (v : Value), ([.string ⟨into.toArray⟩, .int .i64 kind, .string ⟨nm.toArray⟩, .int .i64 frm, .int .i64 gd, .slice o1 o2 o3, .int .i64 ix, .int .i64 ct, .string ⟨dt.toArray⟩, .int .u64 sa, .int .u64 sb, .int .u64 sc, .int .u64 sd, .slice b1 b2 b3, .int .i64 at_, .int .i64 nx, .int .u64 ua, .int .u64 ub, .int .u64 uc, .int .u64 ud, .bool done] : List Value)[j]? = some v → W.cell? ((⟨w0.heap.size, 0, none⟩ : Addr).add j) = some v) := by
    show ∀ W, _ → ∀ j v, _ → _
    intro W hb j v hj
    rw [addr_add0, (kT.below hb (by omega)).cell j, List.getElem?_toArray]
    exact hj
  have HT : Hid (∀ W, Below W1.heap.size W1 W → W.cell? ⟨w0.heap.size, 0, none⟩ = some (.string ⟨into.toArray⟩) ∧ W.cell? ⟨w0.heap.size, 4, none⟩ = some (.int .i64 gd) ∧ W.cell? ⟨w0.heap.size, 14, none⟩ = some (.int .i64 at_)) := by
    show ∀ W, _ → _
    intro W hb
    have k := kT.below hb (by omega)
    exact ⟨k.cell 0, k.cell 4, k.cell 14⟩
  have HB1 := Lib.hid hb1
  have HSZ1 := Lib.hid hsz1
  have HUP : Hid (∀ W, Below W1.heap.size W1 W → Below w0.heap.size w0 W) := fun W h => hb1.trans (h.mono (by omega))
  have hal := alive23_any W1 (hmx.below hb1)
  have HPR := Lib.hid (fun W (hb : Below W1.heap.size W1 W) => tprint_bad into kind nm frm gd o1 o2 o3 ol ix ct dt sa sb sc sd b1 b2 b3 bl at_ nx ua ub uc ud done W B (hro.below ((HUP.out _ hb).mono hB)) hol (hrb.below ((HUP.out _ hb).mono hB)) hbl (by have := (HUP.out _ hb).size; omega) hin ho2 hb2 hp (hmx.below (HUP.out _ hb)) hno)
  clear hsz1 kT hro hol hrb hbl hp hmx hno hb1
  go_enter Tryd.func7, Tryd.ntmps7
  go_wp2_with fail
  rw [← hW1]
  clear hW1
  refine hal.mono ?_
  clear hal
  rintro e w2 ⟨rfl, hb2'⟩
  have HB2 := Lib.hid hb2'
  have hpr := HPR.out w2 HB2.out
  clear hb2'
  go_wp2_with (refine wpList_load_at rfl 60 (.tmp 1) rfl ⟨w0.heap.size, 0, none⟩ rfl [.string ⟨into.toArray⟩, .int .i64 kind, .string ⟨nm.toArray⟩, .int .i64 frm, .int .i64 gd, .slice o1 o2 o3, .int .i64 ix, .int .i64 ct, .string ⟨dt.toArray⟩, .int .u64 sa, .int .u64 sb, .int .u64 sc, .int .u64 sd, .slice b1 b2 b3, .int .i64 at_, .int .i64 nx, .int .u64 ua, .int .u64 ub, .int .u64 uc, .int .u64 ud, .bool done] _ (HLG.out _ HB2.out) Tryd.underlying60 rfl (by kernel_rfl) ?_)
  refine hpr.mono ?_
  clear hpr
  rintro e w3 ⟨rfl, hb3⟩
  have HB3 := Lib.hid (HB2.out.trans (hb3.mono HB2.out.size))
  clear hb3
  go_wp2_with fail
  refine (num23_any _ _).mono ?_
  rintro e wn ⟨rfl, hwn⟩
  rw [hwn]
  clear hwn wn
  go_wp2_with fail
  go_ret
  exact ⟨rfl, HUP.out _ HB3.out⟩
set_option maxRecDepth 100000 in
set_option maxHeartbeats 4000000 in
theorem tokenBack_ok (into : BS) (kind : Int) (nm : BS) (frm : Int) (o1 : Option Addr) (o2 o3 : Nat) (ol : List (BS × BS)) (ix ct : Int) (dt : BS) (sa sb sc sd : Int) (b1 : Option Addr) (b2 b3 : Nat) (bl : List BlkT) (nx ua ub uc ud : Int) (done : Bool) (na ng : Nat) (hna : na ≤ 1099511627776) (hng : ng ≤ 1099511627776) (w0 : World) (B : Nat) (hro : Reads w0 B 2 o1 o2 (pcells ol)) (hol : o2 = ol.length) (hrb : Reads w0 B 2 b1 b2 (bcells bl)) (hbl : b2 = bl.length) (hB : B ≤ w0.heap.size)
    (hin : into.length ≤ 4000000000) (ho2 : o2 ≤ 1000000000000) (hb2 : b2 ≤ 1000000000000) (hp : ∀ p ∈ ol, p.1.length ≤ 4000000000 ∧ p.2.length ≤ 4000000000) (hmx : HasMax w0)
    (hok : (!(into == []) && pathB into && beginP kind nm frm (ng : Int) ol ix ct dt ⟨sa, sb, sc, sd⟩ && okL bl && amt (na : Int) 0 && amt nx 0) = true) :
    Calls Tryd.prog 7 #[.agg #[.string ⟨into.toArray⟩, .int .i64 kind, .string ⟨nm.toArray⟩, .int .i64 frm, .int .i64 (ng : Int), .slice o1 o2 o3, .int .i64 ix, .int .i64 ct, .string ⟨dt.toArray⟩, .int .u64 sa, .int .u64 sb, .int .u64 sc, .int .u64 sd, .slice b1 b2 b3, .int .i64 (na : Int), .int .i64 nx, .int .u64 ua, .int .u64 ub, .int .u64 uc, .int .u64 ud, .bool done]] w0 fun e w' => e = .returned (.bool true) ∧ Below w0.heap.size w0 w' := by
  have hb1 := (Below.refl w0.heap.size w0).alloc (Nat.le_refl _) (.cells #[.string ⟨into.toArray⟩, .int .i64 kind, .string ⟨nm.toArray⟩, .int .i64 frm, .int .i64 (ng : Int), .slice o1 o2 o3, .int .i64 ix, .int .i64 ct, .string ⟨dt.toArray⟩, .int .u64 sa, .int .u64 sb, .int .u64 sc, .int .u64 sd, .slice b1 b2 b3, .int .i64 (na : Int), .int .i64 nx, .int .u64 ua, .int .u64 ub, .int .u64 uc, .int .u64 ud, .bool done] 60)
  have kT := Blk.new w0 60 #[.string ⟨into.toArray⟩, .int .i64 kind, .string ⟨nm.toArray⟩, .int .i64 frm, .int .i64 (ng : Int), .slice o1 o2 o3, .int .i64 ix, .int .i64 ct, .string ⟨dt.toArray⟩, .int .u64 sa, .int .u64 sb, .int .u64 sc, .int .u64 sd, .slice b1 b2 b3, .int .i64 (na : Int), .int .i64 nx, .int .u64 ua, .int .u64 ub, .int .u64 uc, .int .u64 ud, .bool done]
  obtain ⟨W1, hW1⟩ : ∃ W, W = w0.alloc (.cells #[.string ⟨into.toArray⟩, .int .i64 kind, .string ⟨nm.toArray⟩, .int .i64 frm, .int .i64 (ng : Int), .slice o1 o2 o3, .int .i64 ix, .int .i64 ct, .string ⟨dt.toArray⟩, .int .u64 sa, .int .u64 sb, .int .u64 sc, .int .u64 sd, .slice b1 b2 b3, .int .i64 (na : Int), .int .i64 nx, .int .u64 ua, .int .u64 ub, .int .u64 uc, .int .u64 ud, .bool done] 60) := ⟨_, rfl⟩
  have hsz1 : W1.heap.size = w0.heap.size + 1 := by rw [hW1]; simp
  rw [← hW1] at hb1 kT
  have HLG : Hid (∀ W, Below W1.heap.size W1 W → ∀ (j : Nat) (v : Value), ([.string ⟨into.toArray⟩, .int .i64 kind, .string ⟨nm.toArray⟩, .int .i64 frm, .int .i64 (ng : Int), .slice o1 o2 o3, .int .i64 ix, .int .i64 ct, .string ⟨dt.toArray⟩, .int .u64 sa, .int .u64 sb, .int .u64 sc, .int .u64 sd, .slice b1 b2 b3, .int .i64 (na : Int), .int .i64 nx, .int .u64 ua, .int .u64 ub, .int .u64 uc, .int .u64 ud, .bool done] : List Value)[j]? = some v → W.cell? ((⟨w0.heap.size, 0, none⟩ : Addr).add j) = some v) := by
    show ∀ W, _ → ∀ j v, _ → _
    intro W hb j v hj
    rw [addr_add0, (kT.below hb (by omega)).cell j, List.getElem?_toArray]
    exact hj
  have HT : Hid (∀ W, Below W1.heap.size W1 W → W.cell? ⟨w0.heap.size, 0, none⟩ = some (.string ⟨into.toArray⟩) ∧ W.cell? ⟨w0.heap.size, 4, none⟩ = some (.int .i64 (ng : Int)) ∧ W.cell? ⟨w0.heap.size, 14, none⟩ = some (.int .i64 (na : Int))) := by
    show ∀ W, _ → _
    intro W hb
    have k := kT.below hb (by omega)
    exact ⟨k.cell 0, k.cell 4, k.cell 14⟩
  have HB1 := Lib.hid hb1
  have HSZ1 := Lib.hid hsz1
  have HUP : Hid (∀ W, Below W1.heap.size W1 W → Below w0.heap.size w0 W) := fun W h => hb1.trans (h.mono (by omega))
  have hal := alive23_any W1 (hmx.below hb1)
  have hst := stage_parts hok
  have hun := untok_tok into na ng (by simpa using hst.1) hst.2 hna hng
  have hlen : (tokL into na ng).length ≤ 4000000000 := by
    have h1 := path_len into hst.2
    have h2 := decL_short na hna
    have h3 := decL_short ng hng
    unfold tokL
    simp only [List.length_append, List.length_cons]
    omega
  have HPR := Lib.hid (fun W (hb : Below W1.heap.size W1 W) => tprint_ok into kind nm frm o1 o2 o3 ol ix ct dt sa sb sc sd b1 b2 b3 bl nx ua ub uc ud done na ng hna hng W B (hro.below ((HUP.out _ hb).mono hB)) hol (hrb.below ((HUP.out _ hb).mono hB)) hbl (by have := (HUP.out _ hb).size; omega) hin ho2 hb2 hp (hmx.below (HUP.out _ hb)) hok)
  have HFI := Lib.hid (fun W (hb : Below W1.heap.size W1 W) => fits_ok into kind nm frm o1 o2 o3 ol ix ct dt sa sb sc sd b1 b2 b3 bl nx ua ub uc ud done na ng hna hng (tokL into na ng) W B (hro.below ((HUP.out _ hb).mono hB)) hol (hrb.below ((HUP.out _ hb).mono hB)) hbl (by have := (HUP.out _ hb).size; omega) hin ho2 hb2 hp (hmx.below (HUP.out _ hb)) hok)
  have HMX := Lib.hid (fun W (hb : Below W1.heap.size W1 W) => hmx.below (HUP.out W hb))
  obtain ⟨tk, htk⟩ : ∃ t, t = tokL into na ng := ⟨_, rfl⟩
  rw [← htk] at HPR HFI hun hlen
  rw [beq_self_eq_true] at HFI
  have HPA : Hid (∀ W, Below W1.heap.size W1 W → Calls Tryd.prog 21 #[.string ⟨tk.toArray⟩] W fun e w' => e = .returned (.tuple #[.string ⟨into.toArray⟩, .int .i64 (na : Int), .int .i64 (ng : Int), .int .i64 0]) ∧ Below W.heap.size W w') := by
    show ∀ W, _ → _
    intro W hb
    refine (tparse_any ⟨tk.toArray⟩ W (by show tk.length ≤ _; exact hlen) (HMX.out W hb)).mono ?_
    rintro e w' ⟨rfl, hb'⟩
    refine ⟨?_, hb'⟩
    show Ending.returned (untokR (untokV tk)) = _
    rw [hun]
    rfl
  clear hsz1 kT hro hol hrb hbl hp hmx hok hb1 hst hun hlen htk HMX
  go_enter Tryd.func7, Tryd.ntmps7
  go_wp2_with fail
  rw [← hW1]
  clear hW1
  refine hal.mono ?_
  clear hal
  rintro e w2 ⟨rfl, hb2'⟩
  have HB2 := Lib.hid hb2'
  have hpr := HPR.out w2 HB2.out
  clear hb2'
  go_wp2_with (refine wpList_load_at rfl 60 (.tmp 1) rfl ⟨w0.heap.size, 0, none⟩ rfl [.string ⟨into.toArray⟩, .int .i64 kind, .string ⟨nm.toArray⟩, .int .i64 frm, .int .i64 (ng : Int), .slice o1 o2 o3, .int .i64 ix, .int .i64 ct, .string ⟨dt.toArray⟩, .int .u64 sa, .int .u64 sb, .int .u64 sc, .int .u64 sd, .slice b1 b2 b3, .int .i64 (na : Int), .int .i64 nx, .int .u64 ua, .int .u64 ub, .int .u64 uc, .int .u64 ud, .bool done] _ (HLG.out _ HB2.out) Tryd.underlying60 rfl (by kernel_rfl) ?_)
  refine hpr.mono ?_
  clear hpr
  rintro e w3 ⟨rfl, hb3⟩
  have HB3 := Lib.hid (HB2.out.trans (hb3.mono HB2.out.size))
  clear hb3
  go_wp2_with fail
  refine (num23_any _ _).mono ?_
  rintro e wn ⟨rfl, hwn⟩
  rw [hwn]
  clear hwn wn
  go_wp2_with fail
  refine (HPA.out _ HB3.out).mono ?_
  rintro e w4 ⟨rfl, hb4⟩
  have HB4 := Lib.hid (HB3.out.trans (hb4.mono HB3.out.size))
  obtain ⟨q0, q4, q14⟩ := HT.out _ HB4.out
  have hfi := HFI.out w4 HB4.out
  clear hb4
  go_wp2_with fail
  refine (num23_any _ _).mono ?_
  rintro e wn ⟨rfl, hwn⟩
  rw [hwn]
  clear hwn wn
  go_wp2_with (refine wpList_load_atg (wanted_of (b := true) (k := 50) rfl rfl rfl) 60 (.tmp 1) rfl ⟨w0.heap.size, 0, none⟩ rfl [.string ⟨into.toArray⟩, .int .i64 kind, .string ⟨nm.toArray⟩, .int .i64 frm, .int .i64 (ng : Int), .slice o1 o2 o3, .int .i64 ix, .int .i64 ct, .string ⟨dt.toArray⟩, .int .u64 sa, .int .u64 sb, .int .u64 sc, .int .u64 sd, .slice b1 b2 b3, .int .i64 (na : Int), .int .i64 nx, .int .u64 ua, .int .u64 ub, .int .u64 uc, .int .u64 ud, .bool done] _ (HLG.out _ HB4.out) Tryd.underlying60 rfl (by kernel_rfl) ?_)
  refine hfi.mono ?_
  clear hfi
  rintro e w5 ⟨rfl, hb5⟩
  have HB5 := Lib.hid (HB4.out.trans (hb5.mono HB4.out.size))
  clear hb5
  go_wp2_with fail
  go_ret
  exact ⟨rfl, HUP.out _ HB5.out⟩
end Go.Proofs.YtjdebhemoeojiaaDoor
namespace Go.Proofs.YtjdebhemoeojiaaDoor
open Go.RowKit

theorem nat_of {n : Int} (h : amt n 0 = true) : ∃ m : Nat, n = (m : Int) ∧ m ≤ 1099511627776 := by
  unfold amt at h
  rw [Bool.and_eq_true, decide_eq_true_eq, decide_eq_true_eq] at h
  exact ⟨n.toNat, by omega, by omega⟩
theorem nat_of1 {n : Int} (h : amt n 1 = true) : ∃ m : Nat, n = (m : Int) ∧ m ≤ 1099511627776 := by
  unfold amt at h
  rw [Bool.and_eq_true, decide_eq_true_eq, decide_eq_true_eq] at h
  exact ⟨n.toNat, by omega, by omega⟩
/-- a stage that may be: its numbers are amounts -/
theorem stage_amts {into : BS} {kind : Int} {nm : BS} {frm gd : Int} {ol : List (BS × BS)} {ix ct : Int} {dt : BS} {sm : Sm} {bl : List BlkT} {at_ nx : Int}
    (h : (!(into == []) && pathB into && beginP kind nm frm gd ol ix ct dt sm && okL bl && amt at_ 0 && amt nx 0) = true) : amt at_ 0 = true ∧ amt gd 1 = true := by
  simp only [Bool.and_eq_true] at h
  refine ⟨h.1.2, ?_⟩
  have := h.1.1.1.2
  unfold beginP at this
  simp only [Bool.and_eq_true] at this
  exact this.1.1.1.1.1.2
theorem tokenBack_any (x : StageR) (w : World) (hr : x.rd w w.heap.size) (hz : x.sz) (hmx : HasMax w) :
    Calls Tryd.prog 7 #[.agg (encStage x).toArray] w fun e w' => e = .returned (.bool true) ∧ Below w.heap.size w w' := by
  obtain ⟨into, kind, nm, frm, gd, ⟨o1, o2, o3, ol⟩, ix, ct, dt, ⟨sa, sb, sc, sd⟩, ⟨b1, b2, b3, bl⟩, at_, nx, ⟨ua, ub, uc, ud⟩, done⟩ := x
  cases hok : (!(into == []) && pathB into && beginP kind nm frm gd ol ix ct dt ⟨sa, sb, sc, sd⟩ && okL bl && amt at_ 0 && amt nx 0) with
  | false => exact tokenBack_bad into kind nm frm gd o1 o2 o3 ol ix ct dt sa sb sc sd b1 b2 b3 bl at_ nx ua ub uc ud done w w.heap.size hr.own.2.2 hr.own.1 hr.body.2.2 hr.body.1 (Nat.le_refl _) hz.into hz.own hz.body hz.props hmx hok
  | true =>
    obtain ⟨h1, h2⟩ := stage_amts hok
    obtain ⟨na, rfl, hna⟩ := nat_of h1
    obtain ⟨ng, rfl, hng⟩ := nat_of1 h2
    exact tokenBack_ok into kind nm frm o1 o2 o3 ol ix ct dt sa sb sc sd b1 b2 b3 bl nx ua ub uc ud done na ng hna hng w w.heap.size hr.own.2.2 hr.own.1 hr.body.2.2 hr.body.1 (Nat.le_refl _) hz.into hz.own hz.body hz.props hmx hok
end Go.Proofs.YtjdebhemoeojiaaDoor
