/-
  What a claim's last text asks of arguments and of a law's call, beside the base.
-/
import Derived.Test.YtcgclpcocdappaaGreatDoorPrnBaseGz
import Derived.Test.YtcgclpcocdappaaGreatDoorRows
import Derived.ProofKit
import Derived.OpenShut
import Derived.ShutString
import Derived.ChangeOld
import Derived.Carry
import Derived.SizedLaws
import Derived.JoinedCond
import Derived.Deep.CondSized
import Derived.Deep.Slices
import Derived.Deep.Fields
import Derived.Lib.SmallJoins
namespace Go.Proofs.YtcgclpcocdappaaGreatDoor
open Go.ChangeShapes Go.WideShapes Go.ChangeAt Go.RowKit Go.Deep Go.Joins
open Go.ChangeMaps (open_string shut_string)

theorem Tryz.laidOut : laidOutB Tryz.prog = true := by kernel_rfl

section
variable {H : Type} {enc : TypeId × Value → H} {P : Program}
/-- may these types be read, one by one? -/
def readables (P : Program) (ts : List TypeId) : Bool := ts.all fun t => P.readableRec t && decide (t < P.types.size)

theorem trodAll_below (hl : laidOutB P = true) {W W' : World} (hb : Below W.heap.size W W') (ts : List TypeId) : ∀ (vs : List Value) (ds : List (DataW H)) (p : List MemPlace), readables P ts = true →
    DataW.TrodAll enc P W 0 (fun _ => true) true ts vs ds p → (∀ x ∈ p, x.block < W.heap.size) → DataW.TrodAll enc P W' 0 (fun b => decide (b < W.heap.size)) true ts vs ds p := by
  induction ts with
  | nil =>
    intro vs ds p _ h _
    match vs, ds with
    | [], [] => exact h
    | [], _ :: _ => exact h.elim
    | _ :: _, [] => exact h.elim
    | _ :: _, _ :: _ => exact h.elim
  | cons t ts ih =>
    intro vs ds p hr h hlt
    match vs, ds with
    | v :: vs, d :: ds =>
      obtain ⟨p1, q, h1, h2, rfl⟩ := h
      simp only [readables, List.all_cons, Bool.and_eq_true, decide_eq_true_eq] at hr
      exact ⟨p1, q, Below.trod hl hr.1.1 hr.1.2 h1 hb (fun x hx => hlt x (by simp [hx])), ih vs ds q hr.2 h2 (fun x hx => hlt x (by simp [hx])), rfl⟩
    | [], [] => exact h.elim
    | [], _ :: _ => exact h.elim
    | _ :: _, [] => exact h.elim

theorem trodAll_lt {W : World} (ts : List TypeId) : ∀ (vs : List Value) (ds : List (DataW H)) (p : List MemPlace),
    DataW.TrodAll enc P W 0 (fun _ => true) true ts vs ds p → ∀ x ∈ p, x.block < W.heap.size := by
  induction ts with
  | nil =>
    intro vs ds p h
    match vs, ds with
    | [], [] => subst h; simp
    | [], _ :: _ => exact h.elim
    | _ :: _, [] => exact h.elim
    | _ :: _, _ :: _ => exact h.elim
  | cons t ts ih =>
    intro vs ds p h
    match vs, ds with
    | v :: vs, d :: ds =>
      obtain ⟨p1, q, ⟨m, hm⟩, h2, rfl⟩ := h
      intro x hx
      rcases List.mem_append.1 hx with hx | hx
      · exact DataW.trod_lt m _ _ _ hm x hx
      · exact ih vs ds q h2 x hx
    | [], [] => exact h.elim
    | [], _ :: _ => exact h.elim
    | _ :: _, [] => exact h.elim

/-- what a law's walk owes -/
def LawCalls (P : Program) (f : FuncId) (args : Array Value) (W : World) : Prop := Calls P f args W fun e w' => e = .returned (.bool true) ∧ Below W.heap.size W w'

theorem law_post (hl : laidOutB P = true) {s : ChangeSpec} {f : FuncId} {fn : Func} {ps : List TypeId} {tb : TypeId} (htb : P.underlying tb = some .bool) (hps : fn.params.toList = ps) (hrt : fn.resultTypes = #[tb]) (hv : s.vars = []) (hread : readables P ps = true)
    (hspec : ∀ (vs : List Value) (ds : List (DataW H)) (W : World) p, DataW.TrodAll enc P W 0 (fun _ => true) true ps vs ds p → (s.fn H ds).results = [.lit (.bool true)] ∧ (s.fn H ds).args = ds ∧ (s.fn H ds).vars = [])
    (W : World) (args : Array Value) (ds gs : List (DataW H)) (before : List MemPlace)
    (hW : DataW.Whole enc P fn.params.toList s.vars false W args.toList ds gs before) (h : LawCalls P f args W) :
    Calls P f args W fun e W' => ∃ v, e = .returned v ∧ s.post enc P fn false true false false W args v W' := by
  refine h.mono fun e W' ⟨he, hb⟩ => ?_
  subst he
  refine ⟨_, rfl, ?_⟩
  have hW0 := hW
  obtain ⟨p, q, hA, hV, rfl, hfz, hnd⟩ := hW
  rw [hv] at hV
  obtain ⟨rfl, rfl⟩ := trodVars_none hV
  rw [hps] at hA
  have hs := hspec _ _ _ _ hA
  refine ⟨ds, [], p ++ [], [], p, [], hW0, ?_, ?_, ?_, hb.frame _, fun h => by cases h⟩
  · rw [List.append_nil, hs.1, hrt]
    exact trodAll_mk1 (shut_bool htb _)
  · rw [List.append_nil, hs.2.1, hps]
    exact trodAll_below hl hb _ _ _ _ hread hA (trodAll_lt _ _ _ _ hA)
  · rw [List.append_nil, hs.2.2, hv]
    rfl

def ArgsIn (enc : TypeId × Value → H) (P : Program) (W : World) : List TypeId → List Value → List (DataW H) → Prop
  | [], [], [] => True
  | t :: ts, v :: vs, d :: ds => ArgIn enc P W t v d ∧ ArgsIn enc P W ts vs ds
  | _, _, _ => False

theorem argsIn {W : World} {base : Nat} (ts : List TypeId) : ∀ (vs : List Value) (ds : List (DataW H)) (p : List MemPlace), DataW.TrodAll enc P W 0 (fun _ => true) true ts vs ds p →
    (∀ (j : Nat) t v, ts[j]? = some t → vs[j]? = some v → Value.okWide P W .any base t v) → (∀ n ∈ DataW.weightsEach P ts ds, n ≤ reachBytes) → ArgsIn enc P W ts vs ds := by
  induction ts with
  | nil =>
    intro vs ds p h _ _
    match vs, ds with
    | [], [] => trivial
    | [], _ :: _ => exact h.elim
    | _ :: _, [] => exact h.elim
    | _ :: _, _ :: _ => exact h.elim
  | cons t ts ih =>
    intro vs ds p h hok hw
    match vs, ds with
    | v :: vs, d :: ds =>
      obtain ⟨p1, q, h1, h2, rfl⟩ := h
      simp only [DataW.weightsEach] at hw
      exact ⟨⟨⟨base, hok 0 t v rfl rfl⟩, ⟨p1, h1⟩, fun n hn => hw n (List.mem_append_left _ hn)⟩, ih vs ds q h2 (fun j t v hj hv => hok (j + 1) t v (by simpa using hj) (by simpa using hv)) (fun n hn => hw n (List.mem_append_right _ hn))⟩
    | [], [] => exact h.elim
    | [], _ :: _ => exact h.elim
    | _ :: _, [] => exact h.elim

/-- THE LAW's CONTRACT, as both builders ask it -/
theorem law_contract (hl : laidOutB P = true) {s : ChangeSpec} {f : FuncId} {fn : Func} {ps : List TypeId} {tb : TypeId} (htb : P.underlying tb = some .bool) (hps : fn.params.toList = ps) (hrt : fn.resultTypes = #[tb]) (hv : s.vars = []) (hread : readables P ps = true)
    (hspec : ∀ (vs : List Value) (ds : List (DataW H)) (W : World) p, DataW.TrodAll enc P W 0 (fun _ => true) true ps vs ds p → (s.fn H ds).results = [.lit (.bool true)] ∧ (s.fn H ds).args = ds ∧ (s.fn H ds).vars = [])
    (W : World) (base : Nat) (args : Array Value) (ds gs : List (DataW H)) (before : List MemPlace)
    (hval : ∀ (j : Nat) t v, fn.params[j]? = some t → args[j]? = some v → Value.okWide P W .any base t v)
    (hW : DataW.Whole enc P fn.params.toList s.vars false W args.toList ds gs before)
    (hsz : (DataW.weightsEach P (fn.params.toList ++ s.plain.varTypes P) (ds ++ gs)).all (· ≤ reachBytes) = true)
    (h : ArgsIn enc P W ps args.toList ds → gs = [] → LawCalls P f args W) :
    Calls P f args W fun e W' => ∃ v, e = .returned v ∧ s.post enc P fn false true false false W args v W' := by
  refine law_post hl htb hps hrt hv hread hspec W args ds gs before hW ?_
  obtain ⟨p, q, hA, hV, _⟩ := hW
  have hvt : s.plain.varTypes P = [] := by simp [ChangeSpec.plain, DataSpec.varTypes, hv]
  rw [hv] at hV
  obtain ⟨rfl, rfl⟩ := trodVars_none hV
  rw [hps] at hA hsz
  rw [hvt, List.append_nil, List.append_nil] at hsz
  refine h (argsIn (base := base) _ _ _ _ hA ?_ ?_) rfl
  · intro j t v hj hv
    refine hval j t v ?_ ?_
    · rw [← hps] at hj; simpa using hj
    · simpa using hv
  · intro n hn
    simpa using List.all_eq_true.1 hsz n hn

theorem argsIn_cons {W : World} {t : TypeId} {ts : List TypeId} {vs : List Value} {ds : List (DataW H)} (h : ArgsIn enc P W (t :: ts) vs ds) : ∃ v vs' d ds', vs = v :: vs' ∧ ds = d :: ds' ∧ ArgIn enc P W t v d ∧ ArgsIn enc P W ts vs' ds' := by
  match vs, ds with
  | v :: vs, d :: ds => exact ⟨v, vs, d, ds, rfl, rfl, h.1, h.2⟩
  | [], [] => exact h.elim
  | [], _ :: _ => exact h.elim
  | _ :: _, [] => exact h.elim
theorem argsIn_nil {W : World} {vs : List Value} {ds : List (DataW H)} (h : ArgsIn enc P W [] vs ds) : vs = [] ∧ ds = [] := by
  match vs, ds with
  | [], [] => exact ⟨rfl, rfl⟩
  | _ :: _, _ :: _ => exact h.elim
  | [], _ :: _ => exact h.elim
  | _ :: _, [] => exact h.elim
theorem argsIn1 {W : World} {t0 : TypeId} {args : Array Value} {ds : List (DataW H)} (h : ArgsIn enc P W [t0] args.toList ds) :
    ∃ v0 d0, args = #[v0] ∧ ds = [d0] ∧ ArgIn enc P W t0 v0 d0 := by
  obtain ⟨l⟩ := args
  obtain ⟨v0, l0, d0, e0, hl, rfl, h0, r0⟩ := argsIn_cons h
  simp only at hl
  subst hl
  obtain ⟨rfl, rfl⟩ := argsIn_nil r0
  exact ⟨v0, d0, rfl, rfl, h0⟩
theorem argsIn2 {W : World} {t0 t1 : TypeId} {args : Array Value} {ds : List (DataW H)} (h : ArgsIn enc P W [t0, t1] args.toList ds) :
    ∃ v0 v1 d0 d1, args = #[v0, v1] ∧ ds = [d0, d1] ∧ ArgIn enc P W t0 v0 d0 ∧ ArgIn enc P W t1 v1 d1 := by
  obtain ⟨l⟩ := args
  obtain ⟨v0, l0, d0, e0, hl, rfl, h0, r0⟩ := argsIn_cons h
  simp only at hl
  subst hl
  obtain ⟨v1, l1, d1, e1, rfl, rfl, h1, r1⟩ := argsIn_cons r0
  obtain ⟨rfl, rfl⟩ := argsIn_nil r1
  exact ⟨v0, v1, d0, d1, rfl, rfl, h0, h1⟩
theorem argsIn3 {W : World} {t0 t1 t2 : TypeId} {args : Array Value} {ds : List (DataW H)} (h : ArgsIn enc P W [t0, t1, t2] args.toList ds) :
    ∃ v0 v1 v2 d0 d1 d2, args = #[v0, v1, v2] ∧ ds = [d0, d1, d2] ∧ ArgIn enc P W t0 v0 d0 ∧ ArgIn enc P W t1 v1 d1 ∧ ArgIn enc P W t2 v2 d2 := by
  obtain ⟨l⟩ := args
  obtain ⟨v0, l0, d0, e0, hl, rfl, h0, r0⟩ := argsIn_cons h
  simp only at hl
  subst hl
  obtain ⟨v1, l1, d1, e1, rfl, rfl, h1, r1⟩ := argsIn_cons r0
  obtain ⟨v2, l2, d2, e2, rfl, rfl, h2, r2⟩ := argsIn_cons r1
  obtain ⟨rfl, rfl⟩ := argsIn_nil r2
  exact ⟨v0, v1, v2, d0, d1, d2, rfl, rfl, h0, h1, h2⟩
theorem argsIn4 {W : World} {t0 t1 t2 t3 : TypeId} {args : Array Value} {ds : List (DataW H)} (h : ArgsIn enc P W [t0, t1, t2, t3] args.toList ds) :
    ∃ v0 v1 v2 v3 d0 d1 d2 d3, args = #[v0, v1, v2, v3] ∧ ds = [d0, d1, d2, d3] ∧ ArgIn enc P W t0 v0 d0 ∧ ArgIn enc P W t1 v1 d1 ∧ ArgIn enc P W t2 v2 d2 ∧ ArgIn enc P W t3 v3 d3 := by
  obtain ⟨l⟩ := args
  obtain ⟨v0, l0, d0, e0, hl, rfl, h0, r0⟩ := argsIn_cons h
  simp only at hl
  subst hl
  obtain ⟨v1, l1, d1, e1, rfl, rfl, h1, r1⟩ := argsIn_cons r0
  obtain ⟨v2, l2, d2, e2, rfl, rfl, h2, r2⟩ := argsIn_cons r1
  obtain ⟨v3, l3, d3, e3, rfl, rfl, h3, r3⟩ := argsIn_cons r2
  obtain ⟨rfl, rfl⟩ := argsIn_nil r3
  exact ⟨v0, v1, v2, v3, d0, d1, d2, d3, rfl, rfl, h0, h1, h2, h3⟩
theorem argsIn5 {W : World} {t0 t1 t2 t3 t4 : TypeId} {args : Array Value} {ds : List (DataW H)} (h : ArgsIn enc P W [t0, t1, t2, t3, t4] args.toList ds) :
    ∃ v0 v1 v2 v3 v4 d0 d1 d2 d3 d4, args = #[v0, v1, v2, v3, v4] ∧ ds = [d0, d1, d2, d3, d4] ∧ ArgIn enc P W t0 v0 d0 ∧ ArgIn enc P W t1 v1 d1 ∧ ArgIn enc P W t2 v2 d2 ∧ ArgIn enc P W t3 v3 d3 ∧ ArgIn enc P W t4 v4 d4 := by
  obtain ⟨l⟩ := args
  obtain ⟨v0, l0, d0, e0, hl, rfl, h0, r0⟩ := argsIn_cons h
  simp only at hl
  subst hl
  obtain ⟨v1, l1, d1, e1, rfl, rfl, h1, r1⟩ := argsIn_cons r0
  obtain ⟨v2, l2, d2, e2, rfl, rfl, h2, r2⟩ := argsIn_cons r1
  obtain ⟨v3, l3, d3, e3, rfl, rfl, h3, r3⟩ := argsIn_cons r2
  obtain ⟨v4, l4, d4, e4, rfl, rfl, h4, r4⟩ := argsIn_cons r3
  obtain ⟨rfl, rfl⟩ := argsIn_nil r4
  exact ⟨v0, v1, v2, v3, v4, d0, d1, d2, d3, d4, rfl, rfl, h0, h1, h2, h3, h4⟩

/-! ### Opening arguments -/
section
variable {W : World} {t : TypeId} {v : Value} {d : DataW H}
/-- what the bulk of bytes says -/
theorem bulk_bytes {b : List UInt8} (hd : d = .nil ∧ b = [] ∨ ∃ sp, d = .slice (b.map fun x => .lit (.int .u8 (x.toNat : Int))) sp) : b.length ≤ Rows.uptoBulk d := by
  rcases hd with ⟨rfl, rfl⟩ | ⟨sp, rfl⟩
  · simp
  · simp only [Rows.uptoBulk]
    have : b.length ≤ Rows.uptoBulkAll (b.map fun x => DataW.lit (H := H) (.int .u8 (x.toNat : Int))) := by
      induction b with
      | nil => simp
      | cons x r ih => simp only [List.map_cons, List.length_cons, Rows.uptoBulkAll, Rows.uptoBulk]; omega
    omega
end
end
end Go.Proofs.YtcgclpcocdappaaGreatDoor
