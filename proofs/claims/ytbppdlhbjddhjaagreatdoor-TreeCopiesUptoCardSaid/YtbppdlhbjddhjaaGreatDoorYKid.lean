/-
  tree.New at the page's example; the law's alive; the walk of the law TreeKids.
  The law TreeCopies: a copy is the tenant, and shares nothing with it.
-/
import Derived.Test.YtbppdlhbjddhjaaGreatDoorTrChk
import Derived.Test.YtbppdlhbjddhjaaGreatDoorWide2
import Derived.Test.YtbppdlhbjddhjaaGreatDoorYEq
import Derived.Test.YtbppdlhbjddhjaaGreatDoorTrSpp
import Derived.Test.YtbppdlhbjddhjaaGreatDoorRfOwnp
namespace Go.Proofs.YtbppdlhbjddhjaaGreatDoor
open Go.RowKit

def set0 : SetR := ⟨[], [], ⟨none, 0, 0, []⟩, ⟨none, 0, 0, []⟩, ⟨none, 0, 0, []⟩⟩
def ten0 (g : Nat) : TenR := ⟨[97], 5, 1, ⟨some ⟨g, 0, none⟩, 1, 1, [set0]⟩, ⟨none, 0, 0, []⟩, ⟨none, 0, 0, []⟩, ⟨none, 0, 0, []⟩⟩
theorem ten0_ok (g : Nat) : tenE (ten0 g) = 0 := by
  show (if tenB (ten0 g) = true then (0 : Int) else 9) = 0
  rw [if_pos]
  show tenB (ten0 0) = true
  decide +kernel
theorem ten0_sz (g : Nat) : (ten0 g).sz where
  nm := by show (1 : Nat) ≤ 4000000000; decide
  sets := by show (1 : Nat) ≤ 1000000000000; decide
  eachS := by
    intro y hy
    rw [show (ten0 g).sets.l = [set0] from rfl, List.mem_singleton] at hy
    subst hy
    exact ⟨by decide, by decide, by decide, by decide, (fun y hy => by cases hy), by decide, (fun y hy => by cases hy)⟩
  grants := by show (0 : Nat) ≤ 1000000000000; decide
  eachG := fun y hy => by cases hy
  stages := by show (0 : Nat) ≤ 1000000000000; decide
  eachT := fun y hy => by cases hy
  log := by show (0 : Nat) ≤ 1000000000000; decide
  eachL := fun y hy => by cases hy
theorem ten0_rd (g : Nat) (w : World) (B : Nat) (h : Reads w B 5 (some ⟨g, 0, none⟩) 1 (cellsK encSet [set0])) : (ten0 g).rd w B where
  sets := ⟨rfl, Nat.le_refl _, h⟩
  eachS := by
    intro y hy
    rw [show (ten0 g).sets.l = [set0] from rfl, List.mem_singleton] at hy
    subst hy
    exact ⟨⟨rfl, by decide, Reads.none_⟩, ⟨rfl, by decide, Reads.none_⟩, (fun y hy => by cases hy), ⟨rfl, by decide, Reads.none_⟩⟩
  grants := ⟨rfl, Nat.le_refl _, Reads.none_⟩
  stages := ⟨rfl, Nat.le_refl _, Reads.none_⟩
  eachG := fun y hy => by cases hy
  log := ⟨rfl, Nat.le_refl _, Reads.none_⟩
def NewPost (w : World) (e : Ending) (w' : World) : Prop := ∃ g, e = .returned (.tuple #[(ten0 g).val, .int .i64 0]) ∧ g < w'.heap.size ∧ Reads w' w'.heap.size 5 (some ⟨g, 0, none⟩) 1 (cellsK encSet [set0]) ∧ Below w.heap.size w w'
set_option maxRecDepth 100000 in
set_option maxHeartbeats 1000000 in
theorem new0_any (w : World) : Calls Tryz.prog 30 #[.string ⟨#[97]⟩, .int .i64 5] w (NewPost w) := by
  have hN := fun W => name_any ⟨#[97]⟩ W
  rw [show nameB (ByteArray.mk #[97]).data.toList = true by decide +kernel] at hN
  have hA := fun W => amount_any 5 0 W
  rw [show amt 5 0 = true by decide] at hA
  go_enter Tryz.func30, Tryz.ntmps30
  go_wp2_with fail
  refine (hN _).mono ?_
  rintro e w1 ⟨rfl, hb1⟩
  go_wp2_with fail
  refine (hA _).mono ?_
  rintro e w2 ⟨rfl, rfl⟩
  have hlt : w.heap.size < w2.heap.size := by have := hb1.size; simp at this; omega
  have kB := ((Blk.new w 27 #[.string ⟨#[]⟩, .int .i64 0, .int .i64 0, .slice none 0 0, .slice none 0 0, .slice none 0 0, .slice none 0 0]).below hb1 (by simp)).alloc (.cells #[.string ⟨#[]⟩, .string ⟨#[]⟩, .slice none 0 0, .slice none 0 0, .slice none 0 0] 61)
  have kR := Blk.new w2 61 #[.string ⟨#[]⟩, .string ⟨#[]⟩, .slice none 0 0, .slice none 0 0, .slice none 0 0]
  have hb0 := ((Below.refl w.heap.size w).alloc (Nat.le_refl _) (.cells #[.string ⟨#[]⟩, .int .i64 0, .int .i64 0, .slice none 0 0, .slice none 0 0, .slice none 0 0, .slice none 0 0] 27)).trans (hb1.mono (by simp))
  have hb3 := hb0.alloc hb0.size (.cells #[.string ⟨#[]⟩, .string ⟨#[]⟩, .slice none 0 0, .slice none 0 0, .slice none 0 0] 61)
  have hth := kB.there 7 (by decide)
  have kB2 := Blk.setCells (g := w.heap.size) [.string ⟨#[97]⟩, .int .i64 5, .int .i64 1, .slice (some ⟨w2.heap.size, 0, none⟩) 1 1, .slice none 0 0, .slice none 0 0, .slice none 0 0] _ [] [.string ⟨#[]⟩, .int .i64 0, .int .i64 0, .slice none 0 0, .slice none 0 0, .slice none 0 0, .slice none 0 0] rfl kB
  have kR2 := Blk.setCells_far (g := w2.heap.size) (g' := w.heap.size) (by omega) [.string ⟨#[97]⟩, .int .i64 5, .int .i64 1, .slice (some ⟨w2.heap.size, 0, none⟩) 1 1, .slice none 0 0, .slice none 0 0, .slice none 0 0] _ 0 kR
  have hb4 := below_setCells (g := w.heap.size) (Nat.le_refl _) [.string ⟨#[97]⟩, .int .i64 5, .int .i64 1, .slice (some ⟨w2.heap.size, 0, none⟩) 1 1, .slice none 0 0, .slice none 0 0, .slice none 0 0] _ 0 hb3
  have hsz := size_setCells (g := w.heap.size) [.string ⟨#[97]⟩, .int .i64 5, .int .i64 1, .slice (some ⟨w2.heap.size, 0, none⟩) 1 1, .slice none 0 0, .slice none 0 0, .slice none 0 0] (w2.alloc (.cells #[.string ⟨#[]⟩, .string ⟨#[]⟩, .slice none 0 0, .slice none 0 0, .slice none 0 0] 61)) 0
  have HTH := Lib.hid hth
  simp only [List.length_nil, List.nil_append] at kB2
  obtain ⟨W4, hW4⟩ : ∃ W, W = (w2.alloc (.cells #[.string ⟨#[]⟩, .string ⟨#[]⟩, .slice none 0 0, .slice none 0 0, .slice none 0 0] 61)).setCells w.heap.size 0 [.string ⟨#[97]⟩, .int .i64 5, .int .i64 1, .slice (some ⟨w2.heap.size, 0, none⟩) 1 1, .slice none 0 0, .slice none 0 0, .slice none 0 0] := ⟨_, rfl⟩
  rw [← hW4] at kB2 kR2 hb4 hsz
  have HKR := Lib.hid kR2
  have HB4 := Lib.hid hb4
  have HS4 := Lib.hid (show w2.heap.size < W4.heap.size by rw [hsz]; simp)
  have d0 := kB2.cell 0
  have d1 := kB2.cell 1
  have d2 := kB2.cell 2
  have d3 := kB2.cell 3
  have d4 := kB2.cell 4
  have d5 := kB2.cell 5
  have d6 := kB2.cell 6
  simp only [List.getElem?_toArray, List.getElem?_cons_succ, List.getElem?_cons_zero] at d0 d1 d2 d3 d4 d5 d6
  have HD := Lib.hid (show _ ∧ _ ∧ _ ∧ _ ∧ _ ∧ _ ∧ _ from ⟨d0, d1, d2, d3, d4, d5, d6⟩)
  clear kB kR hb0 hb3 hth kB2 kR2 hb4 hsz hb1 hN hA d0 d1 d2 d3 d4 d5 d6
  have hW5 : W4 = (w2.alloc (.cells #[.string ⟨#[]⟩, .string ⟨#[]⟩, .slice none 0 0, .slice none 0 0, .slice none 0 0] 61)).setCells w.heap.size 0 (#[.string ⟨#[97]⟩, .int .i64 5, .int .i64 1, .slice (some ⟨w2.heap.size, 0, none⟩) 1 1, .slice none 0 0, .slice none 0 0, .slice none 0 0] : Array Value).toList := hW4
  clear hW4
  go_wp2_with (refine wpList_store_mid rfl 27 (.tmp 4) (.tmp 24) rfl w.heap.size 0 #[.string ⟨#[97]⟩, .int .i64 5, .int .i64 1, .slice (some ⟨w2.heap.size, 0, none⟩) 1 1, .slice none 0 0, .slice none 0 0, .slice none 0 0] rfl rfl HTH.out (by kernel_rfl) (by simp [Value.oneCell']) ?_; rw [← hW5]; clear hW5)
  obtain ⟨d0, d1, d2, d3, d4, d5, d6⟩ := HD.out
  clear HTH
  refine bodyPost_ret (v := .tuple #[.agg #[.string ⟨#[97]⟩, .int .i64 5, .int .i64 1, .slice (some ⟨w2.heap.size, 0, none⟩) 1 1, .slice none 0 0, .slice none 0 0, .slice none 0 0], .int .i64 0]) (by simp [results, Tryz.results30, go_sem, d0, d1, d2, d3, d4, d5, d6]) rfl ⟨w2.heap.size, rfl, HS4.out, ?_, HB4.out⟩
  exact (Reads.of_blk (n := 1) (size := 5) HKR.out (cellsK encSet [set0]) rfl (fun j u h => by rw [show cellsK encSet [set0] = [.string ⟨#[]⟩, .string ⟨#[]⟩, .slice none 0 0, .slice none 0 0, .slice none 0 0] from rfl] at h; simpa using h)).more (by have := HS4.out; omega)
def LivePost (w : World) (e : Ending) (w' : World) : Prop := e = .returned (.bool true) ∧ Below w.heap.size w w'
theorem num14_any (n : Int) (w : World) : Calls Tryz.prog 27 #[.int .i64 n] w fun e w' => e = .returned (.int .i64 n) ∧ w' = w := by
  go_enter Tryz.func27, Tryz.ntmps27
  go_wp2_with fail
  go_ret
  exact ⟨rfl, rfl⟩
set_option maxRecDepth 100000 in
set_option maxHeartbeats 2000000 in
theorem alive14_any (w : World) (hmx : HasMax w) : Calls Tryz.prog 7 #[] w fun e w' => e = .returned (.bool true) ∧ Below w.heap.size w w' := by
  go_enter Tryz.func7, Tryz.ntmps7
  go_wp2_with fail
  refine (new0_any _).mono ?_
  rintro e w1 ⟨g, rfl, hg, hrd, hb1⟩
  have hv : (ten0 g).val = .agg #[.string ⟨#[97]⟩, .int .i64 5, .int .i64 1, .slice (some ⟨g, 0, none⟩) 1 1, .slice none 0 0, .slice none 0 0, .slice none 0 0] := rfl
  rw [hv]
  obtain ⟨W1, hW1⟩ : ∃ W, W = w1.alloc (.cells #[.string ⟨#[97]⟩, .int .i64 5, .int .i64 1, .slice (some ⟨g, 0, none⟩) 1 1, .slice none 0 0, .slice none 0 0, .slice none 0 0] 27) := ⟨_, rfl⟩
  have hb2 := hb1.alloc hb1.size (.cells #[.string ⟨#[97]⟩, .int .i64 5, .int .i64 1, .slice (some ⟨g, 0, none⟩) 1 1, .slice none 0 0, .slice none 0 0, .slice none 0 0] 27)
  have kB := Blk.new w1 27 #[.string ⟨#[97]⟩, .int .i64 5, .int .i64 1, .slice (some ⟨g, 0, none⟩) 1 1, .slice none 0 0, .slice none 0 0, .slice none 0 0]
  have hr1 := hrd.alloc (Nat.le_refl _) (.cells #[.string ⟨#[97]⟩, .int .i64 5, .int .i64 1, .slice (some ⟨g, 0, none⟩) 1 1, .slice none 0 0, .slice none 0 0, .slice none 0 0] 27)
  rw [← hW1] at hb2 kB hr1
  have hsz : W1.heap.size = w1.heap.size + 1 := by rw [hW1]; simp
  have hc := tcheck_any (ten0 g) W1 w1.heap.size (ten0_rd g W1 _ hr1) (by omega) (ten0_sz g) (hmx.below hb2)
  rw [ten0_ok, hv] at hc
  have hf := Lib.hid (fun W (hb : Below W1.heap.size W1 W) => find_any (.string ⟨#[97]⟩) (.int .i64 5) (.int .i64 1) (.slice none 0 0) (.slice none 0 0) (.slice none 0 0) [set0] 1 rfl (some ⟨g, 0, none⟩) 1 [] W w1.heap.size (hr1.below (hb.mono (by omega))) (by have := hb.size; omega) (by decide))
  rw [show findS [set0] [] = 0 by decide +kernel] at hf
  have hC := Lib.hid hc
  have HB2 := Lib.hid hb2
  have HSZ := Lib.hid hsz
  have HKB := Lib.hid kB
  clear hrd hb1 hb2 kB hr1 hc hsz hv
  go_wp2_with fail
  rw [← hW1]
  refine (num14_any _ _).mono ?_
  rintro e w2 ⟨rfl, hw2⟩
  have hw2 := hw2.symm
  subst hw2
  obtain ⟨e0, e1, e2, e3, e4, e5, e6⟩ := (⟨HKB.out.cell 0, HKB.out.cell 1, HKB.out.cell 2, HKB.out.cell 3, HKB.out.cell 4, HKB.out.cell 5, HKB.out.cell 6⟩ : _ ∧ _ ∧ _ ∧ _ ∧ _ ∧ _ ∧ _)
  simp only [List.getElem?_toArray, List.getElem?_cons_succ, List.getElem?_cons_zero] at e0 e1 e2 e3 e4 e5 e6
  clear hW1
  go_wp2_with fail
  refine hC.out.mono ?_
  clear hC e0 e1 e2 e3 e4 e5 e6
  rintro e w3 ⟨rfl, hb3⟩
  have hk3 := HKB.out.below hb3 (by have := HSZ.out; omega)
  obtain ⟨e0, e1, e2, e3, e4, e5, e6⟩ := (⟨hk3.cell 0, hk3.cell 1, hk3.cell 2, hk3.cell 3, hk3.cell 4, hk3.cell 5, hk3.cell 6⟩ : _ ∧ _ ∧ _ ∧ _ ∧ _ ∧ _ ∧ _)
  simp only [List.getElem?_toArray, List.getElem?_cons_succ, List.getElem?_cons_zero] at e0 e1 e2 e3 e4 e5 e6
  have hfc := hf.out _ hb3
  have HB3 := Lib.hid (HB2.out.trans (hb3.mono HB2.out.size))
  clear hk3 hb3 hf
  go_wp2_with fail
  refine hfc.mono ?_
  clear hfc
  rintro e w4 ⟨rfl, hb4⟩
  have HB4 := Lib.hid (HB3.out.trans (hb4.mono HB3.out.size))
  clear hb4 e0 e1 e2 e3 e4 e5 e6
  go_wp2_with fail
  go_ret
  exact ⟨rfl, HB4.out⟩
end Go.Proofs.YtbppdlhbjddhjaaGreatDoor
namespace Go.Proofs.YtbppdlhbjddhjaaGreatDoor
open Go.RowKit

theorem blk7 {w : World} {g : Nat} {t : TypeId} {a0 a1 a2 a3 a4 a5 a6 : Value} (h : Blk w g t #[a0, a1, a2, a3, a4, a5, a6]) : w.cell? ⟨g, 0, none⟩ = some a0 ∧ w.cell? ⟨g, 1, none⟩ = some a1 ∧ w.cell? ⟨g, 2, none⟩ = some a2 ∧ w.cell? ⟨g, 3, none⟩ = some a3 ∧ w.cell? ⟨g, 4, none⟩ = some a4 ∧ w.cell? ⟨g, 5, none⟩ = some a5 ∧ w.cell? ⟨g, 6, none⟩ = some a6 :=
  ⟨h.cell 0, h.cell 1, h.cell 2, h.cell 3, h.cell 4, h.cell 5, h.cell 6⟩
theorem SnapR.eqv.size {x y : SnapR} {w w' : World} {B B' : Nat} (h : x.eqv y) (hx : x.rd w B) (hy : y.rd w' B') (hz : x.sz) : y.sz :=
  h.sz hz (FS.len_eq hx.body.1 hy.body.1 h.body) (FS.len_eq hx.tags.1 hy.tags.1 h.tags) (FS.len_eq hx.own.1 hy.own.1 h.own)
theorem SetR.eqv.size {x y : SetR} {w w' : World} {B B' : Nat} (h : x.eqv y) (hx : x.rd w B) (hy : y.rd w' B') (hz : x.sz) : y.sz := by
  refine ⟨by rw [← h.path]; exact hz.path, by rw [← h.org]; exact hz.org, by rw [FS.len_eq hx.body.1 hy.body.1 h.body]; exact hz.body, by rw [hy.snaps.1, ← h.len, ← hx.snaps.1]; exact hz.snaps, fun z hm => ?_, by rw [FS.len_eq hx.own.1 hy.own.1 h.own]; exact hz.own, by rw [← h.own]; exact hz.props⟩
  obtain ⟨i, hi, rfl⟩ := List.getElem_of_mem hm
  have hi' : i < x.snaps.l.length := by rw [h.len]; exact hi
  exact (h.each i hi' hi).size (hx.each _ (List.getElem_mem hi')) (hy.each _ hm) (hz.each _ (List.getElem_mem hi'))
theorem StageR.eqv.size {x y : StageR} {w w' : World} {B B' : Nat} (h : x.eqv y) (hx : x.rd w B) (hy : y.rd w' B') (hz : x.sz) : y.sz :=
  ⟨by rw [← h.into]; exact hz.into, by rw [← h.nm]; exact hz.nm, by rw [← h.dt]; exact hz.dt, by rw [FS.len_eq hx.own.1 hy.own.1 h.own]; exact hz.own, by rw [← h.own]; exact hz.props, by rw [FS.len_eq hx.body.1 hy.body.1 h.body]; exact hz.body⟩
theorem TenR.eqv.size {x y : TenR} {w w' : World} {B B' : Nat} (h : x.eqv y) (hx : x.rd w B) (hy : y.rd w' B') (hz : x.sz) : y.sz := by
  refine ⟨by rw [← h.nm]; exact hz.nm, by rw [hy.sets.1, ← h.lenS, ← hx.sets.1]; exact hz.sets, fun z hm => ?_, by rw [FS.len_eq hx.grants.1 hy.grants.1 h.grants]; exact hz.grants, by rw [← h.grants]; exact hz.eachG, by rw [hy.stages.1, ← h.lenT, ← hx.stages.1]; exact hz.stages, fun z hm => ?_, by rw [FS.len_eq hx.log.1 hy.log.1 h.log]; exact hz.log, by rw [← h.log]; exact hz.eachL⟩
  · obtain ⟨i, hi, rfl⟩ := List.getElem_of_mem hm
    have hi' : i < x.sets.l.length := by rw [h.lenS]; exact hi
    exact (h.eachS i hi' hi).size (hx.eachS _ (List.getElem_mem hi')) (hy.eachS _ hm) (hz.eachS _ (List.getElem_mem hi'))
  · obtain ⟨i, hi, rfl⟩ := List.getElem_of_mem hm
    have hi' : i < x.stages.l.length := by rw [h.lenT]; exact hi
    exact (h.eachT i hi' hi).size (hx.eachG _ (List.getElem_mem hi')) (hy.eachG _ hm) (hz.eachT _ (List.getElem_mem hi'))
theorem SnapR.rd.more {x : SnapR} {w : World} {B B' : Nat} (h : x.rd w B) (hb : B ≤ B') : x.rd w B' := ⟨h.body.more hb, h.tags.more hb, h.own.more hb⟩
theorem SetR.rd.more {x : SetR} {w : World} {B B' : Nat} (h : x.rd w B) (hb : B ≤ B') : x.rd w B' := ⟨h.body.more hb, h.snaps.more hb, fun y hy => (h.each y hy).more hb, h.own.more hb⟩
theorem TenR.rd.more {x : TenR} {w : World} {B B' : Nat} (h : x.rd w B) (hb : B ≤ B') : x.rd w B' := ⟨h.sets.more hb, fun y hy => (h.eachS y hy).more hb, h.grants.more hb, h.stages.more hb, fun y hy => ⟨(h.eachG y hy).own.more hb, (h.eachG y hy).body.more hb⟩, h.log.more hb⟩
/-- the spoiling of a tenant that lies in memory of its own -/
theorem spoil_any (t : TenR) (w0 w : World) (lo : Nat) (ho : TenO w0 lo t) (hb : Below w0.heap.size w0 w) (hlo : lo ≤ w0.heap.size) (hs : t.sets.n ≤ 5000000000000) :
    Calls Tryz.prog 10 #[t.val] w fun e w' => e = .returned (.tuple #[]) ∧ OnlyIn lo w0.heap.size w w' := by
  have h1 := (ho.sets.setsw ho.eachS).below hb
  have h2 := ho.grants.rowx.below hb
  have h3 := ho.stages.rowx.below hb
  have h4 := ho.log.rowx.below hb
  obtain ⟨nm, qu, nx, ⟨s1, sn, s3, sl⟩, ⟨g1, gn, g3, gl⟩, ⟨t1, tn, t3, tl⟩, ⟨l1, ln, l3, ll⟩⟩ := t
  exact spoilT_any nm qu nx s1 sn s3 g1 gn g3 t1 tn t3 l1 ln l3 w lo w0.heap.size hb.size (Nat.le_trans hlo hb.size) hs h1 h2 h3 h4
theorem own14_any (t : TenR) (w : World) (B : Nat) (hB : B ≤ w.heap.size) (hr : t.rd w B) (hz : t.sz) (hst : t.stages.n ≤ 500000000000) :
    Calls Tryz.prog 8 #[t.val] w fun e w' => ∃ y : TenR, e = .returned y.val ∧ TenO w' w.heap.size y ∧ t.eqv y ∧ Below w.heap.size w w' := by
  obtain ⟨nm, qu, nx, ⟨s1, sn, s3, sl⟩, ⟨g1, gn, g3, gl⟩, ⟨t1, tn, t3, tl⟩, ⟨l1, ln, l3, ll⟩⟩ := t
  exact own14T_any nm qu nx s1 sn s3 sl g1 gn g3 gl t1 tn t3 tl l1 ln l3 ll w B hB hr hz hst
set_option maxRecDepth 100000 in
set_option maxHeartbeats 4000000 in
theorem treeCopies_any (t : TenR) (w : World) (hr : t.rd w w.heap.size) (hz : t.sz) (hst : t.stages.n ≤ 500000000000) (hmx : HasMax w) :
    Calls Tryz.prog 3 #[t.val] w fun e w' => e = .returned (.bool true) ∧ Below w.heap.size w w' := by
  obtain ⟨nm, quota, next, ⟨s1, s2, s3, sl⟩, ⟨ga, gb, gc, gl⟩, ⟨t1, t2, t3, tl⟩, ⟨l1, l2, l3, ll⟩⟩ := t
  show Calls Tryz.prog 3 #[.agg #[.string ⟨nm.toArray⟩, .int .i64 quota, .int .i64 next, .slice s1 s2 s3, .slice ga gb gc, .slice t1 t2 t3, .slice l1 l2 l3]] w _
  have HZ := Lib.hid hz
  have HR := Lib.hid hr
  have kT := Blk.new w 27 #[.string ⟨nm.toArray⟩, .int .i64 quota, .int .i64 next, .slice s1 s2 s3, .slice ga gb gc, .slice t1 t2 t3, .slice l1 l2 l3]
  have hb1 := (Below.refl w.heap.size w).alloc (Nat.le_refl _) (.cells #[.string ⟨nm.toArray⟩, .int .i64 quota, .int .i64 next, .slice s1 s2 s3, .slice ga gb gc, .slice t1 t2 t3, .slice l1 l2 l3] 27)
  obtain ⟨W1, hW1⟩ : ∃ W, W = w.alloc (.cells #[.string ⟨nm.toArray⟩, .int .i64 quota, .int .i64 next, .slice s1 s2 s3, .slice ga gb gc, .slice t1 t2 t3, .slice l1 l2 l3] 27) := ⟨_, rfl⟩
  have hsz1 : W1.heap.size = w.heap.size + 1 := by rw [hW1]; simp
  rw [← hW1] at hb1 kT
  have hal := alive14_any W1 (hmx.below hb1)
  have KT := Lib.hid kT
  have HB1 := Lib.hid hb1
  have HSZ1 := Lib.hid hsz1
  clear kT hb1 hsz1 hz hr hmx
  go_enter Tryz.func3, Tryz.ntmps3
  go_wp2_with fail
  rw [← hW1]
  clear hW1
  refine hal.mono ?_
  clear hal
  rintro e w2 ⟨rfl, hb2⟩
  have HB2 := Lib.hid (HB1.out.trans (hb2.mono (by have := HSZ1.out; omega)))
  have KT2 := Lib.hid (KT.out.below hb2 KT.out.lt)
  have HLT := Lib.hid (show w.heap.size + 1 ≤ w2.heap.size by have := hb2.size; have := HSZ1.out; omega)
  have hown := own14_any _ w2 w.heap.size HB2.out.size (TenR.rd.below HR.out HB2.out) HZ.out hst
  obtain ⟨c0, c1, c2, c3, c4, c5, c6⟩ := blk7 KT2.out
  clear hb2 KT HB1 HSZ1
  go_wp2_with fail
  refine hown.mono ?_
  clear hown c0 c1 c2 c3 c4 c5 c6
  rintro e w3 ⟨y, rfl, ho3, he3, hb3⟩
  have KT3 := Lib.hid (KT2.out.below hb3 KT2.out.lt)
  have HB3 := Lib.hid (HB2.out.trans (hb3.mono (by have := HLT.out; omega)))
  have HL3 := Lib.hid hb3.size
  have hy3 := ho3.rd
  have hzy := he3.size HR.out hy3 HZ.out
  have hsp : Hid (∀ W, Below w3.heap.size w3 W → Calls Tryz.prog 10 #[y.val] W fun e w' => e = .returned (.tuple #[]) ∧ OnlyIn w2.heap.size w3.heap.size W w') := fun W h => spoil_any y w3 W w2.heap.size ho3 h hb3.size (by have := hzy.sets; omega)
  have hcp : Hid (∀ W, Below w3.heap.size w3 W → Calls Tryz.prog 9 #[y.val] W fun e w' => ∃ z : TenR, e = .returned z.val ∧ TenO w' W.heap.size z ∧ y.eqv z ∧ Below W.heap.size W w') := fun W h => tcopy_any y W w3.heap.size h.size (TenR.rd.below hy3 h) hzy
  obtain ⟨nm', quota', next', ⟨s1', s2', s3', sl'⟩, ⟨ga', gb', gc', gl'⟩, ⟨t1', t2', t3', tl'⟩, ⟨l1', l2', l3', ll'⟩⟩ := y
  simp only [TenR.val, TenR.cells, FS.val, strV] at hsp hcp ⊢
  have HE3 := Lib.hid he3
  have HZY := Lib.hid hzy
  have HY3 := Lib.hid hy3
  have k3 := Blk.new w3 27 #[.string ⟨nm'.toArray⟩, .int .i64 quota', .int .i64 next', .slice s1' s2' s3', .slice ga' gb' gc', .slice t1' t2' t3', .slice l1' l2' l3']
  have hb3a := (Below.refl w3.heap.size w3).alloc (Nat.le_refl _) (.cells #[.string ⟨nm'.toArray⟩, .int .i64 quota', .int .i64 next', .slice s1' s2' s3', .slice ga' gb' gc', .slice t1' t2' t3', .slice l1' l2' l3'] 27)
  obtain ⟨W3, hW3⟩ : ∃ W, W = w3.alloc (.cells #[.string ⟨nm'.toArray⟩, .int .i64 quota', .int .i64 next', .slice s1' s2' s3', .slice ga' gb' gc', .slice t1' t2' t3', .slice l1' l2' l3'] 27) := ⟨_, rfl⟩
  have hsz3 : W3.heap.size = w3.heap.size + 1 := by rw [hW3]; simp
  rw [← hW3] at hb3a k3
  have hc := hcp.out W3 hb3a
  have HB3a := Lib.hid hb3a
  have HSZ3 := Lib.hid hsz3
  have K3 := Lib.hid k3
  clear ho3 he3 hb3 hy3 hzy hcp hb3a hsz3 k3 KT2 HB2
  go_wp2_with fail
  rw [← hW3]
  clear hW3
  refine hc.mono ?_
  clear hc
  rintro e w4 ⟨z, rfl, ho4, he4, hb4⟩
  have HB4 := Lib.hid (HB3a.out.trans (hb4.mono (by have := HSZ3.out; omega)))
  have K34 := Lib.hid (K3.out.below hb4 K3.out.lt)
  have HO4 := Lib.hid ho4
  have HL4 := Lib.hid hb4.size
  have HE4 := Lib.hid he4
  have HZZ := Lib.hid (he4.size HY3.out ho4.rd HZY.out)
  have HZV : Hid (∀ W B, B ≤ W.heap.size → z.rd W B → TenR.rd W B ⟨nm, quota, next, ⟨s1, s2, s3, sl⟩, ⟨ga, gb, gc, gl⟩, ⟨t1, t2, t3, tl⟩, ⟨l1, l2, l3, ll⟩⟩ → Calls Tryz.prog 11 #[z.val, .agg #[.string ⟨nm.toArray⟩, .int .i64 quota, .int .i64 next, .slice s1 s2 s3, .slice ga gb gc, .slice t1 t2 t3, .slice l1 l2 l3]] W fun e w' => e = .returned (.bool true) ∧ Below W.heap.size W w') := fun W B hB h1 h2 => same14_any z _ (HE3.out.trans he4).symm W B hB h1 h2 HZZ.out
  have HZV2 : Hid (∀ W B, B ≤ W.heap.size → z.rd W B → TenR.rd W B ⟨nm, quota, next, ⟨s1, s2, s3, sl⟩, ⟨ga, gb, gc, gl⟩, ⟨t1, t2, t3, tl⟩, ⟨l1, l2, l3, ll⟩⟩ → Calls Tryz.prog 12 #[z.val, .agg #[.string ⟨nm.toArray⟩, .int .i64 quota, .int .i64 next, .slice s1 s2 s3, .slice ga gb gc, .slice t1 t2 t3, .slice l1 l2 l3]] W fun e w' => e = .returned (.bool true) ∧ Below W.heap.size W w') := fun W B hB h1 h2 => tsame_any z _ (HE3.out.trans he4).symm W B hB h1 h2 HZZ.out
  obtain ⟨mm, mq, mx, ⟨m1, m2, m3, ml⟩, ⟨n1, n2, n3, nl⟩, ⟨p1, p2, p3, pl⟩, ⟨q1, q2, q3, ql⟩⟩ := z
  simp only [TenR.val, TenR.cells, FS.val, strV] at HZV HZV2 ⊢
  have k4 := Blk.new w4 27 #[.string ⟨mm.toArray⟩, .int .i64 mq, .int .i64 mx, .slice m1 m2 m3, .slice n1 n2 n3, .slice p1 p2 p3, .slice q1 q2 q3]
  have hb4a := (Below.refl w4.heap.size w4).alloc (Nat.le_refl _) (.cells #[.string ⟨mm.toArray⟩, .int .i64 mq, .int .i64 mx, .slice m1 m2 m3, .slice n1 n2 n3, .slice p1 p2 p3, .slice q1 q2 q3] 27)
  obtain ⟨W4, hW4⟩ : ∃ W, W = w4.alloc (.cells #[.string ⟨mm.toArray⟩, .int .i64 mq, .int .i64 mx, .slice m1 m2 m3, .slice n1 n2 n3, .slice p1 p2 p3, .slice q1 q2 q3] 27) := ⟨_, rfl⟩
  have hsz4 : W4.heap.size = w4.heap.size + 1 := by rw [hW4]; simp
  rw [← hW4] at hb4a k4
  have HSZ4 := Lib.hid hsz4
  have K4 := Lib.hid k4
  have hB34 := HB4.out.trans (hb4a.mono HB4.out.size)
  have hs := hsp.out W4 hB34
  have HO4a := Lib.hid (TenO.below HO4.out hb4a)
  have KT4 := Lib.hid (KT3.out.below hB34 KT3.out.lt)
  have HW4 := Lib.hid (HB3.out.trans (hB34.mono (by have := HB3.out.size; omega)))
  obtain ⟨d0, d1, d2, d3, d4, d5, d6⟩ := blk7 (K34.out.alloc (.cells #[.string ⟨mm.toArray⟩, .int .i64 mq, .int .i64 mx, .slice m1 m2 m3, .slice n1 n2 n3, .slice p1 p2 p3, .slice q1 q2 q3] 27))
  clear hb4 ho4 he4 hsp hb4a hsz4 k4 hB34 K3 K34 HO4 KT3 HB3a HB3
  go_wp2_with fail
  rw [← hW4]
  clear hW4
  refine hs.mono ?_
  clear hs d0 d1 d2 d3 d4 d5 d6
  rintro e w5 ⟨rfl, ho5⟩
  have kz5 : Blk w5 w4.heap.size 27 #[.string ⟨mm.toArray⟩, .int .i64 mq, .int .i64 mx, .slice m1 m2 m3, .slice n1 n2 n3, .slice p1 p2 p3, .slice q1 q2 q3] := (ho5.high _ HB4.out.size (by have := HSZ4.out; omega)).trans K4.out
  have kt5 := KT4.out.below ho5.low (by have := HLT.out; omega)
  have hz5 := (TenO.only HO4a.out (by have := HSZ3.out; omega) ho5).rd
  have hb5 : Below w.heap.size w w5 := HW4.out.trans (ho5.low.mono (by have := HLT.out; omega))
  have hr5 := TenR.rd.more (TenR.rd.below HR.out hb5) hb5.size
  have hc1 := HZV.out w5 w5.heap.size (Nat.le_refl _) hz5 hr5
  obtain ⟨c0, c1, c2, c3, c4, c5, c6⟩ := blk7 kt5
  obtain ⟨d0, d1, d2, d3, d4, d5, d6⟩ := blk7 kz5
  have KT5 := Lib.hid kt5
  have KZ5 := Lib.hid kz5
  have HB5 := Lib.hid hb5
  have HZ5 := Lib.hid hz5
  have HR5 := Lib.hid hr5
  clear kz5 kt5 hz5 hb5 hr5 ho5 HZV K4 KT4 HO4a HW4
  go_wp2_with fail
  refine hc1.mono ?_
  clear hc1 c0 c1 c2 c3 c4 c5 c6 d0 d1 d2 d3 d4 d5 d6
  rintro e w6 ⟨rfl, hb6⟩
  have hc2 := HZV2.out w6 w5.heap.size hb6.size (TenR.rd.below HZ5.out hb6) (TenR.rd.below HR5.out hb6)
  obtain ⟨c0, c1, c2, c3, c4, c5, c6⟩ := blk7 (KT5.out.below hb6 KT5.out.lt)
  obtain ⟨d0, d1, d2, d3, d4, d5, d6⟩ := blk7 (KZ5.out.below hb6 KZ5.out.lt)
  have HB6 := Lib.hid (HB5.out.trans (hb6.mono HB5.out.size))
  clear hb6 HZV2 HZ5 HR5 KT5 KZ5
  go_wp2_with fail
  refine hc2.mono ?_
  clear hc2 c0 c1 c2 c3 c4 c5 c6 d0 d1 d2 d3 d4 d5 d6
  rintro e w7 ⟨rfl, hb7⟩
  go_wp2_with fail
  go_ret
  exact ⟨rfl, HB6.out.trans (hb7.mono HB6.out.size)⟩
end Go.Proofs.YtbppdlhbjddhjaaGreatDoor
