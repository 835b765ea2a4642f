/-
  shape.asked, shape.place: a path that may be asked; a set's place. tree.Kids, by its contract. The page's Same at tenants of one content: it answers true.
-/
import Derived.Test.YteafdncnnamakaaGreatDoorK0
import Derived.Test.YteafdncnnamakaaGreatDoorK17
import Derived.Test.YteafdncnnamakaaGreatDoorK10
import Derived.Test.YteafdncnnamakaaGreatDoorK6
import Derived.Test.YteafdncnnamakaaGreatDoorK15
import Derived.Test.YteafdncnnamakaaGreatDoorK8
import Derived.Test.YteafdncnnamakaaGreatDoorK3
import Derived.Test.YteafdncnnamakaaGreatDoorK11
namespace Go.Proofs.YteafdncnnamakaaGreatDoor
open Go.RowKit
theorem tenE_in (t : TenR) : tenE t = 0 ∨ tenE t = 9 := by unfold tenE; split <;> simp
/-- what is asked of a path: its error -/
def askP (t : TenR) (p : BS) : Int := if tenE t = 9 then 9 else if pathB p = false then 31 else 0
/-- a set's place, and its error -/
def placeP (t : TenR) (p : BS) : Int × Int :=
 if askP t p ≠ 0 then (0, askP t p) else
  match t.sets.l.find? (fun s => s.path == p) with
  | none => (0, 71)
  | some _ => (findS t.sets.l p, 0)
theorem askP_in (t : TenR) (p : BS) : askP t p = 0 ∨ askP t p = 9 ∨ askP t p = 31 := by
 unfold askP
 by_cases h : tenE t = 9
 ·rw [if_pos h]; exact .inr (.inl rfl)
 ·rw [if_neg h]
  cases pathB p
  ·exact .inr (.inr rfl)
  ·exact .inl rfl
set_option maxRecDepth 100000 in
set_option maxHeartbeats 4000000 in
theorem shAsked_any (t : TenR) (p : BS) (w : World) (B : Nat) (hB : B ≤ w.heap.size) (hr : t.rd w B) (hz : t.sz) (hp : p.length ≤ 4000000000) (hmx : HasMax w) :
  Calls Tryz.prog 24 #[t.val, .string ⟨p.toArray⟩] w fun e w' => e = .returned (.int .i64 (askP t p)) ∧ Below w.heap.size w w' := by
 have h2 := tenE_in t
 obtain ⟨nm, qu, nx, ⟨s1, sn, s3, sl⟩, ⟨g1, gn, g3, gl⟩, ⟨t1, tn, t3, tl⟩, ⟨l1, ln, l3, ll⟩⟩ := t
 show Calls Tryz.prog 24 #[.agg #[.string ⟨nm.toArray⟩, .int .i64 qu, .int .i64 nx, .slice s1 sn s3, .slice g1 gn g3, .slice t1 tn t3, .slice l1 ln l3], .string ⟨p.toArray⟩] w _
 have hb1 := (Below.refl w.heap.size w).alloc (Nat.le_refl _) (.cells #[.string ⟨nm.toArray⟩, .int .i64 qu, .int .i64 nx, .slice s1 sn s3, .slice g1 gn g3, .slice t1 tn t3, .slice l1 ln l3] 27)
 obtain ⟨W1, hW1⟩ : ∃ W, W = w.alloc (.cells #[.string ⟨nm.toArray⟩, .int .i64 qu, .int .i64 nx, .slice s1 sn s3, .slice g1 gn g3, .slice t1 tn t3, .slice l1 ln l3] 27) := ⟨_, rfl⟩
 have hsz1 : W1.heap.size = w.heap.size + 1 := by rw [hW1]; simp
 rw [← hW1] at hb1
 have hc : Calls Tryz.prog 43 #[.agg #[.string ⟨nm.toArray⟩, .int .i64 qu, .int .i64 nx, .slice s1 sn s3, .slice g1 gn g3, .slice t1 tn t3, .slice l1 ln l3]] W1 fun e w' => e = .returned (.int .i64 (tenE ⟨nm, qu, nx, ⟨s1, sn, s3, sl⟩, ⟨g1, gn, g3, gl⟩, ⟨t1, tn, t3, tl⟩, ⟨l1, ln, l3, ll⟩⟩)) ∧ Below W1.heap.size W1 w' :=
  tcheck_any ⟨nm, qu, nx, ⟨s1, sn, s3, sl⟩, ⟨g1, gn, g3, gl⟩, ⟨t1, tn, t3, tl⟩, ⟨l1, ln, l3, ll⟩⟩ W1 B (TenR.rd.below hr (hb1.mono hB)) (by omega) hz (hmx.below hb1)
 have hPA : Hid (∀ W, Below W1.heap.size W1 W → Calls Tryz.prog 70 #[.string ⟨p.toArray⟩] W fun e w' => e = .returned (.bool (pathB p)) ∧ Below W.heap.size W w') := fun W hb => path_any ⟨p.toArray⟩ W (by simpa [ByteArray.size] using hp) (hmx.below (hb1.trans (hb.mono (by omega))))
 obtain ⟨E, hE⟩ : ∃ E, E = tenE ⟨nm, qu, nx, ⟨s1, sn, s3, sl⟩, ⟨g1, gn, g3, gl⟩, ⟨t1, tn, t3, tl⟩, ⟨l1, ln, l3, ll⟩⟩ := ⟨_, rfl⟩
 have HV : Hid (askP ⟨nm, qu, nx, ⟨s1, sn, s3, sl⟩, ⟨g1, gn, g3, gl⟩, ⟨t1, tn, t3, tl⟩, ⟨l1, ln, l3, ll⟩⟩ p = if E = 9 then 9 else if pathB p = false then 31 else 0) := by show _ = _; rw [hE]; rfl
 rw [← hE] at h2 hc
 obtain ⟨bp, hbp⟩ : ∃ b, b = pathB p := ⟨_, rfl⟩
 rw [← hbp] at hPA HV
 have HB1 := Lib.hid hb1
 have HSZ1 := Lib.hid hsz1
 clear hb1 hr hz hsz1 hmx hE hbp
 go_enter Tryz.func24, Tryz.ntmps24
 go_wp2_with fail
 rw [← hW1]
 clear hW1
 refine hc.mono ?_
 clear hc
 rintro e w2 ⟨rfl, hb2⟩
 have HW2 := Lib.hid hb2
 clear hb2
 rcases h2 with rfl | rfl
 ·have hc := hPA.out w2 HW2.out
  clear hPA
  go_wp2_with fail
  refine hc.mono ?_
  clear hc
  rintro e w3 ⟨rfl, hb3⟩
  have HW3 := Lib.hid (HW2.out.trans (hb3.mono HW2.out.size))
  clear hb3 HW2
  cases bp with
  | false =>
   go_wp2_with fail
   exact bodyPost_ret (v := .int .i64 31) (by simp [results, Tryz.results24, go_sem]) rfl ⟨by rw [HV.out]; rfl, HB1.out.trans (HW3.out.mono (by have := HSZ1.out; omega))⟩
  | true =>
   go_wp2_with fail
   exact bodyPost_ret (v := .int .i64 0) (by simp [results, Tryz.results24, go_sem]) rfl ⟨by rw [HV.out]; rfl, HB1.out.trans (HW3.out.mono (by have := HSZ1.out; omega))⟩
 ·go_wp2_with fail
  exact bodyPost_ret (v := .int .i64 9) (by simp [results, Tryz.results24, go_sem]) rfl ⟨by rw [HV.out]; rfl, HB1.out.trans (HW2.out.mono (by have := HSZ1.out; omega))⟩
set_option maxRecDepth 100000 in
set_option maxHeartbeats 4000000 in
theorem place_any (t : TenR) (p : BS) (w : World) (B : Nat) (hB : B ≤ w.heap.size) (hr : t.rd w B) (hz : t.sz) (hp : p.length ≤ 4000000000) (hmx : HasMax w) :
  Calls Tryz.prog 32 #[t.val, .string ⟨p.toArray⟩] w fun e w' => e = .returned (.tuple #[.int .i64 (placeP t p).1, .int .i64 (placeP t p).2]) ∧ Below w.heap.size w w' := by
 have h3 := askP_in t p
 obtain ⟨nm, qu, nx, ⟨s1, sn, s3, sl⟩, ⟨g1, gn, g3, gl⟩, ⟨t1, tn, t3, tl⟩, ⟨l1, ln, l3, ll⟩⟩ := t
 show Calls Tryz.prog 32 #[.agg #[.string ⟨nm.toArray⟩, .int .i64 qu, .int .i64 nx, .slice s1 sn s3, .slice g1 gn g3, .slice t1 tn t3, .slice l1 ln l3], .string ⟨p.toArray⟩] w _
 have hb1 := (Below.refl w.heap.size w).alloc (Nat.le_refl _) (.cells #[.string ⟨nm.toArray⟩, .int .i64 qu, .int .i64 nx, .slice s1 sn s3, .slice g1 gn g3, .slice t1 tn t3, .slice l1 ln l3] 27)
 have kT := Blk.new w 27 #[.string ⟨nm.toArray⟩, .int .i64 qu, .int .i64 nx, .slice s1 sn s3, .slice g1 gn g3, .slice t1 tn t3, .slice l1 ln l3]
 obtain ⟨W1, hW1⟩ : ∃ W, W = w.alloc (.cells #[.string ⟨nm.toArray⟩, .int .i64 qu, .int .i64 nx, .slice s1 sn s3, .slice g1 gn g3, .slice t1 tn t3, .slice l1 ln l3] 27) := ⟨_, rfl⟩
 have hsz1 : W1.heap.size = w.heap.size + 1 := by rw [hW1]; simp
 rw [← hW1] at hb1 kT
 have hT := Lib.hid (fun (W' : World) (hB' : Below W1.heap.size W1 W') => (⟨(kT.below hB' (by omega)).cell 0, (kT.below hB' (by omega)).cell 1, (kT.below hB' (by omega)).cell 2, (kT.below hB' (by omega)).cell 3, (kT.below hB' (by omega)).cell 4, (kT.below hB' (by omega)).cell 5, (kT.below hB' (by omega)).cell 6⟩ : W'.cell? ⟨w.heap.size, 0, none⟩ = some (.string ⟨nm.toArray⟩) ∧ W'.cell? ⟨w.heap.size, 1, none⟩ = some (.int .i64 qu) ∧ W'.cell? ⟨w.heap.size, 2, none⟩ = some (.int .i64 nx) ∧ W'.cell? ⟨w.heap.size, 3, none⟩ = some (.slice s1 sn s3) ∧ W'.cell? ⟨w.heap.size, 4, none⟩ = some (.slice g1 gn g3) ∧ W'.cell? ⟨w.heap.size, 5, none⟩ = some (.slice t1 tn t3) ∧ W'.cell? ⟨w.heap.size, 6, none⟩ = some (.slice l1 ln l3)))
 have HSN := Lib.hid (show sn = sl.length from hr.sets.1)
 have hc : Calls Tryz.prog 24 #[.agg #[.string ⟨nm.toArray⟩, .int .i64 qu, .int .i64 nx, .slice s1 sn s3, .slice g1 gn g3, .slice t1 tn t3, .slice l1 ln l3], .string ⟨p.toArray⟩] W1 _ :=
  shAsked_any ⟨nm, qu, nx, ⟨s1, sn, s3, sl⟩, ⟨g1, gn, g3, gl⟩, ⟨t1, tn, t3, tl⟩, ⟨l1, ln, l3, ll⟩⟩ p W1 B (by omega) (TenR.rd.below hr (hb1.mono hB)) hz hp (hmx.below hb1)
 have hFD : Hid (∀ W, Below W1.heap.size W1 W → Calls Tryz.prog 26 #[.agg #[.string ⟨nm.toArray⟩, .int .i64 qu, .int .i64 nx, .slice s1 sn s3, .slice g1 gn g3, .slice t1 tn t3, .slice l1 ln l3], .string ⟨p.toArray⟩] W fun e w' => e = .returned (.int .i64 (findS sl p)) ∧ Below W.heap.size W w') := fun W hb =>
  find_any _ _ _ _ _ _ sl sn HSN.out s1 s3 p W B (TenR.rd.below hr ((hb1.trans (hb.mono (by omega))).mono hB)).sets.2.2 (by have := hb.size; omega) (by have := hz.sets; simp only at this; omega)
 obtain ⟨E, hE⟩ : ∃ E, E = askP ⟨nm, qu, nx, ⟨s1, sn, s3, sl⟩, ⟨g1, gn, g3, gl⟩, ⟨t1, tn, t3, tl⟩, ⟨l1, ln, l3, ll⟩⟩ p := ⟨_, rfl⟩
 obtain ⟨V, hV⟩ : ∃ V, V = placeP ⟨nm, qu, nx, ⟨s1, sn, s3, sl⟩, ⟨g1, gn, g3, gl⟩, ⟨t1, tn, t3, tl⟩, ⟨l1, ln, l3, ll⟩⟩ p := ⟨_, rfl⟩
 have HV : Hid (V = if E ≠ 0 then (0, E) else match sl.find? (fun s => s.path == p) with
  | none => (0, 71)
  | some _ => (findS sl p, 0)) := by show _ = _; rw [hV, hE]; rfl
 rw [← hE] at h3 hc
 rw [← hV]
 have HB1 := Lib.hid hb1
 have HSZ1 := Lib.hid hsz1
 clear hb1 kT hr hz hsz1 hmx hE hV
 go_enter Tryz.func32, Tryz.ntmps32
 go_wp2_with fail
 rw [← hW1]
 clear hW1
 refine hc.mono ?_
 clear hc
 rintro e w2 ⟨rfl, hb2⟩
 have HW2 := Lib.hid hb2
 clear hb2
 rcases h3 with rfl | rfl | rfl
 ·have hc := hFD.out w2 HW2.out
  obtain ⟨c0, c1, c2, c3, c4, c5, c6⟩ := hT.out _ HW2.out
  clear hFD
  go_wp2_with fail
  refine hc.mono ?_
  clear hc c0 c1 c2 c3 c4 c5 c6
  rintro e w3 ⟨rfl, hb3⟩
  have HW3 := Lib.hid (HW2.out.trans (hb3.mono HW2.out.size))
  clear hb3 HW2
  rcases firstI_cases (fun s : SetR => s.path == p) sl with ⟨h1, h2⟩ | ⟨k, hkl, h1, h2⟩
  ·have h1 : findS sl p = -1 := h1
   have HX : Hid (V = (0, 71)) := by show _ = _; rw [HV.out]; simp only [h2]; rfl
   clear HV h2
   rw [h1]
   go_wp2_with fail
   exact bodyPost_ret (v := .tuple #[.int .i64 0, .int .i64 71]) (by simp [results, Tryz.results32, go_sem]) rfl ⟨by rw [HX.out], HB1.out.trans (HW3.out.mono (by have := HSZ1.out; omega))⟩
  ·have h1 : findS sl p = (k : Int) := h1
   have HX : Hid (V = ((k : Int), 0)) := by show _ = _; rw [HV.out]; simp only [h2, h1]; rfl
   clear HV h2
   rw [h1]
   have hk0 : ¬ (k : Int) < 0 := by omega
   go_wp2_with fail
   exact bodyPost_ret (v := .tuple #[.int .i64 (k : Int), .int .i64 0]) (by simp [results, Tryz.results32, go_sem]) rfl ⟨by rw [HX.out], HB1.out.trans (HW3.out.mono (by have := HSZ1.out; omega))⟩
 ·go_wp2_with fail
  exact bodyPost_ret (v := .tuple #[.int .i64 0, .int .i64 9]) (by simp [results, Tryz.results32, go_sem]) rfl ⟨by rw [HV.out]; rfl, HB1.out.trans (HW2.out.mono (by have := HSZ1.out; omega))⟩
 ·go_wp2_with fail
  exact bodyPost_ret (v := .tuple #[.int .i64 0, .int .i64 31]) (by simp [results, Tryz.results32, go_sem]) rfl ⟨by rw [HV.out]; rfl, HB1.out.trans (HW2.out.mono (by have := HSZ1.out; omega))⟩
end Go.Proofs.YteafdncnnamakaaGreatDoor
namespace Go.Proofs.YteafdncnnamakaaGreatDoor
open Go.RowKit
theorem kidsL_snoc (l : List SetR) (x : SetR) (p : BS) : kidsL (l ++ [x]) p = kidsL l p ++ (if parB x.path = some p then [x.path] else []) := by
 unfold kidsL
 rw [List.filter_append, List.map_append]
 congr 1
 by_cases h : parB x.path = some p
 ·rw [if_pos h, List.filter_cons_of_pos (by simpa using h)]; rfl
 ·rw [if_neg h, List.filter_cons_of_neg (by simpa using h)]; rfl
set_option maxRecDepth 100000 in
set_option maxHeartbeats 4000000 in
theorem kids_any (v0 v1 v2 v4 v5 v6 : Value) (l : List SetR) (n : Nat) (hnl : n = l.length) (A : Option Addr) (c : Nat) (p : BS) (w : World) (B : Nat) (hr : Reads w B 5 A n (cellsK encSet l)) (hB : B ≤ w.heap.size) (hn : n ≤ 1000000000000) (hv : ∀ y ∈ l, y.path.length ≤ 4000000000) (hmx : HasMax w) :
  Calls Tryz.prog 35 #[.agg #[v0, v1, v2, .slice A n c, v4, v5, v6], .string ⟨p.toArray⟩] w fun e w' => ∃ A1 c1, e = .returned (.slice A1 (kidsL l p).length c1) ∧ w'.ownsRow w.heap.size 9 1 (.slice A1 (kidsL l p).length c1) (kidsL l p).length (scells (kidsL l p)) ∧ Below w.heap.size w w' := by
 obtain ⟨i0, hi0, hz0, hz1, hz2⟩ := info_parts Tryz.infoS
 have HN := Lib.hid hnl
 have hb1 := (Below.refl w.heap.size w).alloc (Nat.le_refl _) (.cells #[v0, v1, v2, .slice A n c, v4, v5, v6] 27)
 have kT := Blk.new w 27 #[v0, v1, v2, .slice A n c, v4, v5, v6]
 obtain ⟨W1, hW1⟩ : ∃ W, W = w.alloc (.cells #[v0, v1, v2, .slice A n c, v4, v5, v6] 27) := ⟨_, rfl⟩
 have hsz1 : W1.heap.size = w.heap.size + 1 := by rw [hW1]; simp
 rw [← hW1] at hb1 kT
 have hT : Hid (∀ W', Below W1.heap.size W1 W' → W'.cell? ⟨w.heap.size, 3, none⟩ = some (.slice A n c)) := fun W' hB' => (kT.below hB' (by omega)).cell 3
 have hR := Lib.hid (fun (W' : World) (hB' : Below W1.heap.size W1 W') => (⟨hr.below ((hb1.trans (hB'.mono (by omega))).mono hB), hmx.below (hb1.trans (hB'.mono (by omega)))⟩ : Reads W' B 5 A n (cellsK encSet l) ∧ HasMax W'))
 have HB1 := Lib.hid hb1
 have HSZ1 := Lib.hid hsz1
 have HVS := Lib.hid hv
 obtain ⟨KL, hKL⟩ : ∃ K, K = kidsL l p := ⟨_, rfl⟩
 rw [← hKL]
 have HKL := Lib.hid hKL
 clear hnl hr kT hsz1 hv hKL
 go_enter Tryz.func35, Tryz.ntmps35
 go_wp2_with fail
 rw [← hW1]
 clear hW1
 go_loopw [5, 13] (fun a j wr => ∃ (k m : Nat) (A1 : Option Addr) (c1 : Nat), k ≤ n ∧ m ≤ k ∧ a = .slice A1 m c1 ∧ j = .int .i64 (k : Int) ∧ Hid (m = (kidsL (l.take k) p).length) ∧ wr.ownsRow W1.heap.size 9 1 (.slice A1 m c1) m (scells (kidsL (l.take k) p)) ∧ Below W1.heap.size W1 wr) (fun _ j _ => n - (intOf j).toNat)
 case atStart => exact ⟨0, 0, none, 0, Nat.zero_le _, Nat.zero_le _, rfl, rfl, rfl, ⟨rfl, .inl ⟨rfl, rfl⟩⟩, Below.refl _ _⟩
 case round =>
  clear hb1
  obtain ⟨k, m, A1, c1, hk, hmk, rfl, rfl, hml, hown, hbw⟩ := hrel
  by_cases hlt : k < n
  ·obtain ⟨hrw, hmw⟩ := hR.out _ hbw
   obtain ⟨ad, rfl, -, c0, c1', c2, c3, c4⟩ := set_at hrw HN.out hlt
   have hki : (k : Int) < (n : Int) := by omega
   have hkl : k < l.length := by have := HN.out; omega
   obtain ⟨x, hx⟩ : ∃ x, x = l[k]'hkl := ⟨_, rfl⟩
   have hxl := HVS.out x (by rw [hx]; exact List.getElem_mem _)
   rw [← hx] at c0 c1' c2 c3 c4
   have htk := List.take_succ_eq_append_getElem hkl
   rw [← hx] at htk
   have HNT : Hid (kidsL (l.take (k + 1)) p = kidsL (l.take k) p ++ (if parB x.path = some p then [x.path] else [])) := by
    show _ = _
    rw [htk, kidsL_snoc]
   obtain ⟨W0, hW0⟩ : ∃ W0, W0 = wr.alloc (.cells #[.string ⟨x.path.toArray⟩, .string ⟨x.org.toArray⟩, .slice x.body.A x.body.n x.body.c, .slice x.snaps.A x.snaps.n x.snaps.c, .slice x.own.A x.own.n x.own.c] 63) := ⟨_, rfl⟩
   have hblk : Blk W0 wr.heap.size 63 #[.string ⟨x.path.toArray⟩, .string ⟨x.org.toArray⟩, .slice x.body.A x.body.n x.body.c, .slice x.snaps.A x.snaps.n x.snaps.c, .slice x.own.A x.own.n x.own.c] := by rw [hW0]; exact Blk.new wr _ _
   have hszW : W0.heap.size = wr.heap.size + 1 := by rw [hW0]; show (wr.heap.push _).size = _; rw [Array.size_push]
   have hwr := hbw.size
   have hsz1 := HSZ1.out
   have hb1W : Below W1.heap.size W1 W0 := by rw [hW0]; exact hbw.alloc hbw.size _
   have HB2 := Lib.hid hb1W
   have HSZ := Lib.hid hszW
   have hpn := parent_any ⟨x.path.toArray⟩ W0 (by show x.path.length ≤ _; exact hxl) (hR.out _ hb1W).2
   rw [show (ByteArray.mk x.path.toArray).data.toList = x.path from rfl] at hpn
   have hown0 : Hid (∀ W, Below W0.heap.size W0 W → W.ownsRow W1.heap.size 9 1 (.slice A1 m c1) m (scells (kidsL (l.take k) p)) ∧ W.cell? ⟨wr.heap.size, 0, none⟩ = some (.string ⟨x.path.toArray⟩)) := by
    show ∀ W, _ → _
    intro W hb
    refine ⟨own_below (w := W0) ?_ hb, (hblk.below hb (by omega)).cell 0⟩
    rw [hW0]
    exact hown.alloc _
   obtain ⟨xp, xo, ⟨b1, b2, b3, bl⟩, ⟨s1, s2, s3, sl⟩, ⟨o1, o2, o3, ol⟩⟩ := x
   simp only at c0 c1' c2 c3 c4 HNT hW0 hpn hown0
   clear hx htk hxl hblk hrw hown hR hT hmw
   go_wp2_with fail
   rw [← hW0]
   clear hW0 hszW c0 c1' c2 c3 c4
   refine hpn.mono ?_
   clear hpn
   rintro e w4 ⟨hb4, ⟨hpar, rfl⟩ | ⟨hne, hpb, rfl⟩⟩
   ·have HNT2 : Hid (kidsL (l.take (k + 1)) p = kidsL (l.take k) p) := by
     show _ = _
     rw [HNT.out]
     unfold parB
     rw [if_pos hpar]
     simp
    have ho4 := (hown0.out _ hb4).1
    have hbf := HB2.out.trans (hb4.mono (by have := HSZ.out; omega))
    clear hpar hown0 hb4
    go_wp2_with fail
    go_roundw
    case rel => exact ⟨k + 1, m, A1, c1, by omega, by omega, rfl, by go_num, by rw [HNT2.out]; exact hml.out, by rw [HNT2.out]; exact ho4, hbf⟩
    case measure => simp [intOf]; omega
   ·have hpe : parB xp = some (upL xp) := by
     unfold parB
     rw [if_neg (by rw [hpb]; simp [hne])]
    rw [hpe] at HNT
    obtain ⟨ho4, q0⟩ := hown0.out _ hb4
    have hbf := HB2.out.trans (hb4.mono (by have := HSZ.out; omega))
    have hbF := HB1.out.trans (hbf.mono (by omega))
    have hbase := hbf.size
    obtain ⟨up, hup⟩ : ∃ u, u = upL xp := ⟨_, rfl⟩
    rw [← hup] at HNT ⊢
    clear hne hpb hpe hup hown0 hb4
    by_cases hupp : up = p
    ·subst hupp
     have HNT2 : Hid (kidsL (l.take (k + 1)) up = kidsL (l.take k) up ++ [xp]) := by
      show _ = _
      rw [HNT.out, if_pos rfl]
     clear HNT
     go_wp2_with (at_builtin; (refine wpList_push w4 rfl (.tmp 29) (.tmp 32) 68 rfl W1.heap.size 9 i0 (.string ByteArray.empty) 1 16 Tryz.underlying68 hi0 hz0 hz1 hz2 rfl (by omega) (.slice A1 m c1) m _ rfl ho4 1 #[.string ⟨xp.toArray⟩] 9 rfl rfl (by simp [Value.oneCell']) (by unfold maxLen; omega) (by omega) hbase ?_); intro v' w' ho' hb' hg')
     obtain ⟨A2, c2, rfl, _, _, _⟩ := own_form ho'
     have hb'2 := hbf.trans hb'
     go_wp2_with fail
     go_roundw
     case rel => exact ⟨k + 1, m + 1, A2, c2, by omega, by omega, rfl, by go_num, by show _ = _; rw [HNT2.out, List.length_append, ← hml.out]; rfl, by rw [HNT2.out, scells_append]; exact ho', hb'2⟩
     case measure => simp [intOf]; omega
    ·have hne : (up == p) = false := by simpa using hupp
     have HNT2 : Hid (kidsL (l.take (k + 1)) p = kidsL (l.take k) p) := by
      show _ = _
      rw [HNT.out, if_neg (by intro e; exact hupp (Option.some.inj e))]
      simp
     clear hupp
     go_wp2_with fail
     go_roundw
     case rel => exact ⟨k + 1, m, A1, c1, by omega, by omega, rfl, by go_num, by rw [HNT2.out]; exact hml.out, by rw [HNT2.out]; exact ho4, hbf⟩
     case measure => simp [intOf]; omega
  ·have hkn : k = n := by omega
   have hall : l.take k = l := List.take_of_length_le (by rw [hkn, HN.out]; exact Nat.le_refl _)
   rw [hall, ← HKL.out] at hown
   have HM : Hid (m = KL.length) := by show _ = _; rw [hml.out, hall, HKL.out]
   have HO := Lib.hid (own_mono hown (show w.heap.size ≤ W1.heap.size by have := HSZ1.out; omega))
   have HBF := Lib.hid (HB1.out.trans (hbw.mono (by have := HSZ1.out; omega)))
   clear hkn hall hml hown hbw
   go_wp2_with fail
   go_ret
   refine ⟨A1, c1, by rw [← HM.out]; rfl, by rw [← HM.out]; exact HO.out, HBF.out⟩
end Go.Proofs.YteafdncnnamakaaGreatDoor
namespace Go.Proofs.YteafdncnnamakaaGreatDoor
open Go.RowKit
/-- stages of one content -/
structure StageR.eqv (x y : StageR) : Prop where
 into : x.into = y.into
 kind : x.kind = y.kind
 nm : x.nm = y.nm
 frm : x.frm = y.frm
 gd : x.gd = y.gd
 own : x.own.l = y.own.l
 ix : x.ix = y.ix
 ct : x.ct = y.ct
 dt : x.dt = y.dt
 sm : x.sm = y.sm
 body : x.body.l = y.body.l
 at_ : x.at_ = y.at_
 nx : x.nx = y.nx
 sum : x.sum = y.sum
 done : x.done = y.done
/-- tenants of one content -/
structure TenR.eqv (x y : TenR) : Prop where
 nm : x.nm = y.nm
 quota : x.quota = y.quota
 next : x.next = y.next
 lenS : x.sets.l.length = y.sets.l.length
 eachS : ∀ i (h : i < x.sets.l.length) (h' : i < y.sets.l.length), (x.sets.l[i]'h).eqv (y.sets.l[i]'h')
 grants : x.grants.l = y.grants.l
 lenT : x.stages.l.length = y.stages.l.length
 eachT : ∀ i (h : i < x.stages.l.length) (h' : i < y.stages.l.length), (x.stages.l[i]'h).eqv (y.stages.l[i]'h')
 log : x.log.l = y.log.l
end Go.Proofs.YteafdncnnamakaaGreatDoor
