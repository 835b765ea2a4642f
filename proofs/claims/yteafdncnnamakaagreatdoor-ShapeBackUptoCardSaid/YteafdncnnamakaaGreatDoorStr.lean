/-
  'string(b)' of octets; a row with a mark behind its end (what '[]byte(s)' makes).
-/
import Derived.Test.YteafdncnnamakaaGreatDoorBase
import Derived.Handy
import Derived.Laws.BytesString
import Derived.Laws.IdiomStrings
import Derived.Lib.ConvBytes
import Derived.Lib.Strings
namespace Go.Proofs.YteafdncnnamakaaGreatDoor
open Go.RowKit
theorem str_of {P : Program} {w : World} {B n c : Nat} {A : Option Addr} {b : List UInt8} (hr : Reads w B 1 A n (bts b)) (hnb : n = b.length) {src dst e : TypeId} (hs : P.underlying src = some (.slice e)) (he : P.underlying e = some (.int .u8)) (hd : P.underlying dst = some .string) :
    (convert src dst (.slice A n c)).run P w = .ok (.string ⟨b.toArray⟩) w := by
  subst hnb
  rcases Nat.eq_zero_or_pos b.length with h | h
  · obtain rfl := List.eq_nil_of_length_eq_zero h
    rw [run_convert_bytes_string w src dst e _ _ c hs he hd]
    cases A <;> simp [Conv.bytesToString, loadCells]
    all_goals rfl
  · obtain ⟨ad, rfl, _, hc⟩ := hr.2 h
    exact run_convert_bytes_back w src dst e ad c b hs he hd (fun j hj => hc j _ (by rw [bts_get, List.getElem?_eq_getElem hj]; rfl))


theorem toList_data (s : ByteArray) : s.toList = s.data.toList := by
  obtain ⟨⟨l⟩⟩ := s
  exact ByteArray.toList_mk l
theorem append_data (a b : ByteArray) : (a ++ b).data.toList = a.data.toList ++ b.data.toList := by simp
theorem mk_data (a : ByteArray) : (⟨a.data.toList.toArray⟩ : ByteArray) = a := by obtain ⟨⟨l⟩⟩ := a; rfl
theorem eq_mk (a : ByteArray) (l : List UInt8) (h : a.data.toList = l) : a = ⟨l.toArray⟩ := by rw [← h, mk_data]

/-- the row that '[]byte(s)' makes -/
theorem bytesWorld_below (w : World) (e : TypeId) (s : ByteArray) : Below w.heap.size w (Lib.bytesWorld w e s) :=
  ⟨rfl, rfl, rfl, by rw [Lib.bytesWorld_size]; omega, fun j hj => Lib.bytesWorld_at_old w e s j hj⟩
theorem bytesWorld_reads (w : World) (e : TypeId) (s : ByteArray) : Reads (Lib.bytesWorld w e s) (w.heap.size + 1) 1 (some ⟨w.heap.size, 0, none⟩) s.size (bts s.data.toList) := by
  refine ⟨by rw [bts_length, Lib.size_eq]; simp, fun hn => ⟨_, rfl, Nat.lt_succ_self _, ?_⟩⟩
  intro j u hu
  have hj : j < s.size := by
    have := (List.getElem?_eq_some_iff.1 hu).1
    rw [bts_length, ← Lib.size_eq] at this
    exact this
  rw [addr_add0, Lib.bytesWorld_cell w e s j hj]
  rw [bts_get, List.getElem?_eq_getElem (by rw [← Lib.size_eq]; exact hj)] at hu
  rw [← hu]
  simp [List.getD, List.getElem?_eq_getElem (show j < s.data.toList.length by rw [← Lib.size_eq]; exact hj)]

/-- a row of which the first n cells bear no mark -/
def RowM (w : World) (g : Nat) (t : TypeId) (n : Nat) (cs : Array Value) : Prop := n ≤ cs.size ∧ ∃ hi, w.heap[g]? = some (.cells cs t (cs.size, hi))
section
variable {w w' : World} {g n : Nat} {t : TypeId} {cs : Array Value}
theorem RowM.lt (h : RowM w g t n cs) : g < w.heap.size := by
  obtain ⟨_, hi, h⟩ := h
  rcases Nat.lt_or_ge g w.heap.size with hlt | hge
  · exact hlt
  · rw [Array.getElem?_eq_none hge] at h; cases h
theorem RowM.cell (h : RowM w g t n cs) (i : Nat) : w.cell? ⟨g, i, none⟩ = cs[i]? := by
  obtain ⟨_, hi, h⟩ := h
  exact cell_of_row w g i cs t (cs.size, hi) h
theorem RowM.frozen (h : RowM w g t n cs) {i : Nat} (hi : i < n) : w.frozen? ⟨g, i, none⟩ = false := by
  obtain ⟨hn, hh, h⟩ := h
  have : ¬ cs.size ≤ i := by omega
  simp [World.frozen?, h, this]
theorem RowM.set_ (h : RowM w g t n cs) (i : Nat) (u : Value) : RowM (w.setCell ⟨g, i, none⟩ u) g t n (cs.setIfInBounds i u) := by
  obtain ⟨hn, hh, h⟩ := h
  refine ⟨by simpa using hn, hh, ?_⟩
  simp [World.setCell, Array.getElem?_modify, h]
theorem RowM.below {B : Nat} (h : RowM w g t n cs) (hb : Below B w w') (hg : g < B) : RowM w' g t n cs := ⟨h.1, h.2.choose, (hb.block g hg).trans h.2.choose_spec⟩
theorem RowM.reads (h : RowM w g t n cs) (b z : List UInt8) (hc : cs = (bts (b ++ z)).toArray) (hn : b.length = n) : Reads w (g + 1) 1 (some ⟨g, 0, none⟩) n (bts b) := by
  refine ⟨by rw [bts_length]; omega, fun _ => ⟨_, rfl, Nat.lt_succ_self _, ?_⟩⟩
  intro j u hu
  rw [addr_add0, h.cell j, hc, List.getElem?_toArray, bts_append, List.getElem?_append_left (List.getElem?_eq_some_iff.1 hu).1]
  exact hu
end
theorem bytesWorld_row (w : World) (e : TypeId) (s : ByteArray) : ∃ z : List UInt8, RowM (Lib.bytesWorld w e s) w.heap.size e s.size (bts (s.data.toList ++ z)).toArray := by
  refine ⟨List.replicate (grownCap w s.size 0 e - s.size) 0, ?_⟩
  have hc : Lib.bytesCells w e s = (bts (s.data.toList ++ List.replicate (grownCap w s.size 0 e - s.size) 0)).toArray := by
    unfold Lib.bytesCells bts
    apply Array.ext'
    simp
  have h := Lib.bytesWorld_at_new w e s
  rw [hc] at h
  exact ⟨by rw [Lib.size_eq]; simp [bts_length], _, h⟩
end Go.Proofs.YteafdncnnamakaaGreatDoor
