/-
  The page's Make: what holds between two rounds; the page's Feed at any octets.
-/
import Derived.Test.YtcbeadldieeceaaZ16
import Derived.Test.YtcbeadldieeceaaDf3y
import Derived.Test.YtcbeadldieeceaaZ26
import Derived.Test.YtcbeadldieeceaaZ27
namespace Go.Proofs.Ytcbeadldieeceaa
open Go.RowKit

theorem Try.refB : (Try.prog.info? 5).map (fun i => (i.zero, i.size, i.bytes)) = some (some (.int .u8 0), 1, 1) := by kernel_rfl
theorem rfeed_n (s : Sm) (b : List UInt8) (n : Nat) (hnb : n = b.length) (A : Option Addr) (c : Nat) (w : World) (B : Nat) (hr : Reads w B 1 A n (bts b)) (hB : B ≤ w.heap.size) (hn : n ≤ 140737488351232) :
    Calls Try.prog 24 #[.agg #[.int .u64 s.a, .int .u64 s.b, .int .u64 s.c, .int .u64 s.d], .slice A n c] w fun e w' =>
      e = .returned (.agg #[.int .u64 (feedL s (words b)).a, .int .u64 (feedL s (words b)).b, .int .u64 (feedL s (words b)).c, .int .u64 (feedL s (words b)).d]) ∧ Below w.heap.size w w' := by
  subst hnb
  exact rfeed_any s b A c w B hr hB hn
theorem own_setOther {w : World} {base g : Nat} {e t : TypeId} {k n : Nat} {v : Value} {xs : List Value} {cs : Array Value} (h : w.ownsRow base e k v n xs) (hg : Blk w g t cs) (hne : e ≠ t) (i : Nat) (u : Value) : (w.setCell ⟨g, i, none⟩ u).ownsRow base e k v n xs := by
  refine ⟨h.1, ?_⟩
  rcases h.2 with h0 | ⟨g', cap, cur, hv, hb, hh, r⟩
  · exact .inl h0
  · exact .inr ⟨g', cap, cur, hv, hb, Blk.far (p := ⟨g, i, none⟩) hh (Blk.ne_ (t := e) hh hg hne) u, r⟩
/-- between two rounds: what was written, and its sum -/
structure RfI (w : World) (q gS : Nat) (W8 wr : World) (l : List Rc) (u : Value) (s : Sm) : Prop where
  bel : Below w.heap.size w W8
  belq : Below q W8 wr
  sum : Blk wr gS 42 #[.int .u64 s.a, .int .u64 s.b, .int .u64 s.c, .int .u64 s.d]
  out : wr.ownsRow q 5 1 u (encAll l).length (bts (encAll l))
  val : s = sumS Sm0 l
  qs : q ≤ wr.heap.size
end Go.Proofs.Ytcbeadldieeceaa
