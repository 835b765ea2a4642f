/-
  slices.Clone at elements of 3 cells, by its contract. Rows that are written over, in themselves: what can be read of them stays good. A tenant's rows that are written over, in themselves: what can be read of them stays good.
-/
import Derived.Test.YtcgclpcocdappaaDoorRows
import Derived.Handy
import Derived.WalkKit
import Derived.WalkSpells
import Derived.Below
import Derived.Laws.OwnMore
import Derived.Deep.AppendLies
import Derived.Deep.Draws
import Derived.Laws.Rows
import Derived.Maps.AppendAt
import Derived.RegionTactic
import Derived.OwnWalk
import Derived.Deep.QuietTactic
import Derived.BigQuiet
import Derived.Lib.Hide
import Derived.Laws.CopyOwn
import Derived.IntWalk
import Derived.Deep.MidRow
import Derived.Deep.Quiet
import Derived.Orders
import Derived.Lib.SplitLaws
import Derived.Lib.LastIndexByte
import Derived.Lib.Strings
import Derived.ShutString
import Derived.Sort.Walk0
import Derived.Sort.KeysCollected
import Derived.Shelf.Strings.Search1
import Derived.Shelf.Strings.Search2
import Derived.Shelf.Strings.Search3
import Derived.Shelf.Strings.Cut
import Derived.Shelf.Strings.Count
import Derived.Shelf.LaysM
import Derived.Shelf.Strings.Shaped
import Derived.Shelf.Strings.LastIndex
import Derived.Shelf.Strings.Split
import Derived.Shelf.Strings.SplitShaped
import Derived.Shelf.Unicode.Decode
import Derived.Shelf.Strings.RuneCount
import Derived.Shelf.Strings.Explode
import Derived.Shelf.Unicode.DecodeSlow
import Derived.Shelf.Slices.Turned
import Derived.Test.YtcgclpcocdappaaDoorProg
import Derived.Laws.BytesString
import Derived.Laws.IdiomStrings
import Derived.Lib.ConvBytes
import Derived.Test.YtcgclpcocdappaaDoorP0
import Derived.Test.YtcgclpcocdappaaDoorPa1
import Derived.Test.YtcgclpcocdappaaDoorPa5
import Derived.Test.YtcgclpcocdappaaDoorPa7
import Derived.Test.YtcgclpcocdappaaDoorPa10
import Derived.Test.YtcgclpcocdappaaDoorPa13
import Derived.Test.YtcgclpcocdappaaDoorPa23
import Derived.Test.YtcgclpcocdappaaDoorPa24
namespace Go.Proofs.YtcgclpcocdappaaDoor
open Go.RowKit
theorem Tryd.cloneG_info:(Tryd.prog.info? 70).map (fun i=>(i.zero,i.size,i.bytes))=some (some (.agg #[.string ByteArray.empty,.string ByteArray.empty,.int .i64 0]),3,40):=by kernel_rfl
set_option maxRecDepth 100000 in
theorem cloneG_any (xs:List Value) (n:Nat) (A:Option Addr) (c:Nat) (w:World) (B:Nat) (hr:Reads w B 3 A n xs) (hB:B≤w.heap.size) (h1:∀ u∈xs,u.oneCell'=true) (hn:n*40≤140737488355328) :
  Calls Tryd.prog 36 #[.slice A n c] w fun e w'=>∃ v,e=.returned v∧w'.ownsRow w.heap.size 70 3 v n xs∧Below w.heap.size w w':=by
 obtain ⟨i0,hi0,hz0,hz1,hz2⟩:=info_parts Tryd.cloneG_info
 rcases A with _ | ad
 ·obtain rfl:n=0:=by
   rcases Nat.eq_zero_or_pos n with h | h
   ·exact h
   ·obtain ⟨_,h,_⟩:=hr.2 h;cases h
  obtain rfl:xs=[]:=List.eq_nil_of_length_eq_zero (by simpa using hr.1)
  have heq:=fun W=>Lib.run_eql_slice_nil (P:=Tryd.prog) W 23 70 none 0 c 0 0 Tryd.underlying23
  go_enter Tryd.func36,Tryd.ntmps36
  go_wp2_with fail
  go_ret
  exact ⟨_,rfl,World.ownsRow_nil _ _ _ _,Below.refl _ _⟩
 ·have heq:=fun W=>Lib.run_eql_slice_nil (P:=Tryd.prog) W 23 70 (some ad) n c 0 0 Tryd.underlying23
  have hown:(w.alloc (.cells #[] 70)).ownsRow w.heap.size 70 3 (.slice (some ⟨w.heap.size,0,none⟩) 0 0) 0 []:=World.ownsRow_made w #[] 0 (Nat.le_refl _) (by simp [maxLen]) rfl
  have hra:=hr.alloc hB (.cells #[] 70)
  go_enter Tryd.func36,Tryd.ntmps36
  go_wp2_with (at_builtin;(refine wpList_append_any _ rfl (.tmp 5) (.tmp 6) _ rfl w.heap.size 70 i0 _ 3 40 Tryd.underlying23 hi0 hz0 hz1 hz2 rfl (by omega) (.slice (some ⟨w.heap.size,0,none⟩) 0 0) 0 [] rfl hown B (some ad) n c xs rfl hra h1 (by unfold maxLen;omega) (by omega) (by simp) ?_);intro v1 w2 hown1 hg1 hat1)
  go_ret
  refine ⟨v1,rfl,by simpa using hown1,((Below.refl _ _).alloc (Nat.le_refl _) _).grown hg1 (by simp) (fun k hk=>?_)⟩
  simp [Value.ownBlock] at hk
  omega
end Go.Proofs.YtcgclpcocdappaaDoor
namespace Go.Proofs.YtcgclpcocdappaaDoor
open Go.RowKit
def setL (xs:List Value):Nat→List Value→List Value
 | _,[]=>xs
 | o,u :: r=>setL (xs.set o u) (o+1) r
theorem setL_get (cs:List Value):∀ (xs:List Value) (o j:Nat),o+cs.length≤xs.length→(setL xs o cs)[j]?=if o≤j∧j<o+cs.length then cs[j-o]? else xs[j]?:=by
 induction cs with
 | nil=>intro xs o j h;simp only [setL,List.length_nil];rw [if_neg (by omega)]
 | cons u r ih =>
  intro xs o j h
  simp only [List.length_cons] at h
  rw [setL,ih _ _ _ (by rw [List.length_set];omega),List.getElem?_set]
  by_cases h1:o=j
  ·subst h1
   rw [if_neg (by omega),if_pos rfl,if_pos (by omega),if_pos ⟨Nat.le_refl _,by simp⟩]
   simp
  ·rw [if_neg h1]
   by_cases h2:o+1≤j∧j<o+1+r.length
   ·rw [if_pos h2,if_pos ⟨by omega,by simp only [List.length_cons];omega⟩,show j-o=(j-(o+1))+1 by omega]
    rfl
   ·rw [if_neg h2,if_neg (by simp only [List.length_cons];omega)]
theorem setL_low (cs:List Value):∀ (xs:List Value) (o j:Nat),j<o→(setL xs o cs)[j]?=xs[j]?:=by
 induction cs with
 | nil=>intro xs o j h;rfl
 | cons u r ih=>intro xs o j h;rw [setL,ih _ _ _ (by omega),List.getElem?_set,if_neg (by omega)]
theorem setL_length (cs:List Value):∀ (xs:List Value) (o:Nat),(setL xs o cs).length=xs.length:=by
 induction cs with
 | nil=>intro xs o;rfl
 | cons u r ih=>intro xs o;rw [setL,ih,List.length_set]
theorem grown_trans {a b c:World} {r:Option Nat} (h:a.grownBy b r) (k:b.grownBy c r):a.grownBy c r :=
 ⟨k.os.trans h.os,k.tape.trans h.tape,k.output.trans h.output,Nat.le_trans h.size k.size,fun x hx hr=>(k.block x (Nat.lt_of_lt_of_le hx h.size) hr).trans (h.block x hx hr)⟩
theorem stored_all {base size n cap g:Nat} {e:TypeId} (cs:List Value):∀ (w:World) (xs:List Value) (o:Nat),w.ownsRow base e size (.slice (some ⟨g,0,none⟩) n cap) n xs →
  (w.setCells g o cs).ownsRow base e size (.slice (some ⟨g,0,none⟩) n cap) n (setL xs o cs)∧w.grownBy (w.setCells g o cs) (some g):=by
 induction cs with
 | nil=>intro w xs o h;exact ⟨h,rfl,rfl,rfl,Nat.le_refl _,fun _ _ _=>rfl⟩
 | cons u r ih =>
  intro w xs o h
  obtain ⟨h1,h2⟩:=h.stored o u
  obtain ⟨h3,h4⟩:=ih _ _ (o+1) h1
  exact ⟨h3,grown_trans h2 h4⟩
/-- a row of lo ..< hi -/
def RowW (w:World) (lo hi:Nat) (T:TypeId) (k:Nat) (v:Value) (n:Nat) (xs:List Value):Prop:=w.ownsRow lo T k v n xs∧∀ g,v.ownBlock=some g→g<hi
def RowX (w:World) (lo hi:Nat) (T:TypeId) (k:Nat) (v:Value):Prop:=∃ n xs,RowW w lo hi T k v n xs
theorem RowX.nil (w:World) (lo hi:Nat) (T:TypeId) (k:Nat):RowX w lo hi T k (.slice none 0 0):=⟨0,[],World.ownsRow_nil _ _ _ _,fun g h=>by simp [Value.ownBlock] at h⟩
section
variable {w w':World} {lo hi base size n cap g:Nat} {e:TypeId} {xs:List Value}
theorem RowW.kept {T:TypeId} {k m:Nat} {v:Value} {ys:List Value} (h:RowW w lo hi T k v m ys) (hg:w.grownBy w' (some g)) (hne:v.ownBlock≠some g):RowW w' lo hi T k v m ys:=⟨h.1.kept hg (.inr hne),h.2⟩
theorem own_blk {T:TypeId} {k m c:Nat} {ys:List Value} (h:w.ownsRow lo T k (.slice (some ⟨g,0,none⟩) m c) m ys):∃ cur,Blk w g T cur:=by
 rcases h.2 with ⟨h0,_⟩ | ⟨g',cap',cur,hv,_,hg,_⟩
 ·cases h0
 ·cases hv
  exact ⟨cur,hg⟩
/-- a row is as it was, or it is the row that is written -/
theorem RowW.or (hrow:w.ownsRow base e size (.slice (some ⟨g,0,none⟩) n cap) n xs) {T:TypeId} {k m:Nat} {v:Value} {ys:List Value} (h:RowW w lo hi T k v m ys) (o:Nat) (cs:List Value) :
  RowW (w.setCells g o cs) lo hi T k v m ys∨T=e∧v.ownBlock=some g∧RowW (w.setCells g o cs) lo hi T k v m (setL ys o cs):=by
 by_cases hb:v.ownBlock=some g
 ·refine .inr ?_
  rcases h.1.2 with ⟨rfl,_⟩ | ⟨g',cap',cur,hv,hlo,hg,h1,h2,h3,h4⟩
  ·simp [Value.ownBlock] at hb
  ·subst hv
   have:g'=g:=by simpa [Value.ownBlock] using hb
   subst this
   obtain ⟨cur2,hk⟩:=own_blk hrow
   have hk':Blk w g' T cur:=hg
   have hT:T=e:=by
    unfold Blk at hk hk'
    rw [hk'] at hk
    injection hk with hk
    injection hk
   exact ⟨hT,rfl,(stored_all cs w ys o h.1).1,h.2⟩
 ·exact .inl (h.kept (stored_all cs w xs o hrow).2 hb)
theorem RowX.set (hrow:w.ownsRow base e size (.slice (some ⟨g,0,none⟩) n cap) n xs) {T:TypeId} {k:Nat} {v:Value} (h:RowX w lo hi T k v) (o:Nat) (cs:List Value):RowX (w.setCells g o cs) lo hi T k v:=by
 obtain ⟨m,ys,h⟩:=h
 rcases h.or hrow o cs with h | ⟨_,_,h⟩
 ·exact ⟨m,ys,h⟩
 ·exact ⟨m,_,h⟩
theorem len_of {T:TypeId} {k m:Nat} {v:Value} {ys:List Value} (h:RowW w lo hi T k v m ys):ys.length=m*k:=h.1.1
theorem RowX.below {T:TypeId} {k:Nat} {v:Value} (h:RowX w lo hi T k v) (hb:Below w.heap.size w w'):RowX w' lo hi T k v:=by
 obtain ⟨n,xs,h⟩:=h
 exact ⟨n,xs,own_below h.1 hb,h.2⟩
end
/-- what changed lies in lo ..< hi -/
structure OnlyIn (lo hi:Nat) (w w':World):Prop where
 low:Below lo w w'
 high:∀ k,hi≤k→k<w.heap.size→w'.heap[k]?=w.heap[k]?
theorem OnlyIn.refl (lo hi:Nat) (w:World):OnlyIn lo hi w w:=⟨Below.refl _ _,fun _ _ _=>rfl⟩
theorem OnlyIn.trans {lo hi:Nat} {a b c:World} (h:OnlyIn lo hi a b) (k:OnlyIn lo hi b c):OnlyIn lo hi a c :=
 ⟨h.low.trans k.low,fun x hx hs=>(k.high x hx (Nat.lt_of_lt_of_le hs h.low.size)).trans (h.high x hx hs)⟩
theorem OnlyIn.of_below {lo hi:Nat} {w w':World} (h:Below w.heap.size w w') (hlo:lo≤w.heap.size):OnlyIn lo hi w w':=⟨h.mono hlo,fun k _ hs=>h.block k hs⟩
theorem OnlyIn.grown {lo hi g:Nat} {w w':World} (h:w.grownBy w' (some g)) (h1:lo≤g) (h2:g<hi) (hlo:lo≤w.heap.size):OnlyIn lo hi w w' :=
 ⟨⟨h.os,h.tape,h.output,h.size,fun k hk=>h.block k (by omega) (by simp;omega)⟩,fun k hk hs=>h.block k hs (by simp;omega)⟩
theorem own_only {lo hi base size n:Nat} {e:TypeId} {v:Value} {xs:List Value} {w w':World} (h:w.ownsRow base e size v n xs) (hb:hi≤base) (ho:OnlyIn lo hi w w'):w'.ownsRow base e size v n xs:=by
 refine ⟨h.1,?_⟩
 rcases h.2 with h0 | ⟨g,cap,cur,h1,h2,h3,h4⟩
 ·exact .inl h0
 ·refine .inr ⟨g,cap,cur,h1,h2,?_,h4⟩
  rw [ho.high g (by omega) (Blk.lt (cs:=cur) (t:=e) h3)]
  exact h3
theorem FS.own.only {α:Type} {w w':World} {lo hi base k:Nat} {t:TypeId} {enc:α→List Value} {s:FS α} (h:s.own w base t k enc) (hb:hi≤base) (ho:OnlyIn lo hi w w'):s.own w' base t k enc:=⟨h.1,own_only h.2 hb ho⟩
section
variable {w w':World} {base lo hi:Nat}
theorem RowW.of_own {T:TypeId} {k n:Nat} {v:Value} {xs:List Value} (h:w.ownsRow lo T k v n xs):RowW w lo w.heap.size T k v n xs:=⟨h,fun g hg=>(h.lt g hg).2⟩
theorem FS.own.rowx {α:Type} {k:Nat} {t:TypeId} {enc:α→List Value} {s:FS α} (h:s.own w lo t k enc):RowX w lo w.heap.size t k s.val:=⟨_,_,RowW.of_own h.2⟩
end
/-! ### an element of a row -/
theorem RowW.el {w:World} {lo hi k n:Nat} {T:TypeId} {v:Value} {xs:List Value} (h:RowW w lo hi T k v n xs) {i:Nat} (hi':i<n) :
  ∃ g c,v=.slice (some ⟨g,0,none⟩) n c∧lo≤g∧g<hi∧n≤maxLen∧(∀ j,j<n*k→w.cell? ⟨g,j,none⟩=xs[j]?)∧w.there g (i*k) k∧w.ownsRow lo T k (.slice (some ⟨g,0,none⟩) n c) n xs:=by
 obtain ⟨ho,hh⟩:=h
 rcases ho.2 with ⟨_,h0⟩ | ⟨g,cap,cur,hv,hlo,hg,hnc,hcm,hcs,htk⟩
 ·omega
 ·subst hv
  have hle:(i+1)*k≤n*k:=Nat.mul_le_mul_right _ hi'
  rw [Nat.add_mul,Nat.one_mul] at hle
  have hk2:n*k≤cap*k:=Nat.mul_le_mul_right _ hnc
  have hc:∀ j,w.cell? ⟨g,j,none⟩=cur[j]?:=fun j=>cell_of_row w g j cur T (0,0) hg
  refine ⟨g,cap,rfl,hlo,hh g rfl,by omega,fun j hj=>?_,fun j hj=>⟨?_,(Blk.frozen (w:=w) (g:=g) (t:=T) (cs:=cur) hg) _⟩,ho⟩
  ·rw [hc,← htk,List.getElem?_take,if_pos hj,Array.getElem?_toList]
  ·rw [hc]
   simp
   omega
end Go.Proofs.YtcgclpcocdappaaDoor
namespace Go.Proofs.YtcgclpcocdappaaDoor
open Go.RowKit
def SnapsW (w:World) (lo hi:Nat) (v:Value):Prop:=∃ n xs,RowW w lo hi 42 5 v n xs∧∀ i,i<n→∃ b,xs[i*5+2]?=some b∧RowX w lo hi 66 2 b
def SetsW (w:World) (lo hi:Nat) (v:Value):Prop:=∃ n xs,RowW w lo hi 45 5 v n xs∧∀ i,i<n→∃ b s o,xs[i*5+2]?=some b∧xs[i*5+3]?=some s∧xs[i*5+4]?=some o∧RowX w lo hi 66 2 b∧SnapsW w lo hi s∧RowX w lo hi 68 2 o
theorem SnapsW.nil (w:World) (lo hi:Nat):SnapsW w lo hi (.slice none 0 0):=⟨0,[],⟨World.ownsRow_nil _ _ _ _,fun g h=>by simp [Value.ownBlock] at h⟩,fun i hi=>absurd hi (by omega)⟩
section
variable {w w':World} {lo hi base size n cap g:Nat} {e:TypeId} {xs:List Value}
/-- a store into a row that is no snapshots' -/
theorem SnapsW.set (hrow:w.ownsRow base e size (.slice (some ⟨g,0,none⟩) n cap) n xs) (hne:42≠e) {v:Value} (h:SnapsW w lo hi v) (o:Nat) (cs:List Value):SnapsW (w.setCells g o cs) lo hi v:=by
 obtain ⟨m,ys,h,hs⟩:=h
 rcases h.or hrow o cs with h | ⟨he,_,_⟩
 ·exact ⟨m,ys,h,fun i hi=>let ⟨b,h1,h2⟩:=hs i hi;⟨b,h1,h2.set hrow o cs⟩⟩
 ·exact absurd he hne
/-- a snapshot's cells, written over -/
theorem SnapsW.setSnap (hrow:w.ownsRow base e size (.slice (some ⟨g,0,none⟩) n cap) n xs) {v:Value} (h:SnapsW w lo hi v) (j:Nat) (hj:(j+1)*5≤xs.length) (_hx:xs.length=n*5) (a0 a1 a3 a4:Value):SnapsW (w.setCells g (j*5) [a0,a1,.slice none 0 0,a3,a4]) lo hi v:=by
 obtain ⟨m,ys,h,hs⟩:=h
 rcases h.or hrow (j*5) [a0,a1,.slice none 0 0,a3,a4] with h' | ⟨he,hb,h'⟩
 ·exact ⟨m,ys,h',fun i hi=>let ⟨b,h1,h2⟩:=hs i hi;⟨b,h1,h2.set hrow _ _⟩⟩
 ·refine ⟨m,_,h',fun i hi=>?_⟩
  obtain ⟨b,h1,h2⟩:=hs i hi
  by_cases hij:(j+1)*5≤ys.length
  ·rw [setL_get _ _ _ _ (by simp only [List.length_cons,List.length_nil];omega)]
   by_cases hi2:i=j
   ·subst hi2
    rw [if_pos (by simp only [List.length_cons,List.length_nil];omega),show i*5+2-i*5=2 by omega]
    exact ⟨_,rfl,RowX.nil _ _ _ _ _⟩
   ·rw [if_neg (by simp only [List.length_cons,List.length_nil];omega)]
    exact ⟨b,h1,h2.set hrow _ _⟩
  ·have hl:=len_of h
   exact ⟨b,by rw [setL_low _ _ _ _ (by omega)];exact h1,h2.set hrow _ _⟩
/-- a store into a row that is neither sets' nor snapshots' -/
theorem SetsW.set (hrow:w.ownsRow base e size (.slice (some ⟨g,0,none⟩) n cap) n xs) (hne:42≠e) (hne2:45≠e) {v:Value} (h:SetsW w lo hi v) (o:Nat) (cs:List Value):SetsW (w.setCells g o cs) lo hi v:=by
 obtain ⟨m,ys,h,hs⟩:=h
 rcases h.or hrow o cs with h | ⟨he,_,_⟩
 ·exact ⟨m,ys,h,fun i hi=>let ⟨b,s,p,h1,h2,h3,h4,h5,h6⟩:=hs i hi;⟨b,s,p,h1,h2,h3,h4.set hrow o cs,h5.set hrow hne o cs,h6.set hrow o cs⟩⟩
 ·exact absurd he hne2
theorem SetsW.setSnap (hrow:w.ownsRow base 42 size (.slice (some ⟨g,0,none⟩) n cap) n xs) {v:Value} (h:SetsW w lo hi v) (j:Nat) (hj:(j+1)*5≤xs.length) (_hx:xs.length=n*5) (a0 a1 a3 a4:Value):SetsW (w.setCells g (j*5) [a0,a1,.slice none 0 0,a3,a4]) lo hi v:=by
 obtain ⟨m,ys,h,hs⟩:=h
 rcases h.or hrow (j*5) [a0,a1,.slice none 0 0,a3,a4] with h' | ⟨he,hb,h'⟩
 ·exact ⟨m,ys,h',fun i hi=>let ⟨b,s,p,h1,h2,h3,h4,h5,h6⟩:=hs i hi;⟨b,s,p,h1,h2,h3,h4.set hrow _ _,h5.setSnap hrow j hj _hx _ _ _ _,h6.set hrow _ _⟩⟩
 ·exact absurd he (by decide)
/-- a set's cells, written over -/
theorem SetsW.setSet (hrow:w.ownsRow base 45 size (.slice (some ⟨g,0,none⟩) n cap) n xs) {v:Value} (h:SetsW w lo hi v) (j:Nat) (hj:(j+1)*5≤xs.length) (_hx:xs.length=n*5) (a0 a1:Value):SetsW (w.setCells g (j*5) [a0,a1,.slice none 0 0,.slice none 0 0,.slice none 0 0]) lo hi v:=by
 obtain ⟨m,ys,h,hs⟩:=h
 rcases h.or hrow (j*5) [a0,a1,.slice none 0 0,.slice none 0 0,.slice none 0 0] with h' | ⟨he,hb,h'⟩
 ·exact ⟨m,ys,h',fun i hi=>let ⟨b,s,p,h1,h2,h3,h4,h5,h6⟩:=hs i hi;⟨b,s,p,h1,h2,h3,h4.set hrow _ _,h5.set hrow (by decide) _ _,h6.set hrow _ _⟩⟩
 ·refine ⟨m,_,h',fun i hi=>?_⟩
  obtain ⟨b,s,p,h1,h2,h3,h4,h5,h6⟩:=hs i hi
  by_cases hij:(j+1)*5≤ys.length
  ·by_cases hi2:i=j
   ·subst hi2
    refine ⟨.slice none 0 0,.slice none 0 0,.slice none 0 0,?_,?_,?_,RowX.nil _ _ _ _ _,SnapsW.nil _ _ _,RowX.nil _ _ _ _ _⟩
    ·rw [setL_get _ _ _ _ (by simp only [List.length_cons,List.length_nil];omega),if_pos (by simp only [List.length_cons,List.length_nil];omega),show i*5+2-i*5=2 by omega]
     rfl
    ·rw [setL_get _ _ _ _ (by simp only [List.length_cons,List.length_nil];omega),if_pos (by simp only [List.length_cons,List.length_nil];omega),show i*5+3-i*5=3 by omega]
     rfl
    ·rw [setL_get _ _ _ _ (by simp only [List.length_cons,List.length_nil];omega),if_pos (by simp only [List.length_cons,List.length_nil];omega),show i*5+4-i*5=4 by omega]
     rfl
   ·have hget:∀ q,q<5→(setL ys (j*5) [a0,a1,.slice none 0 0,.slice none 0 0,.slice none 0 0])[i*5+q]?=ys[i*5+q]?:=by
     intro q hq
     rw [setL_get _ _ _ _ (by simp only [List.length_cons,List.length_nil];omega),if_neg (by simp only [List.length_cons,List.length_nil];omega)]
    exact ⟨b,s,p,by rw [hget 2 (by omega)];exact h1,by rw [hget 3 (by omega)];exact h2,by rw [hget 4 (by omega)];exact h3,h4.set hrow _ _,h5.set hrow (by decide) _ _,h6.set hrow _ _⟩
  ·have hl:=len_of h
   exact ⟨b,s,p,by rw [setL_low _ _ _ _ (by omega)];exact h1,by rw [setL_low _ _ _ _ (by omega)];exact h2,by rw [setL_low _ _ _ _ (by omega)];exact h3,h4.set hrow _ _,h5.set hrow (by decide) _ _,h6.set hrow _ _⟩
theorem SnapsW.below {v:Value} (h:SnapsW w lo hi v) (hb:Below w.heap.size w w'):SnapsW w' lo hi v:=by
 obtain ⟨n,xs,h,hs⟩:=h
 exact ⟨n,xs,⟨own_below h.1 hb,h.2⟩,fun i hi=>let ⟨b,h1,h2⟩:=hs i hi;⟨b,h1,h2.below hb⟩⟩
theorem SetsW.below {v:Value} (h:SetsW w lo hi v) (hb:Below w.heap.size w w'):SetsW w' lo hi v:=by
 obtain ⟨n,xs,h,hs⟩:=h
 exact ⟨n,xs,⟨own_below h.1 hb,h.2⟩,fun i hi=>let ⟨b,s,p,h1,h2,h3,h4,h5,h6⟩:=hs i hi;⟨b,s,p,h1,h2,h3,h4.below hb,h5.below hb,h6.below hb⟩⟩
end
section
variable {w w':World} {base lo hi:Nat}
theorem SnapO.only {x:SnapR} (h:SnapO w base x) (hb:hi≤base) (ho:OnlyIn lo hi w w'):SnapO w' base x:=⟨h.body.only hb ho,h.tags.only hb ho,h.own.only hb ho⟩
theorem SetO.only {x:SetR} (h:SetO w base x) (hb:hi≤base) (ho:OnlyIn lo hi w w'):SetO w' base x:=⟨h.body.only hb ho,h.snaps.only hb ho,fun y hy=>(h.each y hy).only hb ho,h.own.only hb ho⟩
theorem StageO.only {x:StageR} (h:StageO w base x) (hb:hi≤base) (ho:OnlyIn lo hi w w'):StageO w' base x:=⟨h.own.only hb ho,h.body.only hb ho⟩
theorem TenO.only {x:TenR} (h:TenO w base x) (hb:hi≤base) (ho:OnlyIn lo hi w w'):TenO w' base x:=⟨h.sets.only hb ho,fun y hy=>(h.eachS y hy).only hb ho,h.grants.only hb ho,h.stages.only hb ho,fun y hy=>(h.eachG y hy).only hb ho,h.log.only hb ho⟩
/-! ### a tenant of one's own lies in lo ..< hi, hi the size of the heap -/
theorem FS.own.snaps {s:FS SnapR} (h:s.own w lo 42 5 encSnap) (he:∀ y∈s.l,SnapO w lo y):SnapsW w lo w.heap.size s.val:=by
 refine ⟨_,_,RowW.of_own h.2,fun i hi=>?_⟩
 have hl:i<s.l.length:=by rw [← h.1];exact hi
 refine ⟨(s.l[i]'hl).body.val,?_,(he _ (List.getElem_mem hl)).body.rowx⟩
 rw [show i*5+2=i*5+2 from rfl,cellsK_get (k:=5) (fun x=>by cases x;rfl) s.l i hl 2 (by omega)]
 rfl
theorem FS.own.setsw {s:FS SetR} (h:s.own w lo 45 5 encSet) (he:∀ y∈s.l,SetO w lo y):SetsW w lo w.heap.size s.val:=by
 refine ⟨_,_,RowW.of_own h.2,fun i hi=>?_⟩
 have hl:i<s.l.length:=by rw [← h.1];exact hi
 have ho:=he _ (List.getElem_mem hl)
 refine ⟨(s.l[i]'hl).body.val,(s.l[i]'hl).snaps.val,(s.l[i]'hl).own.val,?_,?_,?_,ho.body.rowx,ho.snaps.snaps ho.each,ho.own.rowx⟩
 ·rw [cellsK_get (k:=5) (fun x=>by cases x;rfl) s.l i hl 2 (by omega)]
  rfl
 ·rw [cellsK_get (k:=5) (fun x=>by cases x;rfl) s.l i hl 3 (by omega)]
  rfl
 ·rw [cellsK_get (k:=5) (fun x=>by cases x;rfl) s.l i hl 4 (by omega)]
  rfl
end
/-- what is known of a tenant's rows while they are written over -/
structure SpI (lo hi:Nat) (S G T L:Value) (W0 w:World):Prop where
 sets:SetsW w lo hi S
 gr:RowX w lo hi 70 3 G
 st:RowX w lo hi 53 21 T
 lg:RowX w lo hi 72 4 L
 only:OnlyIn lo hi W0 w
section
variable {lo hi size n cap g:Nat} {S G T L:Value} {W0 w:World} {e:TypeId} {xs:List Value}
theorem SpI.store (h:SpI lo hi S G T L W0 w) (hrow:w.ownsRow lo e size (.slice (some ⟨g,0,none⟩) n cap) n xs) (hlo:lo≤g) (hhi:g<hi) (hW:lo≤w.heap.size) (hne:42≠e) (hne2:45≠e) (o:Nat) (cs:List Value):SpI lo hi S G T L W0 (w.setCells g o cs) :=
 ⟨h.sets.set hrow hne hne2 o cs,h.gr.set hrow o cs,h.st.set hrow o cs,h.lg.set hrow o cs,h.only.trans (.grown (stored_all cs w xs o hrow).2 hlo hhi hW)⟩
theorem SpI.storeSnap (h:SpI lo hi S G T L W0 w) (hrow:w.ownsRow lo 42 5 (.slice (some ⟨g,0,none⟩) n cap) n xs) (hlo:lo≤g) (hhi:g<hi) (hW:lo≤w.heap.size) (j:Nat) (hj:j<n) (a0 a1 a3 a4:Value):SpI lo hi S G T L W0 (w.setCells g (j*5) [a0,a1,.slice none 0 0,a3,a4]) :=
 have hl:xs.length=n*5:=hrow.1
 ⟨h.sets.setSnap hrow j (by omega) hl _ _ _ _,h.gr.set hrow _ _,h.st.set hrow _ _,h.lg.set hrow _ _,h.only.trans (.grown (stored_all _ w xs _ hrow).2 hlo hhi hW)⟩
theorem SpI.storeSet (h:SpI lo hi S G T L W0 w) (hrow:w.ownsRow lo 45 5 (.slice (some ⟨g,0,none⟩) n cap) n xs) (hlo:lo≤g) (hhi:g<hi) (hW:lo≤w.heap.size) (j:Nat) (hj:j<n) (a0 a1:Value):SpI lo hi S G T L W0 (w.setCells g (j*5) [a0,a1,.slice none 0 0,.slice none 0 0,.slice none 0 0]) :=
 have hl:xs.length=n*5:=hrow.1
 ⟨h.sets.setSet hrow j (by omega) hl _ _,h.gr.set hrow _ _,h.st.set hrow _ _,h.lg.set hrow _ _,h.only.trans (.grown (stored_all _ w xs _ hrow).2 hlo hhi hW)⟩
/-- set i, as it can be read now -/
theorem SetsW.at {n c:Nat} {A:Option Addr} (h:SetsW w lo hi (.slice A n c)) {i:Nat} (hi':i<n) :
  ∃ g bA bn bc sA sn sc oA on oc xs,A=some ⟨g,0,none⟩∧lo≤g∧g<hi∧w.cell? ⟨g,i*5+2,none⟩=some (.slice bA bn bc)∧w.cell? ⟨g,i*5+3,none⟩=some (.slice sA sn sc)∧w.cell? ⟨g,i*5+4,none⟩=some (.slice oA on oc) ∧
   w.there g (i*5) 5∧w.ownsRow lo 45 5 (.slice (some ⟨g,0,none⟩) n c) n xs∧(∃ ys,RowW w lo hi 66 2 (.slice bA bn bc) bn ys)∧SnapsW w lo hi (.slice sA sn sc)∧(∃ ys,RowW w lo hi 68 2 (.slice oA on oc) on ys):=by
 obtain ⟨m,xs,hr,hs⟩:=h
 obtain ⟨_,_,e,_⟩:=own_form hr.1
 injection e with _ e1 _
 subst e1
 obtain ⟨g,c',e2,hlo,hhi,_,hc,hth,hown⟩:=hr.el hi'
 injection e2 with e3 _ e4
 subst e3 e4
 obtain ⟨b,s,o,h1,h2,h3,⟨bm,bx,h4⟩,h5,⟨om,ox,h6⟩⟩:=hs i hi'
 obtain ⟨bA,bc,rfl,_⟩:=own_form h4.1
 obtain ⟨oA,oc,rfl,_⟩:=own_form h6.1
 obtain ⟨sm,sx,h7,h8⟩:=h5
 obtain ⟨sA,sc,rfl,_⟩:=own_form h7.1
 exact ⟨g,bA,bm,bc,sA,sm,sc,oA,om,oc,xs,rfl,hlo,hhi,by rw [hc _ (by omega)];exact h1,by rw [hc _ (by omega)];exact h2,by rw [hc _ (by omega)];exact h3,hth,hown,⟨_,h4⟩,⟨_,_,h7,h8⟩,⟨_,h6⟩⟩
theorem SnapsW.at {n c:Nat} {A:Option Addr} (h:SnapsW w lo hi (.slice A n c)) {i:Nat} (hi':i<n) :
  ∃ g bA bn bc xs,A=some ⟨g,0,none⟩∧lo≤g∧g<hi∧n≤maxLen∧w.cell? ⟨g,i*5+2,none⟩=some (.slice bA bn bc)∧w.there g (i*5) 5∧w.ownsRow lo 42 5 (.slice (some ⟨g,0,none⟩) n c) n xs∧(∃ ys,RowW w lo hi 66 2 (.slice bA bn bc) bn ys):=by
 obtain ⟨m,xs,hr,hs⟩:=h
 obtain ⟨_,_,e,_⟩:=own_form hr.1
 injection e with _ e1 _
 subst e1
 obtain ⟨g,c',e2,hlo,hhi,hm,hc,hth,hown⟩:=hr.el hi'
 injection e2 with e3 _ e4
 subst e3 e4
 obtain ⟨b,h1,⟨bm,bx,h4⟩⟩:=hs i hi'
 obtain ⟨bA,bc,rfl,_⟩:=own_form h4.1
 exact ⟨g,bA,bm,bc,xs,rfl,hlo,hhi,hm,by rw [hc _ (by omega)];exact h1,hth,hown,⟨_,h4⟩⟩
end
end Go.Proofs.YtcgclpcocdappaaDoor
