/-
  Tags: sizes; what is held in a set that is found. props.Text; the reference's Prop; godownplain.Texts: by their contracts. What is told of tenants, laid side by side: two of one content are the same.
-/
import Derived.Test.YtiojfffgiejibaaGreatDoorTtM1
import Derived.WalkKit
import Derived.WalkSpells
import Derived.Below
import Derived.Laws.OwnMore
import Derived.Deep.AppendLies
import Derived.Deep.Draws
import Derived.Laws.Rows
import Derived.Maps.AppendAt
import Derived.RegionTactic
import Derived.OwnWalk
import Derived.Deep.QuietTactic
import Derived.BigQuiet
import Derived.Lib.Hide
import Derived.Laws.CopyOwn
import Derived.IntWalk
import Derived.Test.YtiojfffgiejibaaGreatDoorRows
import Derived.Handy
import Derived.Lib.AppendZeros
import Derived.ProofKit
import Derived.Deep.Quiet
import Derived.OpenShut
import Derived.ShutString
import Derived.ChangeOld
import Derived.Carry
import Derived.SizedLaws
import Derived.JoinedCond
import Derived.Deep.CondSized
import Derived.Deep.Slices
import Derived.Deep.Fields
import Derived.Lib.SmallJoins
import Derived.Orders
import Derived.Lib.SplitLaws
import Derived.Lib.LastIndexByte
import Derived.Lib.Strings
import Derived.Deep.RegionLaw
import Derived.Sort.Walk0
import Derived.Sort.KeysCollected
import Derived.Shelf.SlIter.Nil
import Derived.Shelf.SortM.Plain
import Derived.Shelf.SortM.SortNone
import Derived.Maps.OwnSet
import Derived.Maps.StringElems
import Derived.Deep.MidRow
import Derived.Shelf.Strings.Search1
import Derived.Shelf.Strings.Search2
import Derived.Shelf.Strings.Search3
import Derived.Shelf.Strings.Cut
import Derived.Shelf.Strings.Count
import Derived.Shelf.LaysM
import Derived.Shelf.Strings.Shaped
import Derived.Shelf.Strings.LastIndex
import Derived.Shelf.Strings.Split
import Derived.Shelf.Strings.SplitShaped
import Derived.Shelf.Unicode.Decode
import Derived.Shelf.Strings.RuneCount
import Derived.Shelf.Strings.Explode
import Derived.Shelf.Unicode.DecodeSlow
import Derived.Shelf.Slices.Turned
import Derived.Test.YtiojfffgiejibaaGreatDoorProg
import Derived.Lib.Overlaps
import Derived.Lib.AppendZerosOnto
import Derived.Laws.BytesString
import Derived.Laws.IdiomStrings
import Derived.Lib.ConvBytes
import Derived.Deep.DeepCutAuto
import Derived.Great.BuildSlice
import Derived.Test.YtiojfffgiejibaaGreatDoorT0
import Derived.Test.YtiojfffgiejibaaGreatDoorTt1
import Derived.Test.YtiojfffgiejibaaGreatDoorTt3
import Derived.Test.YtiojfffgiejibaaGreatDoorTt5
import Derived.Test.YtiojfffgiejibaaGreatDoorTt7
import Derived.Test.YtiojfffgiejibaaGreatDoorTt8
import Derived.Test.YtiojfffgiejibaaGreatDoorTt10
import Derived.Test.YtiojfffgiejibaaGreatDoorTt12
import Derived.Test.YtiojfffgiejibaaGreatDoorTt16
import Derived.Test.YtiojfffgiejibaaGreatDoorTt20
import Derived.Test.YtiojfffgiejibaaGreatDoorTt21
import Derived.Test.YtiojfffgiejibaaGreatDoorTt24
import Derived.Test.YtiojfffgiejibaaGreatDoorTt30
import Derived.Test.YtiojfffgiejibaaGreatDoorTt32
import Derived.Test.YtiojfffgiejibaaGreatDoorTt34
import Derived.Test.YtiojfffgiejibaaGreatDoorTt39
import Derived.Test.YtiojfffgiejibaaGreatDoorTt40
import Derived.Test.YtiojfffgiejibaaGreatDoorTt43
namespace Go.Proofs.YtiojfffgiejibaaGreatDoor
open Go.RowKit
theorem retag_sz {c:TenC} (h:c.sz) (k:Nat) (s:SetC) (hs:s.sz) (i:Nat) (x:SnapC) (hx:x.sz) (l:List BS) (hl:l.length≤1000000000000) (hg:∀ q∈l,q.length≤4000000000):(c.putS k (s.retag i x l)).sz:=by
 refine h.putS ⟨hs.path,hs.org,hs.body,?_,fun y hy=>?_,hs.own,hs.props⟩
 ·show (List.set _ _ _).length≤_
  rw [List.length_set]
  exact hs.snaps
 ·rcases List.mem_or_eq_of_mem_set (show y∈List.set _ _ _ from hy) with hy | rfl
  ·exact hs.each y hy
  ·exact ⟨hx.nm,hx.body,hl,hg,hx.own,hx.props⟩
theorem insT_mem {g q:BS} {l:List BS} (h:q∈insT g l):q=g∨q∈l:=by
 unfold insT at h
 rcases List.mem_append.1 h with h | h
 ·exact .inr (List.mem_of_mem_take h)
 ·rcases List.mem_cons.1 h with h | h
  ·exact .inl h
  ·exact .inr (List.mem_of_mem_drop h)
theorem delT_mem {g q:BS} {l:List BS} (h:q∈delT g l):q∈l:=by
 unfold delT at h
 rcases List.mem_append.1 h with h | h
 ·exact List.mem_of_mem_take h
 ·exact List.mem_of_mem_drop h
theorem tag_sz {c:TenC} (h:c.sz) (hb:∀ s∈c.sets,∀ x∈s.snaps,x.tags.length≤100000000000) (p n g:BS) (hg:g.length≤4000000000):((c.hold p n g).1=0→(c.hold p n g).2.sz)∧((c.release p n g).1=0→(c.release p n g).2.sz):=by
 rcases c.foundS_cases p n (!nameB g) with ⟨a,k,E,hE,e⟩ | ⟨k,ha,i,hi,e,-,-⟩
 ·have h0:E≠0:=by rcases hE with rfl | rfl | rfl <;> decide
  rw [hold_bad e h0,release_bad e h0]
  exact ⟨fun h1=>absurd h1 h0,fun h1=>absurd h1 h0⟩
 ·have hs:=h.eachS _ (List.getElem_mem ha.lt)
  have hx:=hs.each _ (List.getElem_mem hi)
  have ht:=hb _ (List.getElem_mem ha.lt) _ (List.getElem_mem hi)
  rw [hold_at e (List.getElem?_eq_getElem ha.lt) (List.getElem?_eq_getElem hi),release_at e (List.getElem?_eq_getElem ha.lt) (List.getElem?_eq_getElem hi)]
  constructor
  ·intro h1
   split at h1
   ·cases h1
   ·rename_i h2
    rw [if_neg h2]
    split at h1
    ·cases h1
    ·rename_i h3
     rw [if_neg h3]
     exact retag_sz h k _ hs i _ hx _ (by rw [insT_len];omega) (fun q hq=>(insT_mem hq).elim (fun e=>by rw [e];exact hg) (fun h4=>hx.each q h4))
  ·intro h1
   split at h1
   ·cases h1
   ·rename_i h2
    rw [if_neg h2]
    refine retag_sz h k _ hs i _ hx _ ?_ (fun q hq=>hx.each q (delT_mem hq))
    refine Nat.le_trans ?_ (Nat.le_trans ht tZ3)
    unfold delT
    simp only [List.length_append,List.length_take,List.length_drop]
    omega
theorem cat_at (a b:BS):((⟨a.toArray⟩:ByteArray)++(⟨#[64]⟩:ByteArray))++(⟨b.toArray⟩:ByteArray)=⟨(a++64 :: b).toArray⟩:=by
 apply ByteArray.ext
 simp only [ByteArray.data_append]
 simp
/-- whether a snapshot is held, by the place of its set -/
theorem heldB_none (sl:List SetR) (p n:BS) (h:findS sl p<0):heldB sl p n=false:=by
 rcases firstI_cases (fun s:SetR=>s.path == p) sl with ⟨-,h2⟩ | ⟨k,hk,h1,-⟩
 ·unfold heldB
  rw [h2]
 ·have h1:findS sl p=(k:Int):=h1
  omega
theorem heldB_some (sl:List SetR) (p n:BS) (k:Nat) (hk:k<sl.length) (h:findS sl p=(k:Int)):heldB sl p n=match (sl[k]'hk).snaps.l.find? (fun x=>x.nm == n) with
  | none=>false
  | some x=>decide (0<x.tags.n):=by
 rcases firstI_cases (fun s:SetR=>s.path == p) sl with ⟨h1,-⟩ | ⟨j,hj,h1,h2⟩
 ·have h1:findS sl p=-1:=h1
  omega
 ·have h1:findS sl p=(j:Int):=h1
  obtain rfl:j=k:=tZ1
  unfold heldB
  rw [h2]
  dsimp only
  cases (sl[j]'hj).snaps.l.find? (fun x=>x.nm == n) <;> rfl
theorem allH_small (l:List SetR) (K:Nat) (h:∀ s∈l,s.snaps.l.length≤K):(allH l).length≤l.length*K:=by
 induction l with
 | nil=>simp [allH]
 | cons s r ih =>
  have h1:=ih (fun x hx=>h x (List.mem_cons_of_mem _ hx))
  have h2:=h s List.mem_cons_self
  have h3:(heldL s.path s.snaps.l).length≤s.snaps.l.length:=by
   unfold heldL
   rw [List.length_map]
   exact List.length_filter_le _ _
  show (heldL s.path s.snaps.l++allH r).length≤_
  rw [List.length_append,List.length_cons,Nat.add_mul]
  omega
theorem findS_lt (sl:List SetR) (p:BS):findS sl p<(sl.length:Int):=by
 rcases firstI_cases (fun s:SetR=>s.path == p) sl with ⟨h1,-⟩ | ⟨k,hk,h1,-⟩
 ·have h1:findS sl p=-1:=h1
  omega
 ·have h1:findS sl p=(k:Int):=h1
  omega
end Go.Proofs.YtiojfffgiejibaaGreatDoor
namespace Go.Proofs.YtiojfffgiejibaaGreatDoor
open Go.RowKit
set_option maxRecDepth 100000 in
set_option maxHeartbeats 1000000 in
theorem texts_any (a b:List BS) (n m:Nat) (hna:n=a.length) (hmb:m=b.length) (A1 A2:Option Addr) (c1 c2:Nat) (w:World) (B1 B2:Nat) (hr1:Reads w B1 1 A1 n (scells a)) (hr2:Reads w B2 1 A2 m (scells b)) (hn:n≤8796093022208) (hm:m≤8796093022208) :
  Calls Tryz.prog 36 #[.slice A1 n c1,.slice A2 m c2] w fun e w'=>e=.returned (.bool (decide (a=b)))∧∃ q,w'=w.drewN q:=by
 have HN:=Lib.hid hna
 have HM:=Lib.hid hmb
 clear hna hmb
 by_cases hnm:n=m
 ·subst hnm
  go_enter Tryz.func36,Tryz.ntmps36
  go_wp2_with fail
  go_loopw [5] (fun i wr=>∃ k:Nat,k≤n∧i=.int .i64 (k:Int)∧Hid (a.take k=b.take k)∧∃ q,wr=w.drewN q) (fun i _=>n-(intOf i).toNat)
  case atStart=>exact ⟨0,Nat.zero_le _,rfl,(show a.take 0=b.take 0 by simp),0,rfl⟩
  case round =>
   obtain ⟨k,hk,rfl,hok,q,rfl⟩:=hrel
   by_cases hlt:k<n
   ·have hki:(k:Int)<(n:Int):=tZ1
    have hka:k<a.length:=tZ9
    have hkb:k<b.length:=tZ68
    obtain ⟨ad1,rfl,_,hc1⟩:=strs_at hr1 HN.out hlt
    obtain ⟨ad2,rfl,_,hc2⟩:=strs_at hr2 HM.out hlt
    obtain ⟨x,hx⟩:∃ x,x=a[k]'hka:=⟨_,rfl⟩
    obtain ⟨y,hy⟩:∃ y,y=b[k]'hkb:=⟨_,rfl⟩
    rw [← hx] at hc1
    rw [← hy] at hc2
    have t1:=List.take_succ_eq_append_getElem hka
    have t2:=List.take_succ_eq_append_getElem hkb
    rw [← hx] at t1
    rw [← hy] at t2
    have T1:=Lib.hid t1
    have T2:=Lib.hid t2
    have X1:=Lib.hid hx
    have X2:=Lib.hid hy
    simp only [strV] at hc1 hc2
    clear hx hy t1 t2 hr1 hr2
    by_cases hxy:x=y
    ·subst hxy
     exact mZ99
    ·have hd:(x != y)=true:=by simp [hxy]
     have hd2:(x == y)=false:=by simp [hxy]
     have HD:Hid (decide (a=b)=false):=by
      show _=_
      refine decide_eq_false (fun e=>hxy ?_)
      rw [X1.out,X2.out]
      simp only [e]
     exact mZ98
   ·have HD:Hid (decide (a=b)=true):=by
     show _=_
     refine decide_eq_true ?_
     have:=hok.out
     rwa [List.take_of_length_le tZ9,List.take_of_length_le tZ68] at this
    clear hr1 hr2
    go_wp2_with fail
    go_ret
    exact ⟨by rw [HD.out];rfl,q,rfl⟩
 ·have hd:((n:Int) != (m:Int))=true:=tZ7
  have HD:Hid (decide (a=b)=false):=by
   exact mZ97
  clear hnm hr1 hr2
  go_enter Tryz.func36,Tryz.ntmps36
  exact mZ96
end Go.Proofs.YtiojfffgiejibaaGreatDoor
namespace Go.Proofs.YtiojfffgiejibaaGreatDoor
open Go.RowKit
def ten0C:TenC:=⟨[],0,0,[],[],[],[]⟩
theorem ten0C_sz:ten0C.sz:=⟨by simp [ten0C],by simp [ten0C],by simp [ten0C],by simp [ten0C],by simp [ten0C],by simp [ten0C],by simp [ten0C],by simp [ten0C],by simp [ten0C]⟩
def ten0R:TenR:=⟨[],0,0,⟨none,0,0,[]⟩,⟨none,0,0,[]⟩,⟨none,0,0,[]⟩,⟨none,0,0,[]⟩⟩
theorem rd_nil {α:Type} {w:World} {B k:Nat} {enc:α→List Value}:FS.rd w B k enc ⟨none,0,0,[]⟩:=⟨rfl,Nat.le_refl _,Reads.none_⟩
/-- the content of what is told: an error's is the zero one -/
def tenOr (r:Int×TenC):TenC:=if r.1=0 then r.2 else ten0C
theorem tenOr_sz {r:Int×TenC} (h:r.1=0→r.2.sz):(tenOr r).sz:=by
 unfold tenOr
 split
 ·exact h (by assumption)
 ·exact ten0C_sz
theorem TenPost.all {w w':World} {c:Int×TenC} {e:Ending} (h:TenPost w c e w'):∃ y:TenR,e=.returned (.tuple #[y.val,.int .i64 c.1])∧Below w.heap.size w w'∧y.rd w' w'.heap.size∧y.con=tenOr c:=by
 obtain ⟨v,rfl,hb,h⟩:=h
 unfold tenOr
 rcases h with ⟨h1,rfl⟩ | ⟨h1,y,rfl,h2,h3⟩
 ·exact ⟨ten0R,rfl,hb,⟨rd_nil,fun y hy=>(by cases hy),rd_nil,rd_nil,fun y hy=>(by cases hy),rd_nil⟩,by rw [if_neg h1];rfl⟩
 ·exact ⟨y,rfl,hb,h2.rd,by rw [if_pos h1];exact h3⟩
/-- a value is a tenant of this content, in this world and in all that keep what it holds -/
def SaysT (a:Value) (W0:World) (c:TenC):Prop:=∃ y:TenR,a=y.val∧y.con=c∧∀ W,Below W0.heap.size W0 W→y.rd W W0.heap.size
theorem same_said {a b:Value} {W0 W1 W:World} {c:TenC} (ha:SaysT a W0 c) (hb:SaysT b W1 c) (hz:c.sz) (h0:Below W0.heap.size W0 W) (h1:Below W1.heap.size W1 W) :
  Calls Tryz.prog 13 #[a,b] W fun e w'=>e=.returned (.bool true)∧Below W.heap.size W w':=by
 obtain ⟨x,rfl,hx,hxr⟩:=ha
 obtain ⟨y,rfl,hy,hyr⟩:=hb
 have h2:=(hxr W h0).more h0.size
 have h3:=(hyr W h1).more h1.size
 exact same14_any x y ((TenR.eqv_iff _ _).2 (hx.trans hy.symm)) W W.heap.size (Nat.le_refl _) h2 h3 (TenR.sz_of h2 (by rw [hx];exact hz))
end Go.Proofs.YtiojfffgiejibaaGreatDoor
