/-
  Lists of elements of several cells each, in memory: the cells of one element; where a sorted list is parted. Grants: the plain law. A slice: as it lies in memory, and as it reads. Tenants: as they lie in memory, and as they read.
-/
import Derived.WalkKit
import Derived.WalkSpells
import Derived.Below
import Derived.Laws.OwnMore
import Derived.Deep.AppendLies
import Derived.Deep.Draws
import Derived.Laws.Rows
import Derived.Maps.AppendAt
import Derived.RegionTactic
import Derived.OwnWalk
import Derived.Deep.QuietTactic
import Derived.BigQuiet
import Derived.Lib.Hide
import Derived.Laws.CopyOwn
import Derived.IntWalk
import Derived.Deep.Quiet
import Derived.Handy
import Derived.Test.YtcgclpcocdappaaDoorRows
import Derived.Sort.Walk0
import Derived.Sort.KeysCollected
import Derived.Orders
import Derived.Laws.BytesString
import Derived.Laws.IdiomStrings
import Derived.Lib.ConvBytes
import Derived.Lib.Strings
import Derived.Test.YtcgclpcocdappaaDoorP0
import Derived.Test.YtcgclpcocdappaaDoorPa1
import Derived.Test.YtcgclpcocdappaaDoorPa2
import Derived.Test.YtcgclpcocdappaaDoorPa5
namespace Go.Proofs.YtcgclpcocdappaaDoor
open Go.RowKit
section
variable {α:Type}
def cellsK (enc:α→List Value) (l:List α):List Value:=l.flatMap enc
theorem cellsK_nil (enc:α→List Value):cellsK enc []=[]:=rfl
theorem cellsK_append (enc:α→List Value) (a b:List α):cellsK enc (a++b)=cellsK enc a++cellsK enc b:=by simp [cellsK]
theorem cellsK_one (enc:α→List Value) (x:α):cellsK enc [x]=enc x:=by simp [cellsK]
theorem cellsK_length {enc:α→List Value} {k:Nat} (hk:∀ x,(enc x).length=k) (l:List α):(cellsK enc l).length=l.length*k:=by
 induction l with
 | nil=>simp [cellsK]
 | cons x l ih =>
  simp only [cellsK,List.flatMap_cons,List.length_append,List.length_cons] at ih ⊢
  rw [ih,hk,Nat.add_mul,Nat.one_mul,Nat.add_comm]
theorem cellsK_get {enc:α→List Value} {k:Nat} (hk:∀ x,(enc x).length=k) (l:List α) (i:Nat) (h:i<l.length) (j:Nat) (hj:j<k):(cellsK enc l)[i*k+j]?=(enc l[i])[j]?:=by
 induction l generalizing i with
 | nil=>simp at h
 | cons x l ih =>
  have e:cellsK enc (x :: l)=enc x++cellsK enc l:=rfl
  rw [e]
  cases i with
  | zero=>rw [Nat.zero_mul,Nat.zero_add,List.getElem?_append_left (by rw [hk];exact hj)];rfl
  | succ i =>
   rw [List.getElem?_append_right (by rw [hk,Nat.add_mul];omega),hk,show (i+1)*k+j-k=i*k+j by rw [Nat.add_mul];omega]
   exact ih i (by simpa using h)
theorem cellsK_take {enc:α→List Value} {k:Nat} (hk:∀ x,(enc x).length=k) (l:List α) (i:Nat):cellsK enc (l.take i)=(cellsK enc l).take (i*k):=by
 induction l generalizing i with
 | nil=>simp [cellsK]
 | cons x l ih =>
  cases i with
  | zero=>simp [cellsK]
  | succ i =>
   have e:cellsK enc (x :: l)=enc x++cellsK enc l:=rfl
   have e2:cellsK enc ((x :: l).take (i+1))=enc x++cellsK enc (l.take i):=rfl
   rw [e,e2,ih,List.take_append,hk,List.take_of_length_le (l:=enc x) (by rw [hk,Nat.add_mul];omega),show (i+1)*k-k=i*k by rw [Nat.add_mul];omega]
theorem cellsK_drop {enc:α→List Value} {k:Nat} (hk:∀ x,(enc x).length=k) (l:List α) (i:Nat):cellsK enc (l.drop i)=(cellsK enc l).drop (i*k):=by
 induction l generalizing i with
 | nil=>simp [cellsK]
 | cons x l ih =>
  cases i with
  | zero=>simp
  | succ i =>
   have e:cellsK enc (x :: l)=enc x++cellsK enc l:=rfl
   rw [e,List.drop_succ_cons,ih,List.drop_append,hk,@List.drop_eq_nil_of_le _ (enc x) _ (by rw [hk,Nat.add_mul];omega),List.nil_append,show (i+1)*k-k=i*k by rw [Nat.add_mul];omega]
theorem Reads.elK {enc:α→List Value} {k:Nat} (hk:∀ x,(enc x).length=k) {w:World} {B n:Nat} {A:Option Addr} {l:List α} (h:Reads w B k A n (cellsK enc l)) (hn:n=l.length) {i:Nat} (hi:i<n) :
  ∃ ad,A=some ad∧ad.block<B∧∀ j,j<k→w.cell? ((ad.add (i*k)).add j)=(enc (l[i]'(by omega)))[j]?:=by
 obtain ⟨ad,e,hb,hc⟩:=h.2 (by omega)
 refine ⟨ad,e,hb,fun j hj=>?_⟩
 have hl:j<(enc (l[i]'(by omega))).length:=by rw [hk];exact hj
 rw [List.getElem?_eq_getElem hl,add_of_add]
 exact hc _ _ ((cellsK_get hk l i (by omega) j hj).trans (List.getElem?_eq_getElem hl))
theorem addr_add_succ (a:Addr) (j:Nat):a.add (j+1)=⟨a.block,a.off+(j+1),none⟩:=by simp [Addr.add]
theorem Reads.el2 {f0 f1:α→Value} {w:World} {B n:Nat} {A:Option Addr} {l:List α} (h:Reads w B 2 A n (cellsK (fun x=>[f0 x,f1 x]) l)) (hn:n=l.length) {i:Nat} (hi:i<n) :
  ∃ ad,A=some ad∧ad.block<B∧w.cell? (ad.add (i*2))=some (f0 (l[i]'(by omega)))∧w.cell? ⟨(ad.add (i*2)).block,(ad.add (i*2)).off+1,none⟩=some (f1 (l[i]'(by omega))):=by
 obtain ⟨ad,e,hb,hc⟩:=Reads.elK (k:=2) (fun _=>rfl) h hn hi
 refine ⟨ad,e,hb,?_,?_⟩
 ·have:=hc 0 (by omega);rwa [add_zero] at this
 ·have:=hc 1 (by omega);rwa [addr_add_succ] at this
theorem Reads.el3 {f0 f1 f2:α→Value} {w:World} {B n:Nat} {A:Option Addr} {l:List α} (h:Reads w B 3 A n (cellsK (fun x=>[f0 x,f1 x,f2 x]) l)) (hn:n=l.length) {i:Nat} (hi:i<n) :
  ∃ ad,A=some ad∧ad.block<B∧w.cell? (ad.add (i*3))=some (f0 (l[i]'(by omega)))∧w.cell? ⟨(ad.add (i*3)).block,(ad.add (i*3)).off+1,none⟩=some (f1 (l[i]'(by omega)))∧w.cell? ⟨(ad.add (i*3)).block,(ad.add (i*3)).off+2,none⟩=some (f2 (l[i]'(by omega))):=by
 obtain ⟨ad,e,hb,hc⟩:=Reads.elK (k:=3) (fun _=>rfl) h hn hi
 refine ⟨ad,e,hb,?_,?_,?_⟩
 ·have:=hc 0 (by omega);rwa [add_zero] at this
 ·have:=hc 1 (by omega);rwa [addr_add_succ] at this
 ·have:=hc 2 (by omega);rwa [addr_add_succ] at this
/-! ### where a list is parted -/
def posF (cf:α→Int) (l:List α):Nat:=(l.takeWhile fun x=>decide (cf x<0)).length
def atF (cf:α→Int) (l:List α):Bool:=(l[posF cf l]?).any fun x=>cf x == 0
def SignAsc (cf:α→Int) (l:List α):Prop:=∀ (i j:Nat) x y,i<j→l[i]?=some x→l[j]?=some y→cf y<0→cf x<0
theorem posF_le (cf:α→Int) (l:List α):posF cf l≤l.length:=by
 unfold posF
 exact (List.takeWhile_sublist _).length_le
theorem posF_eq (cf:α→Int) (l:List α) (a:Nat) (ha:a≤l.length) (h1:∀ k x,k<a→l[k]?=some x→cf x<0) (h2:∀ x,l[a]?=some x→0≤cf x):posF cf l=a:=by
 unfold posF
 induction l generalizing a with
 | nil=>simp at ha;simp [ha]
 | cons y r ih =>
  cases a with
  | zero =>
   have:=h2 y rfl
   rw [List.takeWhile_cons_of_neg (by simp;omega)]
   rfl
  | succ a =>
   have:=h1 0 y (by omega) rfl
   rw [List.takeWhile_cons_of_pos (by simpa using this),List.length_cons]
   have:=ih a (by simpa using ha) (fun k x hk hx=>h1 (k+1) x (by omega) (by simpa using hx)) (fun x hx=>h2 x (by simpa using hx))
   omega
theorem posF_cons (cf:α→Int) (x:α) (l:List α):posF cf (x :: l)=if cf x<0 then posF cf l+1 else 0:=by
 unfold posF
 rw [List.takeWhile_cons]
 by_cases h:cf x<0
 ·rw [if_pos (by simpa using h),if_pos h];rfl
 ·rw [if_neg (by simpa using h),if_neg h];rfl
theorem atF_cons (cf:α→Int) (x:α) (l:List α):atF cf (x :: l)=if cf x<0 then atF cf l else cf x == 0:=by
 unfold atF
 rw [posF_cons]
 by_cases h:cf x<0
 ·rw [if_pos h,if_pos h];rfl
 ·rw [if_neg h,if_neg h];rfl
end
end Go.Proofs.YtcgclpcocdappaaDoor
namespace Go.Proofs.YtcgclpcocdappaaDoor
open Go.RowKit
abbrev GT:=BS×BS×Int
abbrev GL:=List GT
def cmpG (a b c d:BS):Int:=if cmpS a c=0 then cmpS b d else cmpS a c
theorem cmpG_zero (a b c d:BS):cmpG a b c d=0↔a=c∧b=d:=by
 unfold cmpG
 by_cases h:cmpS a c=0
 ·rw [if_pos h,cmpS_zero]
  rw [cmpS_zero] at h
  exact ⟨fun e=>⟨h,e⟩,fun e=>e.2⟩
 ·rw [if_neg h]
  exact ⟨fun e=>absurd e h,fun e=>absurd ((cmpS_zero _ _).2 e.1) h⟩
theorem cmpG_neg (a b c d:BS):cmpG a b c d<0↔Op.bytesLess a c=true∨a=c∧Op.bytesLess b d=true:=by
 unfold cmpG
 by_cases h:cmpS a c=0
 ·rw [if_pos h,cmpS_neg]
  rw [cmpS_zero] at h
  subst h
  rw [bl_irrefl]
  simp
 ·rw [if_neg h,cmpS_neg]
  rw [cmpS_zero] at h
  simp [h]
theorem cmpG_trans {a b c d e f:BS} (h1:cmpG a b c d<0) (h2:cmpG c d e f<0):cmpG a b e f<0:=by
 rw [cmpG_neg] at *
 rcases h1 with h1 | ⟨rfl,h1⟩
 ·rcases h2 with h2 | ⟨rfl,h2⟩
  ·exact .inl (bl_trans h1 h2)
  ·exact .inl h1
 ·rcases h2 with h2 | ⟨rfl,h2⟩
  ·exact .inl h2
  ·exact .inr ⟨rfl,bl_trans h1 h2⟩
theorem cmpG_irrefl (a b:BS):¬ cmpG a b a b<0:=by rw [(cmpG_zero a b a b).2 ⟨rfl,rfl⟩];omega
theorem cmpG_tri {a b c d:BS} (h1:¬ cmpG a b c d<0) (h2:¬ (a=c∧b=d)):cmpG c d a b<0:=by
 rw [cmpG_neg] at *
 by_cases hac:a=c
 ·subst hac
  refine .inr ⟨rfl,bl_tri b d ?_ (fun e=>h2 ⟨rfl,e⟩)⟩
  rw [← Bool.not_eq_true]
  exact fun e=>h1 (.inr ⟨rfl,e⟩)
 ·refine .inl (bl_tri a c ?_ hac)
  rw [← Bool.not_eq_true]
  exact fun e=>h1 (.inl e)
/-- the order at an element and a target -/
def cfG (u p:BS):GT→Int:=fun x=>cmpG x.1 x.2.1 u p
def SortG (l:GL):Prop:=l.Pairwise fun x y=>cmpG x.1 x.2.1 y.1 y.2.1<0
theorem cfG_asc (l:GL) (h:SortG l) (u p:BS):SignAsc (cfG u p) l:=by
 intro i j x y hij hx hy hlt
 obtain ⟨hi,hxi⟩:=List.getElem?_eq_some_iff.1 hx
 obtain ⟨hj,hyj⟩:=List.getElem?_eq_some_iff.1 hy
 have:=List.pairwise_iff_getElem.1 h i j hi hj hij
 rw [hxi,hyj] at this
 exact cmpG_trans this hlt
def grantB (g:GT):Bool:=nameB g.1 && pathB g.2.1 && decide (1≤g.2.2) && decide (g.2.2≤255)
def grantsFrom:Option GT→GL→Bool
 | _,[]=>true
 | p,x :: l=>grantB x && (match p with | none=>true | some q=>decide (cmpG q.1 q.2.1 x.1 x.2.1<0)) && grantsFrom (some x) l
def grantsB (l:GL):Bool:=decide (l.length≤16) && grantsFrom none l
def grantsE (l:GL):Int:=if grantsB l=true then 0 else 9
theorem grantsFrom_cons (p:Option GT) (x:GT) (l:GL):grantsFrom p (x :: l)=(grantB x && (match p with | none=>true | some q=>decide (cmpG q.1 q.2.1 x.1 x.2.1<0)) && grantsFrom (some x) l):=by
 cases p <;> rfl
theorem grantsFrom_iff (p:Option GT) (l:GL):grantsFrom p l=true↔(∀ x∈l,grantB x=true)∧SortG l∧(∀ q,p=some q→∀ x∈l,cmpG q.1 q.2.1 x.1 x.2.1<0):=by
 induction l generalizing p with
 | nil=>simp [grantsFrom,SortG]
 | cons y l ih =>
  rw [grantsFrom_cons,Bool.and_eq_true,Bool.and_eq_true,ih]
  constructor
  ·rintro ⟨⟨h1,h2⟩,h3,h4,h5⟩
   refine ⟨fun x hx=>?_,List.pairwise_cons.2 ⟨fun z hz=>h5 y rfl z hz,h4⟩,fun q hq x hx=>?_⟩
   ·rcases List.mem_cons.1 hx with rfl | hx
    ·exact h1
    ·exact h3 x hx
   ·subst hq
    have h2:cmpG q.1 q.2.1 y.1 y.2.1<0:=of_decide_eq_true h2
    rcases List.mem_cons.1 hx with rfl | hx
    ·exact h2
    ·exact cmpG_trans h2 (h5 y rfl x hx)
  ·rintro ⟨h1,h2,h3⟩
   obtain ⟨h4,h5⟩:=List.pairwise_cons.1 h2
   refine ⟨⟨h1 y (List.mem_cons_self ..),?_⟩,fun x hx=>h1 x (List.mem_cons_of_mem _ hx),h5,fun q hq x hx=>?_⟩
   ·cases p with
    | none=>rfl
    | some q=>exact decide_eq_true (h3 q rfl y (List.mem_cons_self ..))
   ·cases hq
    exact h4 x hx
theorem grantsB_iff (l:GL):grantsB l=true↔l.length≤16∧(∀ x∈l,grantB x=true)∧SortG l:=by
 unfold grantsB
 rw [Bool.and_eq_true,decide_eq_true_eq,grantsFrom_iff]
 simp
/-- with an entry at a place: its rights, or none -/
def gAt (l:GL) (u p:BS):Option Int:=(l.find? fun x=>x.1 == u && x.2.1 == p).map (·.2.2)
def dropG (l:GL) (u p:BS):GL:=l.filter fun x=>!(x.1 == u && x.2.1 == p)
theorem sortG_parts (l:GL) (u p:BS) (h:SortG l):(∀ x∈l.take (posF (cfG u p) l),cfG u p x<0)∧(∀ x∈l.drop (posF (cfG u p) l),0≤cfG u p x)∧∀ x∈l.drop (posF (cfG u p) l+1),0<cfG u p x:=by
 induction l with
 | nil=>simp
 | cons y l ih =>
  obtain ⟨h1,h2⟩:=List.pairwise_cons.1 h
  rw [posF_cons]
  by_cases hn:cfG u p y<0
  ·obtain ⟨a,b,c⟩:=ih h2
   rw [if_pos hn]
   refine ⟨fun x hx=>?_,b,c⟩
   rw [List.take_succ_cons] at hx
   rcases List.mem_cons.1 hx with rfl | hx
   ·exact hn
   ·exact a x hx
  ·rw [if_neg hn]
   have hall:∀ x∈l,0<cfG u p x:=by
    intro x hx
    have h3:=h1 x hx
    unfold cfG at hn ⊢
    have h4:¬ cmpG x.1 x.2.1 u p<0:=fun e=>hn (cmpG_trans h3 e)
    have h5:¬ cmpG x.1 x.2.1 u p=0:=by
     intro e
     obtain ⟨e1,e2⟩:=(cmpG_zero _ _ _ _).1 e
     rw [e1,e2] at h3
     exact hn h3
    omega
   refine ⟨by simp,fun x hx=>?_,fun x hx=>hall x (by simpa using hx)⟩
   rw [List.drop_zero] at hx
   rcases List.mem_cons.1 hx with rfl | hx
   ·omega
   ·have:=hall x hx;omega
theorem atF_any (l:GL) (u p:BS) (h:SortG l):atF (cfG u p) l=l.any fun x=>x.1 == u && x.2.1 == p:=by
 induction l with
 | nil=>rfl
 | cons y l ih =>
  obtain ⟨h1,h2⟩:=List.pairwise_cons.1 h
  rw [atF_cons,List.any_cons,ih h2]
  by_cases hn:cfG u p y<0
  ·rw [if_pos hn]
   have:(y.1 == u && y.2.1 == p)=false:=by
    rw [← Bool.not_eq_true,Bool.and_eq_true,beq_iff_eq,beq_iff_eq]
    intro e
    have:=(cmpG_zero _ _ _ _).2 e
    unfold cfG at hn
    omega
   rw [this,Bool.false_or]
  ·rw [if_neg hn]
   by_cases hz:y.1=u∧y.2.1=p
   ·have e1:(cfG u p y == 0)=true:=by rw [beq_iff_eq];exact (cmpG_zero _ _ _ _).2 hz
    rw [e1,hz.1,hz.2]
    simp
   ·have e1:(cfG u p y == 0)=false:=by rw [beq_eq_false_iff_ne];exact fun e=>hz ((cmpG_zero _ _ _ _).1 e)
    have e2:(y.1 == u && y.2.1 == p)=false:=by rw [← Bool.not_eq_true,Bool.and_eq_true,beq_iff_eq,beq_iff_eq];exact hz
    rw [e1,e2,Bool.false_or]
    symm
    rw [List.any_eq_false]
    intro x hx e
    rw [Bool.and_eq_true,beq_iff_eq,beq_iff_eq] at e
    have h3:=h1 x hx
    rw [e.1,e.2] at h3
    exact hn h3
end Go.Proofs.YtcgclpcocdappaaDoor
namespace Go.Proofs.YtcgclpcocdappaaDoor
open Go.RowKit
/-- a slice: as it lies, and as it reads -/
structure FS (α:Type) where
 A:Option Addr
 n:Nat
 c:Nat
 l:List α
def FS.val {α:Type} (s:FS α):Value:=.slice s.A s.n s.c
def FS.rd {α:Type} (w:World) (B k:Nat) (enc:α→List Value) (s:FS α):Prop:=s.n=s.l.length∧s.n≤s.c∧Reads w B k s.A s.n (cellsK enc s.l)
def FS.own {α:Type} (w:World) (base:Nat) (t:TypeId) (k:Nat) (enc:α→List Value) (s:FS α):Prop:=s.n=s.l.length∧w.ownsRow base t k s.val s.n (cellsK enc s.l)
section
variable {α:Type} {w w':World} {B k:Nat} {enc:α→List Value} {s:FS α}
theorem FS.rd.below (h:s.rd w B k enc) (hb:Below B w w'):s.rd w' B k enc:=⟨h.1,h.2.1,h.2.2.below hb⟩
theorem FS.rd.more {B':Nat} (h:s.rd w B k enc) (hb:B≤B'):s.rd w B' k enc:=⟨h.1,h.2.1,h.2.2.more hb⟩
theorem FS.own.below {base:Nat} {t:TypeId} (h:s.own w base t k enc) (hb:Below w.heap.size w w'):s.own w' base t k enc:=⟨h.1,own_below h.2 hb⟩
theorem FS.own.mono {base base':Nat} {t:TypeId} (h:s.own w base t k enc) (hb:base'≤base):s.own w base' t k enc:=⟨h.1,own_mono h.2 hb⟩
theorem FS.own.rd {base:Nat} {t:TypeId} (h:s.own w base t k enc):s.rd w w.heap.size k enc:=by
 obtain ⟨A1,c1,e,h2,_,_⟩:=own_form h.2
 unfold FS.val at e
 injection e with _ _ e3
 exact ⟨h.1,by rw [e3];exact h2,Reads.of_own h.2⟩
end
theorem FS.own.kept {α:Type} {w w':World} {base k g:Nat} {t:TypeId} {enc:α→List Value} {s:FS α} (h:s.own w base t k enc) (hg:w.grownBy w' (some g)) (hb:g<base):s.own w' base t k enc:=by
 refine ⟨h.1,h.2.kept hg (.inr fun e=>?_)⟩
 have:=(h.2.lt _ e).1
 omega
theorem FS.len_eq {α:Type} {s s':FS α} (h:s.n=s.l.length) (h':s'.n=s'.l.length) (he:s.l=s'.l):s'.n=s.n:=by rw [h,h',he]
end Go.Proofs.YtcgclpcocdappaaDoor
namespace Go.Proofs.YtcgclpcocdappaaDoor
open Go.RowKit
abbrev BlkT:=Int×BS
def encB (x:BlkT):List Value:=[.int .i64 x.1,strV x.2]
def encP (x:BS×BS):List Value:=[strV x.1,strV x.2]
def encS (x:BS):List Value:=[strV x]
def encG (x:GT):List Value:=[strV x.1,strV x.2.1,.int .i64 x.2.2]
structure SnapR where
 nm:BS
 gd:Int
 body:FS BlkT
 tags:FS BS
 own:FS (BS×BS)
def encSnap (x:SnapR):List Value:=[strV x.nm,.int .i64 x.gd,x.body.val,x.tags.val,x.own.val]
structure SetR where
 path:BS
 org:BS
 body:FS BlkT
 snaps:FS SnapR
 own:FS (BS×BS)
def encSet (x:SetR):List Value:=[strV x.path,strV x.org,x.body.val,x.snaps.val,x.own.val]
structure StageR where
 into:BS
 kind:Int
 nm:BS
 frm:Int
 gd:Int
 own:FS (BS×BS)
 ix:Int
 ct:Int
 dt:BS
 sm:Sm
 body:FS BlkT
 at_:Int
 nx:Int
 sum:Sm
 done:Bool
def smV (s:Sm):List Value:=[.int .u64 s.a,.int .u64 s.b,.int .u64 s.c,.int .u64 s.d]
def encStage (x:StageR):List Value :=
 [strV x.into,.int .i64 x.kind,strV x.nm,.int .i64 x.frm,.int .i64 x.gd,x.own.val,.int .i64 x.ix,.int .i64 x.ct,strV x.dt]++smV x.sm++[x.body.val,.int .i64 x.at_,.int .i64 x.nx]++smV x.sum++[.bool x.done]
structure EntryR where
 user:BS
 kind:Int
 path:BS
 err:Int
def encEntry (x:EntryR):List Value:=[strV x.user,.int .i64 x.kind,strV x.path,.int .i64 x.err]
structure TenR where
 nm:BS
 quota:Int
 next:Int
 sets:FS SetR
 grants:FS GT
 stages:FS StageR
 log:FS EntryR
def TenR.cells (t:TenR):List Value:=[strV t.nm,.int .i64 t.quota,.int .i64 t.next,t.sets.val,t.grants.val,t.stages.val,t.log.val]
def TenR.val (t:TenR):Value:=.agg t.cells.toArray
structure SnapR.rd (w:World) (B:Nat) (x:SnapR):Prop where
 body:x.body.rd w B 2 encB
 tags:x.tags.rd w B 1 encS
 own:x.own.rd w B 2 encP
structure SetR.rd (w:World) (B:Nat) (x:SetR):Prop where
 body:x.body.rd w B 2 encB
 snaps:x.snaps.rd w B 5 encSnap
 each:∀ y∈x.snaps.l,y.rd w B
 own:x.own.rd w B 2 encP
structure StageR.rd (w:World) (B:Nat) (x:StageR):Prop where
 own:x.own.rd w B 2 encP
 body:x.body.rd w B 2 encB
structure TenR.rd (w:World) (B:Nat) (t:TenR):Prop where
 sets:t.sets.rd w B 5 encSet
 eachS:∀ y∈t.sets.l,y.rd w B
 grants:t.grants.rd w B 3 encG
 stages:t.stages.rd w B 21 encStage
 eachG:∀ y∈t.stages.l,y.rd w B
 log:t.log.rd w B 4 encEntry
/-! ### sizes -/
structure SnapR.sz (x:SnapR):Prop where
 nm:x.nm.length≤4000000000
 body:x.body.n≤1000000000000
 tags:x.tags.n≤1000000000000
 each:∀ t∈x.tags.l,t.length≤4000000000
 own:x.own.n≤1000000000000
 props:∀ p∈x.own.l,p.1.length≤4000000000∧p.2.length≤4000000000
structure SetR.sz (x:SetR):Prop where
 path:x.path.length≤4000000000
 org:x.org.length≤4000000000
 body:x.body.n≤1000000000000
 snaps:x.snaps.n≤1000000000000
 each:∀ y∈x.snaps.l,y.sz
 own:x.own.n≤1000000000000
 props:∀ p∈x.own.l,p.1.length≤4000000000∧p.2.length≤4000000000
structure StageR.sz (x:StageR):Prop where
 into:x.into.length≤4000000000
 nm:x.nm.length≤4000000000
 dt:x.dt.length≤4000000000
 own:x.own.n≤1000000000000
 props:∀ p∈x.own.l,p.1.length≤4000000000∧p.2.length≤4000000000
 body:x.body.n≤1000000000000
structure EntryR.sz (x:EntryR):Prop where
 user:x.user.length≤4000000000
 path:x.path.length≤4000000000
structure TenR.sz (t:TenR):Prop where
 nm:t.nm.length≤4000000000
 sets:t.sets.n≤1000000000000
 eachS:∀ y∈t.sets.l,y.sz
 grants:t.grants.n≤1000000000000
 eachG:∀ g∈t.grants.l,g.1.length≤4000000000∧g.2.1.length≤4000000000
 stages:t.stages.n≤1000000000000
 eachT:∀ y∈t.stages.l,y.sz
 log:t.log.n≤1000000000000
 eachL:∀ y∈t.log.l,y.sz
end Go.Proofs.YtcgclpcocdappaaDoor
