/-
  Lists of elements of several cells each, in memory: the cells of one element; where a sorted list is parted. A slice: as it lies in memory, and as it reads. Tenants: as they lie in memory, and as they read. Tenants: the plain law of what may be. Tenants: tags and snapshots, as the program and the page look at them. A predicate that is a function value; elements of four and of five cells.
-/
import Derived.Test.YtiojfffgiejibaaGreatDoorQsM1
import Derived.WalkKit
import Derived.WalkSpells
import Derived.Below
import Derived.Laws.OwnMore
import Derived.Deep.AppendLies
import Derived.Deep.Draws
import Derived.Laws.Rows
import Derived.Maps.AppendAt
import Derived.RegionTactic
import Derived.OwnWalk
import Derived.Deep.QuietTactic
import Derived.BigQuiet
import Derived.Lib.Hide
import Derived.Laws.CopyOwn
import Derived.IntWalk
import Derived.Orders
import Derived.Deep.Quiet
import Derived.Handy
import Derived.Test.YtiojfffgiejibaaGreatDoorRows
import Derived.Sort.Walk0
import Derived.Sort.KeysCollected
import Derived.Laws.BytesString
import Derived.Laws.IdiomStrings
import Derived.Lib.ConvBytes
import Derived.Lib.Strings
import Derived.Test.YtiojfffgiejibaaGreatDoorQ0
import Derived.Test.YtiojfffgiejibaaGreatDoorQs1
import Derived.Test.YtiojfffgiejibaaGreatDoorQs2
import Derived.Test.YtiojfffgiejibaaGreatDoorQs3
import Derived.Test.YtiojfffgiejibaaGreatDoorQs5
import Derived.Test.YtiojfffgiejibaaGreatDoorQs6
namespace Go.Proofs.YtiojfffgiejibaaGreatDoor
open Go.RowKit
section
variable {α:Type}
def cellsK (enc:α→List Value) (l:List α):List Value:=l.flatMap enc
theorem cellsK_append (enc:α→List Value) (a b:List α):cellsK enc (a++b)=cellsK enc a++cellsK enc b:=by simp [cellsK]
theorem cellsK_one (enc:α→List Value) (x:α):cellsK enc [x]=enc x:=by simp [cellsK]
theorem cellsK_length {enc:α→List Value} {k:Nat} (hk:∀ x,(enc x).length=k) (l:List α):(cellsK enc l).length=l.length*k:=by
 induction l with
 | nil=>simp [cellsK]
 | cons x l ih =>
  simp only [cellsK,List.flatMap_cons,List.length_append,List.length_cons] at ih ⊢
  rw [ih,hk,Nat.add_mul,Nat.one_mul,Nat.add_comm]
theorem cellsK_get {enc:α→List Value} {k:Nat} (hk:∀ x,(enc x).length=k) (l:List α) (i:Nat) (h:i<l.length) (j:Nat) (hj:j<k):(cellsK enc l)[i*k+j]?=(enc l[i])[j]?:=by
 induction l generalizing i with
 | nil=>simp at h
 | cons x l ih =>
  have e:cellsK enc (x :: l)=enc x++cellsK enc l:=rfl
  rw [e]
  cases i with
  | zero=>rw [Nat.zero_mul,Nat.zero_add,List.getElem?_append_left (by rw [hk];exact hj)];rfl
  | succ i =>
   rw [List.getElem?_append_right tZ101,hk,show (i+1)*k+j-k=i*k+j by rw [Nat.add_mul];omega]
   exact ih i tZ50
theorem cellsK_take {enc:α→List Value} {k:Nat} (hk:∀ x,(enc x).length=k) (l:List α) (i:Nat):cellsK enc (l.take i)=(cellsK enc l).take (i*k):=by
 induction l generalizing i with
 | nil=>simp [cellsK]
 | cons x l ih =>
  cases i with
  | zero=>simp [cellsK]
  | succ i =>
   have e:cellsK enc (x :: l)=enc x++cellsK enc l:=rfl
   have e2:cellsK enc ((x :: l).take (i+1))=enc x++cellsK enc (l.take i):=rfl
   rw [e,e2,ih,List.take_append,hk,List.take_of_length_le (l:=enc x) tZ101,show (i+1)*k-k=i*k by rw [Nat.add_mul];omega]
theorem cellsK_drop {enc:α→List Value} {k:Nat} (hk:∀ x,(enc x).length=k) (l:List α) (i:Nat):cellsK enc (l.drop i)=(cellsK enc l).drop (i*k):=by
 induction l generalizing i with
 | nil=>simp [cellsK]
 | cons x l ih =>
  cases i with
  | zero=>simp
  | succ i =>
   have e:cellsK enc (x :: l)=enc x++cellsK enc l:=rfl
   rw [e,List.drop_succ_cons,ih,List.drop_append,hk,@List.drop_eq_nil_of_le _ (enc x) _ tZ101,List.nil_append,show (i+1)*k-k=i*k by rw [Nat.add_mul];omega]
theorem Reads.elK {enc:α→List Value} {k:Nat} (hk:∀ x,(enc x).length=k) {w:World} {B n:Nat} {A:Option Addr} {l:List α} (h:Reads w B k A n (cellsK enc l)) (hn:n=l.length) {i:Nat} (hi:i<n) :
  ∃ ad,A=some ad∧ad.block<B∧∀ j,j<k→w.cell? ((ad.add (i*k)).add j)=(enc (l[i]'tZ1))[j]?:=by
 obtain ⟨ad,e,hb,hc⟩:=h.2 tZ1
 refine ⟨ad,e,hb,fun j hj=>?_⟩
 have hl:j<(enc (l[i]'tZ1)).length:=by rw [hk];exact hj
 rw [List.getElem?_eq_getElem hl,add_of_add]
 exact hc _ _ ((cellsK_get hk l i tZ1 j hj).trans (List.getElem?_eq_getElem hl))
theorem addr_add_succ (a:Addr) (j:Nat):a.add (j+1)=⟨a.block,a.off+(j+1),none⟩:=by simp [Addr.add]
theorem Reads.el3 {f0 f1 f2:α→Value} {w:World} {B n:Nat} {A:Option Addr} {l:List α} (h:Reads w B 3 A n (cellsK (fun x=>[f0 x,f1 x,f2 x]) l)) (hn:n=l.length) {i:Nat} (hi:i<n) :
  ∃ ad,A=some ad∧ad.block<B∧w.cell? (ad.add (i*3))=some (f0 (l[i]'tZ1))∧w.cell? ⟨(ad.add (i*3)).block,(ad.add (i*3)).off+1,none⟩=some (f1 (l[i]'tZ1))∧w.cell? ⟨(ad.add (i*3)).block,(ad.add (i*3)).off+2,none⟩=some (f2 (l[i]'tZ1)):=by
 obtain ⟨ad,e,hb,hc⟩:=Reads.elK (k:=3) (fun _=>rfl) h hn hi
 refine ⟨ad,e,hb,?_,?_,?_⟩
 ·exact mZ28
 ·exact mZ27
 ·exact mZ26
/-! ### where a list is parted -/
def posF (cf:α→Int) (l:List α):Nat:=(l.takeWhile fun x=>decide (cf x<0)).length
def atF (cf:α→Int) (l:List α):Bool:=(l[posF cf l]?).any fun x=>cf x == 0
def SignAsc (cf:α→Int) (l:List α):Prop:=∀ (i j:Nat) x y,i<j→l[i]?=some x→l[j]?=some y→cf y<0→cf x<0
theorem posF_le (cf:α→Int) (l:List α):posF cf l≤l.length:=by
 unfold posF
 exact (List.takeWhile_sublist _).length_le
theorem posF_eq (cf:α→Int) (l:List α) (a:Nat) (ha:a≤l.length) (h1:∀ k x,k<a→l[k]?=some x→cf x<0) (h2:∀ x,l[a]?=some x→0≤cf x):posF cf l=a:=by
 unfold posF
 induction l generalizing a with
 | nil=>simp at ha;simp [ha]
 | cons y r ih =>
  cases a with
  | zero =>
   have:=h2 y rfl
   rw [List.takeWhile_cons_of_neg tZ7]
   rfl
  | succ a =>
   have:=h1 0 y tZ1 rfl
   rw [List.takeWhile_cons_of_pos (by simpa using this),List.length_cons]
   have:=ih a (by simpa using ha) (fun k x hk hx=>h1 (k+1) x tZ1 tZ100) (fun x hx=>h2 x tZ100)
   omega
end
end Go.Proofs.YtiojfffgiejibaaGreatDoor
namespace Go.Proofs.YtiojfffgiejibaaGreatDoor
open Go.RowKit
/-- a slice: as it lies, and as it reads -/
structure FS (α:Type) where
 A:Option Addr
 n:Nat
 c:Nat
 l:List α
def FS.val {α:Type} (s:FS α):Value:=.slice s.A s.n s.c
def FS.rd {α:Type} (w:World) (B k:Nat) (enc:α→List Value) (s:FS α):Prop:=s.n=s.l.length∧s.n≤s.c∧Reads w B k s.A s.n (cellsK enc s.l)
def FS.own {α:Type} (w:World) (base:Nat) (t:TypeId) (k:Nat) (enc:α→List Value) (s:FS α):Prop:=s.n=s.l.length∧w.ownsRow base t k s.val s.n (cellsK enc s.l)
section
variable {α:Type} {w w':World} {B k:Nat} {enc:α→List Value} {s:FS α}
theorem FS.rd.below (h:s.rd w B k enc) (hb:Below B w w'):s.rd w' B k enc:=⟨h.1,h.2.1,h.2.2.below hb⟩
theorem FS.rd.more {B':Nat} (h:s.rd w B k enc) (hb:B≤B'):s.rd w B' k enc:=⟨h.1,h.2.1,h.2.2.more hb⟩
theorem FS.own.below {base:Nat} {t:TypeId} (h:s.own w base t k enc) (hb:Below w.heap.size w w'):s.own w' base t k enc:=⟨h.1,own_below h.2 hb⟩
theorem FS.own.mono {base base':Nat} {t:TypeId} (h:s.own w base t k enc) (hb:base'≤base):s.own w base' t k enc:=⟨h.1,own_mono h.2 hb⟩
theorem FS.own.rd {base:Nat} {t:TypeId} (h:s.own w base t k enc):s.rd w w.heap.size k enc:=by
 obtain ⟨A1,c1,e,h2,_,_⟩:=own_form h.2
 unfold FS.val at e
 injection e with _ _ e3
 exact ⟨h.1,by rw [e3];exact h2,Reads.of_own h.2⟩
end
theorem FS.own.kept {α:Type} {w w':World} {base k g:Nat} {t:TypeId} {enc:α→List Value} {s:FS α} (h:s.own w base t k enc) (hg:w.grownBy w' (some g)) (hb:g<base):s.own w' base t k enc:=by
 refine ⟨h.1,h.2.kept hg (.inr fun e=>?_)⟩
 have:=(h.2.lt _ e).1
 omega
theorem FS.len_eq {α:Type} {s s':FS α} (h:s.n=s.l.length) (h':s'.n=s'.l.length) (he:s.l=s'.l):s'.n=s.n:=by rw [h,h',he]
end Go.Proofs.YtiojfffgiejibaaGreatDoor
namespace Go.Proofs.YtiojfffgiejibaaGreatDoor
open Go.RowKit
abbrev BlkT:=Int×BS
def encB (x:BlkT):List Value:=[.int .i64 x.1,strV x.2]
def encP (x:BS×BS):List Value:=[strV x.1,strV x.2]
def encS (x:BS):List Value:=[strV x]
def encG (x:GT):List Value:=[strV x.1,strV x.2.1,.int .i64 x.2.2]
structure SnapR where
 nm:BS
 gd:Int
 body:FS BlkT
 tags:FS BS
 own:FS (BS×BS)
def encSnap (x:SnapR):List Value:=[strV x.nm,.int .i64 x.gd,x.body.val,x.tags.val,x.own.val]
structure SetR where
 path:BS
 org:BS
 body:FS BlkT
 snaps:FS SnapR
 own:FS (BS×BS)
def encSet (x:SetR):List Value:=[strV x.path,strV x.org,x.body.val,x.snaps.val,x.own.val]
structure StageR where
 into:BS
 kind:Int
 nm:BS
 frm:Int
 gd:Int
 own:FS (BS×BS)
 ix:Int
 ct:Int
 dt:BS
 sm:Sm
 body:FS BlkT
 at_:Int
 nx:Int
 sum:Sm
 done:Bool
def smV (s:Sm):List Value:=[.int .u64 s.a,.int .u64 s.b,.int .u64 s.c,.int .u64 s.d]
def encStage (x:StageR):List Value :=
 [strV x.into,.int .i64 x.kind,strV x.nm,.int .i64 x.frm,.int .i64 x.gd,x.own.val,.int .i64 x.ix,.int .i64 x.ct,strV x.dt]++smV x.sm++[x.body.val,.int .i64 x.at_,.int .i64 x.nx]++smV x.sum++[.bool x.done]
structure EntryR where
 user:BS
 kind:Int
 path:BS
 err:Int
def encEntry (x:EntryR):List Value:=[strV x.user,.int .i64 x.kind,strV x.path,.int .i64 x.err]
structure TenR where
 nm:BS
 quota:Int
 next:Int
 sets:FS SetR
 grants:FS GT
 stages:FS StageR
 log:FS EntryR
def TenR.cells (t:TenR):List Value:=[strV t.nm,.int .i64 t.quota,.int .i64 t.next,t.sets.val,t.grants.val,t.stages.val,t.log.val]
def TenR.val (t:TenR):Value:=.agg t.cells.toArray
structure SnapR.rd (w:World) (B:Nat) (x:SnapR):Prop where
 body:x.body.rd w B 2 encB
 tags:x.tags.rd w B 1 encS
 own:x.own.rd w B 2 encP
structure SetR.rd (w:World) (B:Nat) (x:SetR):Prop where
 body:x.body.rd w B 2 encB
 snaps:x.snaps.rd w B 5 encSnap
 each:∀ y∈x.snaps.l,y.rd w B
 own:x.own.rd w B 2 encP
structure StageR.rd (w:World) (B:Nat) (x:StageR):Prop where
 own:x.own.rd w B 2 encP
 body:x.body.rd w B 2 encB
structure TenR.rd (w:World) (B:Nat) (t:TenR):Prop where
 sets:t.sets.rd w B 5 encSet
 eachS:∀ y∈t.sets.l,y.rd w B
 grants:t.grants.rd w B 3 encG
 stages:t.stages.rd w B 21 encStage
 eachG:∀ y∈t.stages.l,y.rd w B
 log:t.log.rd w B 4 encEntry
/-! ### sizes -/
structure SnapR.sz (x:SnapR):Prop where
 nm:x.nm.length≤4000000000
 body:x.body.n≤1000000000000
 tags:x.tags.n≤1000000000000
 each:∀ t∈x.tags.l,t.length≤4000000000
 own:x.own.n≤1000000000000
 props:∀ p∈x.own.l,p.1.length≤4000000000∧p.2.length≤4000000000
structure SetR.sz (x:SetR):Prop where
 path:x.path.length≤4000000000
 org:x.org.length≤4000000000
 body:x.body.n≤1000000000000
 snaps:x.snaps.n≤1000000000000
 each:∀ y∈x.snaps.l,y.sz
 own:x.own.n≤1000000000000
 props:∀ p∈x.own.l,p.1.length≤4000000000∧p.2.length≤4000000000
structure StageR.sz (x:StageR):Prop where
 into:x.into.length≤4000000000
 nm:x.nm.length≤4000000000
 dt:x.dt.length≤4000000000
 own:x.own.n≤1000000000000
 props:∀ p∈x.own.l,p.1.length≤4000000000∧p.2.length≤4000000000
 body:x.body.n≤1000000000000
structure EntryR.sz (x:EntryR):Prop where
 user:x.user.length≤4000000000
 path:x.path.length≤4000000000
structure TenR.sz (t:TenR):Prop where
 nm:t.nm.length≤4000000000
 sets:t.sets.n≤1000000000000
 eachS:∀ y∈t.sets.l,y.sz
 grants:t.grants.n≤1000000000000
 eachG:∀ g∈t.grants.l,g.1.length≤4000000000∧g.2.1.length≤4000000000
 stages:t.stages.n≤1000000000000
 eachT:∀ y∈t.stages.l,y.sz
 log:t.log.n≤1000000000000
 eachL:∀ y∈t.log.l,y.sz
end Go.Proofs.YtiojfffgiejibaaGreatDoor
namespace Go.Proofs.YtiojfffgiejibaaGreatDoor
open Go.RowKit
/-! ### what stands under what -/
/-- what a path stands under, if any -/
def parB (s:BS):Option BS:=if s=[]∨pathB s=false then none else some (upL s)
def kidsL (l:List SetR) (p:BS):List BS:=(l.filter fun s=>parB s.path == some p).map (·.path)
/-! ### what may be -/
def unlikeF:List BS→List BS→Bool
 | _,[]=>true
 | acc,x :: l=>nameB x && !(acc.contains x) && unlikeF (acc++[x]) l
def unlikeB (l:List BS):Bool:=unlikeF [] l
/-- names, each behind the one ahead of it -/
def ascF:Option BS→List BS→Bool
 | _,[]=>true
 | p,x :: l=>nameB x && (match p with | none=>true | some q=>Op.bytesLess q x) && ascF (some x) l
def tagsB (l:List BS):Bool:=decide (l.length≤4) && ascF none l
def snapsFrom:Option Int→List SnapR→Bool
 | _,[]=>true
 | p,x :: l=>amt x.gd 1 && (match p with | none=>true | some q=>decide (q<x.gd)) && okL x.body.l && propsB x.own.l && tagsB x.tags.l && snapsFrom (some x.gd) l
def snapsB (l:List SnapR):Bool:=decide (l.length≤16) && snapsFrom none l && unlikeB (l.map (·.nm))
def findS (l:List SetR) (p:BS):Int:=firstI (fun s=>s.path == p) l
def findN (l:List SnapR) (n:BS):Int:=firstI (fun s=>s.nm == n) l
def splitL (l:BS):Option (BS×BS):=match atL l with
 | some (p,n)=>if (pathB p && nameB n)=true then some (p,n) else none
 | none=>none
def originB (all:List SetR) (s:SetR):Bool:=s.org == [] || match splitL s.org with
 | none=>false
 | some (p,n)=>!(p == s.path) && match all.find? (fun x=>x.path == p) with
  | none=>false
  | some x=>x.snaps.l.any fun y=>y.nm == n
def setB (all:List SetR) (s:SetR):Bool:=pathB s.path && (match parB s.path with | none=>true | some u=>all.any fun x=>x.path == u) && propsB s.own.l && okL s.body.l && snapsB s.snaps.l && originB all s
def setsFrom (all:List SetR):Option BS→List SetR→Bool
 | _,[]=>true
 | p,s :: l=>setB all s && (match p with | none=>true | some q=>Op.bytesLess q s.path) && setsFrom all (some s.path) l
def setsB (l:List SetR):Bool:=decide (l.length≤32) && (l.any fun x=>x.path == []) && setsFrom l none l
def beginB (x:StageR):Bool:=decide (x.kind=1) && nameB x.nm && amt x.frm 0 && amt x.gd 1 && propsB x.own.l && decide (x.ix=0) && decide (x.ct=0) && decide (x.dt=[]) && smZ x.sm
def stageB (x:StageR):Bool:=!(x.into == []) && pathB x.into && beginB x && okL x.body.l && amt x.at_ 0 && amt x.nx 0
def stagesFrom:Option BS→List StageR→Bool
 | _,[]=>true
 | p,s :: l=>stageB s && (match p with | none=>true | some q=>Op.bytesLess q s.into) && stagesFrom (some s.into) l
def stagesB (l:List StageR):Bool:=decide (l.length≤4) && stagesFrom none l
def entryB (x:EntryR):Bool:=(x.user == [] || nameB x.user) && pathB x.path && amt x.kind 0 && amt x.err 0
def logB (l:List EntryR):Bool:=decide (l.length≤16) && l.all entryB
def tenB (t:TenR):Bool:=nameB t.nm && amt t.quota 0 && amt t.next 1 && setsB t.sets.l && grantsB t.grants.l && stagesB t.stages.l && logB t.log.l
def tenE (t:TenR):Int:=if tenB t=true then 0 else 9
theorem setsFrom_iff (all:List SetR) (p:Option BS) (l:List SetR):setsFrom all p l=true↔(∀ s∈l,setB all s=true)∧(l.Pairwise fun a b=>Op.bytesLess a.path b.path=true)∧∀ q,p=some q→∀ s∈l,Op.bytesLess q s.path=true:=by
 induction l generalizing p with
 | nil=>simp [setsFrom]
 | cons y l ih =>
  have e:setsFrom all p (y :: l)=(setB all y && (match p with | none=>true | some q=>Op.bytesLess q y.path) && setsFrom all (some y.path) l):=by cases p <;> rfl
  rw [e,Bool.and_eq_true,Bool.and_eq_true,ih]
  constructor
  ·rintro ⟨⟨h1,h2⟩,h3,h4,h5⟩
   refine ⟨fun x hx=>?_,List.pairwise_cons.2 ⟨fun z hz=>h5 _ rfl z hz,h4⟩,fun q hq x hx=>?_⟩
   ·exact mZ29
   ·subst hq
    rcases List.mem_cons.1 hx with rfl | hx
    ·exact h2
    ·exact bl_trans h2 (h5 _ rfl x hx)
  ·rintro ⟨h1,h2,h3⟩
   obtain ⟨h4,h5⟩:=List.pairwise_cons.1 h2
   refine ⟨⟨h1 y (List.mem_cons_self ..),?_⟩,fun x hx=>h1 x (List.mem_cons_of_mem _ hx),h5,fun q hq x hx=>?_⟩
   ·cases p with
    | none=>rfl
    | some q=>exact h3 q rfl y (List.mem_cons_self ..)
   ·cases hq
    exact h4 x hx
end Go.Proofs.YtiojfffgiejibaaGreatDoor
namespace Go.Proofs.YtiojfffgiejibaaGreatDoor
open Go.RowKit
/-- texts, none ahead of the one before it (slices.IsSorted) -/
def sortF:Option BS→List BS→Bool
 | _,[]=>true
 | p,x :: l=>(match p with | none=>true | some q=>!(Op.bytesLess x q)) && sortF (some x) l
theorem sortF_cons (p:Option BS) (x:BS) (l:List BS):sortF p (x :: l)=((match p with | none=>true | some q=>!(Op.bytesLess x q)) && sortF (some x) l):=by cases p <;> rfl
theorem ascF_cons (p:Option BS) (x:BS) (l:List BS):ascF p (x :: l)=(nameB x && (match p with | none=>true | some q=>Op.bytesLess q x) && ascF (some x) l):=by cases p <;> rfl
theorem unlikeF_cons (acc:List BS) (x:BS) (l:List BS):unlikeF acc (x :: l)=(nameB x && !(acc.contains x) && unlikeF (acc++[x]) l):=rfl
theorem bl_asym (a b:BS) (h:Op.bytesLess a b=true):Op.bytesLess b a=false:=by
 rw [← Bool.not_eq_true]
 intro h2
 have:=bl_trans h h2
 rw [bl_irrefl] at this
 cases this
theorem tags_to (l:List BS) (acc:List BS) (p:Option BS) (hp:∀ q,p=some q→q∈acc) (h1:unlikeF acc l=true) (h2:sortF p l=true):ascF p l=true:=by
 induction l generalizing acc p with
 | nil=>rfl
 | cons x l ih =>
  rw [unlikeF_cons,Bool.and_eq_true,Bool.and_eq_true] at h1
  rw [sortF_cons,Bool.and_eq_true] at h2
  obtain ⟨⟨h3,h4⟩,h5⟩:=h1
  obtain ⟨h6,h7⟩:=h2
  rw [ascF_cons,h3,Bool.true_and,Bool.and_eq_true]
  refine ⟨?_,ih (acc++[x]) (some x) (fun q hq=>by cases hq;simp) h5 h7⟩
  cases p with
  | none=>rfl
  | some q =>
   simp only at h6 ⊢
   refine bl_tri x q (by simpa using h6) ?_
   rintro rfl
   have:=hp x rfl
   simp [this] at h4
theorem tags_from (l:List BS) (acc:List BS) (p:Option BS) (hp:∀ a∈acc,∃ q,p=some q∧(a=q∨Op.bytesLess a q=true)) (h:ascF p l=true):unlikeF acc l=true∧sortF p l=true:=by
 induction l generalizing acc p with
 | nil=>exact ⟨rfl,rfl⟩
 | cons x l ih =>
  rw [ascF_cons,Bool.and_eq_true,Bool.and_eq_true] at h
  obtain ⟨⟨h1,h2⟩,h3⟩:=h
  have hlt:∀ a∈acc,Op.bytesLess a x=true:=by
   intro a ha
   obtain ⟨q,rfl,hq⟩:=hp a ha
   simp only at h2
   rcases hq with rfl | hq
   ·exact h2
   ·exact bl_trans hq h2
  obtain ⟨i1,i2⟩:=ih (acc++[x]) (some x) (fun a ha=>by
   rcases List.mem_append.1 ha with ha | ha
   ·exact ⟨x,rfl,.inr (hlt a ha)⟩
   ·exact ⟨x,rfl,.inl (by simpa using ha)⟩) h3
  rw [unlikeF_cons,sortF_cons,h1,i1,i2,Bool.and_true,Bool.and_true,Bool.true_and]
  constructor
  ·rw [Bool.not_eq_true',← Bool.not_eq_true,List.contains_iff_mem]
   intro hx
   have:=hlt x hx
   rw [bl_irrefl] at this
   cases this
  ·cases p with
   | none=>rfl
   | some q=>simp only at h2 ⊢;rw [bl_asym _ _ h2];rfl
/-- as the program looks at tags -/
theorem tagged_eq (l:List BS):(unlikeB l && sortF none l)=ascF none l:=by
 rw [Bool.eq_iff_iff,Bool.and_eq_true]
 exact ⟨fun h=>tags_to l [] none (fun q hq=>by cases hq) h.1 h.2,fun h=>tags_from l [] none (fun a ha=>by cases ha) h⟩
/-- as the page looks at snapshots -/
def snapOk (x:SnapR):Bool:=amt x.gd 1 && okL x.body.l && propsB x.own.l && tagsB x.tags.l
def snapsRef:List BS→Option Int→List SnapR→Bool
 | _,_,[]=>true
 | acc,p,x :: l=>nameB x.nm && snapOk x && (match p with | none=>true | some q=>decide (q<x.gd)) && !(acc.contains x.nm) && snapsRef (acc++[x.nm]) (some x.gd) l
theorem snapsFrom_cons (p:Option Int) (x:SnapR) (l:List SnapR):snapsFrom p (x :: l)=(snapOk x && (match p with | none=>true | some q=>decide (q<x.gd)) && snapsFrom (some x.gd) l):=by
 have:snapsFrom p (x :: l)=(amt x.gd 1 && (match p with | none=>true | some q=>decide (q<x.gd)) && okL x.body.l && propsB x.own.l && tagsB x.tags.l && snapsFrom (some x.gd) l):=by cases p <;> rfl
 rw [this]
 unfold snapOk
 generalize (match p with | none=>true | some q=>decide (q<x.gd))=b
 cases amt x.gd 1 <;> cases b <;> cases okL x.body.l <;> cases propsB x.own.l <;> cases tagsB x.tags.l <;> rfl
theorem snapsRef_cons (acc:List BS) (p:Option Int) (x:SnapR) (l:List SnapR):snapsRef acc p (x :: l)=(nameB x.nm && snapOk x && (match p with | none=>true | some q=>decide (q<x.gd)) && !(acc.contains x.nm) && snapsRef (acc++[x.nm]) (some x.gd) l):=by cases p <;> rfl
theorem snapsRef_eq (l:List SnapR) (acc:List BS) (p:Option Int):snapsRef acc p l=(snapsFrom p l && unlikeF acc (l.map (·.nm))):=by
 induction l generalizing acc p with
 | nil=>rfl
 | cons x l ih =>
  rw [snapsRef_cons,snapsFrom_cons,List.map_cons,unlikeF_cons,ih]
  generalize (match p with | none=>true | some q=>decide (q<x.gd))=b
  cases nameB x.nm <;> cases snapOk x <;> cases b <;> cases acc.contains x.nm <;> cases snapsFrom (some x.gd) l <;> rfl
theorem snapsB_ref (l:List SnapR):snapsB l=(decide (l.length≤16) && snapsRef [] none l):=by
 rw [snapsRef_eq]
 unfold snapsB unlikeB
 rw [Bool.and_assoc]
end Go.Proofs.YtiojfffgiejibaaGreatDoor
namespace Go.Proofs.YtiojfffgiejibaaGreatDoor
open Go.RowKit
/-- a predicate that is a function value: called at a list's elements, in a world that keeps what it captured -/
structure PredK (P:Program) (g:Nat) (caps:Array Value) {α:Type} (enc:α→Array Value) (M:α→Prop) (p:α→Bool) (Keep:World→Prop):Prop where
 call:∀ x W,M x→Keep W→Calls P g (#[.agg (enc x)]++caps) W fun e W'=>e=.returned (.bool (p x))∧Below W.heap.size W W'
 below:∀ W W',Keep W→Below W.heap.size W W'→Keep W'
theorem Reads.el4 {α:Type} {f0 f1 f2 f3:α→Value} {w:World} {B n:Nat} {A:Option Addr} {l:List α} (h:Reads w B 4 A n (cellsK (fun x=>[f0 x,f1 x,f2 x,f3 x]) l)) (hn:n=l.length) {i:Nat} (hi:i<n) :
  ∃ ad,A=some ad∧ad.block<B∧w.cell? (ad.add (i*4))=some (f0 (l[i]'tZ1))∧w.cell? ⟨(ad.add (i*4)).block,(ad.add (i*4)).off+1,none⟩=some (f1 (l[i]'tZ1))∧w.cell? ⟨(ad.add (i*4)).block,(ad.add (i*4)).off+2,none⟩=some (f2 (l[i]'tZ1))∧w.cell? ⟨(ad.add (i*4)).block,(ad.add (i*4)).off+3,none⟩=some (f3 (l[i]'tZ1)):=by
 obtain ⟨ad,e,hb,hc⟩:=Reads.elK (k:=4) (fun _=>rfl) h hn hi
 refine ⟨ad,e,hb,?_,?_,?_,?_⟩
 ·exact mZ28
 ·exact mZ27
 ·exact mZ26
 ·exact mZ30
theorem Reads.el5 {α:Type} {f0 f1 f2 f3 f4:α→Value} {w:World} {B n:Nat} {A:Option Addr} {l:List α} (h:Reads w B 5 A n (cellsK (fun x=>[f0 x,f1 x,f2 x,f3 x,f4 x]) l)) (hn:n=l.length) {i:Nat} (hi:i<n) :
  ∃ ad,A=some ad∧ad.block<B∧w.cell? (ad.add (i*5))=some (f0 (l[i]'tZ1))∧w.cell? ⟨(ad.add (i*5)).block,(ad.add (i*5)).off+1,none⟩=some (f1 (l[i]'tZ1))∧w.cell? ⟨(ad.add (i*5)).block,(ad.add (i*5)).off+2,none⟩=some (f2 (l[i]'tZ1))∧w.cell? ⟨(ad.add (i*5)).block,(ad.add (i*5)).off+3,none⟩=some (f3 (l[i]'tZ1))∧w.cell? ⟨(ad.add (i*5)).block,(ad.add (i*5)).off+4,none⟩=some (f4 (l[i]'tZ1)):=by
 obtain ⟨ad,e,hb,hc⟩:=Reads.elK (k:=5) (fun _=>rfl) h hn hi
 refine ⟨ad,e,hb,?_,?_,?_,?_,?_⟩
 ·exact mZ28
 ·exact mZ27
 ·exact mZ26
 ·exact mZ30
 ·have:=hc 4 tZ1;rwa [addr_add_succ] at this
end Go.Proofs.YtiojfffgiejibaaGreatDoor
