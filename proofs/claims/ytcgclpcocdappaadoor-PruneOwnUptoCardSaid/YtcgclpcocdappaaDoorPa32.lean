/-
  Contents with a set more, with another set at a place, with a set less. shape.asked, shape.place: a path that may be asked; a set's place. What a function tells that answers by a tenant and an error; sizes by content.
-/
import Derived.WalkKit
import Derived.WalkSpells
import Derived.Below
import Derived.Laws.OwnMore
import Derived.Deep.AppendLies
import Derived.Deep.Draws
import Derived.Laws.Rows
import Derived.Maps.AppendAt
import Derived.RegionTactic
import Derived.OwnWalk
import Derived.Deep.QuietTactic
import Derived.BigQuiet
import Derived.Lib.Hide
import Derived.Laws.CopyOwn
import Derived.IntWalk
import Derived.Test.YtcgclpcocdappaaDoorRows
import Derived.Handy
import Derived.Deep.Quiet
import Derived.Orders
import Derived.Lib.SplitLaws
import Derived.Lib.LastIndexByte
import Derived.Lib.Strings
import Derived.ShutString
import Derived.Sort.Walk0
import Derived.Sort.KeysCollected
import Derived.Deep.MidRow
import Derived.Shelf.Strings.Search1
import Derived.Shelf.Strings.Search2
import Derived.Shelf.Strings.Search3
import Derived.Shelf.Strings.Cut
import Derived.Shelf.Strings.Count
import Derived.Shelf.LaysM
import Derived.Shelf.Strings.Shaped
import Derived.Shelf.Strings.LastIndex
import Derived.Shelf.Strings.Split
import Derived.Shelf.Strings.SplitShaped
import Derived.Shelf.Unicode.Decode
import Derived.Shelf.Strings.RuneCount
import Derived.Shelf.Strings.Explode
import Derived.Shelf.Unicode.DecodeSlow
import Derived.Shelf.Slices.Turned
import Derived.Test.YtcgclpcocdappaaDoorProg
import Derived.Laws.BytesString
import Derived.Laws.IdiomStrings
import Derived.Lib.ConvBytes
import Derived.Great.BuildSlice
import Derived.ProofKit
import Derived.OpenShut
import Derived.ChangeOld
import Derived.Carry
import Derived.SizedLaws
import Derived.JoinedCond
import Derived.Deep.CondSized
import Derived.Deep.Slices
import Derived.Deep.Fields
import Derived.Lib.SmallJoins
import Derived.Deep.DeepCutAuto
import Derived.Test.YtcgclpcocdappaaDoorP0
import Derived.Test.YtcgclpcocdappaaDoorPa1
import Derived.Test.YtcgclpcocdappaaDoorPa2
import Derived.Test.YtcgclpcocdappaaDoorPa3
import Derived.Test.YtcgclpcocdappaaDoorPa5
import Derived.Test.YtcgclpcocdappaaDoorPa7
import Derived.Test.YtcgclpcocdappaaDoorPa8
import Derived.Test.YtcgclpcocdappaaDoorPa10
import Derived.Test.YtcgclpcocdappaaDoorPa12
import Derived.Test.YtcgclpcocdappaaDoorPa13
import Derived.Test.YtcgclpcocdappaaDoorPa19
import Derived.Test.YtcgclpcocdappaaDoorPa21
import Derived.Test.YtcgclpcocdappaaDoorPa23
import Derived.Test.YtcgclpcocdappaaDoorPa24
import Derived.Test.YtcgclpcocdappaaDoorPa27
import Derived.Test.YtcgclpcocdappaaDoorPa28
import Derived.Test.YtcgclpcocdappaaDoorPa29
import Derived.Test.YtcgclpcocdappaaDoorPa31
namespace Go.Proofs.YtcgclpcocdappaaDoor
open Go.RowKit
theorem posF_map {α β:Type} (f:α→β) (cf:β→Int) (l:List α):posF cf (l.map f)=posF (fun x=>cf (f x)) l:=by
 unfold posF
 rw [List.takeWhile_map,List.length_map]
 rfl
/-- the content with a set more, in its place -/
def TenC.withS (c:TenC) (s:SetC):TenC:=⟨c.nm,c.quota,c.next,c.sets.take (posF (fun x:SetC=>cmpS x.path s.path) c.sets)++[s]++c.sets.drop (posF (fun x:SetC=>cmpS x.path s.path) c.sets),c.grants,c.stages,c.log⟩
/-- the content without the set at a place -/
def TenC.dropS (c:TenC) (i:Nat):TenC:=⟨c.nm,c.quota,c.next,c.sets.take i++c.sets.drop (i+1),c.grants,c.stages,c.log⟩
theorem asc_eqv (l l':List SetR) (p:BS) (h:l.map (·.path)=l'.map (·.path)) (ha:SignAsc (fun x:SetR=>cmpS x.path p) l):SignAsc (fun x:SetR=>cmpS x.path p) l':=by
 have hp:∀ (i:Nat) (x:SetR),l'[i]?=some x→∃ y,l[i]?=some y∧y.path=x.path:=by
  intro i x hx
  have h1:=congrArg (fun m:List BS=>m[i]?) h
  simp only [List.getElem?_map,hx,Option.map_some] at h1
  cases hl:l[i]? with
  | none=>rw [hl] at h1;cases h1
  | some y=>rw [hl] at h1;exact ⟨y,rfl,by simpa using h1⟩
 intro i j a b hij hai hbj hlt
 obtain ⟨a',ha',e1⟩:=hp i a hai
 obtain ⟨b',hb',e2⟩:=hp j b hbj
 have:=ha i j a' b' hij ha' hb' (by simp only [e2];exact hlt)
 simp only [e1] at this
 exact this
theorem con_withS (y:TenR) (s:SetR) (A:Option Addr) (n c:Nat):TenR.con ⟨y.nm,y.quota,y.next,⟨A,n,c,y.sets.l.take (posF (fun x:SetR=>cmpS x.path s.path) y.sets.l)++[s]++y.sets.l.drop (posF (fun x:SetR=>cmpS x.path s.path) y.sets.l)⟩,y.grants,y.stages,y.log⟩=y.con.withS s.con:=by
 show TenC.mk _ _ _ _ _ _ _=TenC.mk _ _ _ _ _ _ _
 have e:posF (fun x:SetC=>cmpS x.path s.con.path) y.con.sets=posF (fun x:SetR=>cmpS x.path s.path) y.sets.l:=posF_map SetR.con (fun x:SetC=>cmpS x.path s.path) y.sets.l
 rw [e]
 simp only [List.map_append,List.map_take,List.map_drop,List.map_cons,List.map_nil]
 rfl
theorem con_dropS (y:TenR) (i:Nat) (A:Option Addr) (n c:Nat):TenR.con ⟨y.nm,y.quota,y.next,⟨A,n,c,y.sets.l.take i++y.sets.l.drop (i+1)⟩,y.grants,y.stages,y.log⟩=y.con.dropS i:=by
 show TenC.mk _ _ _ _ _ _ _=TenC.mk _ _ _ _ _ _ _
 simp only [List.map_append,List.map_take,List.map_drop]
 rfl
end Go.Proofs.YtcgclpcocdappaaDoor
namespace Go.Proofs.YtcgclpcocdappaaDoor
open Go.RowKit
theorem tenE_in (t:TenR):tenE t=0∨tenE t=9:=by unfold tenE;split <;> simp
/-- what is asked of a path: its error -/
def askP (t:TenR) (p:BS):Int:=if tenE t=9 then 9 else if pathB p=false then 31 else 0
/-- a set's place, and its error -/
def placeP (t:TenR) (p:BS):Int×Int :=
 if askP t p≠0 then (0,askP t p) else
  match t.sets.l.find? (fun s=>s.path == p) with
  | none=>(0,71)
  | some _=>(findS t.sets.l p,0)
theorem askP_in (t:TenR) (p:BS):askP t p=0∨askP t p=9∨askP t p=31:=by
 unfold askP
 by_cases h:tenE t=9
 ·rw [if_pos h];exact .inr (.inl rfl)
 ·rw [if_neg h]
  cases pathB p
  ·exact .inr (.inr rfl)
  ·exact .inl rfl
end Go.Proofs.YtcgclpcocdappaaDoor
namespace Go.Proofs.YtcgclpcocdappaaDoor
open Go.RowKit
/-! ### sizes, by content -/
structure SnapC.sz (x:SnapC):Prop where
 nm:x.nm.length≤4000000000
 body:x.body.length≤1000000000000
 tags:x.tags.length≤1000000000000
 each:∀ t∈x.tags,t.length≤4000000000
 own:x.own.length≤1000000000000
 props:∀ p∈x.own,p.1.length≤4000000000∧p.2.length≤4000000000
structure SetC.sz (x:SetC):Prop where
 path:x.path.length≤4000000000
 org:x.org.length≤4000000000
 body:x.body.length≤1000000000000
 snaps:x.snaps.length≤1000000000000
 each:∀ y∈x.snaps,y.sz
 own:x.own.length≤1000000000000
 props:∀ p∈x.own,p.1.length≤4000000000∧p.2.length≤4000000000
structure StageC.sz (x:StageC):Prop where
 into:x.into.length≤4000000000
 nm:x.nm.length≤4000000000
 dt:x.dt.length≤4000000000
 own:x.own.length≤1000000000000
 props:∀ p∈x.own,p.1.length≤4000000000∧p.2.length≤4000000000
 body:x.body.length≤1000000000000
structure TenC.sz (t:TenC):Prop where
 nm:t.nm.length≤4000000000
 sets:t.sets.length≤1000000000000
 eachS:∀ y∈t.sets,y.sz
 grants:t.grants.length≤1000000000000
 eachG:∀ g∈t.grants,g.1.length≤4000000000∧g.2.1.length≤4000000000
 stages:t.stages.length≤1000000000000
 eachT:∀ y∈t.stages,y.sz
 log:t.log.length≤1000000000000
 eachL:∀ y∈t.log,y.sz
section
variable {w:World} {B:Nat}
theorem SnapR.sz_of {x:SnapR} (h:x.rd w B) (hc:x.con.sz):x.sz:=⟨hc.nm,by rw [h.body.1];exact hc.body,by rw [h.tags.1];exact hc.tags,hc.each,by rw [h.own.1];exact hc.own,hc.props⟩
theorem SnapC.sz_of {x:SnapR} (h:x.rd w B) (hc:x.sz):x.con.sz:=⟨hc.nm,by have:=hc.body;rw [h.body.1] at this;exact this,by have:=hc.tags;rw [h.tags.1] at this;exact this,hc.each,by have:=hc.own;rw [h.own.1] at this;exact this,hc.props⟩
theorem SetR.sz_of {x:SetR} (h:x.rd w B) (hc:x.con.sz):x.sz :=
 ⟨hc.path,hc.org,by rw [h.body.1];exact hc.body,by rw [h.snaps.1];have:=hc.snaps;rwa [show x.con.snaps.length=x.snaps.l.length from List.length_map ..] at this,fun y hy=>SnapR.sz_of (h.each y hy) (hc.each _ (List.mem_map_of_mem hy)),by rw [h.own.1];exact hc.own,hc.props⟩
theorem SetC.sz_of {x:SetR} (h:x.rd w B) (hc:x.sz):x.con.sz:=by
 refine ⟨hc.path,hc.org,by have:=hc.body;rw [h.body.1] at this;exact this,?_,fun y hy=>?_,by have:=hc.own;rw [h.own.1] at this;exact this,hc.props⟩
 ·have:=hc.snaps
  rw [h.snaps.1] at this
  rwa [show x.con.snaps.length=x.snaps.l.length from List.length_map ..]
 ·obtain ⟨z,hz,rfl⟩:=List.mem_map.1 hy
  exact SnapC.sz_of (h.each z hz) (hc.each z hz)
theorem StageR.sz_of {x:StageR} (h:x.rd w B) (hc:x.con.sz):x.sz:=⟨hc.into,hc.nm,hc.dt,by rw [h.own.1];exact hc.own,hc.props,by rw [h.body.1];exact hc.body⟩
theorem StageC.sz_of {x:StageR} (h:x.rd w B) (hc:x.sz):x.con.sz:=⟨hc.into,hc.nm,hc.dt,by have:=hc.own;rw [h.own.1] at this;exact this,hc.props,by have:=hc.body;rw [h.body.1] at this;exact this⟩
theorem TenR.sz_of {t:TenR} (h:t.rd w B) (hc:t.con.sz):t.sz :=
 ⟨hc.nm,by rw [h.sets.1];have:=hc.sets;rwa [show t.con.sets.length=t.sets.l.length from List.length_map ..] at this,fun y hy=>SetR.sz_of (h.eachS y hy) (hc.eachS _ (List.mem_map_of_mem hy)),by rw [h.grants.1];exact hc.grants,hc.eachG,by rw [h.stages.1];have:=hc.stages;rwa [show t.con.stages.length=t.stages.l.length from List.length_map ..] at this,fun y hy=>StageR.sz_of (h.eachG y hy) (hc.eachT _ (List.mem_map_of_mem hy)),by rw [h.log.1];exact hc.log,hc.eachL⟩
theorem TenC.sz_of {t:TenR} (h:t.rd w B) (hc:t.sz):t.con.sz:=by
 refine ⟨hc.nm,?_,fun y hy=>?_,by have:=hc.grants;rw [h.grants.1] at this;exact this,hc.eachG,?_,fun y hy=>?_,by have:=hc.log;rw [h.log.1] at this;exact this,hc.eachL⟩
 ·have:=hc.sets
  rw [h.sets.1] at this
  rwa [show t.con.sets.length=t.sets.l.length from List.length_map ..]
 ·obtain ⟨z,hz,rfl⟩:=List.mem_map.1 hy
  exact SetC.sz_of (h.eachS z hz) (hc.eachS z hz)
 ·have:=hc.stages
  rw [h.stages.1] at this
  rwa [show t.con.stages.length=t.stages.l.length from List.length_map ..]
 ·obtain ⟨z,hz,rfl⟩:=List.mem_map.1 hy
  exact StageC.sz_of (h.eachG z hz) (hc.eachT z hz)
end
theorem TenC.sz.withS {c:TenC} {s:SetC} (h:c.sz) (hs:s.sz) (hl:c.sets.length≤100000000000):(c.withS s).sz:=by
 refine ⟨h.nm,?_,fun y hy=>?_,h.grants,h.eachG,h.stages,h.eachT,h.log,h.eachL⟩
 ·unfold TenC.withS
  simp only [List.length_append,List.length_take,List.length_drop,List.length_cons,List.length_nil]
  omega
 ·have hy:y∈c.sets.take _++[s]++c.sets.drop _:=hy
  simp only [List.mem_append,List.mem_cons,List.not_mem_nil,or_false] at hy
  rcases hy with (hy | rfl) | hy
  ·exact h.eachS y (List.mem_of_mem_take hy)
  ·exact hs
  ·exact h.eachS y (List.mem_of_mem_drop hy)
theorem TenC.sz.dropS {c:TenC} {i:Nat} (h:c.sz):(c.dropS i).sz:=by
 refine ⟨h.nm,?_,fun y hy=>?_,h.grants,h.eachG,h.stages,h.eachT,h.log,h.eachL⟩
 ·unfold TenC.dropS
  have:=h.sets
  simp only [List.length_append,List.length_take,List.length_drop]
  omega
 ·have hy:y∈c.sets.take _++c.sets.drop _:=hy
  rcases List.mem_append.1 hy with hy | hy
  ·exact h.eachS y (List.mem_of_mem_take hy)
  ·exact h.eachS y (List.mem_of_mem_drop hy)
theorem TenC.sz.putS {c:TenC} {i:Nat} {s:SetC} (h:c.sz) (hs:s.sz):(c.putS i s).sz:=by
 refine ⟨h.nm,?_,fun y hy=>?_,h.grants,h.eachG,h.stages,h.eachT,h.log,h.eachL⟩
 ·show (c.sets.set i s).length≤_
  rw [List.length_set]
  exact h.sets
 ·rcases List.mem_or_eq_of_mem_set (show y∈c.sets.set i s from hy) with hy | rfl
  ·exact h.eachS y hy
  ·exact hs
def set0C (p:BS):SetC:=⟨p,[],[],[],[]⟩
theorem set0C_sz (p:BS) (hp:p.length≤4000000000):(set0C p).sz:=⟨hp,by simp [set0C],by simp [set0C],by simp [set0C],by simp [set0C],by simp [set0C],by simp [set0C]⟩
/-- a box of results: the cells stored, and loaded again -/
theorem res7 {zs:List Value} (cs:List Value) {W w:World} {g:Nat} (hk:Blk W g 27 zs.toArray) (hb:Below w.heap.size w W) (hg:w.heap.size≤g) (hz:zs.length=7:=by rfl) (hc:cs.length=7:=by rfl) :
  ∃ WR,WR=W.setCells g 0 cs.toArray.toList∧Hid (W.there g 0 7)∧Hid ((loadVar 27 ⟨g,0,none⟩).run Tryd.prog WR=.ok (.agg cs.toArray) WR)∧Hid (Below w.heap.size w WR)∧W.grownBy WR (some g):=by
 have k4:=Blk.setCells (g:=g) cs W [] zs (by rw [hz,hc]) hk
 simp only [List.length_nil,List.nil_append] at k4
 refine ⟨_,rfl,hk.there 7 (by simp [hz]),?_,below_setCells hg cs W 0 hb,grown_cellsS g cs W 0⟩
 exact run_loadVar_at _ ⟨g,0,none⟩ 27 cs _ (fun j v hv=>by rw [addr_add0,k4.cell j,zF];exact hv) Tryd.underlying27 rfl (by rw [hc];kernel_rfl)
/-! ### what is told -/
/-- a tenant and an error: the error's tenant is the zero one; else it lies in memory of its own -/
def TenPost (w:World) (c:Int×TenC) (e:Ending) (w':World):Prop:=∃ v,e=.returned (.tuple #[v,.int .i64 c.1])∧Below w.heap.size w w' ∧
 ((c.1≠0∧v=ZEROT)∨(c.1=0∧∃ y:TenR,v=y.val∧TenO w' w.heap.size y∧y.con=c.2))
theorem tenPost_err {w w':World} {c:Int×TenC} {E:Int} {c':TenC} (hc:c=(E,c')) (hE:E≠0) (hb:Below w.heap.size w w'):TenPost w c (.returned (.tuple #[ZEROT,.int .i64 E])) w':=by
 subst hc
 exact ⟨_,rfl,hb,.inl ⟨hE,rfl⟩⟩
theorem tenPost_ok {w w':World} {c:Int×TenC} {c':TenC} (hc:c=(0,c')) (hb:Below w.heap.size w w') (y:TenR) (ho:TenO w' w.heap.size y) (hy:y.con=c'):TenPost w c (.returned (.tuple #[y.val,.int .i64 0])) w':=by
 subst hc
 exact ⟨_,rfl,hb,.inr ⟨rfl,y,rfl,ho,hy⟩⟩
def TenC.find (c:TenC) (p:BS):Int:=firstI (fun s:SetC=>s.path == p) c.sets
theorem findS_con (t:TenR) (p:BS):findS t.sets.l p=t.con.find p:=by
 unfold findS TenC.find
 exact (firstI_map SetR.con (fun s:SetC=>s.path == p) t.sets.l).symm
def TenC.ask (c:TenC) (p:BS):Int:=if c.E=9 then 9 else if pathB p=false then 31 else 0
theorem askP_con (t:TenR) (p:BS):askP t p=t.con.ask p:=by
 unfold askP TenC.ask
 rw [tenE_con]
/-- what is settled -/
def TenC.settle (c:TenC):Int×TenC:=if c.E=9 then (9,c) else if c.quota<(c.charge:Int) then (42,c) else (0,c)
/-- a set is made -/
def TenC.create (c:TenC) (p:BS):Int×TenC:=if c.ask p≠0 then (c.ask p,c) else if 0≤c.find p then (6,c) else if c.find (upL p)<0 then (71,c) else if c.sets.length=32 then (3,c) else (c.withS (set0C p)).settle
/-- another row of sets, made where the old one lies, or anew -/
theorem TenO.newSets {y:TenR} {W W':World} {base:Nat} (h:TenO W base y) (hg:W.grownBy W' y.sets.val.ownBlock) (s':FS SetR) (hs:s'.own W' base 45 5 encSet) (hm:∀ z∈s'.l,SetO W base z) :
  TenO W' base ⟨y.nm,y.quota,y.next,s',y.grants,y.stages,y.log⟩:=by
 refine TenO.setsO h s' hg hs fun z hz=>?_
 have hz:=hm z hz
 cases he:y.sets.val.ownBlock with
 | none=>rw [he] at hg;exact hz.below ⟨hg.os,hg.tape,hg.output,hg.size,fun k _=>hg.block k (by assumption) (by simp)⟩
 | some g =>
  rw [he] at hg
  rcases h.sets.2.2 with ⟨e,_⟩ | ⟨g',cap,cur,e,_,hh,_⟩
  ·rw [e] at he;simp [Value.ownBlock] at he
  ·rw [e] at he
   have he:g'=g:=by simpa [Value.ownBlock] using he
   subst he
   exact hz.keptS hg (show Blk W g' 45 cur from hh)
/-! ### what stands under a set, its clones, what is held -/
def TenC.kids (c:TenC) (p:BS):Nat:=(c.sets.filter fun s=>parB s.path == some p).length
theorem kids_con (t:TenR) (p:BS):(kidsL t.sets.l p).length=t.con.kids p:=by
 unfold kidsL TenC.kids
 rw [List.length_map]
 show _=((t.sets.l.map SetR.con).filter _).length
 rw [List.filter_map,List.length_map]
 rfl
/-- a set is gone -/
def TenC.heldAt (c:TenC) (i:Nat):Bool:=match c.sets[i]? with
 | none=>false
 | some s=>s.snaps.any fun x=>decide (0<x.tags.length)
/-- what is told, in one form: a tenant (the zero one beside an error) -/
theorem TenPost.one {w w':World} {c:Int×TenC} {e:Ending} (h:TenPost w c e w'):∃ y:TenR,e=.returned (.tuple #[y.val,.int .i64 c.1])∧Below w.heap.size w w'∧(c.1=0→TenO w' w.heap.size y∧y.con=c.2):=by
 obtain ⟨v,rfl,hb,h⟩:=h
 rcases h with ⟨h1,rfl⟩ | ⟨h1,y,rfl,h2,h3⟩
 ·exact ⟨⟨[],0,0,⟨none,0,0,[]⟩,⟨none,0,0,[]⟩,⟨none,0,0,[]⟩,⟨none,0,0,[]⟩⟩,rfl,hb,fun h=>absurd h h1⟩
 ·exact ⟨y,rfl,hb,fun _=>⟨h2,h3⟩⟩
theorem settle_ok (c c2:TenC) (h:(0,c2)=c.settle):c2=c∧c.E=0∧(c.charge:Int)≤c.quota:=by
 unfold TenC.settle at h
 by_cases h5:c.E=9
 ·rw [if_pos h5] at h
  injection h with h _
  cases h
 rw [if_neg h5] at h
 split at h
 ·injection h with h _
  cases h
 ·injection h with _ h
  refine ⟨h,?_,by omega⟩
  rcases c.E_two with h6 | h6
  ·exact h6
  ·exact absurd h6 h5
end Go.Proofs.YtcgclpcocdappaaDoor
