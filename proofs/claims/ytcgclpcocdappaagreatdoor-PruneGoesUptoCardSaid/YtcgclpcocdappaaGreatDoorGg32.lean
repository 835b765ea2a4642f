/-
  What may be, by content: sets one by one; a set more, a set less, a set turned. 'clear' of a piece of a row that is known whole. snaps.found, snaps.guid: by their contracts. slices.IndexFunc and slices.DeleteFunc at elements of 5 cells, by their contracts.
-/
import Derived.WalkKit
import Derived.WalkSpells
import Derived.Below
import Derived.Laws.OwnMore
import Derived.Deep.AppendLies
import Derived.Deep.Draws
import Derived.Laws.Rows
import Derived.Maps.AppendAt
import Derived.RegionTactic
import Derived.OwnWalk
import Derived.Deep.QuietTactic
import Derived.BigQuiet
import Derived.Lib.Hide
import Derived.Laws.CopyOwn
import Derived.IntWalk
import Derived.Test.YtcgclpcocdappaaGreatDoorRows
import Derived.Handy
import Derived.Deep.Quiet
import Derived.ProofKit
import Derived.OpenShut
import Derived.ShutString
import Derived.ChangeOld
import Derived.Carry
import Derived.SizedLaws
import Derived.JoinedCond
import Derived.Deep.CondSized
import Derived.Deep.Slices
import Derived.Deep.Fields
import Derived.Lib.SmallJoins
import Derived.Orders
import Derived.Lib.SplitLaws
import Derived.Lib.LastIndexByte
import Derived.Lib.Strings
import Derived.Sort.Walk0
import Derived.Sort.KeysCollected
import Derived.Deep.MidRow
import Derived.Deep.RegionLaw
import Derived.Lib.AppendZeros
import Derived.Shelf.Strings.Search1
import Derived.Shelf.Strings.Search2
import Derived.Shelf.Strings.Search3
import Derived.Shelf.Strings.Cut
import Derived.Shelf.Strings.Count
import Derived.Shelf.LaysM
import Derived.Shelf.Strings.Shaped
import Derived.Shelf.Strings.LastIndex
import Derived.Shelf.Strings.Split
import Derived.Shelf.Strings.SplitShaped
import Derived.Shelf.Unicode.Decode
import Derived.Shelf.Strings.RuneCount
import Derived.Shelf.Strings.Explode
import Derived.Shelf.Unicode.DecodeSlow
import Derived.Test.YtcgclpcocdappaaGreatDoorProg
import Derived.Lib.Overlaps
import Derived.Lib.AppendZerosOnto
import Derived.Laws.BytesString
import Derived.Laws.IdiomStrings
import Derived.Lib.ConvBytes
import Derived.Deep.DeepCutAuto
import Derived.Great.BuildSlice
import Derived.Test.YtcgclpcocdappaaGreatDoorCards
import Derived.Test.YtcgclpcocdappaaGreatDoorTie
import Derived.Deep.DeepHandedRow
import Derived.Lib.LaidTab
import Derived.ChangeSame
import Derived.Test.YtcgclpcocdappaaGreatDoorG0
import Derived.Test.YtcgclpcocdappaaGreatDoorGg1
import Derived.Test.YtcgclpcocdappaaGreatDoorGg2
import Derived.Test.YtcgclpcocdappaaGreatDoorGg3
import Derived.Test.YtcgclpcocdappaaGreatDoorGg5
import Derived.Test.YtcgclpcocdappaaGreatDoorGg6
import Derived.Test.YtcgclpcocdappaaGreatDoorGg7
import Derived.Test.YtcgclpcocdappaaGreatDoorGg9
import Derived.Test.YtcgclpcocdappaaGreatDoorGg10
import Derived.Test.YtcgclpcocdappaaGreatDoorGg13
import Derived.Test.YtcgclpcocdappaaGreatDoorGg19
import Derived.Test.YtcgclpcocdappaaGreatDoorGg20
import Derived.Test.YtcgclpcocdappaaGreatDoorGg21
import Derived.Test.YtcgclpcocdappaaGreatDoorGg22
import Derived.Test.YtcgclpcocdappaaGreatDoorGg25
import Derived.Test.YtcgclpcocdappaaGreatDoorGg27
import Derived.Test.YtcgclpcocdappaaGreatDoorGg29
import Derived.Test.YtcgclpcocdappaaGreatDoorGg30
import Derived.Test.YtcgclpcocdappaaGreatDoorGg31
namespace Go.Proofs.YtcgclpcocdappaaGreatDoor
open Go.RowKit
structure SetOk (l:List SetC) (s:SetC):Prop where
 path:pathB s.path=true
 par:∀ u,parB s.path=some u→∃ x∈l,x.path=u
 own:propsB s.own=true
 body:okL s.body=true
 snaps:snapsB (s.snaps.map SnapC.r)=true
 org:s.org=[]∨∃ a b,splitL s.org=some (a,b)∧a≠s.path∧∃ x,l.find? (fun x=>x.path == a)=some x∧∃ y∈x.snaps,y.nm=b
theorem setB_iff (l:List SetC) (s:SetC):setB (l.map SetC.r) s.r=true↔SetOk l s:=by
 have hpar:(match parB s.path with | none=>true | some u=>(l.map SetC.r).any fun x=>x.path == u)=true↔∀ u,parB s.path=some u→∃ x∈l,x.path=u:=by
  cases hp:parB s.path with
  | none=>exact ⟨fun _ u h=>by (cases h),fun _=>rfl⟩
  | some u =>
   simp only [List.any_map]
   constructor
   ·intro h v hv
    cases hv
    obtain ⟨x,hx,e⟩:=List.any_eq_true.1 h
    exact ⟨x,hx,by simpa [SetC.r] using e⟩
   ·intro h
    obtain ⟨x,hx,e⟩:=h u rfl
    exact List.any_eq_true.2 ⟨x,hx,by simpa [SetC.r] using e⟩
 have horg:originB (l.map SetC.r) s.r=true↔(s.org=[]∨∃ a b,splitL s.org=some (a,b)∧a≠s.path∧∃ x,l.find? (fun x=>x.path == a)=some x∧∃ y∈x.snaps,y.nm=b):=by
  unfold originB
  show (s.org == [] || match splitL s.org with
   | none=>false
   | some (p,n)=>!(p == s.path) && match (l.map SetC.r).find? (fun x=>x.path == p) with
    | none=>false
    | some x=>x.snaps.l.any fun y=>y.nm == n)=true↔_
  rw [Bool.or_eq_true]
  refine or_congr (by simp) ?_
  cases hsp:splitL s.org with
  | none=>simp
  | some v =>
   obtain ⟨a,b⟩:=v
   simp only [Bool.and_eq_true,find_map]
   have e:(l.find? fun x:SetC=>(SetC.r x).path == a)=l.find? fun x=>x.path == a:=rfl
   rw [e]
   constructor
   ·rintro ⟨h1,h2⟩
    refine ⟨a,b,rfl,by simpa using h1,?_⟩
    cases hf:l.find? (fun x=>x.path == a) with
    | none=>rw [hf] at h2;cases h2
    | some x =>
     rw [hf] at h2
     simp only [Option.map_some] at h2
     have h2:((x.snaps.map SnapC.r).any fun y=>y.nm == b)=true:=h2
     rw [List.any_map] at h2
     obtain ⟨y,hy,ey⟩:=List.any_eq_true.1 h2
     exact ⟨x,rfl,y,hy,by simpa [SnapC.r] using ey⟩
   ·rintro ⟨a',b',h0,h1,x,hf,y,hy,ey⟩
    cases h0
    refine ⟨by simpa using h1,?_⟩
    rw [hf]
    show ((x.snaps.map SnapC.r).any fun y=>y.nm == b)=true
    rw [List.any_map]
    exact List.any_eq_true.2 ⟨y,hy,by simpa [SnapC.r] using ey⟩
 unfold setB
 rw [Bool.and_eq_true,Bool.and_eq_true,Bool.and_eq_true,Bool.and_eq_true,Bool.and_eq_true,horg]
 constructor
 ·rintro ⟨⟨⟨⟨⟨h1,h2⟩,h3⟩,h4⟩,h5⟩,h6⟩
  exact ⟨h1,hpar.1 h2,h3,h4,h5,h6⟩
 ·rintro ⟨h1,h2,h3,h4,h5,h6⟩
  exact ⟨⟨⟨⟨⟨h1,hpar.2 h2⟩,h3⟩,h4⟩,h5⟩,h6⟩
structure SetsOk (l:List SetC):Prop where
 len:l.length≤32
 root:∃ x∈l,x.path=[]
 each:∀ s∈l,SetOk l s
 asc:l.Pairwise fun a b=>Op.bytesLess a.path b.path=true
theorem setsB_iff (l:List SetC):setsB (l.map SetC.r)=true↔SetsOk l:=by
 unfold setsB
 rw [Bool.and_eq_true,Bool.and_eq_true,setsFrom_iff]
 simp only [decide_eq_true_eq,List.length_map,List.any_map]
 constructor
 ·rintro ⟨⟨h1,h2⟩,h3,h4,-⟩
  obtain ⟨x,hx,e⟩:=List.any_eq_true.1 h2
  exact ⟨h1,⟨x,hx,by simpa [SetC.r] using e⟩,fun s hs=>(setB_iff l s).1 (h3 _ (List.mem_map_of_mem hs)),List.pairwise_map.1 h4⟩
 ·rintro ⟨h1,⟨x,hx,e⟩,h3,h4⟩
  refine ⟨⟨h1,List.any_eq_true.2 ⟨x,hx,by simpa [SetC.r] using e⟩⟩,fun s hs=>?_,List.pairwise_map.2 h4,fun q hq=>by cases hq⟩
  obtain ⟨y,hy,rfl⟩:=List.mem_map.1 hs
  exact (setB_iff l y).2 (h3 y hy)
structure TenC.Ok (c:TenC):Prop where
 nm:nameB c.nm=true
 quota:amt c.quota 0=true
 next:amt c.next 1=true
 sets:SetsOk c.sets
 grants:grantsB c.grants=true
 stages:stagesB (c.stages.map StageC.r)=true
 log:logB c.log=true
theorem TenC.E_ok (c:TenC):c.E=0↔c.Ok:=by
 unfold TenC.E tenE
 constructor
 ·intro h
  have hb:tenB c.r=true:=by
   by_cases hb:tenB c.r=true
   ·exact hb
   ·rw [if_neg hb] at h;exact absurd h (by decide)
  unfold tenB at hb
  rw [Bool.and_eq_true,Bool.and_eq_true,Bool.and_eq_true,Bool.and_eq_true,Bool.and_eq_true,Bool.and_eq_true] at hb
  obtain ⟨⟨⟨⟨⟨⟨h1,h2⟩,h3⟩,h4⟩,h5⟩,h6⟩,h7⟩:=hb
  exact ⟨h1,h2,h3,(setsB_iff _).1 h4,h5,h6,h7⟩
 ·rintro ⟨h1,h2,h3,h4,h5,h6,h7⟩
  rw [if_pos]
  unfold tenB
  rw [Bool.and_eq_true,Bool.and_eq_true,Bool.and_eq_true,Bool.and_eq_true,Bool.and_eq_true,Bool.and_eq_true]
  exact ⟨⟨⟨⟨⟨⟨h1,h2⟩,h3⟩,(setsB_iff _).2 h4⟩,h5⟩,h6⟩,h7⟩
/-- sets in order: each is found by its path -/
theorem find_of_mem {l:List SetC} (h:l.Pairwise fun a b=>Op.bytesLess a.path b.path=true) {x:SetC} (hx:x∈l):l.find? (fun y=>y.path == x.path)=some x:=by
 induction l with
 | nil=>cases hx
 | cons y r ih =>
  obtain ⟨h1,h2⟩:=List.pairwise_cons.1 h
  rcases List.mem_cons.1 hx with rfl | hx
  ·rw [List.find?_cons_of_pos (by simp)]
  ·rw [List.find?_cons_of_neg (by simpa using bl_ne (h1 x hx))]
   exact ih h2 hx
/-! ### a set less -/
theorem mem_at' {α:Type} {a b:List α} {x y:α} (h:y∈a++x :: b):y=x∨y∈a++b:=by
 rcases List.mem_append.1 h with h | h
 ·exact .inr (List.mem_append_left _ h)
 ·rcases List.mem_cons.1 h with h | h
  ·exact .inl h
  ·exact .inr (List.mem_append_right _ h)
/-! ### a set turned -/
theorem SetOk.congr {l l':List SetC} {s:SetC} (h:SetOk l s) (hp:∀ x∈l,∃ y∈l',y.path=x.path) (hf:∀ a x,l.find? (fun x=>x.path == a)=some x→∃ y,l'.find? (fun x=>x.path == a)=some y∧y.snaps=x.snaps):SetOk l' s:=by
 refine ⟨h.path,fun u hu=>?_,h.own,h.body,h.snaps,?_⟩
 ·obtain ⟨x,hx,e⟩:=h.par u hu
  obtain ⟨y,hy,e2⟩:=hp x hx
  exact ⟨y,hy,e2.trans e⟩
 ·rcases h.org with h | ⟨a,b,h1,h2,x,hx,y,hy,e⟩
  ·exact .inl h
  ·obtain ⟨z,hz,e2⟩:=hf a x hx
   exact .inr ⟨a,b,h1,h2,z,hz,y,by rw [e2];exact hy,e⟩
theorem putS_ok (c:TenC) (k:Nat) (hk:k<c.sets.length) (s:SetC) (h:c.Ok) (h1:s.path=(c.sets[k]'hk).path) (h2:s.org=(c.sets[k]'hk).org) (h3:s.snaps=(c.sets[k]'hk).snaps) (hb:okL s.body=true) (ho:propsB s.own=true):(c.putS k s).Ok:=by
 obtain ⟨g1,g2,g3,g4,g5,g6,g7⟩:=h
 refine ⟨g1,g2,g3,?_,g5,g6,g7⟩
 show SetsOk (c.sets.set k s)
 have hpath:(c.sets.set k s).map SetC.path=c.sets.map SetC.path:=by
  rw [List.map_set,h1,← List.getElem_map SetC.path (h:=by rw [List.length_map];exact hk),List.set_getElem_self]
 have hasc:(c.sets.set k s).Pairwise fun a b=>Op.bytesLess a.path b.path=true:=by
  have:=List.pairwise_map (f:=SetC.path) (l:=c.sets) (R:=fun a b=>Op.bytesLess a b=true)
  have h4:=this.2 g4.asc
  rw [← hpath] at h4
  exact List.pairwise_map.1 h4
 have hmem:∀ x∈c.sets,∃ y∈c.sets.set k s,y.path=x.path∧y.snaps=x.snaps:=by
  intro x hx
  obtain ⟨j,hj,rfl⟩:=List.mem_iff_getElem.1 hx
  by_cases hjk:k=j
  ·subst hjk
   exact ⟨s,List.mem_iff_getElem.2 ⟨k,by rw [List.length_set];exact hj,by rw [List.getElem_set_self]⟩,h1,h3⟩
  ·exact ⟨c.sets[j],List.mem_iff_getElem.2 ⟨j,by rw [List.length_set];exact hj,by rw [List.getElem_set_ne hjk]⟩,rfl,rfl⟩
 have hcg:∀ z,SetOk c.sets z→SetOk (c.sets.set k s) z:=fun z hz=>hz.congr (fun x hx=>by
  obtain ⟨y,hy,e,_⟩:=hmem x hx
  exact ⟨y,hy,e⟩) (fun a x hx=>by
  obtain ⟨y,hy,e1,e2⟩:=hmem x (List.mem_of_find?_eq_some hx)
  have hxa:x.path=a:=by simpa using List.find?_some hx
  refine ⟨y,?_,e2⟩
  rw [← hxa,← e1]
  exact find_of_mem hasc hy)
 refine ⟨by rw [List.length_set];exact g4.len,?_,fun z hz=>?_,hasc⟩
 ·obtain ⟨x,hx,e⟩:=g4.root
  obtain ⟨y,hy,e1,_⟩:=hmem x hx
  exact ⟨y,hy,e1.trans e⟩
 ·rcases List.mem_or_eq_of_mem_set hz with hz | rfl
  ·exact hcg z (g4.each z hz)
  ·have h5:=hcg _ (g4.each _ (List.getElem_mem hk))
   exact ⟨by rw [h1];exact h5.path,by rw [h1];exact h5.par,ho,hb,by rw [h3];exact h5.snaps,by rw [h1,h2];exact h5.org⟩
end Go.Proofs.YtcgclpcocdappaaGreatDoor
namespace Go.Proofs.YtcgclpcocdappaaGreatDoor
open Go.RowKit
section
variable {P:Program}
theorem run_clear_rowK (w:World) (t ty e:TypeId) (z:Value) (ht:P.underlying t=some (.slice e)) (hv:∀ w,(zeroValue e).run P w=.ok z w) (h1:∀ u∈z.cells.toList,u.oneCell'=true)
  (g o n c:Nat) (cur:List Value) (T:TypeId) (hg:w.heap[g]?=some (.cells cur.toArray T (0,0))) (hn:0<n) (hfit:o+n*z.cells.size≤cur.length) :
  (Builtin.clear_ #[t] ty #[.slice (some ⟨g,o,none⟩) n c]).run P w=.ok (.tuple #[]) (w.setRow g (splice cur o (Builtin.zeroCells z.cells n).toList).toArray):=by
 have hzl:(Builtin.zeroCells z.cells n).toList.length=n*z.cells.size:=by simp [Builtin.zeroCells]
 have hz1:∀ u∈(Builtin.zeroCells z.cells n).toList,u.oneCell'=true:=by
  intro u hu
  simp only [Builtin.zeroCells,Array.toList_map,Array.toList_range,List.mem_map,List.mem_range] at hu
  obtain ⟨i,hi,rfl⟩:=hu
  have hk:0<z.cells.size:=by
   rcases Nat.eq_zero_or_pos z.cells.size with h | h
   ·rw [h] at hi;omega
   ·exact h
  have hm:=Nat.mod_lt i hk
  rw [getElem!_pos z.cells _ hm]
  exact h1 _ (by simp)
 have hst:=run_storeCells_at P g o T (Builtin.zeroCells z.cells n).toList 0 cur.toArray w hg (by rw [hzl];simpa using hfit) hz1
 obtain ⟨m,rfl⟩:∃ m,n=m+1:=⟨n-1,by omega⟩
 simp [Builtin.clear_,run_underlying ht,hv,hst,splice]
theorem wp_clearK {o:Oper} {a:Act} {w:World} {K:Act→World→Prop} {Q:Exit→Act→World→Prop} (d:Operand) (t:TypeId)
  (ho:o.op=.call { callee:=.builtin .clear,args:=#[d],argTypes:=#[t] }) (e:TypeId) (z:Value) (ht:P.underlying t=some (.slice e)) (hv:∀ w,(zeroValue e).run P w=.ok z w) (h1:∀ u∈z.cells.toList,u.oneCell'=true)
  (g off n c:Nat) (hd:a.eval d=.slice (some ⟨g,off,none⟩) n c) (cur:List Value) (T:TypeId) (hg:w.heap[g]?=some (.cells cur.toArray T (0,0))) (hfit:off+n*z.cells.size≤cur.length)
  (h:∀ w' zs,zs.length=n*z.cells.size→Hid (w'.heap[g]?=some (.cells (splice cur off zs).toArray T (0,0)))→w.grownBy w' (some g)→K (a.put o.dst (.tuple #[])) w'):o.wp P a w K Q:=by
 rcases Nat.eq_zero_or_pos n with h0 | h0
 ·subst h0
  have hrun:(Builtin.clear_ #[t] o.type #[.slice (some ⟨g,off,none⟩) 0 c]).run P w=.ok (.tuple #[]) w:=by simp [Builtin.clear_,run_underlying ht]
  unfold Oper.wp
  simp [execOp,ho,resolve,invoke,builtin,hd,hrun,Result.andThen]
  exact h w [] (by simp) (show _=_ by simpa [splice] using hg) (World.grownBy.refl _ _)
 ·have hrun:=run_clear_rowK (P:=P) w t o.type e z ht hv h1 g off n c cur T hg h0 hfit
  unfold Oper.wp
  simp [execOp,ho,resolve,invoke,builtin,hd,hrun,Result.andThen]
  exact h _ _ (by simp [Builtin.zeroCells]) (show _=_ from setRow_heap w g _ _ T _ hg) (grown_setRow _)
theorem wpList_clearK {w:World} {ops:Array Oper} {rest:List Oper} {o:Oper} {a:Act} {Q:Exit→Act→World→Prop} (hgd:o.guard=none) (d:Operand) (t:TypeId)
  (ho:o.op=.call { callee:=.builtin .clear,args:=#[d],argTypes:=#[t] }) (e:TypeId) (z:Value) (ht:P.underlying t=some (.slice e)) (hv:∀ w,(zeroValue e).run P w=.ok z w) (h1:∀ u∈z.cells.toList,u.oneCell'=true)
  (g off n c:Nat) (hd:a.eval d=.slice (some ⟨g,off,none⟩) n c) (cur:List Value) (T:TypeId) (hg:w.heap[g]?=some (.cells cur.toArray T (0,0))) (hfit:off+n*z.cells.size≤cur.length)
  (h:∀ w' zs,zs.length=n*z.cells.size→Hid (w'.heap[g]?=some (.cells (splice cur off zs).toArray T (0,0)))→w.grownBy w' (some g)→wpList P ops Q rest (a.put o.dst (.tuple #[])) w'):wpList P ops Q (o :: rest) a w :=
 wpList_plain hgd fun _ hK=>wp_clearK d t ho e z ht hv h1 g off n c hd cur T hg hfit (fun w' zs h0 h1 h2=>hK _ _ (h w' zs h0 h1 h2))
end
end Go.Proofs.YtcgclpcocdappaaGreatDoor
namespace Go.Proofs.YtcgclpcocdappaaGreatDoor
open Go.RowKit
/-- likewise, of a snapshot that must be there -/
def foundI (t:TenR) (p n:BS) (bad:Bool):Int×Int×Int :=
 if (askI t p n bad).2.2=0∧(askI t p n bad).2.1<0 then ((askI t p n bad).1,(askI t p n bad).2.1,71) else askI t p n bad
set_option maxRecDepth 100000 in
set_option maxHeartbeats 2000000 in
theorem found_any (t:TenR) (p n:BS) (ms:List Bool) (mA:Option Addr) (mn mc:Nat) (w:World) (B:Nat) (hB:B≤w.heap.size) (hr:t.rd w B) (hz:t.sz) (hp:p.length≤4000000000) (hmx:HasMax w) (hmn:mn=ms.length) (hm5:mn≤5) (hms:Reads w B 1 mA mn (cellsK (fun b:Bool=>[Value.bool b]) ms)) :
  Calls Tryz.prog 55 #[t.val,.string ⟨p.toArray⟩,.string ⟨n.toArray⟩,.slice mA mn mc] w fun e w'=>e=.returned (askV (foundI t p n (ms.contains false)))∧Below w.heap.size w w':=by
 obtain ⟨nm,qu,nx,⟨s1,sn,s3,sl⟩,⟨g1,gn,g3,gl⟩,⟨t1,tn,t3,tl⟩,⟨l1,ln,l3,ll⟩⟩:=t
 show Calls Tryz.prog 55 #[.agg #[.string ⟨nm.toArray⟩,.int .i64 qu,.int .i64 nx,.slice s1 sn s3,.slice g1 gn g3,.slice t1 tn t3,.slice l1 ln l3],.string ⟨p.toArray⟩,.string ⟨n.toArray⟩,.slice mA mn mc] w _
 have hb1:=(Below.refl w.heap.size w).alloc (Nat.le_refl _) (.cells #[.string ⟨nm.toArray⟩,.int .i64 qu,.int .i64 nx,.slice s1 sn s3,.slice g1 gn g3,.slice t1 tn t3,.slice l1 ln l3] 27)
 have hc:Calls Tryz.prog 42 #[.agg #[.string ⟨nm.toArray⟩,.int .i64 qu,.int .i64 nx,.slice s1 sn s3,.slice g1 gn g3,.slice t1 tn t3,.slice l1 ln l3],.string ⟨p.toArray⟩,.string ⟨n.toArray⟩,.slice mA mn mc] (w.alloc (.cells #[.string ⟨nm.toArray⟩,.int .i64 qu,.int .i64 nx,.slice s1 sn s3,.slice g1 gn g3,.slice t1 tn t3,.slice l1 ln l3] 27)) _:=asked_any ⟨nm,qu,nx,⟨s1,sn,s3,sl⟩,⟨g1,gn,g3,gl⟩,⟨t1,tn,t3,tl⟩,⟨l1,ln,l3,ll⟩⟩ p n ms mA mn mc (w.alloc (.cells #[.string ⟨nm.toArray⟩,.int .i64 qu,.int .i64 nx,.slice s1 sn s3,.slice g1 gn g3,.slice t1 tn t3,.slice l1 ln l3] 27)) B (by simp;omega) (TenR.rd.below hr (hb1.mono hB)) hz hp (hmx.below hb1) hmn hm5 (hms.below (hb1.mono hB))
 obtain ⟨V,hV⟩:∃ V,V=askI ⟨nm,qu,nx,⟨s1,sn,s3,sl⟩,⟨g1,gn,g3,gl⟩,⟨t1,tn,t3,tl⟩,⟨l1,ln,l3,ll⟩⟩ p n (ms.contains false):=⟨_,rfl⟩
 have hF:Hid (foundI ⟨nm,qu,nx,⟨s1,sn,s3,sl⟩,⟨g1,gn,g3,gl⟩,⟨t1,tn,t3,tl⟩,⟨l1,ln,l3,ll⟩⟩ p n (ms.contains false)=if V.2.2=0∧V.2.1<0 then (V.1,V.2.1,71) else V):=by show _=_;unfold foundI;rw [← hV]
 rw [← hV] at hc
 obtain ⟨a,k,e0⟩:=V
 simp only [askV] at hc hF
 have HB1:=Lib.hid hb1
 clear hb1 hr hz hmx hms hmn hV
 go_enter Tryz.func55,Tryz.ntmps55
 go_wp2_with fail
 refine hc.mono ?_
 clear hc
 rintro e w2 ⟨rfl,hb2⟩
 have HB2:=Lib.hid (HB1.out.trans (hb2.mono HB1.out.size))
 clear hb2 HB1
 by_cases he:e0=0
 ·subst he
  by_cases hk:k<0
  ·have HF1:Hid (foundI ⟨nm,qu,nx,⟨s1,sn,s3,sl⟩,⟨g1,gn,g3,gl⟩,⟨t1,tn,t3,tl⟩,⟨l1,ln,l3,ll⟩⟩ p n (ms.contains false)=(a,k,71)):=by show _=_;rw [hF.out,if_pos ⟨rfl,hk⟩]
   clear hF
   go_wp2_with fail
   exact bodyPost_ret (v:=.tuple #[.int .i64 a,.int .i64 k,.int .i64 71]) (by simp [results,Tryz.results55,go_sem]) rfl ⟨by rw [HF1.out];rfl,HB2.out⟩
  ·have HF1:Hid (foundI ⟨nm,qu,nx,⟨s1,sn,s3,sl⟩,⟨g1,gn,g3,gl⟩,⟨t1,tn,t3,tl⟩,⟨l1,ln,l3,ll⟩⟩ p n (ms.contains false)=(a,k,0)):=by show _=_;rw [hF.out,if_neg (fun h=>hk h.2)]
   clear hF
   go_wp2_with fail
   exact bodyPost_ret (v:=.tuple #[.int .i64 a,.int .i64 k,.int .i64 0]) (by simp [results,Tryz.results55,go_sem]) rfl ⟨by rw [HF1.out];rfl,HB2.out⟩
 ·have HF1:Hid (foundI ⟨nm,qu,nx,⟨s1,sn,s3,sl⟩,⟨g1,gn,g3,gl⟩,⟨t1,tn,t3,tl⟩,⟨l1,ln,l3,ll⟩⟩ p n (ms.contains false)=(a,k,e0)):=by show _=_;rw [hF.out,if_neg (fun h=>he h.1)]
  clear hF
  have heb:(e0 == 0)=false:=by simpa using he
  go_wp2_with fail
  exact bodyPost_ret (v:=.tuple #[.int .i64 a,.int .i64 k,.int .i64 e0]) (by simp [results,Tryz.results55,go_sem]) rfl ⟨by rw [HF1.out];rfl,HB2.out⟩
end Go.Proofs.YtcgclpcocdappaaGreatDoor
namespace Go.Proofs.YtcgclpcocdappaaGreatDoor
open Go.RowKit
/-- a predicate that is a function value: called in a world that keeps what it captured -/
structure PredJ (P:Program) (g:Nat) (caps:Array Value) {α:Type} (enc:α→Array Value) (p:α→Bool) (Keep:World→Prop):Prop where
 call:∀ x W,Keep W→Calls P g (#[.agg (enc x)]++caps) W fun e W'=>e=.returned (.bool (p x))∧Below W.heap.size W W'
 below:∀ W W',Keep W→Below W.heap.size W W'→Keep W'
set_option maxRecDepth 100000 in
set_option maxHeartbeats 1000000 in
theorem delSn_index {α:Type} (f0 f1 f2 f3 f4:α→Value) (p:α→Bool) (l:List α) (n:Nat) (hnl:n=l.length) (A:Option Addr) (c:Nat) (p0:Addr) (Keep:World→Prop) (w:World) (B:Nat)
  (hr:Reads w B 5 A n (cellsK (fun x=>[f0 x,f1 x,f2 x,f3 x,f4 x]) l)) (hB:B≤w.heap.size) (hn:n≤5000000000000) (hp:PredJ Tryz.prog 61 #[.pointer (some p0)] (fun x=>#[f0 x,f1 x,f2 x,f3 x,f4 x]) p Keep) (hk0:Keep w) :
  Calls Tryz.prog 130 #[.slice A n c,.func (.func 61) #[] #[.pointer (some p0)]] w fun e w'=>e=.returned (.int .i64 (firstI p l))∧Below w.heap.size w w'∧Keep w':=by
 have HN:=Lib.hid hnl
 have HP:=Lib.hid hp
 clear hnl hp
 go_enter Tryz.func130,Tryz.ntmps130
 go_wp2_with fail
 go_loopw [8] (fun j wr=>∃ k:Nat,k≤n∧j=.int .i64 (k:Int)∧Hid (∀ y∈l.take k,p y=false)∧Below w.heap.size w wr∧Keep wr) (fun j _=>n-(intOf j).toNat)
 case atStart=>exact ⟨0,Nat.zero_le _,rfl,(show ∀ y∈_,_ by simp),Below.refl _ _,hk0⟩
 case round =>
  obtain ⟨k,hk,rfl,hno,hbw,hkw⟩:=hrel
  by_cases hlt:k<n
  ·have hki:(k:Int)<(n:Int):=by omega
   have hkl:k<l.length:=by have:=HN.out;omega
   obtain ⟨ad,rfl,_,c0,c1,c2,c3,c4⟩:=(hr.below (hbw.mono hB)).el5 HN.out hlt
   obtain ⟨x,hx⟩:∃ x,x=l[k]'hkl:=⟨_,rfl⟩
   rw [← hx] at c0 c1 c2 c3 c4
   have htk:=List.take_succ_eq_append_getElem hkl
   rw [← hx] at htk
   have HTK:=Lib.hid htk
   have HX:=Lib.hid (show l[k]?=some x by rw [hx];exact List.getElem?_eq_getElem _)
   have hc:=HP.out.call x wr hkw
   obtain ⟨b,hb⟩:∃ b,b=p x:=⟨_,rfl⟩
   rw [← hb] at hc
   have HBX:=Lib.hid hb
   simp only [List.append_toArray,List.cons_append,List.nil_append] at hc
   clear hx htk hr hb
   go_wp2_with fail
   refine hc.mono ?_
   clear hc
   rintro e w1 ⟨rfl,hb1⟩
   have hkw1:=HP.out.below wr w1 hkw hb1
   have hbw1:=hbw.trans (hb1.mono hbw.size)
   cases b with
   | true =>
    go_wp2_with fail
    go_ret
    have hf:=firstP_eq p l k x hno.out HX.out HBX.out.symm
    exact ⟨by unfold firstI;rw [hf,if_pos hkl];rfl,hbw1,hkw1⟩
   | false =>
    go_wp2_with fail
    go_roundw
    case rel =>
     refine ⟨k+1,by omega,by go_num,?_,hbw1,hkw1⟩
     show ∀ y∈l.take (k+1),p y=false
     intro y hy
     rw [HTK.out] at hy
     rcases List.mem_append.1 hy with hy | hy
     ·exact hno.out y hy
     ·simp at hy;subst hy;exact HBX.out.symm
    case measure=>simp [intOf];omega
  ·have hkn:k=n:=by omega
   have HF:Hid (firstI p l=-1):=by
    show _=_
    unfold firstI
    rw [firstP_none p l (fun y hy=>hno.out y (by rw [List.take_of_length_le (by rw [hkn,HN.out];exact Nat.le_refl _)];exact hy)),if_neg (Nat.lt_irrefl _)]
   clear hr hkn
   go_wp2_with fail
   go_ret
   exact ⟨by rw [HF.out];rfl,hbw,hkw⟩
/-! ### DeleteFunc -/
/-- between two rounds: what stays lies at the beginning, what has not been looked at as it was -/
structure DelJ {α:Type} (p:α→Bool) (l L:List α) (i j:Nat):Prop where
 len:L.length=l.length
 le:i≤j
 jl:j≤l.length
 pre:L.take i=(l.take j).filter fun x=>!p x
 suf:L.drop j=l.drop j
theorem DelJ.keep {α:Type} {p:α→Bool} {l L:List α} {i j:Nat} {x:α} (h:DelJ p l L i j) (hlt:i<j) (hx:l[j]?=some x) (hp:p x=false):DelJ p l (L.set i x) (i+1) (j+1):=by
 have hj:=(List.getElem?_eq_some_iff.1 hx).1
 refine ⟨by rw [List.length_set];exact h.len,by omega,by omega,?_,?_⟩
 ·rw [List.take_succ_eq_append_getElem hj,List.filter_append,← h.pre,(List.getElem?_eq_some_iff.1 hx).2]
  rw [List.take_succ_eq_append_getElem (by rw [List.length_set,h.len];omega),List.take_set_of_le (Nat.le_refl _),List.getElem_set_self]
  simp [hp]
 ·rw [List.drop_set_of_lt (by omega)]
  have:=congrArg (List.drop 1) h.suf
  simpa using this
theorem DelJ.skip {α:Type} {p:α→Bool} {l L:List α} {i j:Nat} {x:α} (h:DelJ p l L i j) (hx:l[j]?=some x) (hp:p x=true):DelJ p l L i (j+1):=by
 have hj:=(List.getElem?_eq_some_iff.1 hx).1
 refine ⟨h.len,by have:=h.le;omega,by omega,?_,?_⟩
 ·rw [List.take_succ_eq_append_getElem hj,List.filter_append,← h.pre,(List.getElem?_eq_some_iff.1 hx).2]
  simp [hp]
 ·have:=congrArg (List.drop 1) h.suf
  simpa using this
theorem DelJ.get {α:Type} {p:α→Bool} {l L:List α} {i j:Nat} {x:α} (h:DelJ p l L i j) (hx:l[j]?=some x):L[j]?=some x:=by
 have:=congrArg (fun m=>m[0]?) h.suf
 simpa [hx] using this
theorem cells_setJ {α:Type} {enc:α→List Value} {k:Nat} (hk:∀ x,(enc x).length=k) (L:List α) (i:Nat) (x:α) (hi:i<L.length):cellsK enc (L.set i x)=(cellsK enc L).take (i*k)++enc x++(cellsK enc L).drop ((i+1)*k):=by
 rw [List.set_eq_take_append_cons_drop,if_pos hi,cellsK_append,show x :: L.drop (i+1)=[x]++L.drop (i+1) from rfl,cellsK_append,cellsK_one,cellsK_take hk,cellsK_drop hk,List.append_assoc]
theorem set_cells5J (xs:List Value) (v0 v1 v2 v3 v4:Value) (i:Nat) (h:(i+1)*5≤xs.length):(((((xs.set (i*5+0) v0).set (i*5+1) v1).set (i*5+2) v2).set (i*5+3) v3).set (i*5+4) v4)=xs.take (i*5)++[v0,v1,v2,v3,v4]++xs.drop ((i+1)*5):=by
 have e:xs=xs.take (i*5)++(xs[i*5+0]'(by omega) :: xs[i*5+1]'(by omega) :: xs[i*5+2]'(by omega) :: xs[i*5+3]'(by omega) :: xs[i*5+4]'(by omega) :: xs.drop ((i+1)*5)):=by
  conv=>lhs;rw [← List.take_append_drop (i*5) xs]
  congr 1
  rw [show (i+1)*5=i*5+5 by omega]
  rw [show xs.drop (i*5)=xs.drop (i*5+0) from rfl,List.drop_eq_getElem_cons (show i*5+0<xs.length by omega),List.drop_eq_getElem_cons (show i*5+1<xs.length by omega),List.drop_eq_getElem_cons (show i*5+2<xs.length by omega),List.drop_eq_getElem_cons (show i*5+3<xs.length by omega),List.drop_eq_getElem_cons (show i*5+4<xs.length by omega)]
 have hl:(xs.take (i*5)).length=i*5:=by rw [List.length_take];omega
 generalize xs.take (i*5)=P at e hl ⊢
 generalize xs.drop ((i+1)*5)=R at e ⊢
 generalize xs[i*5+0]'(by omega)=x0 at e
 generalize xs[i*5+1]'(by omega)=x1 at e
 generalize xs[i*5+2]'(by omega)=x2 at e
 generalize xs[i*5+3]'(by omega)=x3 at e
 generalize xs[i*5+4]'(by omega)=x4 at e
 rw [e]
 rw [List.set_append_right _ _ (by rw [hl];omega),hl,show i*5+0-i*5=0 by omega]
 rw [List.set_append_right _ _ (by rw [hl];omega),hl,show i*5+1-i*5=1 by omega]
 rw [List.set_append_right _ _ (by rw [hl];omega),hl,show i*5+2-i*5=2 by omega]
 rw [List.set_append_right _ _ (by rw [hl];omega),hl,show i*5+3-i*5=3 by omega]
 rw [List.set_append_right _ _ (by rw [hl];omega),hl,show i*5+4-i*5=4 by omega]
 simp
set_option maxRecDepth 100000 in
set_option maxHeartbeats 2000000 in
theorem delSn_any (p:SnapR→Bool) (l:List (SnapR)) (n:Nat) (hnl:n=l.length) (A0:Option Addr) (cp base:Nat) (p0:Addr) (Keep:World→Prop) (w:World) (hown:w.ownsRow base 57 5 (.slice A0 n cp) n (cellsK (fun x:SnapR=>[Value.string ⟨x.nm.toArray⟩,Value.int .i64 x.gd,Value.slice x.body.A x.body.n x.body.c,Value.slice x.tags.A x.tags.n x.tags.c,Value.slice x.own.A x.own.n x.own.c]) l)) (hn:n≤5000000000000)
  (hp:PredJ Tryz.prog 61 #[.pointer (some p0)] (fun x:SnapR=>#[Value.string ⟨x.nm.toArray⟩,Value.int .i64 x.gd,Value.slice x.body.A x.body.n x.body.c,Value.slice x.tags.A x.tags.n x.tags.c,Value.slice x.own.A x.own.n x.own.c]) p Keep) (hkg:∀ W W',Keep W→W.grownBy W' (Value.slice A0 n cp).ownBlock→Keep W') (hk0:Keep w) :
  Calls Tryz.prog 60 #[.slice A0 n cp,.func (.func 61) #[] #[.pointer (some p0)]] w fun e w' =>
   ∃ v,e=.returned v∧w'.ownsRow base 57 5 v (l.filter fun x=>!p x).length (cellsK (fun x:SnapR=>[Value.string ⟨x.nm.toArray⟩,Value.int .i64 x.gd,Value.slice x.body.A x.body.n x.body.c,Value.slice x.tags.A x.tags.n x.tags.c,Value.slice x.own.A x.own.n x.own.c]) (l.filter fun x=>!p x))∧w.grownBy w' (Value.slice A0 n cp).ownBlock:=by
 have hidx:=delSn_index (fun x:SnapR=>Value.string ⟨x.nm.toArray⟩) (fun x:SnapR=>Value.int .i64 x.gd) (fun x:SnapR=>Value.slice x.body.A x.body.n x.body.c) (fun x:SnapR=>Value.slice x.tags.A x.tags.n x.tags.c) (fun x:SnapR=>Value.slice x.own.A x.own.n x.own.c) p l n hnl A0 cp p0 Keep w w.heap.size (Reads.of_own hown) (Nat.le_refl _) hn hp hk0
 have hlen:∀ x:SnapR,((fun x:SnapR=>[Value.string ⟨x.nm.toArray⟩,Value.int .i64 x.gd,Value.slice x.body.A x.body.n x.body.c,Value.slice x.tags.A x.tags.n x.tags.c,Value.slice x.own.A x.own.n x.own.c]) x).length=5:=fun _=>rfl
 by_cases hf:firstP p l<l.length
 ·obtain ⟨i0,hi0⟩:∃ i0,i0=firstP p l:=⟨_,rfl⟩
  have hfi:firstI p l=(i0:Int):=by unfold firstI;rw [if_pos hf,hi0]
  rw [hfi] at hidx
  have hin:i0<n:=by omega
  have hx0:∃ x,l[i0]?=some x∧p x=true:=by
   obtain ⟨x,hx⟩:∃ x,l[i0]?=some x:=⟨_,List.getElem?_eq_getElem (by omega)⟩
   refine ⟨x,hx,?_⟩
   have h1:(l.takeWhile fun x=>!p x)=l.take i0:=by
    rw [hi0]
    unfold firstP
    exact List.prefix_iff_eq_take.1 (List.takeWhile_prefix _)
   have h2:=List.takeWhile_append_dropWhile (p:=fun x=>!p x) (l:=l)
   rw [h1] at h2
   have h3:l.dropWhile (fun x=>!p x)=l.drop i0:=List.append_cancel_left (h2.trans (List.take_append_drop i0 l).symm)
   have h4:l.drop i0=x :: l.drop (i0+1):=by
    rw [List.drop_eq_getElem_cons (by omega)]
    congr 1
    exact (List.getElem?_eq_some_iff.1 hx).2
   rw [h4] at h3
   have h5:=List.head_dropWhile_not (fun x=>!p x) (l:=l) (by rw [h3];simp)
   simp only [h3,List.head_cons] at h5
   simpa using h5
  have hD0:DelJ p l l i0 (i0+1):=by
   obtain ⟨x,hx,hpx⟩:=hx0
   have hj:=(List.getElem?_eq_some_iff.1 hx).1
   refine ⟨rfl,by omega,by omega,?_,rfl⟩
   rw [List.take_succ_eq_append_getElem hj,List.filter_append,(List.getElem?_eq_some_iff.1 hx).2,List.filter_eq_self.2 (fun y hy=>by rw [hi0] at hy;simp [firstP_before p l y hy])]
   simp [hpx]
  rcases hown.2 with ⟨_,h0⟩ | ⟨g,cap,cur,hs,hbg,_,hnc,hcm,_,_⟩
  ·omega
  ·injection hs with e1 _ e2
   subst e1 e2
   have hkg:∀ W W',Keep W→W.grownBy W' (some g)→Keep W':=hkg
   have HD0:=Lib.hid hD0
   have HN:=Lib.hid hnl
   have HP:=Lib.hid hp
   have HOWN0:=Lib.hid hown
   have hgw:=hown.lt g rfl
   unfold maxLen at hcm
   have hib:((i0:Int) == -1)=false:=by simp <;> omega
   clear hi0 hfi hf hx0 hD0 hnl hp hown hk0
   go_enter Tryz.func60,Tryz.ntmps60
   go_wp2_with fail
   refine hidx.mono ?_
   clear hidx
   rintro e w1 ⟨rfl,hb1,hk1⟩
   have hown1:=own_below HOWN0.out hb1
   have hgr1:w.grownBy w1 (some g):=⟨hb1.os,hb1.tape,hb1.output,hb1.size,fun k hk _=>hb1.block k hk⟩
   clear hb1
   go_wp2_with fail
   go_loopw [5,6] (fun vi vj wr=>∃ (i j:Nat) (L:List (SnapR)),vi=.int .i64 (i:Int)∧vj=.int .i64 (j:Int)∧i<j∧j≤n∧Hid (DelJ p l L i j)∧wr.ownsRow base 57 5 (.slice (some ⟨g,0,none⟩) n cp) n (cellsK (fun x:SnapR=>[Value.string ⟨x.nm.toArray⟩,Value.int .i64 x.gd,Value.slice x.body.A x.body.n x.body.c,Value.slice x.tags.A x.tags.n x.tags.c,Value.slice x.own.A x.own.n x.own.c]) L)∧w.grownBy wr (some g)∧Keep wr) (fun _ vj _=>n-(intOf vj).toNat)
   case atStart=>exact ⟨i0,i0+1,l,rfl,by go_num,by omega,by omega,HD0,hown1,hgr1,hk1⟩
   case round =>
    obtain ⟨i,j,L,rfl,rfl,hij,hjn,hD,hownr,hgrr,hkr⟩:=hrel
    clear hown1 hgr1 hk1
    have hwsz:=hgrr.size
    by_cases hlt:j<n
    ·have hji:(j:Int)<(n:Int):=by omega
     have hii:(i:Int)<(n:Int):=by omega
     have hjl:j<l.length:=by have:=HN.out;omega
     obtain ⟨x,hx⟩:∃ x,x=l[j]'hjl:=⟨_,rfl⟩
     have hxl:l[j]?=some x:=by rw [hx];exact List.getElem?_eq_getElem _
     have hxL:=hD.out.get hxl
     have hLl:=hD.out.len
     have hjL:j<L.length:=by omega
     have hiL:i<L.length:=by omega
     have hel:=fun d (hd:d<5)=>(hownr.cellAt (j*5+d) (by omega)).trans (cellsK_get hlen L j hjL d hd)
     rw [(List.getElem?_eq_some_iff.1 hxL).2] at hel
     have c0:=hel 0 (by omega)
     have c1:=hel 1 (by omega)
     have c2:=hel 2 (by omega)
     have c3:=hel 3 (by omega)
     have c4:=hel 4 (by omega)
     have hci:=fun d (hd:d<5)=>(hownr.cellAt (i*5+d) (by omega)).trans (cellsK_get hlen L i hiL d hd)
     have d0:=hci 0 (by omega)
     have q0:=hownr.frozenAt (i*5+0)
     have d1:=hci 1 (by omega)
     have q1:=hownr.frozenAt (i*5+1)
     have d2:=hci 2 (by omega)
     have q2:=hownr.frozenAt (i*5+2)
     have d3:=hci 3 (by omega)
     have q3:=hownr.frozenAt (i*5+3)
     have d4:=hci 4 (by omega)
     have q4:=hownr.frozenAt (i*5+4)
     generalize L[i]'hiL=y0 at d0 d1 d2 d3 d4
     have hc:=fun W hk=>HP.out.call x W hk
     simp only [List.append_toArray,List.cons_append,List.nil_append] at hc
     obtain ⟨b,hb⟩:∃ b,b=p x:=⟨_,rfl⟩
     rw [← hb] at hc
     have HBX:=Lib.hid hb
     have HXL:=Lib.hid hxl
     have HLL:=Lib.hid hLl
     clear hx hb hel hci hxL hxl hLl
     obtain ⟨xn,xg,⟨xA,xB,xC,xl⟩,⟨yA,yB,yC,yl⟩,⟨zA,zB,zC,zl⟩⟩:=x
     simp only [zE,zD,Nat.add_zero] at c0 d0 c1 d1 c2 d2 c3 d3 c4 d4
     simp only at hc
     have hgal:wr.grownBy (wr.alloc (.cells #[Value.string ⟨xn.toArray⟩,Value.int .i64 xg,Value.slice xA xB xC,Value.slice yA yB yC,Value.slice zA zB zC] 57)) (some g):=⟨rfl,rfl,rfl,by simp,fun k hk _=>Below.heap_alloc wr _ k hk⟩
     have hka:=hkg wr _ hkr hgal
     have hcc:=hc _ hka
     have hgr3:=hgrr.trans hgal
     have hblk:=Blk.new wr 57 #[Value.string ⟨xn.toArray⟩,Value.int .i64 xg,Value.slice xA xB xC,Value.slice yA yB yC,Value.slice zA zB zC]
     have hown3:=hownr.alloc (.cells #[Value.string ⟨xn.toArray⟩,Value.int .i64 xg,Value.slice xA xB xC,Value.slice yA yB yC,Value.slice zA zB zC] 57)
     have HOWN3:=Lib.hid hown3
     have HGR3:=Lib.hid hgr3
     have HBLK:=Lib.hid hblk
     have hglt:g<wr.heap.size:=by omega
     clear hc hownr hgrr hkr hgal hgr3 hblk hown3
     go_wp2_with fail
     refine hcc.mono ?_
     clear hcc
     rintro e w2 ⟨rfl,hb2⟩
     have hgb2:(wr.alloc (.cells #[Value.string ⟨xn.toArray⟩,Value.int .i64 xg,Value.slice xA xB xC,Value.slice yA yB yC,Value.slice zA zB zC] 57)).grownBy w2 (some g):=⟨hb2.os,hb2.tape,hb2.output,hb2.size,fun k hk _=>hb2.block k hk⟩
     have hk2:=hkg _ _ hka hgb2
     have HGR2:=Lib.hid (HGR3.out.trans hgb2)
     have HOWN2:=Lib.hid (own_below HOWN3.out hb2)
     have hbx:=HBLK.out.below hb2 (by simp)
     have b0:=hbx.cell 0
     have b1:=hbx.cell 1
     have b2:=hbx.cell 2
     have b3:=hbx.cell 3
     have b4:=hbx.cell 4
     have e0:w2.cell? ⟨g,i*5,none⟩=some _:=(World.cell?_of_block (hb2.block g (by simp;omega))).trans ((World.cell?_alloc_lt wr _ ⟨g,i*5,none⟩ hglt).trans d0)
     have r0:=HOWN2.out.frozenAt (i*5)
     have e1:w2.cell? ⟨g,i*5+1,none⟩=some _:=(World.cell?_of_block (hb2.block g (by simp;omega))).trans ((World.cell?_alloc_lt wr _ ⟨g,i*5+1,none⟩ hglt).trans d1)
     have r1:=HOWN2.out.frozenAt (i*5+1)
     have e2:w2.cell? ⟨g,i*5+2,none⟩=some _:=(World.cell?_of_block (hb2.block g (by simp;omega))).trans ((World.cell?_alloc_lt wr _ ⟨g,i*5+2,none⟩ hglt).trans d2)
     have r2:=HOWN2.out.frozenAt (i*5+2)
     have e3:w2.cell? ⟨g,i*5+3,none⟩=some _:=(World.cell?_of_block (hb2.block g (by simp;omega))).trans ((World.cell?_alloc_lt wr _ ⟨g,i*5+3,none⟩ hglt).trans d3)
     have r3:=HOWN2.out.frozenAt (i*5+3)
     have e4:w2.cell? ⟨g,i*5+4,none⟩=some _:=(World.cell?_of_block (hb2.block g (by simp;omega))).trans ((World.cell?_alloc_lt wr _ ⟨g,i*5+4,none⟩ hglt).trans d4)
     have r4:=HOWN2.out.frozenAt (i*5+4)
     clear hgb2 hka hb2 HOWN3 HGR3
     cases b with
     | true =>
      go_wp2_with fail
      go_roundw
      case rel=>exact ⟨i,j+1,L,rfl,by go_num,by omega,by omega,hD.out.skip HXL.out HBX.out.symm,HOWN2.out,HGR2.out,hk2⟩
      case measure=>simp [intOf];omega
     | false =>
      have hst:=Lib.hid (((((HOWN2.out.stored (i*5+0) (Value.string ⟨xn.toArray⟩)).1.stored (i*5+1) (Value.int .i64 xg)).1.stored (i*5+2) (Value.slice xA xB xC)).1.stored (i*5+3) (Value.slice yA yB yC)).1.stored (i*5+4) (Value.slice zA zB zC))
      have hst2:Hid (w2.grownBy _ (some g)):=Lib.hid ((((((HOWN2.out.stored (i*5+0) (Value.string ⟨xn.toArray⟩)).2).trans ((HOWN2.out.stored (i*5+0) (Value.string ⟨xn.toArray⟩)).1.stored (i*5+1) (Value.int .i64 xg)).2).trans (((HOWN2.out.stored (i*5+0) (Value.string ⟨xn.toArray⟩)).1.stored (i*5+1) (Value.int .i64 xg)).1.stored (i*5+2) (Value.slice xA xB xC)).2).trans ((((HOWN2.out.stored (i*5+0) (Value.string ⟨xn.toArray⟩)).1.stored (i*5+1) (Value.int .i64 xg)).1.stored (i*5+2) (Value.slice xA xB xC)).1.stored (i*5+3) (Value.slice yA yB yC)).2).trans (((((HOWN2.out.stored (i*5+0) (Value.string ⟨xn.toArray⟩)).1.stored (i*5+1) (Value.int .i64 xg)).1.stored (i*5+2) (Value.slice xA xB xC)).1.stored (i*5+3) (Value.slice yA yB yC)).1.stored (i*5+4) (Value.slice zA zB zC)).2)
      clear HOWN2
      go_wp2_with fail
      go_roundw
      case rel =>
       refine ⟨i+1,j+1,L.set i ⟨xn,xg,⟨xA,xB,xC,xl⟩,⟨yA,yB,yC,yl⟩,⟨zA,zB,zC,zl⟩⟩,by go_num,by go_num,by omega,by omega,hD.out.keep hij HXL.out HBX.out.symm,?_,?_,?_⟩
       ·have h1:=hst.out.1
        rw [set_cells5J _ (Value.string ⟨xn.toArray⟩) (Value.int .i64 xg) (Value.slice xA xB xC) (Value.slice yA yB yC) (Value.slice zA zB zC) i (by rw [cellsK_length hlen];omega)] at h1
        rw [cells_setJ hlen L i ⟨xn,xg,⟨xA,xB,xC,xl⟩,⟨yA,yB,yC,yl⟩,⟨zA,zB,zC,zl⟩⟩ hiL]
        exact h1
       ·exact HGR2.out.trans hst2.out
       ·exact hkg _ _ hk2 hst2.out
      case measure=>simp [intOf];omega
    ·obtain rfl:j=n:=by omega
     have hif:(l.filter fun x=>!p x)=L.take i:=by
      have h1:=hD.out.pre
      rw [List.take_of_length_le (l:=l) (by rw [HN.out];exact Nat.le_refl _)] at h1
      exact h1.symm
     have HIF:=Lib.hid hif
     have hLl:=hD.out.len
     have HLL:=Lib.hid hLl
     rcases hownr.2 with ⟨h0,_⟩ | ⟨g',cap',cur',hs',_,hh',_,_,hsz',hx'⟩
     ·cases h0
     ·injection hs' with q1 _ q2
      injection q1 with q1
      injection q1 with q1
      subst q1 q2
      have hcl:cur'.toList.length=cp*5:=by simpa using hsz'
      have HH:=Lib.hid (show wr.heap[g]?=some (.cells cur'.toList.toArray 57 (0,0)) by simpa using hh')
      have HX:=Lib.hid hx'
      have HCL:=Lib.hid hcl
      have HGR:=Lib.hid hgrr
      generalize cur'.toList=cur2 at HH HX HCL
      have hcpi:¬ cp=i:=by omega
      have HFT:=Lib.hid (show i*5+(j-i)*(Value.cells (.agg #[.string ByteArray.empty,.int .i64 0,.slice none 0 0,.slice none 0 0,.slice none 0 0])).size≤cur2.length from (show i*5+(j-i)*5≤cur2.length by rw [HCL.out];omega))
      have HZ1:=Lib.hid (show ∀ u∈(Value.cells (.agg #[.string ByteArray.empty,.int .i64 0,.slice none 0 0,.slice none 0 0,.slice none 0 0])).toList,u.oneCell'=true by simp [Value.cells,Value.oneCell'])
      have HZV:=Lib.hid (show ∀ w,(zeroValue 57).run Tryz.prog w=.ok (.agg #[.string ByteArray.empty,.int .i64 0,.slice none 0 0,.slice none 0 0,.slice none 0 0]) w from fun w=>Tryz.zeroValue57 w)
      clear hownr hLl hif hh' hsz' hx' hcl hgrr
      go_wp2_with (with_reducible refine wpList_clearK rfl (.tmp 38) 39 rfl 57 (.agg #[.string ByteArray.empty,.int .i64 0,.slice none 0 0,.slice none 0 0,.slice none 0 0]) Tryz.underlying39 HZV.out HZ1.out g (i*5) (j-i) (cp-i) rfl cur2 57 HH.out HFT.out ?_;intro w5 zs hzl hg5 hgr5)
      go_ret
      have hLi:(L.take i).length=i:=by rw [List.length_take,HLL.out,← HN.out];omega
      rw [HIF.out,hLi]
      refine ⟨_,rfl,?_,HGR.out.trans hgr5⟩
      have hzl:zs.length=(j-i)*5:=hzl
      refine own_of_row hg5.out hbg (by omega) (by unfold maxLen;omega) ?_ ?_
      ·rw [length_splice _ _ _ (by rw [hzl,HCL.out];omega)];exact HCL.out
      ·unfold splice
       rw [List.take_append_of_le_length (by rw [List.length_take,HCL.out];omega),List.take_take,Nat.min_self,cellsK_take hlen,← HX.out,List.take_take,Nat.min_eq_left (by omega)]
 ·have hfe:firstP p l=l.length:=by have:=firstP_le p l;omega
  have hfi:firstI p l=-1:=by unfold firstI;rw [if_neg hf]
  rw [hfi] at hidx
  have hfl:(l.filter fun x=>!p x)=l:=by
   rw [List.filter_eq_self]
   intro x hx
   have h1:=firstP_before p l
   rw [hfe,List.take_length] at h1
   simp [h1 x hx]
  have HFL:=Lib.hid hfl
  have HN:=Lib.hid hnl
  have HOWN:=Lib.hid hown
  clear hfe hfi hfl hf hnl hown hp hkg
  go_enter Tryz.func60,Tryz.ntmps60
  go_wp2_with fail
  refine hidx.mono ?_
  clear hidx
  rintro e w1 ⟨rfl,hb1,hk1⟩
  go_wp2_with fail
  go_ret
  refine ⟨_,rfl,?_,⟨hb1.os,hb1.tape,hb1.output,hb1.size,fun k hk _=>hb1.block k hk⟩⟩
  rw [HFL.out,← HN.out]
  exact own_below HOWN.out hb1
end Go.Proofs.YtcgclpcocdappaaGreatDoor
