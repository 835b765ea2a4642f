/-
  usage.Fits: is what a tenant is charged for at most its quota? What a tenant's content tells: whether it may be, and what it is charged for. shape.Settle: a changed tenant, if it may be and if it fits.
-/
import Derived.WalkKit
import Derived.WalkSpells
import Derived.Below
import Derived.Laws.OwnMore
import Derived.Deep.AppendLies
import Derived.Deep.Draws
import Derived.Laws.Rows
import Derived.Maps.AppendAt
import Derived.RegionTactic
import Derived.OwnWalk
import Derived.Deep.QuietTactic
import Derived.BigQuiet
import Derived.Lib.Hide
import Derived.Laws.CopyOwn
import Derived.IntWalk
import Derived.Test.YtcgclpcocdappaaDoorRows
import Derived.Handy
import Derived.Deep.Quiet
import Derived.Orders
import Derived.Lib.SplitLaws
import Derived.Lib.LastIndexByte
import Derived.Lib.Strings
import Derived.ShutString
import Derived.Sort.Walk0
import Derived.Sort.KeysCollected
import Derived.Deep.MidRow
import Derived.Shelf.Strings.Search1
import Derived.Shelf.Strings.Search2
import Derived.Shelf.Strings.Search3
import Derived.Shelf.Strings.Cut
import Derived.Shelf.Strings.Count
import Derived.Shelf.LaysM
import Derived.Shelf.Strings.Shaped
import Derived.Shelf.Strings.LastIndex
import Derived.Shelf.Strings.Split
import Derived.Shelf.Strings.SplitShaped
import Derived.Shelf.Unicode.Decode
import Derived.Shelf.Strings.RuneCount
import Derived.Shelf.Strings.Explode
import Derived.Shelf.Unicode.DecodeSlow
import Derived.Shelf.Slices.Turned
import Derived.Test.YtcgclpcocdappaaDoorProg
import Derived.Laws.BytesString
import Derived.Laws.IdiomStrings
import Derived.Lib.ConvBytes
import Derived.Great.BuildSlice
import Derived.ProofKit
import Derived.OpenShut
import Derived.ChangeOld
import Derived.Carry
import Derived.SizedLaws
import Derived.JoinedCond
import Derived.Deep.CondSized
import Derived.Deep.Slices
import Derived.Deep.Fields
import Derived.Lib.SmallJoins
import Derived.Deep.DeepCutAuto
import Derived.Test.YtcgclpcocdappaaDoorP0
import Derived.Test.YtcgclpcocdappaaDoorPa1
import Derived.Test.YtcgclpcocdappaaDoorPa2
import Derived.Test.YtcgclpcocdappaaDoorPa3
import Derived.Test.YtcgclpcocdappaaDoorPa5
import Derived.Test.YtcgclpcocdappaaDoorPa7
import Derived.Test.YtcgclpcocdappaaDoorPa8
import Derived.Test.YtcgclpcocdappaaDoorPa13
import Derived.Test.YtcgclpcocdappaaDoorPa17
import Derived.Test.YtcgclpcocdappaaDoorPa19
import Derived.Test.YtcgclpcocdappaaDoorPa21
import Derived.Test.YtcgclpcocdappaaDoorPa24
import Derived.Test.YtcgclpcocdappaaDoorPa27
import Derived.Test.YtcgclpcocdappaaDoorPa28
namespace Go.Proofs.YtcgclpcocdappaaDoor
open Go.RowKit
def sumB (l:List SnapR) (k:Nat):Int:=((l.take k).map fun x=>(x.body.n:Int)+1).sum
theorem sumB_zero (l:List SnapR):sumB l 0=0:=by simp [sumB]
theorem sumB_succ (l:List SnapR) (k:Nat) (h:k<l.length):sumB l (k+1)=sumB l k+(((l[k]'h).body.n:Int)+1):=by
 unfold sumB
 rw [List.take_add_one,List.getElem?_eq_getElem h,Option.toList_some,List.map_append,List.sum_append,List.map_cons,List.map_nil,List.sum_cons,List.sum_nil,Int.add_zero]
theorem sumB_mono (l:List SnapR) (k:Nat):0≤sumB l k∧sumB l k≤sumB l l.length:=by
 have h0:∀ k,0≤sumB l k:=by
  intro k
  unfold sumB
  induction l.take k with
  | nil=>simp
  | cons x r ih=>simp only [List.map_cons,List.sum_cons];omega
 refine ⟨h0 k,?_⟩
 have h1:sumB l l.length=sumB l k+((l.drop k).map fun x=>(x.body.n:Int)+1).sum:=by
  unfold sumB
  rw [List.take_length]
  conv=>lhs;rw [← List.take_append_drop k l]
  rw [List.map_append,List.sum_append]
 have h2:0≤((l.drop k).map fun x=>(x.body.n:Int)+1).sum:=by
  induction l.drop k with
  | nil=>simp
  | cons x r ih=>simp only [List.map_cons,List.sum_cons];omega
 omega
/-- what a set adds -/
def setSum (x:SetR):Int:=((x.body.n:Int)+1)+sumB x.snaps.l x.snaps.l.length
def sumS (l:List SetR) (k:Nat):Int:=((l.take k).map setSum).sum
def sumG (l:List StageR) (k:Nat):Int:=((l.take k).map fun x=>(x.body.n:Int)+1).sum
theorem setSum_nonneg (x:SetR):0≤setSum x:=by
 have:=(sumB_mono x.snaps.l x.snaps.l.length).1
 unfold setSum
 omega
theorem sum_nonneg {α:Type} (f:α→Int) (hf:∀ a,0≤f a) (l:List α):0≤(l.map f).sum:=by
 induction l with
 | nil=>simp
 | cons x r ih=>have:=hf x;simp only [List.map_cons,List.sum_cons];omega
theorem sumS_succ (l:List SetR) (k:Nat) (h:k<l.length):sumS l (k+1)=sumS l k+setSum (l[k]'h):=by
 unfold sumS
 rw [List.take_add_one,List.getElem?_eq_getElem h,Option.toList_some,List.map_append,List.sum_append,List.map_cons,List.map_nil,List.sum_cons,List.sum_nil,Int.add_zero]
theorem sumG_succ (l:List StageR) (k:Nat) (h:k<l.length):sumG l (k+1)=sumG l k+(((l[k]'h).body.n:Int)+1):=by
 unfold sumG
 rw [List.take_add_one,List.getElem?_eq_getElem h,Option.toList_some,List.map_append,List.sum_append,List.map_cons,List.map_nil,List.sum_cons,List.sum_nil,Int.add_zero]
theorem sumS_mono (l:List SetR) (k:Nat):0≤sumS l k∧sumS l k≤sumS l l.length:=by
 refine ⟨sum_nonneg _ setSum_nonneg _,?_⟩
 have h1:sumS l l.length=sumS l k+((l.drop k).map setSum).sum:=by
  unfold sumS
  rw [List.take_length]
  conv=>lhs;rw [← List.take_append_drop k l]
  rw [List.map_append,List.sum_append]
 have:=sum_nonneg _ setSum_nonneg (l.drop k)
 omega
theorem sumG_mono (l:List StageR) (k:Nat):0≤sumG l k∧sumG l k≤sumG l l.length:=by
 refine ⟨sum_nonneg _ (fun _=>by omega) _,?_⟩
 have h1:sumG l l.length=sumG l k+((l.drop k).map fun x=>(x.body.n:Int)+1).sum:=by
  unfold sumG
  rw [List.take_length]
  conv=>lhs;rw [← List.take_append_drop k l]
  rw [List.map_append,List.sum_append]
 have:=sum_nonneg (fun x:StageR=>(x.body.n:Int)+1) (fun _=>by omega) (l.drop k)
 omega
/-- what a tenant is charged for, as it lies -/
def tenSum (t:TenR):Int:=sumS t.sets.l t.sets.l.length+sumG t.stages.l t.stages.l.length
end Go.Proofs.YtcgclpcocdappaaDoor
namespace Go.Proofs.YtcgclpcocdappaaDoor
open Go.RowKit
/-! ### a content as a tenant of its own -/
def mkF {α:Type} (l:List α):FS α:=⟨none,l.length,l.length,l⟩
def SnapC.r (x:SnapC):SnapR:=⟨x.nm,x.gd,mkF x.body,mkF x.tags,mkF x.own⟩
def SetC.r (x:SetC):SetR:=⟨x.path,x.org,mkF x.body,mkF (x.snaps.map SnapC.r),mkF x.own⟩
def StageC.r (x:StageC):StageR:=⟨x.into,x.kind,x.nm,x.frm,x.gd,mkF x.own,x.ix,x.ct,x.dt,x.sm,mkF x.body,x.at_,x.nx,x.sum,x.done⟩
def TenC.r (x:TenC):TenR:=⟨x.nm,x.quota,x.next,mkF (x.sets.map SetC.r),mkF x.grants,mkF (x.stages.map StageC.r),mkF x.log⟩
theorem firstI_map {α β:Type} (f:α→β) (p:β→Bool) (l:List α):firstI p (l.map f)=firstI (fun x=>p (f x)) l:=by
 have h:firstP p (l.map f)=firstP (fun x=>p (f x)) l:=by
  unfold firstP
  induction l with
  | nil=>rfl
  | cons x r ih =>
   rw [List.map_cons]
   cases hp:p (f x) with
   | true=>rw [List.takeWhile_cons_of_neg (by simp [hp]),List.takeWhile_cons_of_neg (by simp [hp])];rfl
   | false=>rw [List.takeWhile_cons_of_pos (by simp [hp]),List.takeWhile_cons_of_pos (by simp [hp]),List.length_cons,List.length_cons,ih]
 unfold firstI
 rw [h,List.length_map]
theorem snapsFrom_n (p:Option Int) (l:List SnapR):snapsFrom p (l.map fun x=>x.con.r)=snapsFrom p l:=by
 induction l generalizing p with
 | nil=>cases p <;> rfl
 | cons x l ih =>
  rw [List.map_cons,snapsFrom_cons,snapsFrom_cons,ih]
  rfl
theorem snapsB_n (l:List SnapR):snapsB (l.map fun x=>x.con.r)=snapsB l:=by
 unfold snapsB
 rw [snapsFrom_n,List.length_map,List.map_map]
 rfl
theorem setC_r (x:SetR):x.con.r=⟨x.path,x.org,mkF x.body.l,mkF (x.snaps.l.map fun y=>y.con.r),mkF x.own.l⟩:=by
 show SetR.mk _ _ _ _ _=_
 rw [show (x.con.snaps.map SnapC.r)=(x.snaps.l.map fun y=>y.con.r) from List.map_map]
 rfl
theorem find_map {α β:Type} (f:α→β) (p:β→Bool) (l:List α):(l.map f).find? p=(l.find? fun x=>p (f x)).map f:=by
 induction l with
 | nil=>rfl
 | cons x r ih =>
  rw [List.map_cons,List.find?_cons,List.find?_cons]
  cases p (f x) with
  | true=>rfl
  | false=>exact ih
theorem originB_n (all:List SetR) (s:SetR):originB (all.map fun x=>x.con.r) s.con.r=originB all s:=by
 unfold originB
 show (s.org == [] || match splitL s.org with
  | none=>false
  | some (p,n)=>!(p == s.path) && match (all.map fun x=>x.con.r).find? (fun x=>x.path == p) with
   | none=>false
   | some x=>x.snaps.l.any fun y=>y.nm == n)=_
 cases splitL s.org with
 | none=>rfl
 | some v =>
  obtain ⟨p,n⟩:=v
  simp only []
  rw [find_map]
  have e:(all.find? fun x:SetR=>x.con.r.path == p)=all.find? fun x=>x.path == p:=rfl
  rw [e]
  cases all.find? (fun x=>x.path == p) with
  | none=>rfl
  | some x =>
   simp only [Option.map_some]
   rw [setC_r x]
   show (s.org == [] || !(p == s.path) && (x.snaps.l.map fun y=>y.con.r).any fun y=>y.nm == n)=_
   rw [List.any_map]
   rfl
theorem setB_n (all:List SetR) (s:SetR):setB (all.map fun x=>x.con.r) s.con.r=setB all s:=by
 unfold setB
 rw [originB_n,setC_r s]
 show ((pathB s.path && match parB s.path with
  | none=>true
  | some u=>(all.map fun x=>x.con.r).any fun x=>x.path == u) && propsB s.own.l && okL s.body.l && snapsB (s.snaps.l.map fun y=>y.con.r) && originB all s)=_
 rw [snapsB_n]
 cases parB s.path with
 | none=>rfl
 | some u =>
  simp only []
  rw [List.any_map]
  rfl
theorem setsFrom_n (all:List SetR) (p:Option BS) (l:List SetR):setsFrom (all.map fun x=>x.con.r) p (l.map fun x=>x.con.r)=setsFrom all p l:=by
 induction l generalizing p with
 | nil=>cases p <;> rfl
 | cons x l ih =>
  have e:∀ (a:List SetR) (y:SetR) (r:List SetR),setsFrom a p (y :: r)=(setB a y && (match p with | none=>true | some q=>Op.bytesLess q y.path) && setsFrom a (some y.path) r):=by
   intro a y r
   cases p <;> rfl
  rw [List.map_cons,e,e,setB_n,show x.con.r.path=x.path from rfl,ih]
theorem setsB_n (l:List SetR):setsB (l.map fun x=>x.con.r)=setsB l:=by
 unfold setsB
 rw [setsFrom_n,List.length_map,List.any_map]
 rfl
theorem stagesFrom_n (p:Option BS) (l:List StageR):stagesFrom p (l.map fun x=>x.con.r)=stagesFrom p l:=by
 induction l generalizing p with
 | nil=>cases p <;> rfl
 | cons x l ih =>
  have e:∀ (y:StageR) (r:List StageR),stagesFrom p (y :: r)=(stageB y && (match p with | none=>true | some q=>Op.bytesLess q y.into) && stagesFrom (some y.into) r):=by
   intro y r
   cases p <;> rfl
  rw [List.map_cons,e,e,show x.con.r.into=x.into from rfl,ih]
  rfl
theorem stagesB_n (l:List StageR):stagesB (l.map fun x=>x.con.r)=stagesB l:=by
 unfold stagesB
 rw [stagesFrom_n,List.length_map]
theorem tenC_r (t:TenR):t.con.r=⟨t.nm,t.quota,t.next,mkF (t.sets.l.map fun x=>x.con.r),mkF t.grants.l,mkF (t.stages.l.map fun x=>x.con.r),mkF t.log.l⟩:=by
 show TenR.mk _ _ _ _ _ _ _=_
 rw [show (t.con.sets.map SetC.r)=(t.sets.l.map fun y=>y.con.r) from List.map_map,show (t.con.stages.map StageC.r)=(t.stages.l.map fun y=>y.con.r) from List.map_map]
 rfl
/-- whether a tenant may be hangs on its content alone -/
def TenC.E (c:TenC):Int:=tenE c.r
theorem tenE_con (t:TenR):tenE t=t.con.E:=by
 unfold TenC.E tenE
 have:tenB t.con.r=tenB t:=by
  rw [tenC_r]
  show (nameB t.nm && amt t.quota 0 && amt t.next 1 && setsB (t.sets.l.map fun x=>x.con.r) && grantsB t.grants.l && stagesB (t.stages.l.map fun x=>x.con.r) && logB t.log.l)=_
  rw [setsB_n,stagesB_n]
  rfl
 rw [this]
theorem TenC.E_two (c:TenC):c.E=0∨c.E=9:=by unfold TenC.E tenE;split <;> simp
/-! ### what it is charged for -/
theorem cast_sum {α:Type} (f:α→Nat) (g:α→Int) (l:List α) (h:∀ x∈l,g x=(f x:Int)):(l.map g).sum=((l.map f).sum:Nat):=by
 induction l with
 | nil=>rfl
 | cons x r ih =>
  rw [List.map_cons,List.map_cons,List.sum_cons,List.sum_cons,Int.natCast_add,h x List.mem_cons_self,ih fun y hy=>h y (List.mem_cons_of_mem _ hy)]
theorem setSum_con (x:SetR) (w:World) (B:Nat) (h:x.rd w B):setSum x=(x.con.charge:Nat):=by
 unfold setSum sumB SetC.charge
 rw [List.take_length,cast_sum (fun y:SnapR=>1+y.body.l.length) _ _ (fun y hy=>by rw [(h.each y hy).body.1];omega)]
 rw [h.body.1]
 show _=((1+x.body.l.length+((x.snaps.l.map SnapR.con).map fun y=>1+y.body.length).sum:Nat):Int)
 rw [List.map_map]
 show _=((1+x.body.l.length+(x.snaps.l.map fun y=>1+y.body.l.length).sum:Nat):Int)
 omega
theorem tenSum_con (t:TenR) (w:World) (B:Nat) (h:t.rd w B):tenSum t=(t.con.charge:Nat):=by
 unfold tenSum sumS sumG TenC.charge
 rw [List.take_length,List.take_length,cast_sum (fun y:SetR=>y.con.charge) _ _ (fun y hy=>setSum_con y w B (h.eachS y hy)),cast_sum (fun y:StageR=>1+y.body.l.length) _ _ (fun y hy=>by rw [(h.eachG y hy).body.1];omega)]
 show _=((((t.sets.l.map SetR.con).map SetC.charge).sum+((t.stages.l.map StageR.con).map fun s=>1+s.body.length).sum:Nat):Int)
 rw [List.map_map,List.map_map]
 rfl
end Go.Proofs.YtcgclpcocdappaaDoor
namespace Go.Proofs.YtcgclpcocdappaaDoor
open Go.RowKit
theorem results_cell_tmp {P:Program} {fn:Func} {tmps:Array Value} {a b:Tmp} {t:TypeId} {ad:Addr} {v u:Value} {w:World} (hr:fn.results=#[.cell a t,.tmp b]) (ha:tmps[a]?.getD undef=.pointer (some ad)) (hl:(loadVar t ad).run P w=.ok v w) (hu:tmps[b]?.getD undef=u:=by rfl):(results fn tmps).run P w=.ok (.tuple #[v,u]) w:=by
 simp [results,hr,ha,hl,hu,asAddr]
theorem grown_cellsS (g:Nat) (cs:List Value):∀ (W:World) (o:Nat),W.grownBy (W.setCells g o cs) (some g):=by
 induction cs with
 | nil=>intro W o;exact ⟨rfl,rfl,rfl,Nat.le_refl _,fun _ _ _=>rfl⟩
 | cons u r ih=>intro W o;exact grown_tr (grown_box W g o u) (ih _ _)
theorem sum_le_len {α:Type} (f:α→Int) (c:Int) (l:List α) (h:∀ x∈l,f x≤c):(l.map f).sum≤l.length*c:=by
 induction l with
 | nil=>simp
 | cons x r ih =>
  have h1:=h x List.mem_cons_self
  have h2:=ih (fun y hy=>h y (List.mem_cons_of_mem _ hy))
  simp only [List.map_cons,List.sum_cons,List.length_cons,Int.natCast_add,Int.add_mul,Int.natCast_one,Int.one_mul]
  omega
theorem setSum_small (x:SetR) (hz:x.sz) (h:x.snaps.l.length≤16):setSum x≤20000000000000:=by
 unfold setSum sumB
 rw [List.take_length]
 have h1:=hz.body
 have h2:=sum_le_len (fun y:SnapR=>(y.body.n:Int)+1) 1000000000001 x.snaps.l (fun y hy=>by have:=(hz.each y hy).body;omega)
 omega
/-- what may be is not much -/
theorem tenSum_small (t:TenR) (hz:t.sz) (h:tenE t=0):tenSum t≤4000000000000000000:=by
 unfold tenE at h
 split at h
 ·rename_i hb
  unfold tenB at hb
  simp only [Bool.and_eq_true] at hb
  have hS:=hb.1.1.1.2
  have hG:=hb.1.2
  unfold setsB at hS
  unfold stagesB at hG
  simp only [Bool.and_eq_true,decide_eq_true_eq] at hS hG
  have hx:=((setsFrom_iff _ _ _).1 hS.2).1
  have h1:=sum_le_len setSum 20000000000000 t.sets.l (fun x hm=>by
   have h3:=hx x hm
   unfold setB at h3
   simp only [Bool.and_eq_true] at h3
   have h4:=h3.1.2
   unfold snapsB at h4
   simp only [Bool.and_eq_true,decide_eq_true_eq] at h4
   exact setSum_small x (hz.eachS x hm) h4.1.1)
  have h2:=sum_le_len (fun x:StageR=>(x.body.n:Int)+1) 1000000000001 t.stages.l (fun y hy=>by have:=(hz.eachT y hy).body;omega)
  unfold tenSum sumS sumG
  rw [List.take_length,List.take_length]
  have h5:=hS.1.1
  have h6:=hG.1
  omega
 ·cases h
def ZEROT:Value:=.agg #[.string ⟨#[]⟩,.int .i64 0,.int .i64 0,.slice none 0 0,.slice none 0 0,.slice none 0 0,.slice none 0 0]
def SettlePost (t:TenR) (w:World) (e:Ending) (w':World):Prop:=∃ v E,e=.returned (.tuple #[v,.int .i64 E])∧Below w.heap.size w w' ∧
 ((tenE t=9∧E=9∧v=ZEROT)∨(tenE t=0∧t.quota<tenSum t∧E=42∧v=ZEROT)∨(tenE t=0∧tenSum t≤t.quota∧E=0∧∃ y:TenR,v=y.val∧TenO w' w.heap.size y∧t.eqv y))
theorem tenE_09 (t:TenR):tenE t=0∨tenE t=9:=by unfold tenE;split <;> simp
end Go.Proofs.YtcgclpcocdappaaDoor
