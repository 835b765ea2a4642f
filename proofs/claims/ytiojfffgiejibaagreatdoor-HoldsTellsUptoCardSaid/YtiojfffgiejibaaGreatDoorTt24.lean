/-
  Tenants by content alone: what they read, wherever they lie. What a tenant's content tells: whether it may be, and what it is charged for. A tenant of one's own of which one field of one set is stored. What a function tells that answers by a tenant and an error; sizes by content. What may be, by content: sets one by one; a set more, a set less, a set turned. shape.Destroy: a set is gone. Snapshots by content: what is asked, found, made, and gone. A tenant of one's own of which the snapshots of one set are changed, when no two sets have one row of snapshots. What is found, as the walks of chapter 17 need it; what is told then. What snapshots, clones and rollbacks that are told are; sizes; the plain law of clones.
-/
import Derived.Test.YtiojfffgiejibaaGreatDoorTtM1
import Derived.WalkKit
import Derived.WalkSpells
import Derived.Below
import Derived.Laws.OwnMore
import Derived.Deep.AppendLies
import Derived.Deep.Draws
import Derived.Laws.Rows
import Derived.Maps.AppendAt
import Derived.RegionTactic
import Derived.OwnWalk
import Derived.Deep.QuietTactic
import Derived.BigQuiet
import Derived.Lib.Hide
import Derived.Laws.CopyOwn
import Derived.IntWalk
import Derived.Test.YtiojfffgiejibaaGreatDoorRows
import Derived.Handy
import Derived.Deep.Quiet
import Derived.Orders
import Derived.Lib.SplitLaws
import Derived.Lib.LastIndexByte
import Derived.Lib.Strings
import Derived.ShutString
import Derived.Sort.Walk0
import Derived.Sort.KeysCollected
import Derived.Shelf.Strings.Search1
import Derived.Shelf.Strings.Search2
import Derived.Shelf.Strings.Search3
import Derived.Shelf.Strings.Cut
import Derived.Shelf.Strings.Count
import Derived.Shelf.LaysM
import Derived.Shelf.Strings.Shaped
import Derived.Shelf.Strings.LastIndex
import Derived.Shelf.Strings.Split
import Derived.Shelf.Strings.SplitShaped
import Derived.Shelf.Unicode.Decode
import Derived.Shelf.Strings.RuneCount
import Derived.Shelf.Strings.Explode
import Derived.Shelf.Unicode.DecodeSlow
import Derived.Shelf.Slices.Turned
import Derived.Test.YtiojfffgiejibaaGreatDoorProg
import Derived.Laws.BytesString
import Derived.Laws.IdiomStrings
import Derived.Lib.ConvBytes
import Derived.Deep.MidRow
import Derived.Great.BuildSlice
import Derived.ProofKit
import Derived.OpenShut
import Derived.ChangeOld
import Derived.Carry
import Derived.SizedLaws
import Derived.JoinedCond
import Derived.Deep.CondSized
import Derived.Deep.Slices
import Derived.Deep.Fields
import Derived.Lib.SmallJoins
import Derived.Deep.DeepCutAuto
import Derived.Deep.RegionLaw
import Derived.Lib.AppendZeros
import Derived.Lib.Overlaps
import Derived.Lib.AppendZerosOnto
import Derived.Test.YtiojfffgiejibaaGreatDoorT0
import Derived.Test.YtiojfffgiejibaaGreatDoorTt1
import Derived.Test.YtiojfffgiejibaaGreatDoorTt2
import Derived.Test.YtiojfffgiejibaaGreatDoorTt3
import Derived.Test.YtiojfffgiejibaaGreatDoorTt5
import Derived.Test.YtiojfffgiejibaaGreatDoorTt6
import Derived.Test.YtiojfffgiejibaaGreatDoorTt7
import Derived.Test.YtiojfffgiejibaaGreatDoorTt10
import Derived.Test.YtiojfffgiejibaaGreatDoorTt11
import Derived.Test.YtiojfffgiejibaaGreatDoorTt12
import Derived.Test.YtiojfffgiejibaaGreatDoorTt15
import Derived.Test.YtiojfffgiejibaaGreatDoorTt16
import Derived.Test.YtiojfffgiejibaaGreatDoorTt20
import Derived.Test.YtiojfffgiejibaaGreatDoorTt21
import Derived.Test.YtiojfffgiejibaaGreatDoorTt22
import Derived.Test.YtiojfffgiejibaaGreatDoorTt23
import Derived.Test.YtiojfffgiejibaaGreatDoorTt25
import Derived.Test.YtiojfffgiejibaaGreatDoorTt26
namespace Go.Proofs.YtiojfffgiejibaaGreatDoor
open Go.RowKit
structure SnapC where
 nm:BS
 gd:Int
 body:List BlkT
 tags:List BS
 own:List (BS×BS)
structure SetC where
 path:BS
 org:BS
 body:List BlkT
 snaps:List SnapC
 own:List (BS×BS)
structure StageC where
 into:BS
 kind:Int
 nm:BS
 frm:Int
 gd:Int
 own:List (BS×BS)
 ix:Int
 ct:Int
 dt:BS
 sm:Sm
 body:List BlkT
 at_:Int
 nx:Int
 sum:Sm
 done:Bool
structure TenC where
 nm:BS
 quota:Int
 next:Int
 sets:List SetC
 grants:List GT
 stages:List StageC
 log:List EntryR
def SnapR.con (x:SnapR):SnapC:=⟨x.nm,x.gd,x.body.l,x.tags.l,x.own.l⟩
def SetR.con (x:SetR):SetC:=⟨x.path,x.org,x.body.l,x.snaps.l.map SnapR.con,x.own.l⟩
def StageR.con (x:StageR):StageC:=⟨x.into,x.kind,x.nm,x.frm,x.gd,x.own.l,x.ix,x.ct,x.dt,x.sm,x.body.l,x.at_,x.nx,x.sum,x.done⟩
def TenR.con (x:TenR):TenC:=⟨x.nm,x.quota,x.next,x.sets.l.map SetR.con,x.grants.l,x.stages.l.map StageR.con,x.log.l⟩
theorem each_map {α β:Type} {f:α→β} {l l':List α}:l.map f=l'.map f↔l.length=l'.length∧∀ i (h:i<l.length) (h':i<l'.length),f (l[i]'h)=f (l'[i]'h'):=by
 constructor
 ·intro h
  have hl:l.length=l'.length:=by simpa using congrArg List.length h
  refine ⟨hl,fun i h1 h2=>?_⟩
  have:=congrArg (fun m:List β=>m[i]?) h
  simpa [h1,h2] using this
 ·rintro ⟨hl,he⟩
  apply List.ext_getElem
  ·simpa using hl
  ·intro i h1 h2
   simp only [List.length_map] at h1 h2
   rw [List.getElem_map,List.getElem_map]
   exact he i h1 h2
theorem SnapR.eqv_iff (x y:SnapR):x.eqv y↔x.con=y.con:=by
 constructor
 ·rintro ⟨h1,h2,h3,h4,h5⟩
  simp only [SnapR.con,h1,h2,h3,h4,h5]
 ·intro h
  simp only [SnapR.con,SnapC.mk.injEq] at h
  exact ⟨h.1,h.2.1,h.2.2.1,h.2.2.2.1,h.2.2.2.2⟩
theorem SetR.eqv_iff (x y:SetR):x.eqv y↔x.con=y.con:=by
 constructor
 ·rintro ⟨h1,h2,h3,h4,h5,h6⟩
  have:=each_map.2 ⟨h4,fun i a b=>(SnapR.eqv_iff _ _).1 (h5 i a b)⟩
  simp only [SetR.con,h1,h2,h3,this,h6]
 ·intro h
  simp only [SetR.con,SetC.mk.injEq] at h
  obtain ⟨h1,h2,h3,h4,h5⟩:=h
  obtain ⟨h6,h7⟩:=each_map.1 h4
  exact ⟨h1,h2,h3,h6,fun i a b=>(SnapR.eqv_iff _ _).2 (h7 i a b),h5⟩
theorem StageR.eqv_iff (x y:StageR):x.eqv y↔x.con=y.con:=by
 constructor
 ·rintro ⟨h1,h2,h3,h4,h5,h6,h7,h8,h9,h10,h11,h12,h13,h14,h15⟩
  simp only [StageR.con,h1,h2,h3,h4,h5,h6,h7,h8,h9,h10,h11,h12,h13,h14,h15]
 ·intro h
  simp only [StageR.con,StageC.mk.injEq] at h
  obtain ⟨h1,h2,h3,h4,h5,h6,h7,h8,h9,h10,h11,h12,h13,h14,h15⟩:=h
  exact ⟨h1,h2,h3,h4,h5,h6,h7,h8,h9,h10,h11,h12,h13,h14,h15⟩
/-- tenants are of one content just if they read alike -/
theorem TenR.eqv_iff (x y:TenR):x.eqv y↔x.con=y.con:=by
 constructor
 ·rintro ⟨h1,h2,h3,h4,h5,h6,h7,h8,h9⟩
  have e1:=each_map.2 ⟨h4,fun i a b=>(SetR.eqv_iff _ _).1 (h5 i a b)⟩
  have e2:=each_map.2 ⟨h7,fun i a b=>(StageR.eqv_iff _ _).1 (h8 i a b)⟩
  simp only [TenR.con,h1,h2,h3,e1,h6,e2,h9]
 ·intro h
  simp only [TenR.con,TenC.mk.injEq] at h
  obtain ⟨h1,h2,h3,h4,h5,h6,h7⟩:=h
  obtain ⟨h8,h9⟩:=each_map.1 h4
  obtain ⟨h10,h11⟩:=each_map.1 h6
  exact ⟨h1,h2,h3,h8,fun i a b=>(SetR.eqv_iff _ _).2 (h9 i a b),h5,h10,fun i a b=>(StageR.eqv_iff _ _).2 (h11 i a b),h7⟩
/-- what a tenant is charged for -/
def SetC.charge (s:SetC):Nat:=1+s.body.length+(s.snaps.map fun x=>1+x.body.length).sum
def TenC.charge (t:TenC):Nat:=(t.sets.map SetC.charge).sum+(t.stages.map fun s=>1+s.body.length).sum
end Go.Proofs.YtiojfffgiejibaaGreatDoor
namespace Go.Proofs.YtiojfffgiejibaaGreatDoor
open Go.RowKit
/-! ### a content as a tenant of its own -/
def mkF {α:Type} (l:List α):FS α:=⟨none,l.length,l.length,l⟩
def SnapC.r (x:SnapC):SnapR:=⟨x.nm,x.gd,mkF x.body,mkF x.tags,mkF x.own⟩
def SetC.r (x:SetC):SetR:=⟨x.path,x.org,mkF x.body,mkF (x.snaps.map SnapC.r),mkF x.own⟩
def StageC.r (x:StageC):StageR:=⟨x.into,x.kind,x.nm,x.frm,x.gd,mkF x.own,x.ix,x.ct,x.dt,x.sm,mkF x.body,x.at_,x.nx,x.sum,x.done⟩
def TenC.r (x:TenC):TenR:=⟨x.nm,x.quota,x.next,mkF (x.sets.map SetC.r),mkF x.grants,mkF (x.stages.map StageC.r),mkF x.log⟩
theorem firstI_map {α β:Type} (f:α→β) (p:β→Bool) (l:List α):firstI p (l.map f)=firstI (fun x=>p (f x)) l:=by
 have h:firstP p (l.map f)=firstP (fun x=>p (f x)) l:=by
  unfold firstP
  induction l with
  | nil=>rfl
  | cons x r ih =>
   rw [List.map_cons]
   cases hp:p (f x) with
   | true=>rw [List.takeWhile_cons_of_neg (by simp [hp]),List.takeWhile_cons_of_neg (by simp [hp])];rfl
   | false=>rw [List.takeWhile_cons_of_pos (by simp [hp]),List.takeWhile_cons_of_pos (by simp [hp]),List.length_cons,List.length_cons,ih]
 unfold firstI
 rw [h,List.length_map]
theorem snapsFrom_n (p:Option Int) (l:List SnapR):snapsFrom p (l.map fun x=>x.con.r)=snapsFrom p l:=by
 induction l generalizing p with
 | nil=>cases p <;> rfl
 | cons x l ih =>
  rw [List.map_cons,snapsFrom_cons,snapsFrom_cons,ih]
  rfl
theorem snapsB_n (l:List SnapR):snapsB (l.map fun x=>x.con.r)=snapsB l:=by
 unfold snapsB
 rw [snapsFrom_n,List.length_map,List.map_map]
 rfl
theorem setC_r (x:SetR):x.con.r=⟨x.path,x.org,mkF x.body.l,mkF (x.snaps.l.map fun y=>y.con.r),mkF x.own.l⟩:=by
 show SetR.mk _ _ _ _ _=_
 rw [show (x.con.snaps.map SnapC.r)=(x.snaps.l.map fun y=>y.con.r) from List.map_map]
 rfl
theorem find_map {α β:Type} (f:α→β) (p:β→Bool) (l:List α):(l.map f).find? p=(l.find? fun x=>p (f x)).map f:=by
 induction l with
 | nil=>rfl
 | cons x r ih =>
  rw [List.map_cons,List.find?_cons,List.find?_cons]
  cases p (f x) with
  | true=>rfl
  | false=>exact ih
theorem originB_n (all:List SetR) (s:SetR):originB (all.map fun x=>x.con.r) s.con.r=originB all s:=by
 unfold originB
 show (s.org == [] || match splitL s.org with
  | none=>false
  | some (p,n)=>!(p == s.path) && match (all.map fun x=>x.con.r).find? (fun x=>x.path == p) with
   | none=>false
   | some x=>x.snaps.l.any fun y=>y.nm == n)=_
 cases splitL s.org with
 | none=>rfl
 | some v =>
  obtain ⟨p,n⟩:=v
  simp only []
  rw [find_map]
  have e:(all.find? fun x:SetR=>x.con.r.path == p)=all.find? fun x=>x.path == p:=rfl
  rw [e]
  cases all.find? (fun x=>x.path == p) with
  | none=>rfl
  | some x =>
   simp only [Option.map_some]
   rw [setC_r x]
   show (s.org == [] || !(p == s.path) && (x.snaps.l.map fun y=>y.con.r).any fun y=>y.nm == n)=_
   rw [List.any_map]
   rfl
theorem setB_n (all:List SetR) (s:SetR):setB (all.map fun x=>x.con.r) s.con.r=setB all s:=by
 unfold setB
 rw [originB_n,setC_r s]
 show ((pathB s.path && match parB s.path with
  | none=>true
  | some u=>(all.map fun x=>x.con.r).any fun x=>x.path == u) && propsB s.own.l && okL s.body.l && snapsB (s.snaps.l.map fun y=>y.con.r) && originB all s)=_
 rw [snapsB_n]
 cases parB s.path with
 | none=>rfl
 | some u =>
  simp only []
  rw [List.any_map]
  rfl
theorem setsFrom_n (all:List SetR) (p:Option BS) (l:List SetR):setsFrom (all.map fun x=>x.con.r) p (l.map fun x=>x.con.r)=setsFrom all p l:=by
 induction l generalizing p with
 | nil=>cases p <;> rfl
 | cons x l ih =>
  have e:∀ (a:List SetR) (y:SetR) (r:List SetR),setsFrom a p (y :: r)=(setB a y && (match p with | none=>true | some q=>Op.bytesLess q y.path) && setsFrom a (some y.path) r):=by
   intro a y r
   cases p <;> rfl
  rw [List.map_cons,e,e,setB_n,show x.con.r.path=x.path from rfl,ih]
theorem setsB_n (l:List SetR):setsB (l.map fun x=>x.con.r)=setsB l:=by
 unfold setsB
 rw [setsFrom_n,List.length_map,List.any_map]
 rfl
theorem stagesFrom_n (p:Option BS) (l:List StageR):stagesFrom p (l.map fun x=>x.con.r)=stagesFrom p l:=by
 induction l generalizing p with
 | nil=>cases p <;> rfl
 | cons x l ih =>
  have e:∀ (y:StageR) (r:List StageR),stagesFrom p (y :: r)=(stageB y && (match p with | none=>true | some q=>Op.bytesLess q y.into) && stagesFrom (some y.into) r):=by
   intro y r
   cases p <;> rfl
  rw [List.map_cons,e,e,show x.con.r.into=x.into from rfl,ih]
  rfl
theorem stagesB_n (l:List StageR):stagesB (l.map fun x=>x.con.r)=stagesB l:=by
 unfold stagesB
 rw [stagesFrom_n,List.length_map]
theorem tenC_r (t:TenR):t.con.r=⟨t.nm,t.quota,t.next,mkF (t.sets.l.map fun x=>x.con.r),mkF t.grants.l,mkF (t.stages.l.map fun x=>x.con.r),mkF t.log.l⟩:=by
 show TenR.mk _ _ _ _ _ _ _=_
 rw [show (t.con.sets.map SetC.r)=(t.sets.l.map fun y=>y.con.r) from List.map_map,show (t.con.stages.map StageC.r)=(t.stages.l.map fun y=>y.con.r) from List.map_map]
 rfl
/-- whether a tenant may be hangs on its content alone -/
def TenC.E (c:TenC):Int:=tenE c.r
theorem tenE_con (t:TenR):tenE t=t.con.E:=by
 unfold TenC.E tenE
 have:tenB t.con.r=tenB t:=by
  rw [tenC_r]
  show (nameB t.nm && amt t.quota 0 && amt t.next 1 && setsB (t.sets.l.map fun x=>x.con.r) && grantsB t.grants.l && stagesB (t.stages.l.map fun x=>x.con.r) && logB t.log.l)=_
  rw [setsB_n,stagesB_n]
  rfl
 rw [this]
theorem TenC.E_two (c:TenC):c.E=0∨c.E=9:=by unfold TenC.E tenE;split <;> simp
/-! ### what it is charged for -/
theorem cast_sum {α:Type} (f:α→Nat) (g:α→Int) (l:List α) (h:∀ x∈l,g x=(f x:Int)):(l.map g).sum=((l.map f).sum:Nat):=by
 induction l with
 | nil=>rfl
 | cons x r ih =>
  rw [List.map_cons,List.map_cons,List.sum_cons,List.sum_cons,Int.natCast_add,h x List.mem_cons_self,ih fun y hy=>h y (List.mem_cons_of_mem _ hy)]
theorem setSum_con (x:SetR) (w:World) (B:Nat) (h:x.rd w B):setSum x=(x.con.charge:Nat):=by
 unfold setSum sumB SetC.charge
 rw [List.take_length,cast_sum (fun y:SnapR=>1+y.body.l.length) _ _ (fun y hy=>by rw [(h.each y hy).body.1];omega)]
 rw [h.body.1]
 show _=((1+x.body.l.length+((x.snaps.l.map SnapR.con).map fun y=>1+y.body.length).sum:Nat):Int)
 rw [List.map_map]
 show _=((1+x.body.l.length+(x.snaps.l.map fun y=>1+y.body.l.length).sum:Nat):Int)
 omega
theorem tenSum_con (t:TenR) (w:World) (B:Nat) (h:t.rd w B):tenSum t=(t.con.charge:Nat):=by
 unfold tenSum sumS sumG TenC.charge
 rw [List.take_length,List.take_length,cast_sum (fun y:SetR=>y.con.charge) _ _ (fun y hy=>setSum_con y w B (h.eachS y hy)),cast_sum (fun y:StageR=>1+y.body.l.length) _ _ (fun y hy=>by rw [(h.eachG y hy).body.1];omega)]
 show _=((((t.sets.l.map SetR.con).map SetC.charge).sum+((t.stages.l.map StageR.con).map fun s=>1+s.body.length).sum:Nat):Int)
 rw [List.map_map,List.map_map]
 rfl
end Go.Proofs.YtiojfffgiejibaaGreatDoor
namespace Go.Proofs.YtiojfffgiejibaaGreatDoor
open Go.RowKit
/-- the tenant with another set at a place -/
def TenR.putS (t:TenR) (i:Nat) (x:SetR):TenR:=⟨t.nm,t.quota,t.next,⟨t.sets.A,t.sets.n,t.sets.c,t.sets.l.set i x⟩,t.grants,t.stages,t.log⟩
def TenC.putS (t:TenC) (i:Nat) (x:SetC):TenC:=⟨t.nm,t.quota,t.next,t.sets.set i x,t.grants,t.stages,t.log⟩
theorem TenR.con_putS (t:TenR) (i:Nat) (x:SetR):(t.putS i x).con=t.con.putS i x.con:=by
 simp only [TenR.con,TenR.putS,TenC.putS,List.map_set]
section
variable {w w':World} {base g:Nat} {cs:Array Value}
theorem SnapO.keptS {x:SnapR} (h:SnapO w base x) (hg:w.grownBy w' (some g)) (hb:Blk w g 56 cs):SnapO w' base x :=
 ⟨h.body.keptT hg hb tZ3,h.tags.keptT hg hb tZ3,h.own.keptT hg hb tZ3⟩
theorem SetO.keptS {x:SetR} (h:SetO w base x) (hg:w.grownBy w' (some g)) (hb:Blk w g 56 cs):SetO w' base x :=
 ⟨h.body.keptT hg hb tZ3,h.snaps.keptT hg hb tZ3,fun y hy=>(h.each y hy).keptS hg hb,h.own.keptT hg hb tZ3⟩
theorem StageO.keptS {x:StageR} (h:StageO w base x) (hg:w.grownBy w' (some g)) (hb:Blk w g 56 cs):StageO w' base x :=
 ⟨h.own.keptT hg hb tZ3,h.body.keptT hg hb tZ3⟩
end
end Go.Proofs.YtiojfffgiejibaaGreatDoor
namespace Go.Proofs.YtiojfffgiejibaaGreatDoor
open Go.RowKit
/-! ### sizes, by content -/
structure SnapC.sz (x:SnapC):Prop where
 nm:x.nm.length≤4000000000
 body:x.body.length≤1000000000000
 tags:x.tags.length≤1000000000000
 each:∀ t∈x.tags,t.length≤4000000000
 own:x.own.length≤1000000000000
 props:∀ p∈x.own,p.1.length≤4000000000∧p.2.length≤4000000000
structure SetC.sz (x:SetC):Prop where
 path:x.path.length≤4000000000
 org:x.org.length≤4000000000
 body:x.body.length≤1000000000000
 snaps:x.snaps.length≤1000000000000
 each:∀ y∈x.snaps,y.sz
 own:x.own.length≤1000000000000
 props:∀ p∈x.own,p.1.length≤4000000000∧p.2.length≤4000000000
structure StageC.sz (x:StageC):Prop where
 into:x.into.length≤4000000000
 nm:x.nm.length≤4000000000
 dt:x.dt.length≤4000000000
 own:x.own.length≤1000000000000
 props:∀ p∈x.own,p.1.length≤4000000000∧p.2.length≤4000000000
 body:x.body.length≤1000000000000
structure TenC.sz (t:TenC):Prop where
 nm:t.nm.length≤4000000000
 sets:t.sets.length≤1000000000000
 eachS:∀ y∈t.sets,y.sz
 grants:t.grants.length≤1000000000000
 eachG:∀ g∈t.grants,g.1.length≤4000000000∧g.2.1.length≤4000000000
 stages:t.stages.length≤1000000000000
 eachT:∀ y∈t.stages,y.sz
 log:t.log.length≤1000000000000
 eachL:∀ y∈t.log,y.sz
section
variable {w:World} {B:Nat}
theorem SnapR.sz_of {x:SnapR} (h:x.rd w B) (hc:x.con.sz):x.sz:=⟨hc.nm,by rw [h.body.1];exact hc.body,by rw [h.tags.1];exact hc.tags,hc.each,by rw [h.own.1];exact hc.own,hc.props⟩
theorem SnapC.sz_of {x:SnapR} (h:x.rd w B) (hc:x.sz):x.con.sz:=⟨hc.nm,by have:=hc.body;rw [h.body.1] at this;exact this,by have:=hc.tags;rw [h.tags.1] at this;exact this,hc.each,by have:=hc.own;rw [h.own.1] at this;exact this,hc.props⟩
theorem SetR.sz_of {x:SetR} (h:x.rd w B) (hc:x.con.sz):x.sz :=
 ⟨hc.path,hc.org,by rw [h.body.1];exact hc.body,by rw [h.snaps.1];have:=hc.snaps;rwa [show x.con.snaps.length=x.snaps.l.length from List.length_map ..] at this,fun y hy=>SnapR.sz_of (h.each y hy) (hc.each _ (List.mem_map_of_mem hy)),by rw [h.own.1];exact hc.own,hc.props⟩
theorem SetC.sz_of {x:SetR} (h:x.rd w B) (hc:x.sz):x.con.sz:=by
 refine ⟨hc.path,hc.org,by have:=hc.body;rw [h.body.1] at this;exact this,?_,fun y hy=>?_,by have:=hc.own;rw [h.own.1] at this;exact this,hc.props⟩
 ·have:=hc.snaps
  rw [h.snaps.1] at this
  rwa [show x.con.snaps.length=x.snaps.l.length from List.length_map ..]
 ·obtain ⟨z,hz,rfl⟩:=List.mem_map.1 hy
  exact SnapC.sz_of (h.each z hz) (hc.each z hz)
theorem StageR.sz_of {x:StageR} (h:x.rd w B) (hc:x.con.sz):x.sz:=⟨hc.into,hc.nm,hc.dt,by rw [h.own.1];exact hc.own,hc.props,by rw [h.body.1];exact hc.body⟩
theorem StageC.sz_of {x:StageR} (h:x.rd w B) (hc:x.sz):x.con.sz:=⟨hc.into,hc.nm,hc.dt,by have:=hc.own;rw [h.own.1] at this;exact this,hc.props,by have:=hc.body;rw [h.body.1] at this;exact this⟩
theorem TenR.sz_of {t:TenR} (h:t.rd w B) (hc:t.con.sz):t.sz :=
 ⟨hc.nm,by rw [h.sets.1];have:=hc.sets;rwa [show t.con.sets.length=t.sets.l.length from List.length_map ..] at this,fun y hy=>SetR.sz_of (h.eachS y hy) (hc.eachS _ (List.mem_map_of_mem hy)),by rw [h.grants.1];exact hc.grants,hc.eachG,by rw [h.stages.1];have:=hc.stages;rwa [show t.con.stages.length=t.stages.l.length from List.length_map ..] at this,fun y hy=>StageR.sz_of (h.eachG y hy) (hc.eachT _ (List.mem_map_of_mem hy)),by rw [h.log.1];exact hc.log,hc.eachL⟩
theorem TenC.sz_of {t:TenR} (h:t.rd w B) (hc:t.sz):t.con.sz:=by
 refine ⟨hc.nm,?_,fun y hy=>?_,by have:=hc.grants;rw [h.grants.1] at this;exact this,hc.eachG,?_,fun y hy=>?_,by have:=hc.log;rw [h.log.1] at this;exact this,hc.eachL⟩
 ·have:=hc.sets
  rw [h.sets.1] at this
  rwa [show t.con.sets.length=t.sets.l.length from List.length_map ..]
 ·obtain ⟨z,hz,rfl⟩:=List.mem_map.1 hy
  exact SetC.sz_of (h.eachS z hz) (hc.eachS z hz)
 ·have:=hc.stages
  rw [h.stages.1] at this
  rwa [show t.con.stages.length=t.stages.l.length from List.length_map ..]
 ·obtain ⟨z,hz,rfl⟩:=List.mem_map.1 hy
  exact StageC.sz_of (h.eachG z hz) (hc.eachT z hz)
end
theorem TenC.sz.putS {c:TenC} {i:Nat} {s:SetC} (h:c.sz) (hs:s.sz):(c.putS i s).sz:=by
 refine ⟨h.nm,?_,fun y hy=>?_,h.grants,h.eachG,h.stages,h.eachT,h.log,h.eachL⟩
 ·show (c.sets.set i s).length≤_
  rw [List.length_set]
  exact h.sets
 ·rcases List.mem_or_eq_of_mem_set (show y∈c.sets.set i s from hy) with hy | rfl
  ·exact h.eachS y hy
  ·exact hs
def set0C (p:BS):SetC:=⟨p,[],[],[],[]⟩
theorem set0C_sz (p:BS) (hp:p.length≤4000000000):(set0C p).sz:=⟨hp,by simp [set0C],by simp [set0C],by simp [set0C],by simp [set0C],by simp [set0C],by simp [set0C]⟩
/-- a box of results: the cells stored, and loaded again -/
theorem res7 {zs:List Value} (cs:List Value) {W w:World} {g:Nat} (hk:Blk W g 27 zs.toArray) (hb:Below w.heap.size w W) (hg:w.heap.size≤g) (hz:zs.length=7:=by rfl) (hc:cs.length=7:=by rfl) :
  ∃ WR,WR=W.setCells g 0 cs.toArray.toList∧Hid (W.there g 0 7)∧Hid ((loadVar 27 ⟨g,0,none⟩).run Tryz.prog WR=.ok (.agg cs.toArray) WR)∧Hid (Below w.heap.size w WR)∧W.grownBy WR (some g):=by
 have k4:=Blk.setCells (g:=g) cs W [] zs (by rw [hz,hc]) hk
 simp only [List.length_nil,List.nil_append] at k4
 refine ⟨_,rfl,hk.there 7 (by simp [hz]),?_,below_setCells hg cs W 0 hb,grown_cellsS g cs W 0⟩
 exact run_loadVar_at _ ⟨g,0,none⟩ 27 cs _ (fun j v hv=>by rw [addr_add0,k4.cell j,zF];exact hv) Tryz.underlying27 rfl (by rw [hc];kernel_rfl)
/-! ### what is told -/
/-- a tenant and an error: the error's tenant is the zero one; else it lies in memory of its own -/
def TenPost (w:World) (c:Int×TenC) (e:Ending) (w':World):Prop:=∃ v,e=.returned (.tuple #[v,.int .i64 c.1])∧Below w.heap.size w w' ∧
 ((c.1≠0∧v=ZEROT)∨(c.1=0∧∃ y:TenR,v=y.val∧TenO w' w.heap.size y∧y.con=c.2))
theorem tenPost_err {w w':World} {c:Int×TenC} {E:Int} {c':TenC} (hc:c=(E,c')) (hE:E≠0) (hb:Below w.heap.size w w'):TenPost w c (.returned (.tuple #[ZEROT,.int .i64 E])) w':=by
 subst hc
 exact ⟨_,rfl,hb,.inl ⟨hE,rfl⟩⟩
theorem tenPost_ok {w w':World} {c:Int×TenC} {c':TenC} (hc:c=(0,c')) (hb:Below w.heap.size w w') (y:TenR) (ho:TenO w' w.heap.size y) (hy:y.con=c'):TenPost w c (.returned (.tuple #[y.val,.int .i64 0])) w':=by
 subst hc
 exact ⟨_,rfl,hb,.inr ⟨rfl,y,rfl,ho,hy⟩⟩
def TenC.find (c:TenC) (p:BS):Int:=firstI (fun s:SetC=>s.path == p) c.sets
theorem findS_con (t:TenR) (p:BS):findS t.sets.l p=t.con.find p:=by
 unfold findS TenC.find
 exact (firstI_map SetR.con (fun s:SetC=>s.path == p) t.sets.l).symm
/-- what is settled -/
def TenC.settle (c:TenC):Int×TenC:=if c.E=9 then (9,c) else if c.quota<(c.charge:Int) then (42,c) else (0,c)
theorem settleT_any (t:TenR) (w:World) (B:Nat) (hB:B≤w.heap.size) (hr:t.rd w B) (hz:t.sz) (hmx:HasMax w) :
  Calls Tryz.prog 11 #[t.val] w (TenPost w t.con.settle):=by
 refine (settle_any t w B hB hr hz hmx).mono ?_
 rintro e w' ⟨v,E,rfl,hb,h⟩
 rw [tenE_con,tenSum_con t w B hr] at h
 unfold TenPost TenC.settle
 rcases h with ⟨h1,h2,h3⟩ | ⟨h1,h2,h3,h4⟩ | ⟨h1,h2,h3,y,h4,h5,h6⟩
 ·rw [if_pos h1]
  exact ⟨v,by rw [h2],hb,.inl ⟨(by decide:(9:Int)≠0),h3⟩⟩
 ·rw [if_neg (by rw [h1];decide),if_pos (show t.con.quota<_ from h2)]
  exact ⟨v,by rw [h3],hb,.inl ⟨(by decide:(42:Int)≠0),h4⟩⟩
 ·rw [if_neg (by rw [h1];decide),if_neg (show ¬ t.con.quota<_ from by show ¬ t.quota<_;omega)]
  exact ⟨v,by rw [h3],hb,.inr ⟨rfl,y,h4,h5,((TenR.eqv_iff _ _).1 h6).symm⟩⟩
/-! ### what stands under a set, its clones, what is held -/
end Go.Proofs.YtiojfffgiejibaaGreatDoor
namespace Go.Proofs.YtiojfffgiejibaaGreatDoor
open Go.RowKit
structure SetOk (l:List SetC) (s:SetC):Prop where
 path:pathB s.path=true
 par:∀ u,parB s.path=some u→∃ x∈l,x.path=u
 own:propsB s.own=true
 body:okL s.body=true
 snaps:snapsB (s.snaps.map SnapC.r)=true
 org:s.org=[]∨∃ a b,splitL s.org=some (a,b)∧a≠s.path∧∃ x,l.find? (fun x=>x.path == a)=some x∧∃ y∈x.snaps,y.nm=b
theorem setB_iff (l:List SetC) (s:SetC):setB (l.map SetC.r) s.r=true↔SetOk l s:=by
 have hpar:(match parB s.path with | none=>true | some u=>(l.map SetC.r).any fun x=>x.path == u)=true↔∀ u,parB s.path=some u→∃ x∈l,x.path=u:=by
  cases hp:parB s.path with
  | none=>exact ⟨fun _ u h=>by (cases h),fun _=>rfl⟩
  | some u =>
   simp only [List.any_map]
   constructor
   ·intro h v hv
    cases hv
    obtain ⟨x,hx,e⟩:=List.any_eq_true.1 h
    exact ⟨x,hx,by simpa [SetC.r] using e⟩
   ·intro h
    obtain ⟨x,hx,e⟩:=h u rfl
    exact List.any_eq_true.2 ⟨x,hx,by simpa [SetC.r] using e⟩
 have horg:originB (l.map SetC.r) s.r=true↔(s.org=[]∨∃ a b,splitL s.org=some (a,b)∧a≠s.path∧∃ x,l.find? (fun x=>x.path == a)=some x∧∃ y∈x.snaps,y.nm=b):=by
  unfold originB
  show (s.org == [] || match splitL s.org with
   | none=>false
   | some (p,n)=>!(p == s.path) && match (l.map SetC.r).find? (fun x=>x.path == p) with
    | none=>false
    | some x=>x.snaps.l.any fun y=>y.nm == n)=true↔_
  rw [Bool.or_eq_true]
  refine or_congr tZ4 ?_
  cases hsp:splitL s.org with
  | none=>simp
  | some v =>
   obtain ⟨a,b⟩:=v
   simp only [Bool.and_eq_true,find_map]
   have e:(l.find? fun x:SetC=>(SetC.r x).path == a)=l.find? fun x=>x.path == a:=rfl
   rw [e]
   constructor
   ·rintro ⟨h1,h2⟩
    refine ⟨a,b,rfl,by simpa using h1,?_⟩
    cases hf:l.find? (fun x=>x.path == a) with
    | none=>rw [hf] at h2;cases h2
    | some x =>
     rw [hf] at h2
     simp only [Option.map_some] at h2
     have h2:((x.snaps.map SnapC.r).any fun y=>y.nm == b)=true:=h2
     rw [List.any_map] at h2
     obtain ⟨y,hy,ey⟩:=List.any_eq_true.1 h2
     exact ⟨x,rfl,y,hy,by simpa [SnapC.r] using ey⟩
   ·rintro ⟨a',b',h0,h1,x,hf,y,hy,ey⟩
    cases h0
    refine ⟨by simpa using h1,?_⟩
    rw [hf]
    show ((x.snaps.map SnapC.r).any fun y=>y.nm == b)=true
    rw [List.any_map]
    exact List.any_eq_true.2 ⟨y,hy,by simpa [SnapC.r] using ey⟩
 unfold setB
 rw [Bool.and_eq_true,Bool.and_eq_true,Bool.and_eq_true,Bool.and_eq_true,Bool.and_eq_true,horg]
 constructor
 ·rintro ⟨⟨⟨⟨⟨h1,h2⟩,h3⟩,h4⟩,h5⟩,h6⟩
  exact ⟨h1,hpar.1 h2,h3,h4,h5,h6⟩
 ·rintro ⟨h1,h2,h3,h4,h5,h6⟩
  exact ⟨⟨⟨⟨⟨h1,hpar.2 h2⟩,h3⟩,h4⟩,h5⟩,h6⟩
structure SetsOk (l:List SetC):Prop where
 len:l.length≤32
 root:∃ x∈l,x.path=[]
 each:∀ s∈l,SetOk l s
 asc:l.Pairwise fun a b=>Op.bytesLess a.path b.path=true
theorem setsB_iff (l:List SetC):setsB (l.map SetC.r)=true↔SetsOk l:=by
 unfold setsB
 rw [Bool.and_eq_true,Bool.and_eq_true,setsFrom_iff]
 simp only [decide_eq_true_eq,List.length_map,List.any_map]
 constructor
 ·rintro ⟨⟨h1,h2⟩,h3,h4,-⟩
  obtain ⟨x,hx,e⟩:=List.any_eq_true.1 h2
  exact ⟨h1,⟨x,hx,by simpa [SetC.r] using e⟩,fun s hs=>(setB_iff l s).1 (h3 _ (List.mem_map_of_mem hs)),List.pairwise_map.1 h4⟩
 ·rintro ⟨h1,⟨x,hx,e⟩,h3,h4⟩
  refine ⟨⟨h1,List.any_eq_true.2 ⟨x,hx,by simpa [SetC.r] using e⟩⟩,fun s hs=>?_,List.pairwise_map.2 h4,fun q hq=>by cases hq⟩
  obtain ⟨y,hy,rfl⟩:=List.mem_map.1 hs
  exact (setB_iff l y).2 (h3 y hy)
structure TenC.Ok (c:TenC):Prop where
 nm:nameB c.nm=true
 quota:amt c.quota 0=true
 next:amt c.next 1=true
 sets:SetsOk c.sets
 grants:grantsB c.grants=true
 stages:stagesB (c.stages.map StageC.r)=true
 log:logB c.log=true
theorem TenC.E_ok (c:TenC):c.E=0↔c.Ok:=by
 unfold TenC.E tenE
 constructor
 ·intro h
  have hb:tenB c.r=true:=by
   by_cases hb:tenB c.r=true
   ·exact hb
   ·rw [if_neg hb] at h;exact absurd h tZ3
  unfold tenB at hb
  rw [Bool.and_eq_true,Bool.and_eq_true,Bool.and_eq_true,Bool.and_eq_true,Bool.and_eq_true,Bool.and_eq_true] at hb
  obtain ⟨⟨⟨⟨⟨⟨h1,h2⟩,h3⟩,h4⟩,h5⟩,h6⟩,h7⟩:=hb
  exact ⟨h1,h2,h3,(setsB_iff _).1 h4,h5,h6,h7⟩
 ·rintro ⟨h1,h2,h3,h4,h5,h6,h7⟩
  rw [if_pos]
  unfold tenB
  rw [Bool.and_eq_true,Bool.and_eq_true,Bool.and_eq_true,Bool.and_eq_true,Bool.and_eq_true,Bool.and_eq_true]
  exact ⟨⟨⟨⟨⟨⟨h1,h2⟩,h3⟩,(setsB_iff _).2 h4⟩,h5⟩,h6⟩,h7⟩
/-! ### a set less -/
/-! ### a set turned -/
end Go.Proofs.YtiojfffgiejibaaGreatDoor
namespace Go.Proofs.YtiojfffgiejibaaGreatDoor
open Go.RowKit
def TenC.clones (c:TenC) (p q:BS):Nat:=(c.sets.filter fun s=>clP p q s.org).length
theorem clones_con (t:TenR) (p q:BS):(clonesL t.sets.l p q).length=t.con.clones p q:=by
 unfold clonesL TenC.clones
 rw [List.length_map]
 show _=((t.sets.l.map SetR.con).filter _).length
 rw [List.filter_map,List.length_map]
 rfl
end Go.Proofs.YtiojfffgiejibaaGreatDoor
namespace Go.Proofs.YtiojfffgiejibaaGreatDoor
open Go.RowKit
def SetC.findN (s:SetC) (n:BS):Int:=firstI (fun x:SnapC=>x.nm == n) s.snaps
theorem findN_con (s:SetR) (n:BS):findN s.snaps.l n=s.con.findN n:=(firstI_map SnapR.con (fun x:SnapC=>x.nm == n) s.snaps.l).symm
/-- places and an error, by content -/
def TenC.askS (c:TenC) (p n:BS) (bad:Bool):Int×Int×Int :=
 if c.E=9 then (0,0,9) else if pathB p=false∨nameB n=false∨bad=true then (0,0,31) else
  match c.sets.find? (fun s=>s.path == p) with
  | none=>(0,0,71)
  | some s=>(c.find p,s.findN n,0)
theorem askS_con (t:TenR) (p n:BS) (bad:Bool):askI t p n bad=t.con.askS p n bad:=by
 unfold askI TenC.askS
 rw [tenE_con,show t.con.sets=t.sets.l.map SetR.con from rfl,find_map]
 have e:(t.sets.l.find? fun x:SetR=>(SetR.con x).path == p)=t.sets.l.find? fun x=>x.path == p:=rfl
 rw [e]
 cases t.sets.l.find? (fun x=>x.path == p) with
 | none=>rfl
 | some s=>simp only [Option.map_some];rw [findS_con,findN_con]
def TenC.foundS (c:TenC) (p n:BS) (bad:Bool):Int×Int×Int :=
 if (c.askS p n bad).2.2=0∧(c.askS p n bad).2.1<0 then ((c.askS p n bad).1,(c.askS p n bad).2.1,71) else c.askS p n bad
theorem foundS_con (t:TenR) (p n:BS) (bad:Bool):foundI t p n bad=t.con.foundS p n bad:=by
 unfold foundI TenC.foundS
 rw [askS_con]
/-- a set that is found -/
structure AtS (c:TenC) (p n:BS) (bad:Bool) (k:Nat):Prop where
 E:c.E=0
 path:pathB p=true
 name:nameB n=true
 good:bad=false
 lt:k<c.sets.length
 at_:(c.sets[k]'lt).path=p
 find:c.find p=(k:Int)
theorem TenC.askS_cases (c:TenC) (p n:BS) (bad:Bool):(∃ E:Int,(E=9∨E=31∨E=71)∧c.askS p n bad=(0,0,E))∨∃ k,∃ h:AtS c p n bad k,c.askS p n bad=((k:Int),(c.sets[k]'h.lt).findN n,0):=by
 unfold TenC.askS
 rcases c.E_two with hE | hE
 ·rw [if_neg (by rw [hE];decide)]
  by_cases hb:pathB p=false∨nameB n=false∨bad=true
  ·rw [if_pos hb]
   exact .inl ⟨31,.inr (.inl rfl),rfl⟩
  ·rw [if_neg hb]
   have h1:pathB p=true:=by cases h:pathB p with
    | true=>rfl
    | false=>exact absurd (.inl h) hb
   have h2:nameB n=true:=by cases h:nameB n with
    | true=>rfl
    | false=>exact absurd (.inr (.inl h)) hb
   have h3:bad=false:=by cases h:bad with
    | false=>rfl
    | true=>exact absurd (.inr (.inr h)) hb
   rcases firstI_cases (fun s:SetC=>s.path == p) c.sets with ⟨e1,e2⟩ | ⟨k,hk,e1,e2⟩
   ·rw [e2]
    exact .inl ⟨71,.inr (.inr rfl),rfl⟩
   ·have e1:c.find p=(k:Int):=e1
    rw [e2]
    exact .inr ⟨k,⟨hE,h1,h2,h3,hk,by simpa using List.find?_some e2,e1⟩,by simp only [e1]⟩
 ·rw [if_pos hE]
  exact .inl ⟨9,.inl rfl,rfl⟩
/-- a snapshot that is found -/
theorem findN_cases (s:SetC) (n:BS):(s.findN n=-1∧∀ x∈s.snaps,x.nm≠n)∨∃ i,∃ hi:i<s.snaps.length,s.findN n=(i:Int)∧(s.snaps[i]'hi).nm=n:=by
 rcases firstI_cases (fun x:SnapC=>x.nm == n) s.snaps with ⟨e1,e2⟩ | ⟨k,hk,e1,e2⟩
 ·refine .inl ⟨e1,fun x hx=>?_⟩
  have:=List.find?_eq_none.1 e2 x hx
  simpa using this
 ·exact .inr ⟨k,hk,e1,by simpa using List.find?_some e2⟩
theorem TenC.foundS_cases (c:TenC) (p n:BS) (bad:Bool):(∃ a k E:Int,(E=9∨E=31∨E=71)∧c.foundS p n bad=(a,k,E))∨∃ k,∃ h:AtS c p n bad k,∃ i,∃ hi:i<(c.sets[k]'h.lt).snaps.length,c.foundS p n bad=((k:Int),(i:Int),0)∧(c.sets[k]'h.lt).findN n=(i:Int)∧((c.sets[k]'h.lt).snaps[i]'hi).nm=n:=by
 unfold TenC.foundS
 rcases c.askS_cases p n bad with ⟨E,hE,e⟩ | ⟨k,h,e⟩
 ·rw [e]
  rw [if_neg (by rintro ⟨h1,-⟩;rcases hE with rfl | rfl | rfl <;> exact absurd h1 tZ3)]
  exact .inl ⟨0,0,E,hE,rfl⟩
 ·rw [e]
  rcases findN_cases (c.sets[k]'h.lt) n with ⟨e1,-⟩ | ⟨i,hi,e1,e2⟩
  ·rw [e1,if_pos ⟨rfl,(by decide:(-1:Int)<0)⟩]
   exact .inl ⟨_,_,71,.inr (.inr rfl),rfl⟩
  ·rw [e1,if_neg (by rintro ⟨-,h1⟩;have h1:(i:Int)<0:=h1;omega)]
   exact .inr ⟨k,h,i,hi,rfl,e1,e2⟩
def guidC (nx:Int) (l:List SnapC):Int:=match l.getLast? with
 | none=>nx
 | some x=>max nx (x.gd+1)
theorem guid_con (nx:Int) (l:List SnapR):guidI nx l=guidC nx (l.map SnapR.con):=by
 unfold guidI guidC
 rw [List.getLast?_map]
 cases l.getLast? <;> rfl
/-! ### what is made -/
def SetC.addSnap (s:SetC) (x:SnapC):SetC:=⟨s.path,s.org,s.body,s.snaps++[x],s.own⟩
def SetC.dropSnap (s:SetC) (i:Nat):SetC:=⟨s.path,s.org,s.body,s.snaps.take i++s.snaps.drop (i+1),s.own⟩
def TenC.nextN (c:TenC) (n:Int):TenC:=⟨c.nm,c.quota,n,c.sets,c.grants,c.stages,c.log⟩
def snapOf (s:SetC) (n:BS) (g:Int):SnapC:=⟨n,g,s.body,[],s.own⟩
def TenC.snapped (c:TenC) (k:Nat) (s:SetC) (n:BS) (g:Int):TenC:=(c.putS k (s.addSnap (snapOf s n g))).nextN (g+1)
def TenC.snapshot (c:TenC) (p n:BS):Int×TenC :=
 if (c.askS p n false).2.2≠0 then ((c.askS p n false).2.2,c) else match c.sets[(c.askS p n false).1.toNat]? with
 | none=>(71,c)
 | some s=>if 0≤(c.askS p n false).2.1 then (6,c) else if s.snaps.length=16 then (3,c) else if 1099511627776≤guidC c.next s.snaps then (15,c) else (c.snapped (c.askS p n false).1.toNat s n (guidC c.next s.snaps)).settle
def TenC.guidAt (c:TenC) (p:BS):Int:=match c.sets[(c.find p).toNat]? with
 | none=>0
 | some s=>guidC c.next s.snaps
def TenC.unsnap (c:TenC) (p n:BS):Int×TenC :=
 if (c.foundS p n false).2.2≠0 then ((c.foundS p n false).2.2,c) else if 0<c.clones p n then (44,c) else match c.sets[(c.foundS p n false).1.toNat]? with
 | none=>(71,c)
 | some s=>match s.snaps[(c.foundS p n false).2.1.toNat]? with
  | none=>(71,c)
  | some x=>if 0<x.tags.length then (43,c) else (0,c.putS (c.foundS p n false).1.toNat (s.dropSnap (c.foundS p n false).2.1.toNat))
def SetC.from_ (a b:BS) (s:SetC):SetC:=⟨s.path,if s.org=a then b else s.org,s.body,s.snaps,s.own⟩
/-! ### what may be -/
structure SnapsOk (l:List SnapC):Prop where
 len:l.length≤16
 each:∀ x∈l,snapOk x.r=true∧nameB x.nm=true
 asc:l.Pairwise fun a b=>a.gd<b.gd
 nodup:(l.map SnapC.nm).Nodup
theorem snapsFrom_iff (p:Option Int) (l:List SnapR):snapsFrom p l=true↔(∀ x∈l,snapOk x=true)∧(l.Pairwise fun a b=>a.gd<b.gd)∧∀ q,p=some q→∀ x∈l,q<x.gd:=by
 induction l generalizing p with
 | nil=>cases p <;> simp [snapsFrom]
 | cons y l ih =>
  rw [snapsFrom_cons,Bool.and_eq_true,Bool.and_eq_true,ih]
  constructor
  ·rintro ⟨⟨h1,h2⟩,h3,h4,h5⟩
   refine ⟨fun x hx=>?_,List.pairwise_cons.2 ⟨fun z hz=>h5 _ rfl z hz,h4⟩,fun q hq x hx=>?_⟩
   ·exact mZ30
   ·subst hq
    have h2:q<y.gd:=by simpa using h2
    rcases List.mem_cons.1 hx with rfl | hx
    ·exact h2
    ·have:=h5 _ rfl x hx
     omega
  ·rintro ⟨h1,h2,h3⟩
   obtain ⟨h4,h5⟩:=List.pairwise_cons.1 h2
   refine ⟨⟨h1 y List.mem_cons_self,?_⟩,fun x hx=>h1 x (List.mem_cons_of_mem _ hx),h5,fun q hq x hx=>by cases hq;exact h4 x hx⟩
   cases p with
   | none=>rfl
   | some q=>simpa using h3 q rfl y List.mem_cons_self
theorem unlikeF_iff (acc l:List BS):unlikeF acc l=true↔(∀ x∈l,nameB x=true)∧l.Nodup∧∀ x∈l,x ∉ acc:=by
 induction l generalizing acc with
 | nil=>simp [unlikeF]
 | cons y l ih =>
  rw [unlikeF_cons,Bool.and_eq_true,Bool.and_eq_true,ih,Bool.not_eq_true',← Bool.not_eq_true,List.contains_iff_mem]
  constructor
  ·rintro ⟨⟨h1,h2⟩,h3,h4,h5⟩
   refine ⟨fun x hx=>?_,List.nodup_cons.2 ⟨fun hy=>h5 y hy tZ4,h4⟩,fun x hx=>?_⟩
   ·exact mZ30
   ·rcases List.mem_cons.1 hx with rfl | hx
    ·exact h2
    ·exact fun h=>h5 x hx (by simp [h])
  ·rintro ⟨h1,h2,h3⟩
   obtain ⟨h4,h5⟩:=List.nodup_cons.1 h2
   refine ⟨⟨h1 y List.mem_cons_self,h3 y List.mem_cons_self⟩,fun x hx=>h1 x (List.mem_cons_of_mem _ hx),h5,fun x hx h=>?_⟩
   rcases List.mem_append.1 h with h | h
   ·exact h3 x (List.mem_cons_of_mem _ hx) h
   ·rw [List.mem_singleton] at h
    subst h
    exact h4 hx
theorem snapsB_iff (l:List SnapC):snapsB (l.map SnapC.r)=true↔SnapsOk l:=by
 unfold snapsB unlikeB
 rw [Bool.and_eq_true,Bool.and_eq_true,snapsFrom_iff,unlikeF_iff]
 simp only [decide_eq_true_eq,List.length_map,List.map_map]
 have e:((fun x:SnapR=>x.nm) ∘ SnapC.r)=SnapC.nm:=rfl
 rw [e]
 constructor
 ·rintro ⟨⟨h1,h2,h3,-⟩,h4,h5,-⟩
  exact ⟨h1,fun x hx=>⟨h2 _ (List.mem_map_of_mem hx),h4 _ (List.mem_map_of_mem hx)⟩,(List.pairwise_map (f:=SnapC.r)).1 h3,h5⟩
 ·rintro ⟨h1,h2,h3,h4⟩
  refine ⟨⟨h1,fun x hx=>?_,(List.pairwise_map (f:=SnapC.r)).2 h3,fun q hq=>by cases hq⟩,fun x hx=>?_,h4,fun x hx=>by simp⟩
  ·obtain ⟨y,hy,rfl⟩:=List.mem_map.1 hx
   exact (h2 y hy).1
  ·obtain ⟨y,hy,rfl⟩:=List.mem_map.1 hx
   exact (h2 y hy).2
theorem SetOk.all {l:List SetC} {z:SetC} (h:SetOk l z):propsB z.own=true∧okL z.body=true∧SnapsOk z.snaps∧(z.org=[]∨∃ a b,splitL z.org=some (a,b)∧a≠z.path∧∃ x∈l,x.path=a∧∃ y∈x.snaps,y.nm=b):=by
 refine ⟨h.own,h.body,(snapsB_iff _).1 h.snaps,?_⟩
 rcases h.org with h | ⟨a,b,h1,h2,x,hf,y,hy,e⟩
 ·exact .inl h
 ·exact .inr ⟨a,b,h1,h2,x,List.mem_of_find?_eq_some hf,by simpa using List.find?_some hf,y,hy,e⟩
/-! ### another name -/
end Go.Proofs.YtiojfffgiejibaaGreatDoor
namespace Go.Proofs.YtiojfffgiejibaaGreatDoor
open Go.RowKit
def SetR.withSn (x:SetR) (s:FS SnapR):SetR:=⟨x.path,x.org,x.body,s,x.own⟩
def SetC.withSn (x:SetC) (l:List SnapC):SetC:=⟨x.path,x.org,x.body,l,x.own⟩
section
variable {w w1:World} {base:Nat}
theorem own_aside {T:TypeId} {k n:Nat} {v:Value} {xs:List Value} {s:FS SnapR} (hs:s.own w base 58 5 encSnap) (hg:w.grownBy w1 s.val.ownBlock) (hT:T≠58) (hr:w.ownsRow base T k v n xs):w1.ownsRow base T k v n xs:=by
 cases he:s.val.ownBlock with
 | none=>rw [he] at hg;exact hr.kept hg (by cases v.ownBlock <;> simp)
 | some g =>
  rw [he] at hg
  refine hr.kept hg (.inr ?_)
  rcases hs.2 with h0
  rcases h0.2 with ⟨e,_⟩ | ⟨g',cap,cur,e,_,hh,_⟩
  ·rw [e] at he;simp [Value.ownBlock] at he
  ·rw [e] at he
   have he:g'=g:=tZ99
   subst he
   exact own_blk_ne hr (show Blk w g' 58 cur from hh) hT
/-- what stays when only the row of one set's snapshots is changed -/
structure Aside (w1:World) (base:Nat) (t:TenR) (k:Nat) (hk:k<t.sets.l.length):Prop where
 sets:t.sets.own w1 base 56 5 encSet
 others:∀ j (hj:j<t.sets.l.length),j≠k→SetO w1 base (t.sets.l[j]'hj)
 body:(t.sets.l[k]'hk).body.own w1 base 97 2 encB
 own:(t.sets.l[k]'hk).own.own w1 base 100 2 encP
 olds:∀ y∈(t.sets.l[k]'hk).snaps.l,SnapO w1 base y
 grants:t.grants.own w1 base 104 3 encG
 stages:t.stages.own w1 base 77 21 encStage
 eachG:∀ y∈t.stages.l,StageO w1 base y
 log:t.log.own w1 base 106 4 encEntry
theorem TenO.aside {t:TenR} (h:TenO w base t) (hp:t.sets.l.Pairwise ApartS) (k:Nat) (hk:k<t.sets.l.length) (hg:w.grownBy w1 (t.sets.l[k]'hk).snaps.val.ownBlock):Aside w1 base t k hk:=by
 have hS:=(h.eachS _ (List.getElem_mem hk)).snaps
 have a:∀ {T:TypeId} {k n:Nat} {v:Value} {xs:List Value},T≠58→w.ownsRow base T k v n xs→w1.ownsRow base T k v n xs:=fun hT hr=>own_aside hS hg hT hr
 have aS:∀ y,SnapO w base y→SnapO w1 base y:=fun y hy=>⟨⟨hy.body.1,a tZ3 hy.body.2⟩,⟨hy.tags.1,a tZ3 hy.tags.2⟩,⟨hy.own.1,a tZ3 hy.own.2⟩⟩
 have hx:=h.eachS _ (List.getElem_mem hk)
 refine ⟨⟨h.sets.1,a tZ3 h.sets.2⟩,fun j hj hne=>?_,⟨hx.body.1,a tZ3 hx.body.2⟩,⟨hx.own.1,a tZ3 hx.own.2⟩,fun y hy=>aS y (hx.each y hy),⟨h.grants.1,a tZ3 h.grants.2⟩,⟨h.stages.1,a tZ3 h.stages.2⟩,fun y hy=>⟨⟨(h.eachG y hy).own.1,a tZ3 (h.eachG y hy).own.2⟩,⟨(h.eachG y hy).body.1,a tZ3 (h.eachG y hy).body.2⟩⟩,⟨h.log.1,a tZ3 h.log.2⟩⟩
 have hy:=h.eachS _ (List.getElem_mem hj)
 refine ⟨⟨hy.body.1,a tZ3 hy.body.2⟩,⟨hy.snaps.1,?_⟩,fun z hz=>aS z (hy.each z hz),⟨hy.own.1,a tZ3 hy.own.2⟩⟩
 cases he:(t.sets.l[k]'hk).snaps.val.ownBlock with
 | none=>rw [he] at hg;exact hy.snaps.2.kept hg (by cases (t.sets.l[j]'hj).snaps.val.ownBlock <;> simp)
 | some g =>
  rw [he] at hg
  refine hy.snaps.2.kept hg (.inr fun e=>?_)
  rcases Nat.lt_or_gt_of_ne hne with h1 | h1
  ·exact List.pairwise_iff_getElem.1 hp j k hj hk h1 g e he
  ·exact List.pairwise_iff_getElem.1 hp k j hk hj h1 g he e
theorem mem_set_at {α:Type} {l:List α} {k:Nat} {x y:α} (h:y∈l.set k x):y=x∨∃ j,∃ hj:j<l.length,j≠k∧y=l[j]'hj:=by
 obtain ⟨j,hj,rfl⟩:=List.mem_iff_getElem.1 h
 rw [List.length_set] at hj
 by_cases hjk:k=j
 ·subst hjk
  exact .inl (List.getElem_set_self ..)
 ·exact .inr ⟨j,hj,fun e=>hjk e.symm,List.getElem_set_ne hjk ..⟩
/-- the row is another one, and its address is stored -/
theorem Aside.store {t:TenR} {k:Nat} {hk:k<t.sets.l.length} (h:Aside w1 base t k hk) (s':FS SnapR) (hs:s'.own w1 base 58 5 encSnap) (hm:∀ y∈s'.l,SnapO w1 base y) {gS:Nat} (hA:t.sets.A=some ⟨gS,0,none⟩) :
  TenO (w1.setCell ⟨gS,k*5+3,none⟩ s'.val) base (t.putS k ((t.sets.l[k]'hk).withSn s'))∧w1.grownBy (w1.setCell ⟨gS,k*5+3,none⟩ s'.val) (some gS):=by
 obtain ⟨g,cs,hA2,_,hbk⟩:=h.sets.blk (by have:=h.sets.1;omega)
 rw [hA] at hA2
 injection hA2 with hA2
 injection hA2 with hA2
 subst hA2
 obtain ⟨h1,h2⟩:=h.sets.field (fun _=>rfl) hA k 3 tZ3 ((t.sets.l[k]'hk).withSn s') s'.val (fun z hz=>by rw [List.getElem?_eq_getElem hk] at hz;cases hz;rfl)
 have hx:SetO w1 base ((t.sets.l[k]'hk).withSn s'):=⟨h.body,hs,hm,h.own⟩
 refine ⟨⟨h1,fun y hy=>?_,h.grants.keptT h2 hbk tZ3,h.stages.keptT h2 hbk tZ3,fun y hy=>(h.eachG y hy).keptS h2 hbk,h.log.keptT h2 hbk tZ3⟩,h2⟩
 rcases mem_set_at (show y∈t.sets.l.set k _ from hy) with rfl | ⟨j,hj,hne,rfl⟩
 ·exact hx.keptS h2 hbk
 ·exact (h.others j hj hne).keptS h2 hbk
/-- the row is changed where it lies -/
theorem Aside.place {t:TenR} {k:Nat} {hk:k<t.sets.l.length} (h:Aside w1 base t k hk) (s':FS SnapR) (hs:s'.own w1 base 58 5 encSnap) (hm:∀ y∈s'.l,SnapO w1 base y) (hv:s'.val=(t.sets.l[k]'hk).snaps.val) :
  TenO w1 base (t.putS k ((t.sets.l[k]'hk).withSn s')):=by
 have he:cellsK encSet (t.sets.l.set k ((t.sets.l[k]'hk).withSn s'))=cellsK encSet t.sets.l:=by
  unfold cellsK
  rw [List.flatMap_def,List.flatMap_def,List.map_set]
  congr 1
  have:encSet ((t.sets.l[k]'hk).withSn s')=(t.sets.l.map encSet)[k]'tZ157:=by
   rw [List.getElem_map]
   show [strV (t.sets.l[k]'hk).path,strV (t.sets.l[k]'hk).org,(t.sets.l[k]'hk).body.val,s'.val,(t.sets.l[k]'hk).own.val]=_
   rw [hv]
   rfl
  rw [this,List.set_getElem_self]
 refine ⟨⟨?_,?_⟩,fun y hy=>?_,h.grants,h.stages,h.eachG,h.log⟩
 ·show t.sets.n=(t.sets.l.set k _).length
  rw [List.length_set]
  exact h.sets.1
 ·show w1.ownsRow _ _ _ _ _ (cellsK encSet (t.sets.l.set k _))
  rw [he]
  exact h.sets.2
 ·rcases mem_set_at (show y∈t.sets.l.set k _ from hy) with rfl | ⟨j,hj,hne,rfl⟩
  ·exact ⟨h.body,hs,hm,h.own⟩
  ·exact h.others j hj hne
end
end Go.Proofs.YtiojfffgiejibaaGreatDoor
namespace Go.Proofs.YtiojfffgiejibaaGreatDoor
open Go.RowKit
theorem results_cell_tmp2 {P:Program} {fn:Func} {tmps:Array Value} {a b c:Tmp} {t:TypeId} {ad:Addr} {v u x:Value} {w:World} (hr:fn.results=#[.cell a t,.tmp b,.tmp c]) (ha:tmps[a]?.getD undef=.pointer (some ad)) (hl:(loadVar t ad).run P w=.ok v w) (hu:tmps[b]?.getD undef=u:=by rfl) (hx:tmps[c]?.getD undef=x:=by rfl):(results fn tmps).run P w=.ok (.tuple #[v,u,x]) w:=by
 simp [results,hr,ha,hl,hu,hx,asAddr]
theorem found_way (t:TenR) (sl:List SetR) (hs:t.sets.l=sl) (p n:BS) (bad:Bool) (R:Int×Int×Int) (hR:R=t.con.foundS p n bad) :
  (∃ a k E:Int,(E=9∨E=31∨E=71)∧R=(a,k,E))∨∃ (k i:Nat) (hk:k<sl.length) (hi:i<(sl[k]'hk).snaps.l.length),R=((k:Int),(i:Int),0)∧AtS t.con p n bad k∧t.con.sets[k]?=some (sl[k]'hk).con∧(sl[k]'hk).con.snaps[i]?=some ((sl[k]'hk).snaps.l[i]'hi).con∧((sl[k]'hk).snaps.l[i]'hi).nm=n:=by
 subst hs
 rcases t.con.foundS_cases p n bad with ⟨a,k,E,h1,h2⟩ | ⟨k,ha,i,hi,h1,h2,h3⟩
 ·exact .inl ⟨a,k,E,h1,hR.trans h2⟩
 ·have hk:k<t.sets.l.length:=tZ59
  have e:(t.con.sets[k]'ha.lt)=(t.sets.l[k]'hk).con:=List.getElem_map ..
  have hi':i<(t.sets.l[k]'hk).snaps.l.length:=by
   rw [e] at hi
   have:(t.sets.l[k]'hk).con.snaps.length=(t.sets.l[k]'hk).snaps.l.length:=List.length_map ..
   omega
  have e2:(t.sets.l[k]'hk).con.snaps[i]?=some ((t.sets.l[k]'hk).snaps.l[i]'hi').con:=by
   show ((t.sets.l[k]'hk).snaps.l.map SnapR.con)[i]?=_
   rw [List.getElem?_map,List.getElem?_eq_getElem hi']
   rfl
  refine .inr ⟨k,i,hk,hi',hR.trans h1,ha,by rw [List.getElem?_eq_getElem ha.lt,e],e2,?_⟩
  have h4:(t.sets.l[k]'hk).con.snaps[i]?=some ((t.con.sets[k]'ha.lt).snaps[i]'hi):=by rw [← e];exact List.getElem?_eq_getElem hi
  rw [e2] at h4
  injection h4 with h4
  rw [← h4] at h3
  exact h3
theorem asked_way (t:TenR) (sl:List SetR) (hs:t.sets.l=sl) (p n:BS) (bad:Bool) (R:Int×Int×Int) (hR:R=t.con.askS p n bad) :
  (∃ E:Int,(E=9∨E=31∨E=71)∧R=(0,0,E))∨∃ (k:Nat) (hk:k<sl.length),R=((k:Int),(sl[k]'hk).con.findN n,0)∧AtS t.con p n bad k∧t.con.sets[k]?=some (sl[k]'hk).con:=by
 subst hs
 rcases t.con.askS_cases p n bad with ⟨E,h1,h2⟩ | ⟨k,ha,h1⟩
 ·exact .inl ⟨E,h1,hR.trans h2⟩
 ·have hk:k<t.sets.l.length:=tZ59
  have e:(t.con.sets[k]'ha.lt)=(t.sets.l[k]'hk).con:=List.getElem_map ..
  rw [e] at h1
  exact .inr ⟨k,hk,hR.trans h1,ha,by rw [List.getElem?_eq_getElem ha.lt,e]⟩
section
variable {c:TenC} {p n tq:BS} {a k' E:Int} {k i:Nat} {s:SetC} {y:SnapC}
theorem unsnap_bad (h:c.foundS p n false=(a,k',E)) (hE:E≠0):c.unsnap p n=(E,c):=by
 unfold TenC.unsnap
 rw [h,if_pos hE]
theorem unsnap_at (h:c.foundS p n false=((k:Int),(i:Int),0)) (hs:c.sets[k]?=some s) (hy:s.snaps[i]?=some y):c.unsnap p n=if 0<c.clones p n then (44,c) else if 0<y.tags.length then (43,c) else (0,c.putS k (s.dropSnap i)):=by
 unfold TenC.unsnap
 exact mZ151
theorem snapshot_bad (h:c.askS p n false=(a,k',E)) (hE:E≠0):c.snapshot p n=(E,c):=by
 unfold TenC.snapshot
 rw [h,if_pos hE]
theorem snapshot_at (h:c.askS p n false=((k:Int),k',0)) (hs:c.sets[k]?=some s):c.snapshot p n=if 0≤k' then (6,c) else if s.snaps.length=16 then (3,c) else if 1099511627776≤guidC c.next s.snaps then (15,c) else (c.snapped k s n (guidC c.next s.snaps)).settle:=by
 unfold TenC.snapshot
 rw [h]
 simp only [Int.toNat_natCast,hs]
 rw [if_neg tZ3]
end
/-! ### rows of sets -/
theorem row_cells {W:World} {base:Nat} {s:FS SetR} (h:s.own W base 56 5 encSet) {k gS:Nat} (hk:k<s.l.length) (hA:s.A=some ⟨gS,0,none⟩) :
  base≤gS∧gS<W.heap.size∧(∀ o,W.frozen? ⟨gS,o,none⟩=false)∧W.cell? ⟨gS,k*5,none⟩=some (.string ⟨(s.l[k]'hk).path.toArray⟩)∧W.cell? ⟨gS,k*5+1,none⟩=some (.string ⟨(s.l[k]'hk).org.toArray⟩)∧W.cell? ⟨gS,k*5+2,none⟩=some (.slice (s.l[k]'hk).body.A (s.l[k]'hk).body.n (s.l[k]'hk).body.c)∧W.cell? ⟨gS,k*5+3,none⟩=some (.slice (s.l[k]'hk).snaps.A (s.l[k]'hk).snaps.n (s.l[k]'hk).snaps.c)∧W.cell? ⟨gS,k*5+4,none⟩=some (.slice (s.l[k]'hk).own.A (s.l[k]'hk).own.n (s.l[k]'hk).own.c):=by
 have hn:=h.1
 obtain ⟨g,cs,hA2,hbg,hb⟩:=h.blk tZ1
 rw [hA] at hA2
 injection hA2 with hA2
 injection hA2 with hA2
 subst hA2
 obtain ⟨ad,hsa,-,q0,q1,q2,q3,q4⟩:=set_at h.rd.2.2 hn (i:=k) tZ1
 rw [hA] at hsa
 injection hsa with hsa
 subst hsa
 rw [addr_add0] at q0 q1 q2 q3 q4
 exact ⟨hbg,hb.lt,hb.frozen,q0,q1,q2,q3,q4⟩
theorem dropSnap_con (x:SetR) (i:Nat) (A:Option Addr) (n c:Nat):(x.withSn ⟨A,n,c,x.snaps.l.take i++x.snaps.l.drop (i+1)⟩).con=x.con.dropSnap i:=by
 unfold SetR.withSn SetR.con SetC.dropSnap
 simp only [List.map_append,List.map_take,List.map_drop]
theorem own_ne {w:World} {base g:Nat} {s:FS SnapR} {T:TypeId} {cs:Array Value} (h:s.own w base 58 5 encSnap) (hb:Blk w g T cs) (hT:58≠T):some g≠s.val.ownBlock:=fun e=>own_blk_ne h.2 hb hT e.symm
end Go.Proofs.YtiojfffgiejibaaGreatDoor
namespace Go.Proofs.YtiojfffgiejibaaGreatDoor
open Go.RowKit
theorem TenC.sz.nextN {c:TenC} (h:c.sz) (n:Int):(c.nextN n).sz:=⟨h.nm,h.sets,h.eachS,h.grants,h.eachG,h.stages,h.eachT,h.log,h.eachL⟩
theorem AtS.ok {c:TenC} {p n:BS} {bad:Bool} {k:Nat} (h:AtS c p n bad k):SetOk c.sets (c.sets[k]'h.lt):=((TenC.E_ok c).1 h.E).sets.each _ (List.getElem_mem h.lt)
theorem AtS.snaps {c:TenC} {p n:BS} {bad:Bool} {k:Nat} (h:AtS c p n bad k):SnapsOk (c.sets[k]'h.lt).snaps:=(snapsB_iff _).1 h.ok.snaps
theorem snapped_sz {c:TenC} (h:c.sz) (k:Nat) (s:SetC) (hs:s.sz) (h16:s.snaps.length≤16) (n:BS) (hn:n.length≤4000000000) (g:Int):(c.snapped k s n g).sz:=by
 show ((c.putS k (s.addSnap (snapOf s n g))).nextN (g+1)).sz
 refine TenC.sz.nextN (h.putS (s:=s.addSnap (snapOf s n g)) ⟨hs.path,hs.org,hs.body,?_,fun y hy=>?_,hs.own,hs.props⟩) _
 ·show (s.snaps++[snapOf s n g]).length≤_
  rw [List.length_append,List.length_singleton]
  omega
 ·rcases List.mem_append.1 (show y∈s.snaps++[snapOf s n g] from hy) with hy | hy
  ·exact hs.each y hy
  ·rw [List.mem_singleton] at hy
   subst hy
   exact ⟨hn,hs.body,by simp [snapOf],by simp [snapOf],hs.own,hs.props⟩
/-! ### clones -/
end Go.Proofs.YtiojfffgiejibaaGreatDoor
