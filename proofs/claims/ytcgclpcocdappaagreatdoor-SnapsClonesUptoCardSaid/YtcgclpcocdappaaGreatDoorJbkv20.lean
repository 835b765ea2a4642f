/-
  Tenants by content alone: what they read, wherever they lie. What a tenant's content tells: whether it may be, and what it is charged for. A row of one's own of which one field of one element is stored: the element is another one, the rest stays. A tenant of one's own of which one field of one set is stored. What a function tells that answers by a tenant and an error; sizes by content. What may be, by content: sets one by one; a set more, a set less, a set turned.
-/
import Derived.WalkKit
import Derived.WalkSpells
import Derived.Below
import Derived.Laws.OwnMore
import Derived.Deep.AppendLies
import Derived.Deep.Draws
import Derived.Laws.Rows
import Derived.Maps.AppendAt
import Derived.RegionTactic
import Derived.OwnWalk
import Derived.Deep.QuietTactic
import Derived.BigQuiet
import Derived.Lib.Hide
import Derived.Laws.CopyOwn
import Derived.IntWalk
import Derived.Test.YtcgclpcocdappaaGreatDoorRows
import Derived.Handy
import Derived.Deep.Quiet
import Derived.Orders
import Derived.Lib.SplitLaws
import Derived.Lib.LastIndexByte
import Derived.Lib.Strings
import Derived.ShutString
import Derived.Sort.Walk0
import Derived.Sort.KeysCollected
import Derived.Shelf.Strings.Search1
import Derived.Shelf.Strings.Search2
import Derived.Shelf.Strings.Search3
import Derived.Shelf.Strings.Cut
import Derived.Shelf.Strings.Count
import Derived.Shelf.LaysM
import Derived.Shelf.Strings.Shaped
import Derived.Shelf.Strings.LastIndex
import Derived.Shelf.Strings.Split
import Derived.Shelf.Strings.SplitShaped
import Derived.Shelf.Unicode.Decode
import Derived.Shelf.Strings.RuneCount
import Derived.Shelf.Strings.Explode
import Derived.Shelf.Unicode.DecodeSlow
import Derived.Test.YtcgclpcocdappaaGreatDoorProg
import Derived.Laws.BytesString
import Derived.Laws.IdiomStrings
import Derived.Lib.ConvBytes
import Derived.Deep.MidRow
import Derived.Great.BuildSlice
import Derived.ProofKit
import Derived.OpenShut
import Derived.ChangeOld
import Derived.Carry
import Derived.SizedLaws
import Derived.JoinedCond
import Derived.Deep.CondSized
import Derived.Deep.Slices
import Derived.Deep.Fields
import Derived.Lib.SmallJoins
import Derived.Deep.DeepCutAuto
import Derived.Deep.RegionLaw
import Derived.Lib.AppendZeros
import Derived.Lib.Overlaps
import Derived.Lib.AppendZerosOnto
import Derived.Test.YtcgclpcocdappaaGreatDoorJ0
import Derived.Test.YtcgclpcocdappaaGreatDoorJbkv1
import Derived.Test.YtcgclpcocdappaaGreatDoorJbkv2
import Derived.Test.YtcgclpcocdappaaGreatDoorJbkv3
import Derived.Test.YtcgclpcocdappaaGreatDoorJbkv4
import Derived.Test.YtcgclpcocdappaaGreatDoorJbkv5
import Derived.Test.YtcgclpcocdappaaGreatDoorJbkv7
import Derived.Test.YtcgclpcocdappaaGreatDoorJbkv8
import Derived.Test.YtcgclpcocdappaaGreatDoorJbkv10
import Derived.Test.YtcgclpcocdappaaGreatDoorJbkv15
import Derived.Test.YtcgclpcocdappaaGreatDoorJbkv16
import Derived.Test.YtcgclpcocdappaaGreatDoorJbkv17
import Derived.Test.YtcgclpcocdappaaGreatDoorJbkv19
namespace Go.Proofs.YtcgclpcocdappaaGreatDoor
open Go.RowKit
structure SnapC where
 nm:BS
 gd:Int
 body:List BlkT
 tags:List BS
 own:List (BS×BS)
structure SetC where
 path:BS
 org:BS
 body:List BlkT
 snaps:List SnapC
 own:List (BS×BS)
structure StageC where
 into:BS
 kind:Int
 nm:BS
 frm:Int
 gd:Int
 own:List (BS×BS)
 ix:Int
 ct:Int
 dt:BS
 sm:Sm
 body:List BlkT
 at_:Int
 nx:Int
 sum:Sm
 done:Bool
structure TenC where
 nm:BS
 quota:Int
 next:Int
 sets:List SetC
 grants:List GT
 stages:List StageC
 log:List EntryR
def SnapR.con (x:SnapR):SnapC:=⟨x.nm,x.gd,x.body.l,x.tags.l,x.own.l⟩
def SetR.con (x:SetR):SetC:=⟨x.path,x.org,x.body.l,x.snaps.l.map SnapR.con,x.own.l⟩
def StageR.con (x:StageR):StageC:=⟨x.into,x.kind,x.nm,x.frm,x.gd,x.own.l,x.ix,x.ct,x.dt,x.sm,x.body.l,x.at_,x.nx,x.sum,x.done⟩
def TenR.con (x:TenR):TenC:=⟨x.nm,x.quota,x.next,x.sets.l.map SetR.con,x.grants.l,x.stages.l.map StageR.con,x.log.l⟩
theorem each_map {α β:Type} {f:α→β} {l l':List α}:l.map f=l'.map f↔l.length=l'.length∧∀ i (h:i<l.length) (h':i<l'.length),f (l[i]'h)=f (l'[i]'h'):=by
 constructor
 ·intro h
  have hl:l.length=l'.length:=by simpa using congrArg List.length h
  refine ⟨hl,fun i h1 h2=>?_⟩
  have:=congrArg (fun m:List β=>m[i]?) h
  simpa [h1,h2] using this
 ·rintro ⟨hl,he⟩
  apply List.ext_getElem
  ·simpa using hl
  ·intro i h1 h2
   simp only [List.length_map] at h1 h2
   rw [List.getElem_map,List.getElem_map]
   exact he i h1 h2
theorem SnapR.eqv_iff (x y:SnapR):x.eqv y↔x.con=y.con:=by
 constructor
 ·rintro ⟨h1,h2,h3,h4,h5⟩
  simp only [SnapR.con,h1,h2,h3,h4,h5]
 ·intro h
  simp only [SnapR.con,SnapC.mk.injEq] at h
  exact ⟨h.1,h.2.1,h.2.2.1,h.2.2.2.1,h.2.2.2.2⟩
theorem SetR.eqv_iff (x y:SetR):x.eqv y↔x.con=y.con:=by
 constructor
 ·rintro ⟨h1,h2,h3,h4,h5,h6⟩
  have:=each_map.2 ⟨h4,fun i a b=>(SnapR.eqv_iff _ _).1 (h5 i a b)⟩
  simp only [SetR.con,h1,h2,h3,this,h6]
 ·intro h
  simp only [SetR.con,SetC.mk.injEq] at h
  obtain ⟨h1,h2,h3,h4,h5⟩:=h
  obtain ⟨h6,h7⟩:=each_map.1 h4
  exact ⟨h1,h2,h3,h6,fun i a b=>(SnapR.eqv_iff _ _).2 (h7 i a b),h5⟩
theorem StageR.eqv_iff (x y:StageR):x.eqv y↔x.con=y.con:=by
 constructor
 ·rintro ⟨h1,h2,h3,h4,h5,h6,h7,h8,h9,h10,h11,h12,h13,h14,h15⟩
  simp only [StageR.con,h1,h2,h3,h4,h5,h6,h7,h8,h9,h10,h11,h12,h13,h14,h15]
 ·intro h
  simp only [StageR.con,StageC.mk.injEq] at h
  obtain ⟨h1,h2,h3,h4,h5,h6,h7,h8,h9,h10,h11,h12,h13,h14,h15⟩:=h
  exact ⟨h1,h2,h3,h4,h5,h6,h7,h8,h9,h10,h11,h12,h13,h14,h15⟩
/-- tenants are of one content just if they read alike -/
theorem TenR.eqv_iff (x y:TenR):x.eqv y↔x.con=y.con:=by
 constructor
 ·rintro ⟨h1,h2,h3,h4,h5,h6,h7,h8,h9⟩
  have e1:=each_map.2 ⟨h4,fun i a b=>(SetR.eqv_iff _ _).1 (h5 i a b)⟩
  have e2:=each_map.2 ⟨h7,fun i a b=>(StageR.eqv_iff _ _).1 (h8 i a b)⟩
  simp only [TenR.con,h1,h2,h3,e1,h6,e2,h9]
 ·intro h
  simp only [TenR.con,TenC.mk.injEq] at h
  obtain ⟨h1,h2,h3,h4,h5,h6,h7⟩:=h
  obtain ⟨h8,h9⟩:=each_map.1 h4
  obtain ⟨h10,h11⟩:=each_map.1 h6
  exact ⟨h1,h2,h3,h8,fun i a b=>(SetR.eqv_iff _ _).2 (h9 i a b),h5,h10,fun i a b=>(StageR.eqv_iff _ _).2 (h11 i a b),h7⟩
/-- what a tenant is charged for -/
def SetC.charge (s:SetC):Nat:=1+s.body.length+(s.snaps.map fun x=>1+x.body.length).sum
def TenC.charge (t:TenC):Nat:=(t.sets.map SetC.charge).sum+(t.stages.map fun s=>1+s.body.length).sum
end Go.Proofs.YtcgclpcocdappaaGreatDoor
namespace Go.Proofs.YtcgclpcocdappaaGreatDoor
open Go.RowKit
/-! ### a content as a tenant of its own -/
def mkF {α:Type} (l:List α):FS α:=⟨none,l.length,l.length,l⟩
def SnapC.r (x:SnapC):SnapR:=⟨x.nm,x.gd,mkF x.body,mkF x.tags,mkF x.own⟩
def SetC.r (x:SetC):SetR:=⟨x.path,x.org,mkF x.body,mkF (x.snaps.map SnapC.r),mkF x.own⟩
def StageC.r (x:StageC):StageR:=⟨x.into,x.kind,x.nm,x.frm,x.gd,mkF x.own,x.ix,x.ct,x.dt,x.sm,mkF x.body,x.at_,x.nx,x.sum,x.done⟩
def TenC.r (x:TenC):TenR:=⟨x.nm,x.quota,x.next,mkF (x.sets.map SetC.r),mkF x.grants,mkF (x.stages.map StageC.r),mkF x.log⟩
theorem firstI_map {α β:Type} (f:α→β) (p:β→Bool) (l:List α):firstI p (l.map f)=firstI (fun x=>p (f x)) l:=by
 have h:firstP p (l.map f)=firstP (fun x=>p (f x)) l:=by
  unfold firstP
  induction l with
  | nil=>rfl
  | cons x r ih =>
   rw [List.map_cons]
   cases hp:p (f x) with
   | true=>rw [List.takeWhile_cons_of_neg (by simp [hp]),List.takeWhile_cons_of_neg (by simp [hp])];rfl
   | false=>rw [List.takeWhile_cons_of_pos (by simp [hp]),List.takeWhile_cons_of_pos (by simp [hp]),List.length_cons,List.length_cons,ih]
 unfold firstI
 rw [h,List.length_map]
theorem snapsFrom_n (p:Option Int) (l:List SnapR):snapsFrom p (l.map fun x=>x.con.r)=snapsFrom p l:=by
 induction l generalizing p with
 | nil=>cases p <;> rfl
 | cons x l ih =>
  rw [List.map_cons,snapsFrom_cons,snapsFrom_cons,ih]
  rfl
theorem snapsB_n (l:List SnapR):snapsB (l.map fun x=>x.con.r)=snapsB l:=by
 unfold snapsB
 rw [snapsFrom_n,List.length_map,List.map_map]
 rfl
theorem setC_r (x:SetR):x.con.r=⟨x.path,x.org,mkF x.body.l,mkF (x.snaps.l.map fun y=>y.con.r),mkF x.own.l⟩:=by
 show SetR.mk _ _ _ _ _=_
 rw [show (x.con.snaps.map SnapC.r)=(x.snaps.l.map fun y=>y.con.r) from List.map_map]
 rfl
theorem find_map {α β:Type} (f:α→β) (p:β→Bool) (l:List α):(l.map f).find? p=(l.find? fun x=>p (f x)).map f:=by
 induction l with
 | nil=>rfl
 | cons x r ih =>
  rw [List.map_cons,List.find?_cons,List.find?_cons]
  cases p (f x) with
  | true=>rfl
  | false=>exact ih
theorem originB_n (all:List SetR) (s:SetR):originB (all.map fun x=>x.con.r) s.con.r=originB all s:=by
 unfold originB
 show (s.org == [] || match splitL s.org with
  | none=>false
  | some (p,n)=>!(p == s.path) && match (all.map fun x=>x.con.r).find? (fun x=>x.path == p) with
   | none=>false
   | some x=>x.snaps.l.any fun y=>y.nm == n)=_
 cases splitL s.org with
 | none=>rfl
 | some v =>
  obtain ⟨p,n⟩:=v
  simp only []
  rw [find_map]
  have e:(all.find? fun x:SetR=>x.con.r.path == p)=all.find? fun x=>x.path == p:=rfl
  rw [e]
  cases all.find? (fun x=>x.path == p) with
  | none=>rfl
  | some x =>
   simp only [Option.map_some]
   rw [setC_r x]
   show (s.org == [] || !(p == s.path) && (x.snaps.l.map fun y=>y.con.r).any fun y=>y.nm == n)=_
   rw [List.any_map]
   rfl
theorem setB_n (all:List SetR) (s:SetR):setB (all.map fun x=>x.con.r) s.con.r=setB all s:=by
 unfold setB
 rw [originB_n,setC_r s]
 show ((pathB s.path && match parB s.path with
  | none=>true
  | some u=>(all.map fun x=>x.con.r).any fun x=>x.path == u) && propsB s.own.l && okL s.body.l && snapsB (s.snaps.l.map fun y=>y.con.r) && originB all s)=_
 rw [snapsB_n]
 cases parB s.path with
 | none=>rfl
 | some u =>
  simp only []
  rw [List.any_map]
  rfl
theorem setsFrom_n (all:List SetR) (p:Option BS) (l:List SetR):setsFrom (all.map fun x=>x.con.r) p (l.map fun x=>x.con.r)=setsFrom all p l:=by
 induction l generalizing p with
 | nil=>cases p <;> rfl
 | cons x l ih =>
  have e:∀ (a:List SetR) (y:SetR) (r:List SetR),setsFrom a p (y :: r)=(setB a y && (match p with | none=>true | some q=>Op.bytesLess q y.path) && setsFrom a (some y.path) r):=by
   intro a y r
   cases p <;> rfl
  rw [List.map_cons,e,e,setB_n,show x.con.r.path=x.path from rfl,ih]
theorem setsB_n (l:List SetR):setsB (l.map fun x=>x.con.r)=setsB l:=by
 unfold setsB
 rw [setsFrom_n,List.length_map,List.any_map]
 rfl
theorem stagesFrom_n (p:Option BS) (l:List StageR):stagesFrom p (l.map fun x=>x.con.r)=stagesFrom p l:=by
 induction l generalizing p with
 | nil=>cases p <;> rfl
 | cons x l ih =>
  have e:∀ (y:StageR) (r:List StageR),stagesFrom p (y :: r)=(stageB y && (match p with | none=>true | some q=>Op.bytesLess q y.into) && stagesFrom (some y.into) r):=by
   intro y r
   cases p <;> rfl
  rw [List.map_cons,e,e,show x.con.r.into=x.into from rfl,ih]
  rfl
theorem stagesB_n (l:List StageR):stagesB (l.map fun x=>x.con.r)=stagesB l:=by
 unfold stagesB
 rw [stagesFrom_n,List.length_map]
theorem tenC_r (t:TenR):t.con.r=⟨t.nm,t.quota,t.next,mkF (t.sets.l.map fun x=>x.con.r),mkF t.grants.l,mkF (t.stages.l.map fun x=>x.con.r),mkF t.log.l⟩:=by
 show TenR.mk _ _ _ _ _ _ _=_
 rw [show (t.con.sets.map SetC.r)=(t.sets.l.map fun y=>y.con.r) from List.map_map,show (t.con.stages.map StageC.r)=(t.stages.l.map fun y=>y.con.r) from List.map_map]
 rfl
/-- whether a tenant may be hangs on its content alone -/
def TenC.E (c:TenC):Int:=tenE c.r
theorem tenE_con (t:TenR):tenE t=t.con.E:=by
 unfold TenC.E tenE
 have:tenB t.con.r=tenB t:=by
  rw [tenC_r]
  show (nameB t.nm && amt t.quota 0 && amt t.next 1 && setsB (t.sets.l.map fun x=>x.con.r) && grantsB t.grants.l && stagesB (t.stages.l.map fun x=>x.con.r) && logB t.log.l)=_
  rw [setsB_n,stagesB_n]
  rfl
 rw [this]
theorem TenC.E_two (c:TenC):c.E=0∨c.E=9:=by unfold TenC.E tenE;split <;> simp
/-! ### what it is charged for -/
theorem cast_sum {α:Type} (f:α→Nat) (g:α→Int) (l:List α) (h:∀ x∈l,g x=(f x:Int)):(l.map g).sum=((l.map f).sum:Nat):=by
 induction l with
 | nil=>rfl
 | cons x r ih =>
  rw [List.map_cons,List.map_cons,List.sum_cons,List.sum_cons,Int.natCast_add,h x List.mem_cons_self,ih fun y hy=>h y (List.mem_cons_of_mem _ hy)]
theorem setSum_con (x:SetR) (w:World) (B:Nat) (h:x.rd w B):setSum x=(x.con.charge:Nat):=by
 unfold setSum sumB SetC.charge
 rw [List.take_length,cast_sum (fun y:SnapR=>1+y.body.l.length) _ _ (fun y hy=>by rw [(h.each y hy).body.1];omega)]
 rw [h.body.1]
 show _=((1+x.body.l.length+((x.snaps.l.map SnapR.con).map fun y=>1+y.body.length).sum:Nat):Int)
 rw [List.map_map]
 show _=((1+x.body.l.length+(x.snaps.l.map fun y=>1+y.body.l.length).sum:Nat):Int)
 omega
theorem tenSum_con (t:TenR) (w:World) (B:Nat) (h:t.rd w B):tenSum t=(t.con.charge:Nat):=by
 unfold tenSum sumS sumG TenC.charge
 rw [List.take_length,List.take_length,cast_sum (fun y:SetR=>y.con.charge) _ _ (fun y hy=>setSum_con y w B (h.eachS y hy)),cast_sum (fun y:StageR=>1+y.body.l.length) _ _ (fun y hy=>by rw [(h.eachG y hy).body.1];omega)]
 show _=((((t.sets.l.map SetR.con).map SetC.charge).sum+((t.stages.l.map StageR.con).map fun s=>1+s.body.length).sum:Nat):Int)
 rw [List.map_map,List.map_map]
 rfl
end Go.Proofs.YtcgclpcocdappaaGreatDoor
namespace Go.Proofs.YtcgclpcocdappaaGreatDoor
open Go.RowKit
theorem cellsK_setF {α:Type} {enc:α→List Value} {k:Nat} (hk:∀ x,(enc x).length=k) (l:List α) (i j:Nat) (hj:j<k) (x':α) (u:Value) (he:∀ x,l[i]?=some x→enc x'=(enc x).set j u) :
  cellsK enc (l.set i x')=(cellsK enc l).set (i*k+j) u:=by
 induction l generalizing i with
 | nil=>simp [cellsK]
 | cons x l ih =>
  cases i with
  | zero =>
   show enc x'++cellsK enc l=(enc x++cellsK enc l).set (0*k+j) u
   rw [he x rfl,Nat.zero_mul,Nat.zero_add,List.set_append_left _ _ (by rw [hk];exact hj)]
  | succ i =>
   show enc x++cellsK enc (l.set i x')=(enc x++cellsK enc l).set ((i+1)*k+j) u
   rw [ih i (fun y hy=>he y hy),Nat.succ_mul,List.set_append_right _ _ (by rw [hk];omega),hk]
   congr 2
   omega
section
variable {α:Type} {w w':World} {base k g:Nat} {t T:TypeId} {enc:α→List Value} {s:FS α}
/-- one field of one element stored -/
theorem FS.own.field (h:s.own w base t k enc) (hk:∀ x,(enc x).length=k) (hA:s.A=some ⟨g,0,none⟩) (i j:Nat) (hj:j<k) (x':α) (u:Value) (he:∀ x,s.l[i]?=some x→enc x'=(enc x).set j u) :
  FS.own (w.setCell ⟨g,i*k+j,none⟩ u) base t k enc ⟨s.A,s.n,s.c,s.l.set i x'⟩∧w.grownBy (w.setCell ⟨g,i*k+j,none⟩ u) (some g):=by
 obtain ⟨A,n,c,l⟩:=s
 simp only at hA
 subst hA
 have h2:=World.ownsRow.stored h.2 (i*k+j) u
 refine ⟨⟨by rw [List.length_set];exact h.1,?_⟩,h2.2⟩
 show World.ownsRow _ base t k _ n (cellsK enc (l.set i x'))
 rw [cellsK_setF hk l i j hj x' u he]
 exact h2.1
/-- a row that is not empty is a block of its own -/
theorem FS.own.blk (h:s.own w base t k enc) (h0:0<s.n):∃ g cs,s.A=some ⟨g,0,none⟩∧base≤g∧Blk w g t cs:=by
 obtain ⟨A,n,c,l⟩:=s
 rcases h.2.2 with ⟨e,e0⟩ | ⟨g,cap,cur,e,hb,hg,_⟩
 ·simp only at h0 e0
  omega
 ·unfold FS.val at e
  injection e with e1 e2 e3
  exact ⟨g,cur,e1,hb,hg⟩
/-- what is grown in a block of another element type keeps a row -/
theorem FS.own.keptT {cs:Array Value} (h:s.own w base t k enc) (hg:w.grownBy w' (some g)) (hb:Blk w g T cs) (hne:t≠T):s.own w' base t k enc :=
 ⟨h.1,h.2.kept hg (.inr (own_blk_ne h.2 hb hne))⟩
end
end Go.Proofs.YtcgclpcocdappaaGreatDoor
namespace Go.Proofs.YtcgclpcocdappaaGreatDoor
open Go.RowKit
/-- the tenant with another set at a place -/
def TenR.putS (t:TenR) (i:Nat) (x:SetR):TenR:=⟨t.nm,t.quota,t.next,⟨t.sets.A,t.sets.n,t.sets.c,t.sets.l.set i x⟩,t.grants,t.stages,t.log⟩
def TenC.putS (t:TenC) (i:Nat) (x:SetC):TenC:=⟨t.nm,t.quota,t.next,t.sets.set i x,t.grants,t.stages,t.log⟩
theorem TenR.con_putS (t:TenR) (i:Nat) (x:SetR):(t.putS i x).con=t.con.putS i x.con:=by
 simp only [TenR.con,TenR.putS,TenC.putS,List.map_set]
section
variable {w w':World} {base g:Nat} {cs:Array Value}
theorem SnapO.keptS {x:SnapR} (h:SnapO w base x) (hg:w.grownBy w' (some g)) (hb:Blk w g 42 cs):SnapO w' base x :=
 ⟨h.body.keptT hg hb (by decide),h.tags.keptT hg hb (by decide),h.own.keptT hg hb (by decide)⟩
theorem SetO.keptS {x:SetR} (h:SetO w base x) (hg:w.grownBy w' (some g)) (hb:Blk w g 42 cs):SetO w' base x :=
 ⟨h.body.keptT hg hb (by decide),h.snaps.keptT hg hb (by decide),fun y hy=>(h.each y hy).keptS hg hb,h.own.keptT hg hb (by decide)⟩
theorem StageO.keptS {x:StageR} (h:StageO w base x) (hg:w.grownBy w' (some g)) (hb:Blk w g 42 cs):StageO w' base x :=
 ⟨h.own.keptT hg hb (by decide),h.body.keptT hg hb (by decide)⟩
end
end Go.Proofs.YtcgclpcocdappaaGreatDoor
namespace Go.Proofs.YtcgclpcocdappaaGreatDoor
open Go.RowKit
/-! ### sizes, by content -/
structure SnapC.sz (x:SnapC):Prop where
 nm:x.nm.length≤4000000000
 body:x.body.length≤1000000000000
 tags:x.tags.length≤1000000000000
 each:∀ t∈x.tags,t.length≤4000000000
 own:x.own.length≤1000000000000
 props:∀ p∈x.own,p.1.length≤4000000000∧p.2.length≤4000000000
structure SetC.sz (x:SetC):Prop where
 path:x.path.length≤4000000000
 org:x.org.length≤4000000000
 body:x.body.length≤1000000000000
 snaps:x.snaps.length≤1000000000000
 each:∀ y∈x.snaps,y.sz
 own:x.own.length≤1000000000000
 props:∀ p∈x.own,p.1.length≤4000000000∧p.2.length≤4000000000
structure StageC.sz (x:StageC):Prop where
 into:x.into.length≤4000000000
 nm:x.nm.length≤4000000000
 dt:x.dt.length≤4000000000
 own:x.own.length≤1000000000000
 props:∀ p∈x.own,p.1.length≤4000000000∧p.2.length≤4000000000
 body:x.body.length≤1000000000000
structure TenC.sz (t:TenC):Prop where
 nm:t.nm.length≤4000000000
 sets:t.sets.length≤1000000000000
 eachS:∀ y∈t.sets,y.sz
 grants:t.grants.length≤1000000000000
 eachG:∀ g∈t.grants,g.1.length≤4000000000∧g.2.1.length≤4000000000
 stages:t.stages.length≤1000000000000
 eachT:∀ y∈t.stages,y.sz
 log:t.log.length≤1000000000000
 eachL:∀ y∈t.log,y.sz
section
variable {w:World} {B:Nat}
theorem SnapR.sz_of {x:SnapR} (h:x.rd w B) (hc:x.con.sz):x.sz:=⟨hc.nm,by rw [h.body.1];exact hc.body,by rw [h.tags.1];exact hc.tags,hc.each,by rw [h.own.1];exact hc.own,hc.props⟩
theorem SnapC.sz_of {x:SnapR} (h:x.rd w B) (hc:x.sz):x.con.sz:=⟨hc.nm,by have:=hc.body;rw [h.body.1] at this;exact this,by have:=hc.tags;rw [h.tags.1] at this;exact this,hc.each,by have:=hc.own;rw [h.own.1] at this;exact this,hc.props⟩
theorem SetR.sz_of {x:SetR} (h:x.rd w B) (hc:x.con.sz):x.sz :=
 ⟨hc.path,hc.org,by rw [h.body.1];exact hc.body,by rw [h.snaps.1];have:=hc.snaps;rwa [show x.con.snaps.length=x.snaps.l.length from List.length_map ..] at this,fun y hy=>SnapR.sz_of (h.each y hy) (hc.each _ (List.mem_map_of_mem hy)),by rw [h.own.1];exact hc.own,hc.props⟩
theorem SetC.sz_of {x:SetR} (h:x.rd w B) (hc:x.sz):x.con.sz:=by
 refine ⟨hc.path,hc.org,by have:=hc.body;rw [h.body.1] at this;exact this,?_,fun y hy=>?_,by have:=hc.own;rw [h.own.1] at this;exact this,hc.props⟩
 ·have:=hc.snaps
  rw [h.snaps.1] at this
  rwa [show x.con.snaps.length=x.snaps.l.length from List.length_map ..]
 ·obtain ⟨z,hz,rfl⟩:=List.mem_map.1 hy
  exact SnapC.sz_of (h.each z hz) (hc.each z hz)
theorem StageR.sz_of {x:StageR} (h:x.rd w B) (hc:x.con.sz):x.sz:=⟨hc.into,hc.nm,hc.dt,by rw [h.own.1];exact hc.own,hc.props,by rw [h.body.1];exact hc.body⟩
theorem StageC.sz_of {x:StageR} (h:x.rd w B) (hc:x.sz):x.con.sz:=⟨hc.into,hc.nm,hc.dt,by have:=hc.own;rw [h.own.1] at this;exact this,hc.props,by have:=hc.body;rw [h.body.1] at this;exact this⟩
theorem TenR.sz_of {t:TenR} (h:t.rd w B) (hc:t.con.sz):t.sz :=
 ⟨hc.nm,by rw [h.sets.1];have:=hc.sets;rwa [show t.con.sets.length=t.sets.l.length from List.length_map ..] at this,fun y hy=>SetR.sz_of (h.eachS y hy) (hc.eachS _ (List.mem_map_of_mem hy)),by rw [h.grants.1];exact hc.grants,hc.eachG,by rw [h.stages.1];have:=hc.stages;rwa [show t.con.stages.length=t.stages.l.length from List.length_map ..] at this,fun y hy=>StageR.sz_of (h.eachG y hy) (hc.eachT _ (List.mem_map_of_mem hy)),by rw [h.log.1];exact hc.log,hc.eachL⟩
theorem TenC.sz_of {t:TenR} (h:t.rd w B) (hc:t.sz):t.con.sz:=by
 refine ⟨hc.nm,?_,fun y hy=>?_,by have:=hc.grants;rw [h.grants.1] at this;exact this,hc.eachG,?_,fun y hy=>?_,by have:=hc.log;rw [h.log.1] at this;exact this,hc.eachL⟩
 ·have:=hc.sets
  rw [h.sets.1] at this
  rwa [show t.con.sets.length=t.sets.l.length from List.length_map ..]
 ·obtain ⟨z,hz,rfl⟩:=List.mem_map.1 hy
  exact SetC.sz_of (h.eachS z hz) (hc.eachS z hz)
 ·have:=hc.stages
  rw [h.stages.1] at this
  rwa [show t.con.stages.length=t.stages.l.length from List.length_map ..]
 ·obtain ⟨z,hz,rfl⟩:=List.mem_map.1 hy
  exact StageC.sz_of (h.eachG z hz) (hc.eachT z hz)
end
theorem TenC.sz.putS {c:TenC} {i:Nat} {s:SetC} (h:c.sz) (hs:s.sz):(c.putS i s).sz:=by
 refine ⟨h.nm,?_,fun y hy=>?_,h.grants,h.eachG,h.stages,h.eachT,h.log,h.eachL⟩
 ·show (c.sets.set i s).length≤_
  rw [List.length_set]
  exact h.sets
 ·rcases List.mem_or_eq_of_mem_set (show y∈c.sets.set i s from hy) with hy | rfl
  ·exact h.eachS y hy
  ·exact hs
def set0C (p:BS):SetC:=⟨p,[],[],[],[]⟩
theorem set0C_sz (p:BS) (hp:p.length≤4000000000):(set0C p).sz:=⟨hp,by simp [set0C],by simp [set0C],by simp [set0C],by simp [set0C],by simp [set0C],by simp [set0C]⟩
/-- a box of results: the cells stored, and loaded again -/
theorem res7 {zs:List Value} (cs:List Value) {W w:World} {g:Nat} (hk:Blk W g 27 zs.toArray) (hb:Below w.heap.size w W) (hg:w.heap.size≤g) (hz:zs.length=7:=by rfl) (hc:cs.length=7:=by rfl) :
  ∃ WR,WR=W.setCells g 0 cs.toArray.toList∧Hid (W.there g 0 7)∧Hid ((loadVar 27 ⟨g,0,none⟩).run Tryz.prog WR=.ok (.agg cs.toArray) WR)∧Hid (Below w.heap.size w WR)∧W.grownBy WR (some g):=by
 have k4:=Blk.setCells (g:=g) cs W [] zs (by rw [hz,hc]) hk
 simp only [List.length_nil,List.nil_append] at k4
 refine ⟨_,rfl,hk.there 7 (by simp [hz]),?_,below_setCells hg cs W 0 hb,grown_cellsS g cs W 0⟩
 exact run_loadVar_at _ ⟨g,0,none⟩ 27 cs _ (fun j v hv=>by rw [addr_add0,k4.cell j,zF];exact hv) Tryz.underlying27 rfl (by rw [hc];kernel_rfl)
/-! ### what is told -/
/-- a tenant and an error: the error's tenant is the zero one; else it lies in memory of its own -/
def TenPost (w:World) (c:Int×TenC) (e:Ending) (w':World):Prop:=∃ v,e=.returned (.tuple #[v,.int .i64 c.1])∧Below w.heap.size w w' ∧
 ((c.1≠0∧v=ZEROT)∨(c.1=0∧∃ y:TenR,v=y.val∧TenO w' w.heap.size y∧y.con=c.2))
theorem tenPost_err {w w':World} {c:Int×TenC} {E:Int} {c':TenC} (hc:c=(E,c')) (hE:E≠0) (hb:Below w.heap.size w w'):TenPost w c (.returned (.tuple #[ZEROT,.int .i64 E])) w':=by
 subst hc
 exact ⟨_,rfl,hb,.inl ⟨hE,rfl⟩⟩
theorem tenPost_ok {w w':World} {c:Int×TenC} {c':TenC} (hc:c=(0,c')) (hb:Below w.heap.size w w') (y:TenR) (ho:TenO w' w.heap.size y) (hy:y.con=c'):TenPost w c (.returned (.tuple #[y.val,.int .i64 0])) w':=by
 subst hc
 exact ⟨_,rfl,hb,.inr ⟨rfl,y,rfl,ho,hy⟩⟩
def TenC.find (c:TenC) (p:BS):Int:=firstI (fun s:SetC=>s.path == p) c.sets
theorem findS_con (t:TenR) (p:BS):findS t.sets.l p=t.con.find p:=by
 unfold findS TenC.find
 exact (firstI_map SetR.con (fun s:SetC=>s.path == p) t.sets.l).symm
/-- what is settled -/
def TenC.settle (c:TenC):Int×TenC:=if c.E=9 then (9,c) else if c.quota<(c.charge:Int) then (42,c) else (0,c)
theorem settleT_any (t:TenR) (w:World) (B:Nat) (hB:B≤w.heap.size) (hr:t.rd w B) (hz:t.sz) (hmx:HasMax w) :
  Calls Tryz.prog 47 #[t.val] w (TenPost w t.con.settle):=by
 refine (settle_any t w B hB hr hz hmx).mono ?_
 rintro e w' ⟨v,E,rfl,hb,h⟩
 rw [tenE_con,tenSum_con t w B hr] at h
 unfold TenPost TenC.settle
 rcases h with ⟨h1,h2,h3⟩ | ⟨h1,h2,h3,h4⟩ | ⟨h1,h2,h3,y,h4,h5,h6⟩
 ·rw [if_pos h1]
  exact ⟨v,by rw [h2],hb,.inl ⟨(by decide:(9:Int)≠0),h3⟩⟩
 ·rw [if_neg (by rw [h1];decide),if_pos (show t.con.quota<_ from h2)]
  exact ⟨v,by rw [h3],hb,.inl ⟨(by decide:(42:Int)≠0),h4⟩⟩
 ·rw [if_neg (by rw [h1];decide),if_neg (show ¬ t.con.quota<_ from by show ¬ t.quota<_;omega)]
  exact ⟨v,by rw [h3],hb,.inr ⟨rfl,y,h4,h5,((TenR.eqv_iff _ _).1 h6).symm⟩⟩
/-! ### what stands under a set, its clones, what is held -/
end Go.Proofs.YtcgclpcocdappaaGreatDoor
namespace Go.Proofs.YtcgclpcocdappaaGreatDoor
open Go.RowKit
structure SetOk (l:List SetC) (s:SetC):Prop where
 path:pathB s.path=true
 par:∀ u,parB s.path=some u→∃ x∈l,x.path=u
 own:propsB s.own=true
 body:okL s.body=true
 snaps:snapsB (s.snaps.map SnapC.r)=true
 org:s.org=[]∨∃ a b,splitL s.org=some (a,b)∧a≠s.path∧∃ x,l.find? (fun x=>x.path == a)=some x∧∃ y∈x.snaps,y.nm=b
theorem setB_iff (l:List SetC) (s:SetC):setB (l.map SetC.r) s.r=true↔SetOk l s:=by
 have hpar:(match parB s.path with | none=>true | some u=>(l.map SetC.r).any fun x=>x.path == u)=true↔∀ u,parB s.path=some u→∃ x∈l,x.path=u:=by
  cases hp:parB s.path with
  | none=>exact ⟨fun _ u h=>by (cases h),fun _=>rfl⟩
  | some u =>
   simp only [List.any_map]
   constructor
   ·intro h v hv
    cases hv
    obtain ⟨x,hx,e⟩:=List.any_eq_true.1 h
    exact ⟨x,hx,by simpa [SetC.r] using e⟩
   ·intro h
    obtain ⟨x,hx,e⟩:=h u rfl
    exact List.any_eq_true.2 ⟨x,hx,by simpa [SetC.r] using e⟩
 have horg:originB (l.map SetC.r) s.r=true↔(s.org=[]∨∃ a b,splitL s.org=some (a,b)∧a≠s.path∧∃ x,l.find? (fun x=>x.path == a)=some x∧∃ y∈x.snaps,y.nm=b):=by
  unfold originB
  show (s.org == [] || match splitL s.org with
   | none=>false
   | some (p,n)=>!(p == s.path) && match (l.map SetC.r).find? (fun x=>x.path == p) with
    | none=>false
    | some x=>x.snaps.l.any fun y=>y.nm == n)=true↔_
  rw [Bool.or_eq_true]
  refine or_congr (by simp) ?_
  cases hsp:splitL s.org with
  | none=>simp
  | some v =>
   obtain ⟨a,b⟩:=v
   simp only [Bool.and_eq_true,find_map]
   have e:(l.find? fun x:SetC=>(SetC.r x).path == a)=l.find? fun x=>x.path == a:=rfl
   rw [e]
   constructor
   ·rintro ⟨h1,h2⟩
    refine ⟨a,b,rfl,by simpa using h1,?_⟩
    cases hf:l.find? (fun x=>x.path == a) with
    | none=>rw [hf] at h2;cases h2
    | some x =>
     rw [hf] at h2
     simp only [Option.map_some] at h2
     have h2:((x.snaps.map SnapC.r).any fun y=>y.nm == b)=true:=h2
     rw [List.any_map] at h2
     obtain ⟨y,hy,ey⟩:=List.any_eq_true.1 h2
     exact ⟨x,rfl,y,hy,by simpa [SnapC.r] using ey⟩
   ·rintro ⟨a',b',h0,h1,x,hf,y,hy,ey⟩
    cases h0
    refine ⟨by simpa using h1,?_⟩
    rw [hf]
    show ((x.snaps.map SnapC.r).any fun y=>y.nm == b)=true
    rw [List.any_map]
    exact List.any_eq_true.2 ⟨y,hy,by simpa [SnapC.r] using ey⟩
 unfold setB
 rw [Bool.and_eq_true,Bool.and_eq_true,Bool.and_eq_true,Bool.and_eq_true,Bool.and_eq_true,horg]
 constructor
 ·rintro ⟨⟨⟨⟨⟨h1,h2⟩,h3⟩,h4⟩,h5⟩,h6⟩
  exact ⟨h1,hpar.1 h2,h3,h4,h5,h6⟩
 ·rintro ⟨h1,h2,h3,h4,h5,h6⟩
  exact ⟨⟨⟨⟨⟨h1,hpar.2 h2⟩,h3⟩,h4⟩,h5⟩,h6⟩
structure SetsOk (l:List SetC):Prop where
 len:l.length≤32
 root:∃ x∈l,x.path=[]
 each:∀ s∈l,SetOk l s
 asc:l.Pairwise fun a b=>Op.bytesLess a.path b.path=true
theorem setsB_iff (l:List SetC):setsB (l.map SetC.r)=true↔SetsOk l:=by
 unfold setsB
 rw [Bool.and_eq_true,Bool.and_eq_true,setsFrom_iff]
 simp only [decide_eq_true_eq,List.length_map,List.any_map]
 constructor
 ·rintro ⟨⟨h1,h2⟩,h3,h4,-⟩
  obtain ⟨x,hx,e⟩:=List.any_eq_true.1 h2
  exact ⟨h1,⟨x,hx,by simpa [SetC.r] using e⟩,fun s hs=>(setB_iff l s).1 (h3 _ (List.mem_map_of_mem hs)),List.pairwise_map.1 h4⟩
 ·rintro ⟨h1,⟨x,hx,e⟩,h3,h4⟩
  refine ⟨⟨h1,List.any_eq_true.2 ⟨x,hx,by simpa [SetC.r] using e⟩⟩,fun s hs=>?_,List.pairwise_map.2 h4,fun q hq=>by cases hq⟩
  obtain ⟨y,hy,rfl⟩:=List.mem_map.1 hs
  exact (setB_iff l y).2 (h3 y hy)
structure TenC.Ok (c:TenC):Prop where
 nm:nameB c.nm=true
 quota:amt c.quota 0=true
 next:amt c.next 1=true
 sets:SetsOk c.sets
 grants:grantsB c.grants=true
 stages:stagesB (c.stages.map StageC.r)=true
 log:logB c.log=true
theorem TenC.E_ok (c:TenC):c.E=0↔c.Ok:=by
 unfold TenC.E tenE
 constructor
 ·intro h
  have hb:tenB c.r=true:=by
   by_cases hb:tenB c.r=true
   ·exact hb
   ·rw [if_neg hb] at h;exact absurd h (by decide)
  unfold tenB at hb
  rw [Bool.and_eq_true,Bool.and_eq_true,Bool.and_eq_true,Bool.and_eq_true,Bool.and_eq_true,Bool.and_eq_true] at hb
  obtain ⟨⟨⟨⟨⟨⟨h1,h2⟩,h3⟩,h4⟩,h5⟩,h6⟩,h7⟩:=hb
  exact ⟨h1,h2,h3,(setsB_iff _).1 h4,h5,h6,h7⟩
 ·rintro ⟨h1,h2,h3,h4,h5,h6,h7⟩
  rw [if_pos]
  unfold tenB
  rw [Bool.and_eq_true,Bool.and_eq_true,Bool.and_eq_true,Bool.and_eq_true,Bool.and_eq_true,Bool.and_eq_true]
  exact ⟨⟨⟨⟨⟨⟨h1,h2⟩,h3⟩,(setsB_iff _).2 h4⟩,h5⟩,h6⟩,h7⟩
/-- sets in order: each is found by its path -/
theorem find_of_mem {l:List SetC} (h:l.Pairwise fun a b=>Op.bytesLess a.path b.path=true) {x:SetC} (hx:x∈l):l.find? (fun y=>y.path == x.path)=some x:=by
 induction l with
 | nil=>cases hx
 | cons y r ih =>
  obtain ⟨h1,h2⟩:=List.pairwise_cons.1 h
  rcases List.mem_cons.1 hx with rfl | hx
  ·rw [List.find?_cons_of_pos (by simp)]
  ·rw [List.find?_cons_of_neg (by simpa using bl_ne (h1 x hx))]
   exact ih h2 hx
/-! ### a set less -/
/-! ### a set turned -/
end Go.Proofs.YtcgclpcocdappaaGreatDoor
