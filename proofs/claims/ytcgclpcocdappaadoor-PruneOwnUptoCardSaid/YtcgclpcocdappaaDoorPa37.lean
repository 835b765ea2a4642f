/-
  A set that was made and is destroyed: the content is as it was (plain law). What is done to a block of another element type keeps a tenant of one's own. The page's New: the root alone.
-/
import Derived.WalkKit
import Derived.WalkSpells
import Derived.Below
import Derived.Laws.OwnMore
import Derived.Deep.AppendLies
import Derived.Deep.Draws
import Derived.Laws.Rows
import Derived.Maps.AppendAt
import Derived.RegionTactic
import Derived.OwnWalk
import Derived.Deep.QuietTactic
import Derived.BigQuiet
import Derived.Lib.Hide
import Derived.Laws.CopyOwn
import Derived.IntWalk
import Derived.Test.YtcgclpcocdappaaDoorRows
import Derived.Handy
import Derived.Deep.Quiet
import Derived.ProofKit
import Derived.OpenShut
import Derived.ShutString
import Derived.ChangeOld
import Derived.Carry
import Derived.SizedLaws
import Derived.JoinedCond
import Derived.Deep.CondSized
import Derived.Deep.Slices
import Derived.Deep.Fields
import Derived.Lib.SmallJoins
import Derived.Orders
import Derived.Lib.SplitLaws
import Derived.Lib.LastIndexByte
import Derived.Lib.Strings
import Derived.Sort.Walk0
import Derived.Sort.KeysCollected
import Derived.Deep.MidRow
import Derived.Deep.RegionLaw
import Derived.Lib.AppendZeros
import Derived.Shelf.Strings.Search1
import Derived.Shelf.Strings.Search2
import Derived.Shelf.Strings.Search3
import Derived.Shelf.Strings.Cut
import Derived.Shelf.Strings.Count
import Derived.Shelf.LaysM
import Derived.Shelf.Strings.Shaped
import Derived.Shelf.Strings.LastIndex
import Derived.Shelf.Strings.Split
import Derived.Shelf.Strings.SplitShaped
import Derived.Shelf.Unicode.Decode
import Derived.Shelf.Strings.RuneCount
import Derived.Shelf.Strings.Explode
import Derived.Shelf.Unicode.DecodeSlow
import Derived.Shelf.Slices.Turned
import Derived.Test.YtcgclpcocdappaaDoorProg
import Derived.Lib.Overlaps
import Derived.Lib.AppendZerosOnto
import Derived.Laws.BytesString
import Derived.Laws.IdiomStrings
import Derived.Lib.ConvBytes
import Derived.Deep.DeepCutAuto
import Derived.Great.BuildSlice
import Derived.Test.YtcgclpcocdappaaDoorP0
import Derived.Test.YtcgclpcocdappaaDoorPa1
import Derived.Test.YtcgclpcocdappaaDoorPa2
import Derived.Test.YtcgclpcocdappaaDoorPa3
import Derived.Test.YtcgclpcocdappaaDoorPa5
import Derived.Test.YtcgclpcocdappaaDoorPa7
import Derived.Test.YtcgclpcocdappaaDoorPa8
import Derived.Test.YtcgclpcocdappaaDoorPa10
import Derived.Test.YtcgclpcocdappaaDoorPa13
import Derived.Test.YtcgclpcocdappaaDoorPa19
import Derived.Test.YtcgclpcocdappaaDoorPa23
import Derived.Test.YtcgclpcocdappaaDoorPa24
import Derived.Test.YtcgclpcocdappaaDoorPa27
import Derived.Test.YtcgclpcocdappaaDoorPa28
import Derived.Test.YtcgclpcocdappaaDoorPa29
import Derived.Test.YtcgclpcocdappaaDoorPa31
import Derived.Test.YtcgclpcocdappaaDoorPa32
import Derived.Test.YtcgclpcocdappaaDoorPa33
import Derived.Test.YtcgclpcocdappaaDoorPa35
import Derived.Test.YtcgclpcocdappaaDoorPa36
namespace Go.Proofs.YtcgclpcocdappaaDoor
open Go.RowKit
theorem upL_lt0 (p:BS) (h:p≠[]):(upL p).length<p.length:=by
 unfold upL
 rw [List.length_take]
 cases hl:lastS p with
 | none=>simp;exact List.length_pos_iff.2 h
 | some k=>have:=(lastS_some p k hl).1;simp;omega
theorem parB_len0 {p u:BS} (h:parB p=some u):u.length<p.length∧p≠[]∧pathB p=true∧u=upL p:=by
 unfold parB at h
 split at h
 ·cases h
 ·rename_i hh
  cases h
  have hne:p≠[]:=fun e=>hh (.inl e)
  exact ⟨upL_lt0 p hne,hne,by simpa using fun e=>hh (.inr e),rfl⟩
theorem drop_put {α:Type} (l:List α) (i:Nat) (x:α) (h:i≤l.length):(l.take i++x :: l.drop i).drop (i+1)=l.drop i:=by
 have hl:(l.take i++[x]).length=i+1:=by simp;omega
 rw [show l.take i++x :: l.drop i=(l.take i++[x])++l.drop i by simp,← hl,List.drop_left]
theorem TenC.E_sets (c:TenC) (h:c.E=0):c.sets.length≤32∧(c.sets.any fun x=>x.path == [])=true∧(∀ s∈c.sets,setB (c.sets.map SetC.r) s.r=true)∧c.sets.Pairwise fun a b=>Op.bytesLess a.path b.path=true:=by
 unfold TenC.E tenE at h
 have hb:tenB c.r=true:=by
  by_cases hb:tenB c.r=true
  ·exact hb
  ·rw [if_neg hb] at h;exact absurd h (by decide)
 unfold tenB at hb
 simp only [Bool.and_eq_true] at hb
 have hS:setsB (c.sets.map SetC.r)=true:=hb.1.1.1.2
 unfold setsB at hS
 simp only [Bool.and_eq_true,decide_eq_true_eq,List.length_map,List.any_map] at hS
 obtain ⟨⟨h1,h2⟩,h3⟩:=hS
 obtain ⟨h4,h5,-⟩:=(setsFrom_iff _ _ _).1 h3
 exact ⟨h1,h2,fun s hs=>h4 _ (List.mem_map_of_mem hs),List.pairwise_map.1 h5⟩
theorem TenC.find_lt (c:TenC) (p:BS) (h:c.find p<0):∀ s∈c.sets,s.path≠p:=by
 have h1:=firstI_any (fun s:SetC=>s.path == p) c.sets
 rw [show decide ((0:Int)≤firstI (fun s:SetC=>s.path == p) c.sets)=false from decide_eq_false (by unfold TenC.find at h;omega)] at h1
 intro s hs e
 have:=List.any_eq_false.1 h1.symm s hs
 simp [e] at this
theorem TenC.find_ge (c:TenC) (p:BS) (h:¬ c.find p<0):∃ s∈c.sets,s.path=p:=by
 have h1:=firstI_any (fun s:SetC=>s.path == p) c.sets
 rw [show decide ((0:Int)≤firstI (fun s:SetC=>s.path == p) c.sets)=true from decide_eq_true (by unfold TenC.find at h;omega)] at h1
 obtain ⟨s,hs,e⟩:=List.any_eq_true.1 h1.symm
 exact ⟨s,hs,by simpa using e⟩
theorem firstI_at {α:Type} (q:α→Bool) (l:List α) (k:Nat) (x:α) (h:∀ y∈l.take k,q y=false) (hx:l[k]?=some x) (hp:q x=true):firstI q l=(k:Int):=by
 unfold firstI
 rw [firstP_eq q l k x h hx hp,if_pos (List.getElem?_eq_some_iff.1 hx).1]
theorem splitL_nil:splitL []=none:=by unfold splitL atL;rfl
theorem clP_nil (p q:BS):clP p q []=false:=by unfold clP;rw [splitL_nil]
/-- where a set was put -/
theorem TenC.withS_at (c:TenC) (s:SetC):∃ i,i≤c.sets.length∧(c.withS s).sets=c.sets.take i++s :: c.sets.drop i:=by
 refine ⟨posF (fun x:SetC=>cmpS x.path s.path) c.sets,posF_le _ _,?_⟩
 show c.sets.take _++[s]++c.sets.drop _=_
 rw [List.append_assoc]
 rfl
theorem mem_at {α:Type} {l:List α} {i:Nat} {x y:α} (h:y∈l.take i++x :: l.drop i):y=x∨y∈l:=by
 rcases List.mem_append.1 h with h | h
 ·exact .inr (List.mem_of_mem_take h)
 ·rcases List.mem_cons.1 h with h | h
  ·exact .inl h
  ·exact .inr (List.mem_of_mem_drop h)
/-- a place that no set has: nothing stands under it, nothing is a clone of it -/
theorem TenC.free_at (c:TenC) (p:BS) (hE:c.E=0) (hf:c.find p<0):∀ s∈c.sets,parB s.path≠some p∧∀ q,clP p q s.org=false:=by
 obtain ⟨_,_,hs,_⟩:=c.E_sets hE
 have hn:=c.find_lt p hf
 intro s hm
 have h:=hs s hm
 unfold setB at h
 simp only [Bool.and_eq_true] at h
 obtain ⟨⟨⟨⟨⟨h1,h2⟩,_⟩,_⟩,_⟩,h6⟩:=h
 constructor
 ·intro e
  have e':parB s.r.path=some p:=e
  rw [e'] at h2
  simp only [List.any_map] at h2
  obtain ⟨x,hx,e2⟩:=List.any_eq_true.1 h2
  exact hn x hx (by simpa [SetC.r] using e2)
 ·intro q
  unfold clP
  unfold originB at h6
  have e0:s.r.org=s.org:=rfl
  rw [e0] at h6
  cases hsp:splitL s.org with
  | none=>rfl
  | some v =>
   obtain ⟨a,b⟩:=v
   rw [hsp] at h6
   simp only at h6 ⊢
   have ho:(s.org == [])=false:=by
    rw [← Bool.not_eq_true]
    intro e
    have e:s.org=[]:=by simpa using e
    rw [e,splitL_nil] at hsp
    cases hsp
   rw [ho,Bool.false_or,Bool.and_eq_true] at h6
   by_cases hap:a=p
   ·subst hap
    have h7:=h6.2
    rw [find_map] at h7
    have:(c.sets.find? fun x:SetC=>(SetC.r x).path == a)=none:=by
     rw [List.find?_eq_none]
     intro x hx
     simpa [SetC.r] using hn x hx
    rw [this] at h7
    cases h7
   ·have:(a == p)=false:=by simpa using hap
    rw [this,Bool.false_and]
theorem filter_none {α:Type} {q:α→Bool} {l:List α} (h:∀ x∈l,q x=false):(l.filter q).length=0:=by
 rw [List.length_eq_zero_iff,List.filter_eq_nil_iff]
 intro x hx
 rw [h x hx]
 decide
theorem withS_len (c:TenC) (s:SetC):(c.withS s).sets.length=c.sets.length+1:=by
 obtain ⟨i,hi,hw⟩:=c.withS_at s
 rw [hw,List.length_append,List.length_cons,List.length_take,List.length_drop]
 omega
/-- what a set that could be made tells -/
theorem create_ok (c:TenC) (p:BS) (c2:TenC) (h:(0,c2)=c.create p):c.E=0∧pathB p=true∧c.find p<0∧c2=c.withS (set0C p)∧c2.E=0:=by
 unfold TenC.create at h
 by_cases h1:c.ask p≠0
 ·rw [if_pos h1] at h
  injection h with h _
  exact absurd h.symm h1
 rw [if_neg h1] at h
 by_cases h2:0≤c.find p
 ·rw [if_pos h2] at h
  injection h with h _
  cases h
 rw [if_neg h2] at h
 by_cases h3:c.find (upL p)<0
 ·rw [if_pos h3] at h
  injection h with h _
  cases h
 rw [if_neg h3] at h
 by_cases h4:c.sets.length=32
 ·rw [if_pos h4] at h
  injection h with h _
  cases h
 rw [if_neg h4] at h
 unfold TenC.settle at h
 by_cases h5:(c.withS (set0C p)).E=9
 ·rw [if_pos h5] at h
  injection h with h _
  cases h
 rw [if_neg h5] at h
 split at h
 ·injection h with h _
  cases h
 ·injection h with _ h
  unfold TenC.ask at h1
  have hE:c.E=0:=by
   rcases c.E_two with h6 | h6
   ·exact h6
   ·rw [if_pos h6] at h1
    exact absurd (by decide) h1
  rw [if_neg (by rw [hE];decide)] at h1
  have hp:pathB p=true:=by
   cases hp:pathB p with
   | true=>rfl
   | false=>rw [if_pos hp] at h1;exact absurd (by decide) h1
  refine ⟨hE,hp,by omega,h,?_⟩
  rw [h]
  rcases (c.withS (set0C p)).E_two with h6 | h6
  ·exact h6
  ·exact absurd h6 h5
/-- ShapeBack, by content -/
theorem back_law (c:TenC) (p:BS) (hE:c.E=0) (hp:pathB p=true) (hf:c.find p<0) (hst:∀ s∈c.stages,s.into≠p) (hE':(c.withS (set0C p)).E=0) :
  (c.withS (set0C p)).destroy p=(0,c)∧0≤(c.withS (set0C p)).find p:=by
 obtain ⟨i,hi,hw⟩:=c.withS_at (set0C p)
 have hn:=c.find_lt p hf
 have hfr:=c.free_at p hE hf
 have hne:p≠[]:=by
  rintro rfl
  obtain ⟨x,hx,e⟩:=List.any_eq_true.1 (c.E_sets hE).2.1
  exact hn x hx (by simpa using e)
 have hask:(c.withS (set0C p)).ask p=0:=by
  unfold TenC.ask
  rw [if_neg (by rw [hE'];decide),if_neg (by rw [hp];decide)]
 have hfind:(c.withS (set0C p)).find p=(i:Int):=by
  unfold TenC.find
  rw [hw]
  refine firstI_at _ _ i (set0C p) (fun y hy=>?_) (by rw [List.getElem?_append_right (by rw [List.length_take];omega),List.length_take,Nat.min_eq_left hi,Nat.sub_self];rfl) (by simp [set0C])
  rw [List.take_append_of_le_length (by rw [List.length_take];omega),List.take_take,Nat.min_self] at hy
  simpa using hn y (List.mem_of_mem_take hy)
 have hk:(c.withS (set0C p)).kids p=0:=by
  unfold TenC.kids
  rw [hw]
  refine filter_none fun y hy=>?_
  rcases mem_at hy with rfl | hy
  ·show (parB p == some p)=false
   rw [← Bool.not_eq_true]
   intro e
   have e:parB p=some p:=by simpa using e
   have:=(parB_len0 e).1
   omega
  ·rw [← Bool.not_eq_true]
   intro e
   exact (hfr y hy).1 (by simpa using e)
 have hc:(c.withS (set0C p)).clones p []=0:=by
  unfold TenC.clones
  rw [hw]
  refine filter_none fun y hy=>?_
  rcases mem_at hy with rfl | hy
  ·exact clP_nil _ _
  ·exact (hfr y hy).2 []
 have hs:((c.withS (set0C p)).stages.any fun s=>s.into == p)=false:=by
  rw [List.any_eq_false]
  intro x hx
  simpa using hst x hx
 have hh:(c.withS (set0C p)).heldAt i=false:=by
  unfold TenC.heldAt
  rw [hw,List.getElem?_append_right (by rw [List.length_take];omega),List.length_take,Nat.min_eq_left hi,Nat.sub_self]
  rfl
 refine ⟨?_,by rw [hfind];omega⟩
 unfold TenC.destroy
 rw [hask,if_neg (by decide),hfind,if_neg (by omega),hk,hc,hs,if_neg (by simp [hne]),show ((i:Int)).toNat=i from Int.toNat_natCast i,hh,if_neg (by decide)]
 congr 1
 unfold TenC.dropS
 rw [hw,List.take_append_of_le_length (by rw [List.length_take];omega),List.take_take,Nat.min_self,drop_put _ i _ hi]
 obtain ⟨nm,qu,nx,ss,gs,ts,ls⟩:=c
 show TenC.mk _ _ _ _ _ _ _=_
 congr 1
 exact List.take_append_drop i ss
end Go.Proofs.YtcgclpcocdappaaDoor
namespace Go.Proofs.YtcgclpcocdappaaDoor
open Go.RowKit
/-- none of a tenant's rows is of this type -/
def offT (T:TypeId):Prop:=66≠T∧9≠T∧68≠T∧42≠T∧45≠T∧70≠T∧53≠T∧72≠T
theorem offT_ten:offT 27:=by unfold offT;decide
section
variable {w w':World} {base g:Nat} {cs:Array Value} {T:TypeId}
theorem SnapO.keptT {x:SnapR} (h:SnapO w base x) (hg:w.grownBy w' (some g)) (hb:Blk w g T cs) (hT:offT T):SnapO w' base x :=
 ⟨h.body.keptT hg hb hT.1,h.tags.keptT hg hb hT.2.1,h.own.keptT hg hb hT.2.2.1⟩
theorem SetO.keptT {x:SetR} (h:SetO w base x) (hg:w.grownBy w' (some g)) (hb:Blk w g T cs) (hT:offT T):SetO w' base x :=
 ⟨h.body.keptT hg hb hT.1,h.snaps.keptT hg hb hT.2.2.2.1,fun y hy=>(h.each y hy).keptT hg hb hT,h.own.keptT hg hb hT.2.2.1⟩
theorem StageO.keptT {x:StageR} (h:StageO w base x) (hg:w.grownBy w' (some g)) (hb:Blk w g T cs) (hT:offT T):StageO w' base x :=
 ⟨h.own.keptT hg hb hT.2.2.1,h.body.keptT hg hb hT.1⟩
theorem TenO.keptT {t:TenR} (h:TenO w base t) (hg:w.grownBy w' (some g)) (hb:Blk w g T cs) (hT:offT T):TenO w' base t :=
 ⟨h.sets.keptT hg hb hT.2.2.2.2.1,fun y hy=>(h.eachS y hy).keptT hg hb hT,h.grants.keptT hg hb hT.2.2.2.2.2.1,h.stages.keptT hg hb hT.2.2.2.2.2.2.1,fun y hy=>(h.eachG y hy).keptT hg hb hT,h.log.keptT hg hb hT.2.2.2.2.2.2.2⟩
end
end Go.Proofs.YtcgclpcocdappaaDoor
namespace Go.Proofs.YtcgclpcocdappaaDoor
open Go.RowKit
def new0C (q:Int):TenC:=⟨[116],q,1,[set0C []],[],[],[]⟩
set_option maxRecDepth 100000 in
set_option maxHeartbeats 2000000 in
theorem rnew_any (q:Int) (h0:0<q) (h1:q≤1099511627776) (w:World) :
  Calls Tryd.prog 9 #[.string ⟨#[116]⟩,.int .i64 q] w fun e w'=>∃ y:TenR,e=.returned (.tuple #[y.val,.int .i64 0])∧TenO w' w.heap.size y∧y.con=new0C q∧Below w.heap.size w w':=by
 have hb:=((Below.refl w.heap.size w).alloc (Nat.le_refl _) (.cells #[.string ⟨#[]⟩,.int .i64 0,.int .i64 0,.slice none 0 0,.slice none 0 0,.slice none 0 0,.slice none 0 0] 27))
 have kz:=Blk.new w 27 #[.string ⟨#[]⟩,.int .i64 0,.int .i64 0,.slice none 0 0,.slice none 0 0,.slice none 0 0,.slice none 0 0]
 have hsz:(w.alloc (.cells #[.string ⟨#[]⟩,.int .i64 0,.int .i64 0,.slice none 0 0,.slice none 0 0,.slice none 0 0,.slice none 0 0] 27)).heap.size=w.heap.size+1:=by simp
 obtain ⟨W1,hW1⟩:∃ W,W=(w.alloc (.cells #[.string ⟨#[]⟩,.int .i64 0,.int .i64 0,.slice none 0 0,.slice none 0 0,.slice none 0 0,.slice none 0 0] 27)):=⟨_,rfl⟩
 rw [← hW1] at hb hsz kz
 have hKz:Hid (∀ W,Below W1.heap.size W1 W→Blk W w.heap.size 27 #[.string ⟨#[]⟩,.int .i64 0,.int .i64 0,.slice none 0 0,.slice none 0 0,.slice none 0 0,.slice none 0 0]):=fun W h=>kz.below h (by omega)
 have hBW:Hid (∀ W,Below W1.heap.size W1 W→Below w.heap.size w W):=fun W h=>hb.trans (h.mono (by omega))
 have hSZ:Hid (∀ W,Below W1.heap.size W1 W→w.heap.size+1≤W.heap.size):=fun W h=>by have:=h.size;omega
 have hW0:Hid (Below W1.heap.size W1 W1):=Below.refl _ _
 have hNM:Hid (∀ W,Below W1.heap.size W1 W→Calls Tryd.prog 22 #[.string ⟨#[116]⟩] W fun e w'=>e=.returned (.bool true)∧Below W.heap.size W w'):=fun W _=>by
  have h:=refNameB_any [116] W (by decide)
  rw [show nameB [116]=true by decide +kernel] at h
  exact h
 have hAM:Hid (∀ W,Below W1.heap.size W1 W→Calls Tryd.prog 23 #[.int .i64 q,.int .i64 0] W fun e w'=>e=.returned (.bool true)∧Below W.heap.size W w'):=fun W _=>by
  have h:=refAmountB_any q 0 W
  rw [show amt q 0=true by unfold amt;simp;omega] at h
  exact h
 have hq0:¬ q=0:=by omega
 clear hb hsz kz
 go_enter Tryd.func9,Tryd.ntmps9
 have hc:=hNM.out  W1 hW0.out
 go_wp2_with fail
 rw [← hW1]
 clear hW1
 refine hc.mono ?_
 clear hc 
 rintro e w2 ⟨rfl,hb⟩
 have HW2:=Lib.hid (hW0.out.trans (hb.mono hW0.out.size))
 clear hb
 have hc:=hAM.out  w2 HW2.out
 go_wp2_with fail
 refine hc.mono ?_
 clear hc 
 rintro e w3 ⟨rfl,hb⟩
 have HW3:=Lib.hid (HW2.out.trans (hb.mono HW2.out.size))
 clear hb
 have kz:=(hKz.out w3 HW3.out).alloc (.cells #[.string ⟨#[]⟩,.string ⟨#[]⟩,.slice none 0 0,.slice none 0 0,.slice none 0 0] 45)
 have kr:=Blk.new w3 45 #[.string ⟨#[]⟩,.string ⟨#[]⟩,.slice none 0 0,.slice none 0 0,.slice none 0 0]
 have hb:=(hBW.out w3 HW3.out).alloc (by have:=hSZ.out w3 HW3.out;omega) (.cells #[.string ⟨#[]⟩,.string ⟨#[]⟩,.slice none 0 0,.slice none 0 0,.slice none 0 0] 45)
 have hszr:(w3.alloc (.cells #[.string ⟨#[]⟩,.string ⟨#[]⟩,.slice none 0 0,.slice none 0 0,.slice none 0 0] 45)).heap.size=w3.heap.size+1:=by simp
 obtain ⟨W4,hW4'⟩:∃ W,W=w3.alloc (.cells #[.string ⟨#[]⟩,.string ⟨#[]⟩,.slice none 0 0,.slice none 0 0,.slice none 0 0] 45):=⟨_,rfl⟩
 rw [← hW4'] at kz kr hb hszr
 have KZ:=Lib.hid kz
 have HB:=Lib.hid hb
 have HSZ3:=Lib.hid (show w.heap.size+1≤w3.heap.size∧W4.heap.size=w3.heap.size+1 by have:=hSZ.out w3 HW3.out;omega)
 have HO:Hid (TenO W4 w.heap.size ⟨[116],q,1,⟨some ⟨w3.heap.size,0,none⟩,1,1,[⟨[],[],⟨none,0,0,[]⟩,⟨none,0,0,[]⟩,⟨none,0,0,[]⟩⟩]⟩,⟨none,0,0,[]⟩,⟨none,0,0,[]⟩,⟨none,0,0,[]⟩⟩):=by
  show TenO _ _ _
  refine ⟨⟨rfl,own_of_row (cap:=1) (cur:=[.string ⟨#[]⟩,.string ⟨#[]⟩,.slice none 0 0,.slice none 0 0,.slice none 0 0]) kr (by have:=HSZ3.out;omega) (Nat.le_refl _) (by decide) rfl rfl⟩,fun y hy=>?_,⟨rfl,rfl,.inl ⟨rfl,rfl⟩⟩,⟨rfl,rfl,.inl ⟨rfl,rfl⟩⟩,fun y hy=>absurd hy (by simp),⟨rfl,rfl,.inl ⟨rfl,rfl⟩⟩⟩
  rw [List.mem_singleton] at hy
  subst hy
  exact ⟨⟨rfl,rfl,.inl ⟨rfl,rfl⟩⟩,⟨rfl,rfl,.inl ⟨rfl,rfl⟩⟩,fun y hy=>absurd hy (by simp),⟨rfl,rfl,.inl ⟨rfl,rfl⟩⟩⟩
 clear kz kr hb hszr
 go_upto_region 7 with (fail)
 obtain ⟨WR,hW4,hth,HL,HBW,hgw⟩:=res7 (g:=w.heap.size) [.string ⟨#[116]⟩,.int .i64 q,.int .i64 1,.slice (some ⟨w3.heap.size,0,none⟩) 1 1,.slice none 0 0,.slice none 0 0,.slice none 0 0] KZ.out HB.out (by omega)
 have HOO:=Lib.hid (TenO.keptT HO.out hgw KZ.out offT_ten)
 clear hgw
 go_wp2_with ((try rw [← hW4']);refine wpList_store_mid rfl 27 (.tmp 4) (.tmp 24) rfl (w.heap.size) 0 #[.string ⟨#[116]⟩,.int .i64 q,.int .i64 1,.slice (some ⟨w3.heap.size,0,none⟩) 1 1,.slice none 0 0,.slice none 0 0,.slice none 0 0] rfl rfl hth.out (by kernel_rfl) (by simp [Value.oneCell']) ?_;rw [← hW4];clear hW4)
 exact bodyPost_ret (v:=.tuple #[.agg #[.string ⟨#[116]⟩,.int .i64 q,.int .i64 1,.slice (some ⟨w3.heap.size,0,none⟩) 1 1,.slice none 0 0,.slice none 0 0,.slice none 0 0],.int .i64 0]) (results_cell_tmp rfl rfl HL.out) rfl ⟨⟨[116],q,1,⟨some ⟨w3.heap.size,0,none⟩,1,1,[⟨[],[],⟨none,0,0,[]⟩,⟨none,0,0,[]⟩,⟨none,0,0,[]⟩⟩]⟩,⟨none,0,0,[]⟩,⟨none,0,0,[]⟩,⟨none,0,0,[]⟩⟩,rfl,HOO.out,rfl,HBW.out⟩
end Go.Proofs.YtcgclpcocdappaaDoor
