/-
  slices.BinarySearch at strings, by its contract. slices.Clone at strings: of nothing it is a row without room. Contents with a set more, with another set at a place, with a set less. What a function tells that answers by a tenant and an error; sizes by content. Drawn regions with guards: when an operation is wanted.
-/
import Derived.Test.YtcgclpcocdappaaGreatDoorRows
import Derived.Handy
import Derived.WalkKit
import Derived.WalkSpells
import Derived.Below
import Derived.Laws.OwnMore
import Derived.Deep.AppendLies
import Derived.Deep.Draws
import Derived.Laws.Rows
import Derived.Maps.AppendAt
import Derived.RegionTactic
import Derived.OwnWalk
import Derived.Deep.QuietTactic
import Derived.BigQuiet
import Derived.Lib.Hide
import Derived.Laws.CopyOwn
import Derived.IntWalk
import Derived.Deep.Quiet
import Derived.Sort.Walk0
import Derived.Sort.KeysCollected
import Derived.Laws.BytesString
import Derived.Laws.IdiomStrings
import Derived.Lib.ConvBytes
import Derived.Lib.Strings
import Derived.Lib.Overlaps
import Derived.Lib.AppendZerosOnto
import Derived.Deep.RegionLaw
import Derived.Orders
import Derived.Lib.SplitLaws
import Derived.Lib.LastIndexByte
import Derived.ShutString
import Derived.Deep.MidRow
import Derived.Shelf.Strings.Search1
import Derived.Shelf.Strings.Search2
import Derived.Shelf.Strings.Search3
import Derived.Shelf.Strings.Cut
import Derived.Shelf.Strings.Count
import Derived.Shelf.LaysM
import Derived.Shelf.Strings.Shaped
import Derived.Shelf.Strings.LastIndex
import Derived.Shelf.Strings.Split
import Derived.Shelf.Strings.SplitShaped
import Derived.Shelf.Unicode.Decode
import Derived.Shelf.Strings.RuneCount
import Derived.Shelf.Strings.Explode
import Derived.Shelf.Unicode.DecodeSlow
import Derived.Test.YtcgclpcocdappaaGreatDoorProg
import Derived.Great.BuildSlice
import Derived.ProofKit
import Derived.OpenShut
import Derived.ChangeOld
import Derived.Carry
import Derived.SizedLaws
import Derived.JoinedCond
import Derived.Deep.CondSized
import Derived.Deep.Slices
import Derived.Deep.Fields
import Derived.Lib.SmallJoins
import Derived.Deep.DeepCutAuto
import Derived.Test.YtcgclpcocdappaaGreatDoorJ0
import Derived.Test.YtcgclpcocdappaaGreatDoorJbkv1
import Derived.Test.YtcgclpcocdappaaGreatDoorJbkv3
import Derived.Test.YtcgclpcocdappaaGreatDoorJbkv4
import Derived.Test.YtcgclpcocdappaaGreatDoorJbkv5
import Derived.Test.YtcgclpcocdappaaGreatDoorJbkv8
import Derived.Test.YtcgclpcocdappaaGreatDoorJbkv10
import Derived.Test.YtcgclpcocdappaaGreatDoorJbkv14
import Derived.Test.YtcgclpcocdappaaGreatDoorJbkv15
import Derived.Test.YtcgclpcocdappaaGreatDoorJbkv16
import Derived.Test.YtcgclpcocdappaaGreatDoorJbkv17
import Derived.Test.YtcgclpcocdappaaGreatDoorJbkv18
import Derived.Test.YtcgclpcocdappaaGreatDoorJbkv20
import Derived.Test.YtcgclpcocdappaaGreatDoorJkv1
import Derived.Test.YtcgclpcocdappaaGreatDoorJk1
namespace Go.Proofs.YtcgclpcocdappaaGreatDoor
open Go.RowKit
set_option maxRecDepth 100000 in
theorem lessT_any (x y:BS) (w:World):Calls Tryz.prog 165 #[.string ⟨x.toArray⟩,.string ⟨y.toArray⟩] w fun e w'=>e=.returned (.bool (Op.bytesLess x y))∧∃ q,w'=w.drewN q:=by
 have hlss:=lssS 9 x y
 go_enter Tryz.func165,Tryz.ntmps165
 go_wp2_with fail
 refine (isNaNS_any x _).mono ?_
 rintro e w1 ⟨rfl,q1,rfl⟩
 go_wp2_with fail
 go_ret
 exact ⟨rfl,q1,rfl⟩
set_option maxRecDepth 100000 in
theorem isNaNT_any (x:BS) (w:World):Calls Tryz.prog 166 #[.string ⟨x.toArray⟩] w fun e w'=>e=.returned (.bool false)∧∃ q,w'=w.drewN q:=by
 go_enter Tryz.func166,Tryz.ntmps166
 go_wp2_with fail
 go_ret
 exact ⟨rfl,0,rfl⟩
set_option maxRecDepth 100000 in
set_option maxHeartbeats 2000000 in
theorem searchT_any (l:List BS) (g:BS) (hl:SignAsc (fun x=>cmpS x g) l) (n:Nat) (hnl:n=l.length) (A:Option Addr) (c:Nat) (w:World) (B:Nat)
  (hr:Reads w B 1 A n (scells l)) (hB:B≤w.heap.size) (hn:n≤5000000000000) :
  Calls Tryz.prog 97 #[.slice A n c,.string ⟨g.toArray⟩] w fun e w'=>e=.returned (.tuple #[.int .i64 (posF (fun x=>cmpS x g) l),.bool (atF (fun x=>cmpS x g) l)])∧Below w.heap.size w w':=by
 have HN:=Lib.hid hnl
 have HL:=Lib.hid hl
 clear hnl hl
 go_enter Tryz.func97,Tryz.ntmps97
 go_wp2_with fail
 go_loopw [7,8] (fun i j wr=>∃ a b:Nat,a≤b∧b≤n∧i=.int .i64 (a:Int)∧j=.int .i64 (b:Int)∧Hid ((∀ (k:Nat) (x:BS),k<a→l[k]?=some x→cmpS x g<0)∧∀ (k:Nat) (x:BS),b≤k→l[k]?=some x→0≤cmpS x g)∧Below w.heap.size w wr) (fun i j _=>(intOf j).toNat-(intOf i).toNat)
 case atStart=>exact ⟨0,n,Nat.zero_le _,Nat.le_refl _,rfl,rfl,⟨fun k x hk _=>by omega,fun k x hk hx=>by have:=(List.getElem?_eq_some_iff.1 hx).1;have:=HN.out;omega⟩,Below.refl _ _⟩
 case round =>
  obtain ⟨a,b,hab,hbn,rfl,rfl,hI,hbw⟩:=hrel
  by_cases hlt:a<b
  ·obtain ⟨h,hh⟩:∃ h,h=(a+b) / 2:=⟨_,rfl⟩
   have hha:a≤h:=by omega
   have hhb:h<b:=by omega
   have hlI:(a:Int)<(b:Int):=by omega
   have hrw:=hr.below (hbw.mono hB)
   obtain ⟨ad,rfl,hadB,c0⟩:=strs_at hrw HN.out (show h<n by omega)
   obtain ⟨x,hx⟩:∃ x,x=l[h]'(by have:=HN.out;omega):=⟨_,rfl⟩
   rw [← hx] at c0
   simp only [strV] at c0
   have HX:=Lib.hid (show l[h]?=some x by rw [hx];exact List.getElem?_eq_getElem _)
   have HH:=Lib.hid hh
   have hcx:=lessT_any x g wr
   obtain ⟨z,hz⟩:∃ z,z=Op.bytesLess x g:=⟨_,rfl⟩
   rw [← hz] at hcx
   have HZ:Hid (cmpS x g<0↔z=true):=by show _↔_;rw [hz];exact cmpS_neg x g
   clear hx hr hz
   rw [hh] at c0
   clear hh
   go_wp2_with fail
   refine hcx.mono ?_
   clear hcx
   rintro e w1 ⟨rfl,q,hw1⟩
   have hbw1:Below w.heap.size w w1:=by rw [hw1];exact below_drewN hbw q
   clear hw1
   cases z with
   | true =>
    have HZ2:Hid (cmpS x g<0):=HZ.out.2 rfl
    clear HZ
    go_wp2_with fail
    go_roundw
    case rel =>
     refine ⟨h+1,b,by omega,hbn,by rw [HH.out];go_num,rfl,⟨fun k y hk hy=>?_,hI.out.2⟩,hbw1⟩
     by_cases hkh:k=h
     ·subst hkh
      have:=HX.out
      rw [hy] at this
      cases this
      exact HZ2.out
     ·exact HL.out k h y x (by omega) hy HX.out HZ2.out
    case measure=>simp [intOf];omega
   | false =>
    have HZ2:Hid (¬ cmpS x g<0):=fun h0=>by cases HZ.out.1 h0
    clear HZ
    go_wp2_with fail
    go_roundw
    case rel =>
     refine ⟨a,h,by omega,by omega,rfl,by rw [HH.out];go_num,⟨hI.out.1,fun k y hk hy=>?_⟩,hbw1⟩
     by_cases hkh:k=h
     ·subst hkh
      have:=HX.out
      rw [hy] at this
      cases this
      have:=HZ2.out
      omega
     ·have h1:cmpS y g<0→cmpS x g<0:=HL.out h k x y (by omega) HX.out hy
      have:=HZ2.out
      omega
    case measure=>simp [intOf];omega
  ·obtain rfl:a=b:=by omega
   have hpos:posF (fun x=>cmpS x g) l=a:=posF_eq _ l a (by have:=HN.out;omega) hI.out.1 (fun x hx=>hI.out.2 a x (Nat.le_refl _) hx)
   have hrw:=hr.below (hbw.mono hB)
   by_cases han:a<n
   ·have hani:(a:Int)<(n:Int):=by omega
    obtain ⟨ad,rfl,hadB,c0⟩:=strs_at hrw HN.out han
    obtain ⟨x,hx⟩:∃ x,x=l[a]'(by have:=HN.out;omega):=⟨_,rfl⟩
    rw [← hx] at c0
    simp only [strV] at c0
    have hat:atF (fun x=>cmpS x g) l=(cmpS x g == 0):=by
     unfold atF
     rw [hpos,List.getElem?_eq_getElem (by have:=HN.out;omega),← hx]
     rfl
    have HPOS:=Lib.hid hpos
    have hna:=isNaNT_any x wr
    by_cases hxg:x=g
    ·have HAT:Hid (atF (fun x=>cmpS x g) l=true):=by show _=_;rw [hat,(cmpS_zero x g).2 hxg];rfl
     clear hx hr hrw hpos hat
     subst hxg
     go_wp2_with fail
     go_ret2
     exact ⟨by rw [HPOS.out,HAT.out];rfl,hbw⟩
    ·have HAT:Hid (atF (fun x=>cmpS x g) l=false):=by show _=_;rw [hat];simpa using fun h=>hxg ((cmpS_zero x g).1 h)
     have hxg1:(x == g)=false:=by simpa using hxg
     have hxg2:(x.toArray == g.toArray)=false:=by simpa using hxg
     clear hx hr hrw hpos hat hxg
     go_wp2_with fail
     refine hna.mono ?_
     clear hna
     rintro e w1 ⟨rfl,q,hw1⟩
     have hbw1:Below w.heap.size w w1:=by rw [hw1];exact below_drewN hbw q
     clear hw1
     go_wp2_with fail
     go_ret2
     exact ⟨by rw [HPOS.out,HAT.out];rfl,hbw1⟩
   ·have hat:atF (fun x=>cmpS x g) l=false:=by
     unfold atF
     rw [hpos,List.getElem?_eq_none (by have:=HN.out;omega)]
     rfl
    have HPOS:=Lib.hid hpos
    have HAT:=Lib.hid hat
    clear hr hrw hpos hat
    go_wp2_with fail
    go_ret2
    exact ⟨by rw [HPOS.out,HAT.out];rfl,hbw⟩
end Go.Proofs.YtcgclpcocdappaaGreatDoor
namespace Go.Proofs.YtcgclpcocdappaaGreatDoor
open Go.RowKit
theorem Tryz.cloneS0_size:(Tryz.prog.info? 9).map (·.size)=some 1:=by kernel_rfl
section
variable {P:Program}
theorem wpList_appendK {ops:Array Oper} {rest:List Oper} {o:Oper} {a:Act} {w:World} {Q:Exit→Act→World→Prop} (hgd:o.guard=none) (d s:Operand) (t:TypeId)
  (ho:o.op=.call { callee:=.builtin .append,args:=#[d,s],argTypes:=#[t,t] }) (elem:TypeId) (k:Nat) (hu:P.underlying t=some (.slice elem)) (hsz:(P.info? elem).map (·.size)=some k)
  (g sLen sCap:Nat) (ad:Addr) (xLen xCap:Nat) (hd:a.eval d=.slice (some ⟨g,0,none⟩) sLen sCap) (hs:a.eval s=.slice (some ad) xLen xCap)
  (cur:List Value) (T:TypeId) (hg:w.heap[g]?=some (.cells cur.toArray T (0,0))) (cs:List Value) (hn:cs.length=xLen*k)
  (hsrc:∀ j v,cs[j]?=some v→w.cell? (ad.add j)=some v) (hfit:sLen*k+cs.length≤cur.length) (hroom:sLen+xLen≤sCap) (h1:∀ v∈cs,v.oneCell'=true)
  (h:∀ w',Hid (w'.heap[g]?=some (.cells (splice cur (sLen*k) cs).toArray T (0,0)))→w.grownBy w' (some g)→wpList P ops Q rest (a.put o.dst (.slice (some ⟨g,0,none⟩) (sLen+xLen) sCap)) w'):wpList P ops Q (o :: rest) a w :=
 wpList_plain hgd fun _ hK=>wp_appendK d s t ho elem k hu hsz g sLen sCap ad xLen xCap hd hs cur T hg cs hn hsrc hfit hroom h1 fun w' h2 h3=>hK _ _ (h w' h2 h3)
end
set_option maxRecDepth 100000 in
theorem cloneS0_any (A:Option Addr) (c:Nat) (w:World) :
  Calls Tryz.prog 99 #[.slice A 0 c] w fun e w'=>∃ A',e=.returned (.slice A' 0 0)∧w'.ownsRow w.heap.size 9 1 (.slice A' 0 0) 0 []∧Below w.heap.size w w':=by
 rcases A with _ | ad
 ·have heq:=fun W=>Lib.run_eql_slice_nil (P:=Tryz.prog) W 48 9 none 0 c 0 0 Tryz.underlying48
  go_enter Tryz.func99,Tryz.ntmps99
  go_wp2_with fail
  go_ret
  exact ⟨_,rfl,World.ownsRow_nil _ _ _ _,Below.refl _ _⟩
 ·have heq:=fun W=>Lib.run_eql_slice_nil (P:=Tryz.prog) W 48 9 (some ad) 0 c 0 0 Tryz.underlying48
  go_enter Tryz.func99,Tryz.ntmps99
  go_wp2_with (at_builtin;(refine wpList_appendK rfl (.tmp 5) (.tmp 6) _ rfl 9 1 Tryz.underlying48 Tryz.cloneS0_size w.heap.size 0 0 ad 0 c rfl rfl [] 9 (Blk.new w 9 #[]) [] rfl (fun j v h=>by simp at h) (Nat.le_refl _) (Nat.le_refl _) (fun v h=>by simp at h) ?_);intro w2 hh1 hg1)
  go_ret
  refine ⟨_,rfl,⟨rfl,.inr ⟨w.heap.size,0,#[],rfl,Nat.le_refl _,hh1,Nat.le_refl _,by simp [maxLen],rfl,rfl⟩⟩,((Below.refl _ _).alloc (Nat.le_refl _) _).grown hg1 (by simp) (fun k hk=>?_)⟩
  injection hk with hk
  omega
theorem cloneS2_any (xs:List Value) (n:Nat) (A:Option Addr) (c:Nat) (w:World) (B:Nat) (hr:Reads w B 1 A n xs) (hB:B≤w.heap.size) (h1:∀ u∈xs,u.oneCell'=true) (hn:n*16≤140737488355328) :
  Calls Tryz.prog 99 #[.slice A n c] w fun e w'=>∃ A' c',e=.returned (.slice A' n c')∧(n=0→c'=0)∧w'.ownsRow w.heap.size 9 1 (.slice A' n c') n xs∧Below w.heap.size w w':=by
 rcases Nat.eq_zero_or_pos n with h0 | h0
 ·subst h0
  obtain rfl:xs=[]:=List.eq_nil_of_length_eq_zero (by simpa using hr.1)
  refine (cloneS0_any A c w).mono ?_
  rintro e w' ⟨A',rfl,ho,hb⟩
  exact ⟨A',0,rfl,fun _=>rfl,ho,hb⟩
 ·refine (cloneSt_any xs n A c w B hr hB h1 hn).mono ?_
  rintro e w' ⟨v,rfl,ho,hb⟩
  obtain ⟨v1,v3,rfl,_⟩:=own_form ho
  exact ⟨v1,v3,rfl,fun h=>by omega,ho,hb⟩
/-- a row of tags is another block than a row of one other tag -/
theorem own_ne_one {W:World} {base n b:Nat} {A:Option Addr} {c:Nat} {xs:List Value} {u:Value} (h:W.ownsRow base 9 1 (.slice A n c) n xs) (hc:n=0→c=0) (hb:Blk W b 9 #[u]) (hne:xs≠[u]):(Value.slice A n c).ownBlock≠some b:=by
 intro e
 rcases h.2 with ⟨h1,_⟩ | ⟨g,cap,cur,h1,_,hg,hn,_,hs,hx⟩
 ·rw [h1] at e;simp [Value.ownBlock] at e
 ·rw [h1] at e
  have e:g=b:=by simpa [Value.ownBlock] using e
  subst e
  injection h1 with h2 h3 h4
  subst h4
  have hg2:W.heap[g]?=some (.cells #[u] 9 (0,0)):=hb
  rw [hg] at hg2
  injection hg2 with hg2
  injection hg2 with hg2
  subst hg2
  have h5:c=1:=by simpa using hs.symm
  have h6:n=1:=by omega
  subst h6
  exact hne (by simpa using hx.symm)
end Go.Proofs.YtcgclpcocdappaaGreatDoor
namespace Go.Proofs.YtcgclpcocdappaaGreatDoor
open Go.RowKit
/-- the content without the set at a place -/
def TenC.dropS (c:TenC) (i:Nat):TenC:=⟨c.nm,c.quota,c.next,c.sets.take i++c.sets.drop (i+1),c.grants,c.stages,c.log⟩
theorem con_dropS (y:TenR) (i:Nat) (A:Option Addr) (n c:Nat):TenR.con ⟨y.nm,y.quota,y.next,⟨A,n,c,y.sets.l.take i++y.sets.l.drop (i+1)⟩,y.grants,y.stages,y.log⟩=y.con.dropS i:=by
 show TenC.mk _ _ _ _ _ _ _=TenC.mk _ _ _ _ _ _ _
 simp only [List.map_append,List.map_take,List.map_drop]
 rfl
end Go.Proofs.YtcgclpcocdappaaGreatDoor
namespace Go.Proofs.YtcgclpcocdappaaGreatDoor
open Go.RowKit
/-! ### sizes, by content -/
section
variable {w:World} {B:Nat}
end
theorem TenC.sz.dropS {c:TenC} {i:Nat} (h:c.sz):(c.dropS i).sz:=by
 refine ⟨h.nm,?_,fun y hy=>?_,h.grants,h.eachG,h.stages,h.eachT,h.log,h.eachL⟩
 ·unfold TenC.dropS
  have:=h.sets
  simp only [List.length_append,List.length_take,List.length_drop]
  omega
 ·have hy:y∈c.sets.take _++c.sets.drop _:=hy
  rcases List.mem_append.1 hy with hy | hy
  ·exact h.eachS y (List.mem_of_mem_take hy)
  ·exact h.eachS y (List.mem_of_mem_drop hy)
/-! ### what is told -/
/-- another row of sets, made where the old one lies, or anew -/
theorem TenO.newSets {y:TenR} {W W':World} {base:Nat} (h:TenO W base y) (hg:W.grownBy W' y.sets.val.ownBlock) (s':FS SetR) (hs:s'.own W' base 42 5 encSet) (hm:∀ z∈s'.l,SetO W base z) :
  TenO W' base ⟨y.nm,y.quota,y.next,s',y.grants,y.stages,y.log⟩:=by
 refine TenO.setsO h s' hg hs fun z hz=>?_
 have hz:=hm z hz
 cases he:y.sets.val.ownBlock with
 | none=>rw [he] at hg;exact hz.below ⟨hg.os,hg.tape,hg.output,hg.size,fun k _=>hg.block k (by assumption) (by simp)⟩
 | some g =>
  rw [he] at hg
  rcases h.sets.2.2 with ⟨e,_⟩ | ⟨g',cap,cur,e,_,hh,_⟩
  ·rw [e] at he;simp [Value.ownBlock] at he
  ·rw [e] at he
   have he:g'=g:=by simpa [Value.ownBlock] using he
   subst he
   exact hz.keptS hg (show Blk W g' 42 cur from hh)
/-! ### what stands under a set, its clones, what is held -/
def TenC.kids (c:TenC) (p:BS):Nat:=(c.sets.filter fun s=>parB s.path == some p).length
theorem kids_con (t:TenR) (p:BS):(kidsL t.sets.l p).length=t.con.kids p:=by
 unfold kidsL TenC.kids
 rw [List.length_map]
 show _=((t.sets.l.map SetR.con).filter _).length
 rw [List.filter_map,List.length_map]
 rfl
/-- a set is gone -/
def TenC.heldAt (c:TenC) (i:Nat):Bool:=match c.sets[i]? with
 | none=>false
 | some s=>s.snaps.any fun x=>decide (0<x.tags.length)
end Go.Proofs.YtcgclpcocdappaaGreatDoor
namespace Go.Proofs.YtcgclpcocdappaaGreatDoor
open Go.RowKit
theorem unwanted_of {ops:Array Oper} {o:Oper} {A:Act} {g k:Nat} {b:Bool} (hg:o.guard=some (g,b)) (hd:(ops[g]?).bind (·.dst)=some k) (h:A.tmps[k]?.getD undef=.bool (!b)∨A.tmps[k]?.getD undef=undef):¬ Region.wanted o (yielded ops A.tmps)=true:=by
 have hy:∀ v,A.tmps[k]?.getD undef=v→yielded ops A.tmps g=match v with | .bool b=>some b | _=>none:=by
  rintro v rfl
  unfold yielded
  rw [hd]
  simp only [Option.bind_some]
  cases A.tmps[k]? with
  | none=>rfl
  | some v=>cases v <;> rfl
 rcases h with h | h
 ·simp [Region.wanted,hg,hy _ h]
 ·have:=hy _ h
  simp [Region.wanted,hg,this,undef]
end Go.Proofs.YtcgclpcocdappaaGreatDoor
