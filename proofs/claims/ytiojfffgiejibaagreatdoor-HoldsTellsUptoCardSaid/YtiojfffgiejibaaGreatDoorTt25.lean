/-
  The page's Path, by its contract. A row of one's own of which one field of one element is stored: the element is another one, the rest stays.
-/
import Derived.Test.YtiojfffgiejibaaGreatDoorTtM1
import Derived.WalkKit
import Derived.WalkSpells
import Derived.Below
import Derived.Laws.OwnMore
import Derived.Deep.AppendLies
import Derived.Deep.Draws
import Derived.Laws.Rows
import Derived.Maps.AppendAt
import Derived.RegionTactic
import Derived.OwnWalk
import Derived.Deep.QuietTactic
import Derived.BigQuiet
import Derived.Lib.Hide
import Derived.Laws.CopyOwn
import Derived.IntWalk
import Derived.Deep.Quiet
import Derived.Lib.SplitLaws
import Derived.Lib.LastIndexByte
import Derived.Lib.Strings
import Derived.Test.YtiojfffgiejibaaGreatDoorRows
import Derived.Handy
import Derived.Shelf.Strings.Search1
import Derived.Shelf.Strings.Search2
import Derived.Shelf.Strings.Search3
import Derived.Shelf.Strings.Cut
import Derived.Shelf.Strings.Count
import Derived.Shelf.LaysM
import Derived.Shelf.Strings.Shaped
import Derived.Shelf.Strings.LastIndex
import Derived.Shelf.Strings.Split
import Derived.Shelf.Strings.SplitShaped
import Derived.Shelf.Unicode.Decode
import Derived.Shelf.Strings.RuneCount
import Derived.Shelf.Strings.Explode
import Derived.Shelf.Unicode.DecodeSlow
import Derived.Shelf.Slices.Turned
import Derived.Test.YtiojfffgiejibaaGreatDoorProg
import Derived.Laws.BytesString
import Derived.Laws.IdiomStrings
import Derived.Lib.ConvBytes
import Derived.Orders
import Derived.Test.YtiojfffgiejibaaGreatDoorT0
import Derived.Test.YtiojfffgiejibaaGreatDoorTt1
import Derived.Test.YtiojfffgiejibaaGreatDoorTt3
import Derived.Test.YtiojfffgiejibaaGreatDoorTt5
import Derived.Test.YtiojfffgiejibaaGreatDoorTt7
import Derived.Test.YtiojfffgiejibaaGreatDoorTt8
import Derived.Test.YtiojfffgiejibaaGreatDoorTt9
import Derived.Test.YtiojfffgiejibaaGreatDoorTt13
namespace Go.Proofs.YtiojfffgiejibaaGreatDoor
open Go.RowKit
theorem extract_mk (s:ByteArray) (j k:Nat):s.extract j k=⟨((s.data.toList.drop j).take (k-j)).toArray⟩:=by
 apply eq_mk
 rw [ByteArray.data_extract,Array.toList_extract]
theorem partsL_len (l:BS):(partsL l).length≤l.length+1:=by
 induction l with
 | nil=>simp [partsL]
 | cons c l ih =>
  unfold partsL
  split
  ·simp;omega
  ·split
   ·rename_i p ps h
    rw [h] at ih
    simp at ih ⊢
    omega
   ·simp
set_option maxRecDepth 100000 in
set_option maxHeartbeats 1000000 in
theorem parts_any (s:ByteArray) (w:World) (hs:s.size≤4000000000) :
  Calls Tryz.prog 126 #[.string s,.int .u8 47] w fun e w'=>∃ v,e=.returned v∧w'.ownsRow w.heap.size 9 1 v (partsL s.data.toList).length (scells (partsL s.data.toList))∧Below w.heap.size w w':=by
 obtain ⟨i0,hi0,hz0,hz1,hz2⟩:=info_parts Tryz.infoS
 have HSZ:=Lib.hid (Lib.size_eq s)
 go_enter Tryz.func126,Tryz.ntmps126
 go_wp2_with fail
 go_loopw [5,6,7] (fun o f i wr=>∃ (k j m:Nat) (done:List BS) (A1:Option Addr) (c1:Nat),k≤s.size∧j≤k∧m≤j∧i=.int .i64 (k:Int)∧f=.int .i64 (j:Int)∧o=.slice A1 m c1∧Hid (m=done.length∧partsL s.data.toList=done++partsL (s.data.toList.drop j)∧47 ∉ (s.data.toList.drop j).take (k-j))∧wr.ownsRow w.heap.size 9 1 (.slice A1 m c1) m (scells done)∧Below w.heap.size w wr) (fun _ _ i _=>s.size-(intOf i).toNat)
 case atStart=>exact ⟨0,0,0,[],none,0,Nat.zero_le _,Nat.le_refl _,Nat.le_refl _,rfl,rfl,rfl,⟨rfl,by simp,by simp⟩,⟨rfl,.inl ⟨rfl,rfl⟩⟩,Below.refl _ _⟩
 case round =>
  obtain ⟨k,j,m,done,A1,c1,hk,hj,hm,rfl,rfl,rfl,hI,hown,hbw⟩:=hrel
  by_cases hlt:k<s.size
  ·have hki:(k:Int)<(s.size:Int):=tZ1
   have hkl:k<s.data.toList.length:=tZ6
   have hg:=bget s k hlt
   obtain ⟨y,hy⟩:∃ y,y=s[k]'hlt:=⟨_,rfl⟩
   have hyv:((s[k]'hlt).toNat:Int)=(y.toNat:Int):=by rw [hy]
   have hget:s.data.toList[k]?=some y:=by rw [List.getElem?_eq_getElem hkl,hg,← hy]
   have htk:(s.data.toList.drop j).take (k+1-j)=(s.data.toList.drop j).take (k-j)++[y]:=by
    rw [show k+1-j=k-j+1 by omega,List.take_add_one,List.getElem?_drop,show j+(k-j)=k by omega,hget]
    rfl
   have HTK:=Lib.hid htk
   have HGET:=Lib.hid hget
   clear hg hy hget htk
   by_cases h47:y=47
   ·have hyi:(y.toNat:Int)=47:=by rw [h47];rfl
    have hjk:(j:Int)≤(k:Int):=tZ1
    have hks:(k:Int)≤(s.size:Int):=tZ1
    have hex:=extract_mk s j k
    obtain ⟨q,hq⟩:∃ q,q=(s.data.toList.drop j).take (k-j):=⟨_,rfl⟩
    rw [← hq] at hex
    have HN:Hid (partsL s.data.toList=(done++[q])++partsL (s.data.toList.drop (k+1))):=by
     show _=_
     have hsp:s.data.toList.drop j=q++47 :: s.data.toList.drop (k+1):=by
      conv=>lhs;rw [← List.take_append_drop (k-j) (s.data.toList.drop j),← hq,List.drop_drop,show j+(k-j)=k by omega,List.drop_eq_getElem_cons hkl]
      have:=HGET.out
      rw [List.getElem?_eq_getElem hkl,h47] at this
      rw [Option.some.inj this]
     rw [hI.out.2.1,hsp,partsL_two _ _ (by rw [hq];exact hI.out.2.2),List.append_assoc]
     rfl
    have HM:Hid (m+1=(done++[q]).length):=by show _=_;rw [List.length_append,hI.out.1];rfl
    have hsz2:=hbw.size
    clear hq h47
    go_wp2_with (at_builtin;(refine wpList_push _ rfl (.tmp 19) (.tmp 24) 51 rfl w.heap.size 9 i0 (.string ByteArray.empty) 1 16 Tryz.underlying51 hi0 hz0 hz1 hz2 rfl tZ3 (.slice A1 m c1) m (scells done) rfl hown 1 #[.string ⟨q.toArray⟩] 9 tZ92 rfl tZ5 tZ12 tZ1 hsz2 ?_);intro v4 w4 hown4 hb4 _)
    obtain ⟨A4,c4,rfl,_,_,_⟩:=own_form hown4
    have hb5:=hbw.trans hb4
    have HO:Hid (w4.ownsRow w.heap.size 9 1 (.slice A4 (m+1) c4) (m+1) (scells (done++[q]))):=by show World.ownsRow _ _ _ _ _ _ _;rw [scells_append];exact hown4
    clear hown hown4 hbw hb4
    go_wp2_with fail
    go_roundw
    case rel=>exact ⟨k+1,k+1,m+1,done++[q],A4,c4,by omega,Nat.le_refl _,by omega,by go_num,by go_num,rfl,⟨HM.out,HN.out,by simp⟩,HO.out,hb5⟩
    case measure=>simp [intOf];omega
   ·have hyi:¬ (y.toNat:Int)=47:=by
     intro e
     exact h47 (UInt8.toNat_inj.1 (by have:(47:UInt8).toNat=47:=rfl;omega))
    have HN:Hid (47 ∉ (s.data.toList.drop j).take (k+1-j)):=by
     show _ ∉ _
     rw [HTK.out,List.mem_append,List.mem_singleton]
     rintro (h | h)
     ·exact hI.out.2.2 h
     ·exact h47 h.symm
    clear h47
    go_wp2_with fail
    go_roundw
    case rel=>exact ⟨k+1,j,m,done,A1,c1,by omega,by omega,hm,by go_num,rfl,rfl,⟨hI.out.1,hI.out.2.1,HN.out⟩,hown,hbw⟩
    case measure=>simp [intOf];omega
  ·obtain rfl:k=s.size:=tZ1
   have hex:=extract_mk s j s.size
   obtain ⟨q,hq⟩:∃ q,q=(s.data.toList.drop j).take (s.size-j):=⟨_,rfl⟩
   rw [← hq] at hex
   have HN:Hid (partsL s.data.toList=done++[q]):=by
    show _=_
    have:(s.data.toList.drop j).take (s.size-j)=s.data.toList.drop j:=List.take_of_length_le (by rw [List.length_drop];have:=HSZ.out;omega)
    have h47:=hI.out.2.2
    rw [this] at h47 hq
    rw [hI.out.2.1,partsL_one _ h47,hq]
   have HM:Hid (m+1=(partsL s.data.toList).length):=by show _=_;rw [HN.out,List.length_append,hI.out.1];rfl
   have hsz2:=hbw.size
   have hjk:(j:Int)≤(s.size:Int):=tZ1
   clear hq
   go_wp2_with (at_builtin;(refine wpList_push _ rfl (.tmp 28) (.tmp 32) 51 rfl w.heap.size 9 i0 (.string ByteArray.empty) 1 16 Tryz.underlying51 hi0 hz0 hz1 hz2 rfl tZ3 (.slice A1 m c1) m (scells done) rfl hown 1 #[.string ⟨q.toArray⟩] 9 tZ92 rfl tZ5 tZ12 tZ1 hsz2 ?_);intro v4 w4 hown4 hb4 _)
   have HO:Hid (w4.ownsRow w.heap.size 9 1 v4 (m+1) (scells (partsL s.data.toList))):=by show World.ownsRow _ _ _ _ _ _ _;rw [HN.out,scells_append];exact hown4
   have hb5:=hbw.trans hb4
   clear hown hown4 hbw hb4
   go_wp2_with fail
   go_ret
   exact ⟨v4,rfl,by rw [← HM.out];exact HO.out,hb5⟩
theorem parts_small (l:BS):∀ p∈partsL l,p.length≤l.length:=by
 induction l with
 | nil=>simp [partsL]
 | cons c l ih =>
  unfold partsL
  split
  ·intro p hp
   rcases List.mem_cons.1 hp with rfl | hp
   ·simp
   ·have:=ih p hp;simp;omega
  ·split
   ·rename_i q ps h
    rw [h] at ih
    intro p hp
    rcases List.mem_cons.1 hp with rfl | hp
    ·have:=ih q (List.mem_cons_self ..);simp;omega
    ·have:=ih p (List.mem_cons_of_mem _ hp);simp;omega
   ·intro p hp
    rw [List.mem_singleton] at hp
    subst hp
    simp
set_option maxRecDepth 100000 in
set_option maxHeartbeats 1000000 in
theorem refPath_any (s:ByteArray) (w:World) (hs:s.size≤4000000000) :
  Calls Tryz.prog 75 #[.string s] w fun e w'=>e=.returned (.bool (pathB s.data.toList))∧Below w.heap.size w w':=by
 have htl:=Lib.hid (toList_data s)
 have hpar:=parts_any s w hs
 have HSM:=Lib.hid (parts_small s.data.toList)
 have HPL:=Lib.hid (partsL_len s.data.toList)
 have HSZ:=Lib.hid (Lib.size_eq s)
 go_enter Tryz.func75,Tryz.ntmps75
 go_wp2_with fail
 ·exact mZ49
 ·have h0:s.toList.isEmpty=false:=by assumption
  have HP:Hid (pathB s.data.toList=(decide ((partsL s.data.toList).length≤4) && (partsL s.data.toList).all nameB)):=by
   show _=_
   rw [htl.out] at h0
   unfold pathB
   rw [h0,Bool.false_or]
  obtain ⟨L,hL⟩:∃ L,L=partsL s.data.toList:=⟨_,rfl⟩
  rw [← hL] at hpar HSM HPL HP
  obtain ⟨n,hn⟩:∃ n,n=L.length:=⟨_,rfl⟩
  rw [← hn] at hpar HPL HP
  have hnb:n≤4000000001:=by have:=HPL.out;have:=HSZ.out;omega
  have HN:=Lib.hid hn
  clear hL hn
  refine hpar.mono ?_
  clear hpar
  rintro e w1 ⟨v,rfl,hown,hb1⟩
  obtain ⟨A1,c1,rfl,_,_,hr⟩:=own_form hown
  clear hown
  go_wp2_with fail
  go_loopw [4] (fun i wr=>∃ k:Nat,k≤n∧i=.int .i64 (k:Int)∧Hid ((L.take k).all nameB=true)∧wr=w1) (fun i _=>n-(intOf i).toNat)
  case atStart=>exact ⟨0,Nat.zero_le _,rfl,rfl,rfl⟩
  case round =>
   obtain ⟨k,hk,rfl,hok,hww⟩:=hrel
   have hww:=hww.symm
   subst hww
   by_cases hlt:k<n
   ·have hki:(k:Int)<(n:Int):=tZ1
    have hkl:k<L.length:=tZ9
    obtain ⟨ad,rfl,hadB,d0⟩:=strs_at hr HN.out hlt
    have htk:=List.take_succ_eq_append_getElem hkl
    obtain ⟨x,hx⟩:∃ x,x=L[k]'hkl:=⟨_,rfl⟩
    have hm:x∈L:=tZ14
    rw [← hx] at d0 htk
    simp only [strV] at d0
    have hxs:=HSM.out x hm
    have hc:=refName_any x w1 tZ6
    obtain ⟨b,hb⟩:∃ b,b=nameB x:=⟨_,rfl⟩
    rw [← hb] at hc
    have HBB:=Lib.hid hb
    have HT:=Lib.hid htk
    have HM:=Lib.hid hm
    clear hx htk hb hxs hm
    go_wp2_with fail
    refine hc.mono ?_
    clear hc
    rintro e w2 ⟨rfl,rfl⟩
    cases b with
    | true =>
     exact mZ89
    | false =>
     have HV:Hid (pathB s.data.toList=false):=by
      show _=_
      have:L.all nameB=false:=by
       rw [← Bool.not_eq_true,List.all_eq_true]
       intro h
       have:=h x HM.out
       rw [← HBB.out] at this
       cases this
      rw [HP.out,this,Bool.and_false]
     go_wp2_with fail
     go_ret
     exact ⟨by rw [HV.out];rfl,hb1⟩
   ·have HA:Hid (pathB s.data.toList=decide ((n:Int)≤4)):=by
     show _=_
     have:=hok.out
     rw [List.take_of_length_le tZ9] at this
     rw [HP.out,this,Bool.and_true]
     exact decide_eq_decide.2 tZ1
    clear hok hr
    go_wp2_with fail
    go_ret
    exact ⟨by rw [HA.out];rfl,hb1⟩
end Go.Proofs.YtiojfffgiejibaaGreatDoor
namespace Go.Proofs.YtiojfffgiejibaaGreatDoor
open Go.RowKit
theorem cellsK_setF {α:Type} {enc:α→List Value} {k:Nat} (hk:∀ x,(enc x).length=k) (l:List α) (i j:Nat) (hj:j<k) (x':α) (u:Value) (he:∀ x,l[i]?=some x→enc x'=(enc x).set j u) :
  cellsK enc (l.set i x')=(cellsK enc l).set (i*k+j) u:=by
 induction l generalizing i with
 | nil=>simp [cellsK]
 | cons x l ih =>
  cases i with
  | zero =>
   show enc x'++cellsK enc l=(enc x++cellsK enc l).set (0*k+j) u
   rw [he x rfl,Nat.zero_mul,Nat.zero_add,List.set_append_left _ _ (by rw [hk];exact hj)]
  | succ i =>
   show enc x++cellsK enc (l.set i x')=(enc x++cellsK enc l).set ((i+1)*k+j) u
   rw [ih i (fun y hy=>he y hy),Nat.succ_mul,List.set_append_right _ _ (by rw [hk];omega),hk]
   congr 2
   omega
section
variable {α:Type} {w w':World} {base k g:Nat} {t T:TypeId} {enc:α→List Value} {s:FS α}
/-- one field of one element stored -/
theorem FS.own.field (h:s.own w base t k enc) (hk:∀ x,(enc x).length=k) (hA:s.A=some ⟨g,0,none⟩) (i j:Nat) (hj:j<k) (x':α) (u:Value) (he:∀ x,s.l[i]?=some x→enc x'=(enc x).set j u) :
  FS.own (w.setCell ⟨g,i*k+j,none⟩ u) base t k enc ⟨s.A,s.n,s.c,s.l.set i x'⟩∧w.grownBy (w.setCell ⟨g,i*k+j,none⟩ u) (some g):=by
 obtain ⟨A,n,c,l⟩:=s
 simp only at hA
 subst hA
 have h2:=World.ownsRow.stored h.2 (i*k+j) u
 refine ⟨⟨by rw [List.length_set];exact h.1,?_⟩,h2.2⟩
 show World.ownsRow _ base t k _ n (cellsK enc (l.set i x'))
 rw [cellsK_setF hk l i j hj x' u he]
 exact h2.1
/-- a row that is not empty is a block of its own -/
theorem FS.own.blk (h:s.own w base t k enc) (h0:0<s.n):∃ g cs,s.A=some ⟨g,0,none⟩∧base≤g∧Blk w g t cs:=by
 obtain ⟨A,n,c,l⟩:=s
 rcases h.2.2 with ⟨e,e0⟩ | ⟨g,cap,cur,e,hb,hg,_⟩
 ·simp only at h0 e0
  omega
 ·unfold FS.val at e
  injection e with e1 e2 e3
  exact ⟨g,cur,e1,hb,hg⟩
/-- what is grown in a block of another element type keeps a row -/
theorem FS.own.keptT {cs:Array Value} (h:s.own w base t k enc) (hg:w.grownBy w' (some g)) (hb:Blk w g T cs) (hne:t≠T):s.own w' base t k enc :=
 ⟨h.1,h.2.kept hg (.inr (own_blk_ne h.2 hb hne))⟩
end
end Go.Proofs.YtiojfffgiejibaaGreatDoor
