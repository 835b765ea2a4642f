/-
  The reference's letter, Name, value, Props: by their contracts. The page's Path, by its contract. The reference's Props, SameProps: by their contracts.
-/
import Derived.WalkKit
import Derived.WalkSpells
import Derived.Below
import Derived.Laws.OwnMore
import Derived.Deep.AppendLies
import Derived.Deep.Draws
import Derived.Laws.Rows
import Derived.Maps.AppendAt
import Derived.RegionTactic
import Derived.OwnWalk
import Derived.Deep.QuietTactic
import Derived.BigQuiet
import Derived.Lib.Hide
import Derived.Laws.CopyOwn
import Derived.IntWalk
import Derived.Deep.Quiet
import Derived.Test.YtcgclpcocdappaaGreatDoorRows
import Derived.Handy
import Derived.Laws.BytesString
import Derived.Laws.IdiomStrings
import Derived.Lib.ConvBytes
import Derived.Lib.Strings
import Derived.Lib.SplitLaws
import Derived.Lib.LastIndexByte
import Derived.Shelf.Strings.Search1
import Derived.Shelf.Strings.Search2
import Derived.Shelf.Strings.Search3
import Derived.Shelf.Strings.Cut
import Derived.Shelf.Strings.Count
import Derived.Shelf.LaysM
import Derived.Shelf.Strings.Shaped
import Derived.Shelf.Strings.LastIndex
import Derived.Shelf.Strings.Split
import Derived.Shelf.Strings.SplitShaped
import Derived.Shelf.Unicode.Decode
import Derived.Shelf.Strings.RuneCount
import Derived.Shelf.Strings.Explode
import Derived.Shelf.Unicode.DecodeSlow
import Derived.Test.YtcgclpcocdappaaGreatDoorProg
import Derived.Sort.Walk0
import Derived.Sort.KeysCollected
import Derived.Test.YtcgclpcocdappaaGreatDoorJ0
import Derived.Test.YtcgclpcocdappaaGreatDoorJbkv1
import Derived.Test.YtcgclpcocdappaaGreatDoorJbkv2
import Derived.Test.YtcgclpcocdappaaGreatDoorJbkv3
import Derived.Test.YtcgclpcocdappaaGreatDoorJbkv5
namespace Go.Proofs.YtcgclpcocdappaaGreatDoor
open Go.RowKit
set_option maxRecDepth 100000 in
theorem letter_any (c:UInt8) (w:World):Calls Tryz.prog 132 #[.int .u8 (c.toNat:Int)] w fun e w'=>e=.returned (.bool (okB c))∧w'=w:=by
 have hc:c.toNat<256:=c.toNat_lt
 have hk:=Lib.hid (okB_iff c)
 go_enter Tryz.func132,Tryz.ntmps132
 go_wp2
 all_goals go_ret
 all_goals refine ⟨congrArg Ending.returned (congrArg Value.bool ?_),rfl⟩
 all_goals rw [Bool.eq_iff_iff,hk.out]
 all_goals simp
 all_goals omega
theorem bget (s:ByteArray) (k:Nat) (h:k<s.size):s.data.toList[k]'h=s[k]'h:=rfl
set_option maxRecDepth 100000 in
set_option maxHeartbeats 1000000 in
theorem refName_s (s:ByteArray) (w:World) (hs:s.size≤140737488351232):Calls Tryz.prog 63 #[.string s] w fun e w'=>e=.returned (.bool (nameB s.data.toList))∧w'=w:=by
 have hsz:s.data.toList.length=s.size:=(Lib.size_eq s).symm
 go_enter Tryz.func63,Tryz.ntmps63
 go_wp2_with fail
 go_loopw [3] (fun i wr=>∃ k:Nat,k≤s.size∧i=.int .i64 (k:Int)∧Hid ((s.data.toList.take k).all okB=true)∧wr=w) (fun i _=>s.size-(intOf i).toNat)
 case atStart=>exact ⟨0,Nat.zero_le _,rfl,rfl,rfl⟩
 case round =>
  obtain ⟨k,hk,rfl,hok,hww⟩:=hrel
  have hww:=hww.symm
  subst hww
  by_cases hlt:k<s.size
  ·have hki:(k:Int)<(s.size:Int):=by omega
   have hkl:k<s.data.toList.length:=by omega
   have htk:=List.take_succ_eq_append_getElem hkl
   have hg:=bget s k hlt
   obtain ⟨y,hy⟩:∃ y,y=s[k]'hlt:=⟨_,rfl⟩
   rw [hg,← hy] at htk
   have HT:=Lib.hid htk
   have HM:=Lib.hid (show y∈s.data.toList by rw [hy,← hg];exact List.getElem_mem _)
   have hc:=letter_any y w
   obtain ⟨b,hb⟩:∃ b,b=okB y:=⟨_,rfl⟩
   rw [← hb] at hc
   have HBB:=Lib.hid hb
   have hyv:((s[k]'hlt).toNat:Int)=(y.toNat:Int):=by rw [hy]
   have HSZ:=Lib.hid hsz
   clear htk hg hy hb hsz
   go_wp2_with fail
   refine hc.mono ?_
   clear hc
   rintro e w1 ⟨rfl,rfl⟩
   cases b with
   | true =>
    go_wp2_with fail
    go_roundw
    case rel =>
     refine ⟨k+1,by omega,by go_num,?_,trivial⟩
     show List.all _ _=_
     rw [HT.out,List.all_append,hok.out]
     simp [HBB.out.symm]
    case measure=>simp [intOf];omega
   | false =>
    have HN:Hid (nameB s.data.toList=false):=by
     show _=_
     unfold nameB
     have:s.data.toList.all okB=false:=by
      rw [← Bool.not_eq_true,List.all_eq_true]
      intro h
      have:=h y HM.out
      rw [← HBB.out] at this
      cases this
     rw [this,Bool.and_false]
    go_wp2_with fail
    go_ret
    exact ⟨by rw [HN.out];rfl,rfl⟩
  ·have HA:Hid (s.data.toList.all okB=true):=by
    show _=_
    have:=hok.out
    rwa [List.take_of_length_le (by omega)] at this
   have HN:Hid (nameB s.data.toList=(!(s.data.toList.isEmpty) && decide (s.data.toList.length≤16))):=by
    show _=_
    unfold nameB
    rw [HA.out,Bool.and_true]
   have HE:Hid (nameB s.data.toList=true↔1≤s.size∧s.size≤16):=by
    show _↔_
    rw [HN.out,Bool.and_eq_true,decide_eq_true_eq,hsz,Bool.not_eq_true']
    constructor
    ·rintro ⟨h1,h2⟩
     refine ⟨?_,h2⟩
     rcases Nat.eq_zero_or_pos s.size with h | h
     ·rw [← hsz] at h
      rw [List.eq_nil_of_length_eq_zero h] at h1
      cases h1
     ·exact h
    ·rintro ⟨h1,h2⟩
     refine ⟨?_,h2⟩
     rw [← Bool.not_eq_true,List.isEmpty_iff]
     intro e
     rw [e] at hsz
     simp at hsz
     omega
   clear hsz HA HN hok
   by_cases h1:1≤s.size
   ·have h1i:(1:Int)≤(s.size:Int):=by omega
    by_cases h2:s.size≤16
    ·have h2i:(s.size:Int)≤16:=by omega
     have HV:Hid (nameB s.data.toList=true):=HE.out.2 ⟨h1,h2⟩
     go_wp2_with fail
     go_ret
     exact ⟨by rw [HV.out];rfl,rfl⟩
    ·have h2i:¬ (s.size:Int)≤16:=by omega
     have HV:Hid (nameB s.data.toList=false):=by show _=_;rw [← Bool.not_eq_true,HE.out];omega
     go_wp2_with fail
     go_ret
     exact ⟨by rw [HV.out];rfl,rfl⟩
   ·have h1i:¬ (1:Int)≤(s.size:Int):=by omega
    have HV:Hid (nameB s.data.toList=false):=by show _=_;rw [← Bool.not_eq_true,HE.out];omega
    go_wp2_with fail
    go_ret
    exact ⟨by rw [HV.out];rfl,rfl⟩
theorem refName_any (n:BS) (w:World) (hs:n.length≤140737488351232):Calls Tryz.prog 63 #[.string ⟨n.toArray⟩] w fun e w'=>e=.returned (.bool (nameB n))∧w'=w:=by
 have:=refName_s ⟨n.toArray⟩ w (by show n.length≤_;exact hs)
 simpa using this
set_option maxRecDepth 100000 in
set_option maxHeartbeats 1000000 in
theorem refValue_s (s:ByteArray) (w:World) (hs:s.size≤140737488351232):Calls Tryz.prog 120 #[.string s] w fun e w'=>e=.returned (.bool (valB s.data.toList))∧w'=w:=by
 have hsz:s.data.toList.length=s.size:=(Lib.size_eq s).symm
 go_enter Tryz.func120,Tryz.ntmps120
 go_wp2_with fail
 go_loopw [3] (fun i wr=>∃ k:Nat,k≤s.size∧i=.int .i64 (k:Int)∧Hid (∀ c∈s.data.toList.take k,32≤c.toNat∧c.toNat≤126)∧wr=w) (fun i _=>s.size-(intOf i).toNat)
 case atStart=>exact ⟨0,Nat.zero_le _,rfl,(show ∀ c∈_,_ by simp),rfl⟩
 case round =>
  obtain ⟨k,hk,rfl,hok,hww⟩:=hrel
  have hww:=hww.symm
  subst hww
  by_cases hlt:k<s.size
  ·have hki:(k:Int)<(s.size:Int):=by omega
   have hkl:k<s.data.toList.length:=by omega
   have htk:=List.take_succ_eq_append_getElem hkl
   have hg:=bget s k hlt
   obtain ⟨y,hy⟩:∃ y,y=s[k]'hlt:=⟨_,rfl⟩
   rw [hg,← hy] at htk
   have HT:=Lib.hid htk
   have HM:=Lib.hid (show y∈s.data.toList by rw [hy,← hg];exact List.getElem_mem _)
   have hyv:((s[k]'hlt).toNat:Int)=(y.toNat:Int):=by rw [hy]
   have hy256:=y.toNat_lt
   have HSZ:=Lib.hid hsz
   have hbad:Hid ((y.toNat<32∨126<y.toNat)→valB s.data.toList=false):=by
    show _→_
    intro h
    unfold valB
    have:s.data.toList.all (fun c=>decide (32≤c) && decide (c≤126))=false:=by
     rw [← Bool.not_eq_true,List.all_eq_true]
     intro h2
     have h3:=h2 y HM.out
     simp only [Bool.and_eq_true,decide_eq_true_eq,UInt8.le_iff_toNat_le] at h3
     have e1:(32:UInt8).toNat=32:=rfl
     have e2:(126:UInt8).toNat=126:=rfl
     omega
    rw [this,Bool.and_false]
   clear htk hg hy hsz
   by_cases h1:y.toNat<32
   ·have h1i:(y.toNat:Int)<32:=by omega
    have HV:=Lib.hid (hbad.out (.inl h1))
    go_wp2_with fail
    go_ret
    exact ⟨by rw [HV.out];rfl,rfl⟩
   ·have h1i:¬ (y.toNat:Int)<32:=by omega
    by_cases h2:126<y.toNat
    ·have h2i:(126:Int)<(y.toNat:Int):=by omega
     have HV:=Lib.hid (hbad.out (.inr h2))
     go_wp2_with fail
     go_ret
     exact ⟨by rw [HV.out];rfl,rfl⟩
    ·have h2i:¬ (126:Int)<(y.toNat:Int):=by omega
     go_wp2_with fail
     go_roundw
     case rel =>
      refine ⟨k+1,by omega,by go_num,?_,trivial⟩
      show ∀ c∈_,_
      intro c hc
      rw [HT.out,List.mem_append,List.mem_singleton] at hc
      rcases hc with hc | rfl
      ·exact hok.out c hc
      ·exact ⟨by omega,by omega⟩
     case measure=>simp [intOf];omega
  ·have HV:Hid (valB s.data.toList=decide ((s.size:Int)≤32)):=by
    show _=_
    unfold valB
    have h:=hok.out
    rw [List.take_of_length_le (by omega)] at h
    have:s.data.toList.all (fun c=>decide (32≤c) && decide (c≤126))=true:=by
     rw [List.all_eq_true]
     intro c hc
     have:=h c hc
     simp only [Bool.and_eq_true,decide_eq_true_eq,UInt8.le_iff_toNat_le]
     exact this
    rw [this,Bool.and_true,hsz]
    exact decide_eq_decide.2 (by omega)
   clear hsz hok
   go_wp2_with fail
   go_ret
   exact ⟨by rw [HV.out];rfl,rfl⟩
theorem refValue_any (n:BS) (w:World) (hs:n.length≤140737488351232):Calls Tryz.prog 120 #[.string ⟨n.toArray⟩] w fun e w'=>e=.returned (.bool (valB n))∧w'=w:=by
 have:=refValue_s ⟨n.toArray⟩ w (by show n.length≤_;exact hs)
 simpa using this
end Go.Proofs.YtcgclpcocdappaaGreatDoor
namespace Go.Proofs.YtcgclpcocdappaaGreatDoor
open Go.RowKit
theorem extract_mk (s:ByteArray) (j k:Nat):s.extract j k=⟨((s.data.toList.drop j).take (k-j)).toArray⟩:=by
 apply eq_mk
 rw [ByteArray.data_extract,Array.toList_extract]
theorem partsL_len (l:BS):(partsL l).length≤l.length+1:=by
 induction l with
 | nil=>simp [partsL]
 | cons c l ih =>
  unfold partsL
  split
  ·simp;omega
  ·split
   ·rename_i p ps h
    rw [h] at ih
    simp at ih ⊢
    omega
   ·simp
set_option maxRecDepth 100000 in
set_option maxHeartbeats 1000000 in
theorem parts_any (s:ByteArray) (w:World) (hs:s.size≤4000000000) :
  Calls Tryz.prog 177 #[.string s,.int .u8 47] w fun e w'=>∃ v,e=.returned v∧w'.ownsRow w.heap.size 9 1 v (partsL s.data.toList).length (scells (partsL s.data.toList))∧Below w.heap.size w w':=by
 obtain ⟨i0,hi0,hz0,hz1,hz2⟩:=info_parts Tryz.infoS
 have HSZ:=Lib.hid (Lib.size_eq s)
 go_enter Tryz.func177,Tryz.ntmps177
 go_wp2_with fail
 go_loopw [5,6,7] (fun o f i wr=>∃ (k j m:Nat) (done:List BS) (A1:Option Addr) (c1:Nat),k≤s.size∧j≤k∧m≤j∧i=.int .i64 (k:Int)∧f=.int .i64 (j:Int)∧o=.slice A1 m c1∧Hid (m=done.length∧partsL s.data.toList=done++partsL (s.data.toList.drop j)∧47 ∉ (s.data.toList.drop j).take (k-j))∧wr.ownsRow w.heap.size 9 1 (.slice A1 m c1) m (scells done)∧Below w.heap.size w wr) (fun _ _ i _=>s.size-(intOf i).toNat)
 case atStart=>exact ⟨0,0,0,[],none,0,Nat.zero_le _,Nat.le_refl _,Nat.le_refl _,rfl,rfl,rfl,⟨rfl,by simp,by simp⟩,⟨rfl,.inl ⟨rfl,rfl⟩⟩,Below.refl _ _⟩
 case round =>
  obtain ⟨k,j,m,done,A1,c1,hk,hj,hm,rfl,rfl,rfl,hI,hown,hbw⟩:=hrel
  by_cases hlt:k<s.size
  ·have hki:(k:Int)<(s.size:Int):=by omega
   have hkl:k<s.data.toList.length:=by have:=HSZ.out;omega
   have hg:=bget s k hlt
   obtain ⟨y,hy⟩:∃ y,y=s[k]'hlt:=⟨_,rfl⟩
   have hyv:((s[k]'hlt).toNat:Int)=(y.toNat:Int):=by rw [hy]
   have hget:s.data.toList[k]?=some y:=by rw [List.getElem?_eq_getElem hkl,hg,← hy]
   have htk:(s.data.toList.drop j).take (k+1-j)=(s.data.toList.drop j).take (k-j)++[y]:=by
    rw [show k+1-j=k-j+1 by omega,List.take_add_one,List.getElem?_drop,show j+(k-j)=k by omega,hget]
    rfl
   have HTK:=Lib.hid htk
   have HGET:=Lib.hid hget
   clear hg hy hget htk
   by_cases h47:y=47
   ·have hyi:(y.toNat:Int)=47:=by rw [h47];rfl
    have hjk:(j:Int)≤(k:Int):=by omega
    have hks:(k:Int)≤(s.size:Int):=by omega
    have hex:=extract_mk s j k
    obtain ⟨q,hq⟩:∃ q,q=(s.data.toList.drop j).take (k-j):=⟨_,rfl⟩
    rw [← hq] at hex
    have HN:Hid (partsL s.data.toList=(done++[q])++partsL (s.data.toList.drop (k+1))):=by
     show _=_
     have hsp:s.data.toList.drop j=q++47 :: s.data.toList.drop (k+1):=by
      conv=>lhs;rw [← List.take_append_drop (k-j) (s.data.toList.drop j),← hq,List.drop_drop,show j+(k-j)=k by omega,List.drop_eq_getElem_cons hkl]
      have:=HGET.out
      rw [List.getElem?_eq_getElem hkl,h47] at this
      rw [Option.some.inj this]
     rw [hI.out.2.1,hsp,partsL_two _ _ (by rw [hq];exact hI.out.2.2),List.append_assoc]
     rfl
    have HM:Hid (m+1=(done++[q]).length):=by show _=_;rw [List.length_append,hI.out.1];rfl
    have hsz2:=hbw.size
    clear hq h47
    go_wp2_with (at_builtin;(refine wpList_push _ rfl (.tmp 19) (.tmp 24) 48 rfl w.heap.size 9 i0 (.string ByteArray.empty) 1 16 Tryz.underlying48 hi0 hz0 hz1 hz2 rfl (by decide) (.slice A1 m c1) m (scells done) rfl hown 1 #[.string ⟨q.toArray⟩] 9 (by simp [Act.eval]) rfl (by simp [Value.oneCell']) (by unfold maxLen;omega) (by omega) hsz2 ?_);intro v4 w4 hown4 hb4 _)
    obtain ⟨A4,c4,rfl,_,_,_⟩:=own_form hown4
    have hb5:=hbw.trans hb4
    have HO:Hid (w4.ownsRow w.heap.size 9 1 (.slice A4 (m+1) c4) (m+1) (scells (done++[q]))):=by show World.ownsRow _ _ _ _ _ _ _;rw [scells_append];exact hown4
    clear hown hown4 hbw hb4
    go_wp2_with fail
    go_roundw
    case rel=>exact ⟨k+1,k+1,m+1,done++[q],A4,c4,by omega,Nat.le_refl _,by omega,by go_num,by go_num,rfl,⟨HM.out,HN.out,by simp⟩,HO.out,hb5⟩
    case measure=>simp [intOf];omega
   ·have hyi:¬ (y.toNat:Int)=47:=by
     intro e
     exact h47 (UInt8.toNat_inj.1 (by have:(47:UInt8).toNat=47:=rfl;omega))
    have HN:Hid (47 ∉ (s.data.toList.drop j).take (k+1-j)):=by
     show _ ∉ _
     rw [HTK.out,List.mem_append,List.mem_singleton]
     rintro (h | h)
     ·exact hI.out.2.2 h
     ·exact h47 h.symm
    clear h47
    go_wp2_with fail
    go_roundw
    case rel=>exact ⟨k+1,j,m,done,A1,c1,by omega,by omega,hm,by go_num,rfl,rfl,⟨hI.out.1,hI.out.2.1,HN.out⟩,hown,hbw⟩
    case measure=>simp [intOf];omega
  ·obtain rfl:k=s.size:=by omega
   have hex:=extract_mk s j s.size
   obtain ⟨q,hq⟩:∃ q,q=(s.data.toList.drop j).take (s.size-j):=⟨_,rfl⟩
   rw [← hq] at hex
   have HN:Hid (partsL s.data.toList=done++[q]):=by
    show _=_
    have:(s.data.toList.drop j).take (s.size-j)=s.data.toList.drop j:=List.take_of_length_le (by rw [List.length_drop];have:=HSZ.out;omega)
    have h47:=hI.out.2.2
    rw [this] at h47 hq
    rw [hI.out.2.1,partsL_one _ h47,hq]
   have HM:Hid (m+1=(partsL s.data.toList).length):=by show _=_;rw [HN.out,List.length_append,hI.out.1];rfl
   have hsz2:=hbw.size
   have hjk:(j:Int)≤(s.size:Int):=by omega
   clear hq
   go_wp2_with (at_builtin;(refine wpList_push _ rfl (.tmp 28) (.tmp 32) 48 rfl w.heap.size 9 i0 (.string ByteArray.empty) 1 16 Tryz.underlying48 hi0 hz0 hz1 hz2 rfl (by decide) (.slice A1 m c1) m (scells done) rfl hown 1 #[.string ⟨q.toArray⟩] 9 (by simp [Act.eval]) rfl (by simp [Value.oneCell']) (by unfold maxLen;omega) (by omega) hsz2 ?_);intro v4 w4 hown4 hb4 _)
   have HO:Hid (w4.ownsRow w.heap.size 9 1 v4 (m+1) (scells (partsL s.data.toList))):=by show World.ownsRow _ _ _ _ _ _ _;rw [HN.out,scells_append];exact hown4
   have hb5:=hbw.trans hb4
   clear hown hown4 hbw hb4
   go_wp2_with fail
   go_ret
   exact ⟨v4,rfl,by rw [← HM.out];exact HO.out,hb5⟩
theorem parts_small (l:BS):∀ p∈partsL l,p.length≤l.length:=by
 induction l with
 | nil=>simp [partsL]
 | cons c l ih =>
  unfold partsL
  split
  ·intro p hp
   rcases List.mem_cons.1 hp with rfl | hp
   ·simp
   ·have:=ih p hp;simp;omega
  ·split
   ·rename_i q ps h
    rw [h] at ih
    intro p hp
    rcases List.mem_cons.1 hp with rfl | hp
    ·have:=ih q (List.mem_cons_self ..);simp;omega
    ·have:=ih p (List.mem_cons_of_mem _ hp);simp;omega
   ·intro p hp
    rw [List.mem_singleton] at hp
    subst hp
    simp
set_option maxRecDepth 100000 in
set_option maxHeartbeats 1000000 in
theorem refPath_any (s:ByteArray) (w:World) (hs:s.size≤4000000000) :
  Calls Tryz.prog 115 #[.string s] w fun e w'=>e=.returned (.bool (pathB s.data.toList))∧Below w.heap.size w w':=by
 have htl:=Lib.hid (toList_data s)
 have hpar:=parts_any s w hs
 have HSM:=Lib.hid (parts_small s.data.toList)
 have HPL:=Lib.hid (partsL_len s.data.toList)
 have HSZ:=Lib.hid (Lib.size_eq s)
 go_enter Tryz.func115,Tryz.ntmps115
 go_wp2_with fail
 ·have h0:s.toList.isEmpty=true:=by assumption
  rw [htl.out,List.isEmpty_iff] at h0
  go_ret
  exact ⟨by rw [h0];rfl,Below.refl _ _⟩
 ·have h0:s.toList.isEmpty=false:=by assumption
  have HP:Hid (pathB s.data.toList=(decide ((partsL s.data.toList).length≤4) && (partsL s.data.toList).all nameB)):=by
   show _=_
   rw [htl.out] at h0
   unfold pathB
   rw [h0,Bool.false_or]
  obtain ⟨L,hL⟩:∃ L,L=partsL s.data.toList:=⟨_,rfl⟩
  rw [← hL] at hpar HSM HPL HP
  obtain ⟨n,hn⟩:∃ n,n=L.length:=⟨_,rfl⟩
  rw [← hn] at hpar HPL HP
  have hnb:n≤4000000001:=by have:=HPL.out;have:=HSZ.out;omega
  have HN:=Lib.hid hn
  clear hL hn
  refine hpar.mono ?_
  clear hpar
  rintro e w1 ⟨v,rfl,hown,hb1⟩
  obtain ⟨A1,c1,rfl,_,_,hr⟩:=own_form hown
  clear hown
  go_wp2_with fail
  go_loopw [4] (fun i wr=>∃ k:Nat,k≤n∧i=.int .i64 (k:Int)∧Hid ((L.take k).all nameB=true)∧wr=w1) (fun i _=>n-(intOf i).toNat)
  case atStart=>exact ⟨0,Nat.zero_le _,rfl,rfl,rfl⟩
  case round =>
   obtain ⟨k,hk,rfl,hok,hww⟩:=hrel
   have hww:=hww.symm
   subst hww
   by_cases hlt:k<n
   ·have hki:(k:Int)<(n:Int):=by omega
    have hkl:k<L.length:=by have:=HN.out;omega
    obtain ⟨ad,rfl,hadB,d0⟩:=strs_at hr HN.out hlt
    have htk:=List.take_succ_eq_append_getElem hkl
    obtain ⟨x,hx⟩:∃ x,x=L[k]'hkl:=⟨_,rfl⟩
    have hm:x∈L:=by rw [hx];exact List.getElem_mem _
    rw [← hx] at d0 htk
    simp only [strV] at d0
    have hxs:=HSM.out x hm
    have hc:=refName_any x w1 (by have:=HSZ.out;omega)
    obtain ⟨b,hb⟩:∃ b,b=nameB x:=⟨_,rfl⟩
    rw [← hb] at hc
    have HBB:=Lib.hid hb
    have HT:=Lib.hid htk
    have HM:=Lib.hid hm
    clear hx htk hb hxs hm
    go_wp2_with fail
    refine hc.mono ?_
    clear hc
    rintro e w2 ⟨rfl,rfl⟩
    cases b with
    | true =>
     go_wp2_with fail
     go_roundw
     case rel =>
      refine ⟨k+1,by omega,by go_num,?_,trivial⟩
      show List.all _ _=_
      rw [HT.out,List.all_append,hok.out]
      simp [HBB.out.symm]
     case measure=>simp [intOf];omega
    | false =>
     have HV:Hid (pathB s.data.toList=false):=by
      show _=_
      have:L.all nameB=false:=by
       rw [← Bool.not_eq_true,List.all_eq_true]
       intro h
       have:=h x HM.out
       rw [← HBB.out] at this
       cases this
      rw [HP.out,this,Bool.and_false]
     go_wp2_with fail
     go_ret
     exact ⟨by rw [HV.out];rfl,hb1⟩
   ·have HA:Hid (pathB s.data.toList=decide ((n:Int)≤4)):=by
     show _=_
     have:=hok.out
     rw [List.take_of_length_le (by have:=HN.out;omega)] at this
     rw [HP.out,this,Bool.and_true]
     exact decide_eq_decide.2 (by omega)
    clear hok hr
    go_wp2_with fail
    go_ret
    exact ⟨by rw [HA.out];rfl,hb1⟩
end Go.Proofs.YtcgclpcocdappaaGreatDoor
namespace Go.Proofs.YtcgclpcocdappaaGreatDoor
open Go.RowKit
theorem quietN {P:Program} {f:FuncId} {args:Array Value} {w:World} {p m:Nat} {v:Value} (h:Calls P f args (w.drewN (p+m)) fun e w'=>e=.returned v∧w'=w.drewN (p+m)) :
  Calls P f args (w.drewN (p+m)) fun e w''=>e=.returned v∧∃ n,w''=w.drewN (p+n):=h.mono fun _ _ ⟨h1,h2⟩=>⟨h1,m,h2⟩
set_option maxRecDepth 100000 in
set_option maxHeartbeats 2000000 in
theorem refProps_any (l:PL) (n:Nat) (hnl:n=l.length) (A:Option Addr) (c:Nat) (w:World) (B:Nat) (hr:Reads w B 2 A n (pcells l)) (hn:n≤5000000000000) (hv:∀ x∈l,x.1.length≤140737488351232∧x.2.length≤140737488351232) :
  Calls Tryz.prog 119 #[.slice A n c] w fun e w'=>e=.returned (.int .i64 (propsE l))∧∃ q,w'=w.drewN q:=by
 have HN:=Lib.hid hnl
 obtain ⟨E,hE⟩:∃ E,E=propsE l:=⟨_,rfl⟩
 have hPE:Hid (∀ b,propsFrom none l=b→E=if b=true∧n≤8 then 0 else 9):=by
  show ∀ b,_→_
  rintro b rfl
  rw [hE]
  unfold propsE propsB
  rw [← hnl]
  by_cases h8:n≤8
  ·simp [h8]
  ·simp [h8]
 rw [← hE]
 clear hnl hE
 go_enter Tryz.func119,Tryz.ntmps119
 go_wp2_with fail
 go_loopw [3] (fun j wr=>∃ k:Nat,k≤n∧j=.int .i64 (k:Int)∧Hid (propsFrom none l=propsFrom (prevP l k) (l.drop k))∧∃ p,wr=w.drewN p) (fun j _=>n-(intOf j).toNat)
 case atStart=>exact ⟨0,Nat.zero_le _,rfl,rfl,0,rfl⟩
 case round =>
  obtain ⟨k,hk,rfl,hok,p,rfl⟩:=hrel
  by_cases hlt:k<n
  ·obtain ⟨ad,rfl,hadB,c0,c1⟩:=hr.prop HN.out hlt
   have hki:(k:Int)<(n:Int):=by omega
   have hkl:k<l.length:=by have:=HN.out;omega
   obtain ⟨x,hx⟩:∃ x,x=l[k]'hkl:=⟨_,rfl⟩
   have hxl:=hv x (by rw [hx];exact List.getElem_mem _)
   rw [← hx] at c0 c1
   have hdr:=List.drop_eq_getElem_cons hkl
   rw [← hx] at hdr
   have HX:=Lib.hid hx
   have HDR:=Lib.hid hdr
   obtain ⟨xn,xv⟩:=x
   simp only [strV] at c0 c1 hxl
   have hbad:Hid ((nameB xn=false∨valB xv=false∨(∃ y,prevP l k=some y∧Op.bytesLess y xn=false))→E=9):=by
    show _→_
    intro h
    rw [hPE.out false]
    ·rfl
    rw [hok.out,HDR.out,propsFrom_cons]
    rcases h with h | h | ⟨y,hy,h⟩
    ·rw [h];rfl
    ·rw [h];simp
    ·rw [hy];simp [h]
   have hgood:Hid (nameB xn=true→valB xv=true→(∀ y,prevP l k=some y→Op.bytesLess y xn=true)→propsFrom none l=propsFrom (prevP l (k+1)) (l.drop (k+1))):=by
    show _→_→_→_
    intro h1 h2 h3
    rw [hok.out,HDR.out]
    have hp:prevP l (k+1)=some xn:=by
     show (l[k]?).map (·.1)=_
     rw [List.getElem?_eq_getElem hkl,← HX.out]
     rfl
    rw [hp,propsFrom_cons,h1,h2]
    cases hq:prevP l k with
    | none=>rfl
    | some y=>simp [h3 y hq]
   have hN:∀ m,Calls Tryz.prog 63 #[.string ⟨xn.toArray⟩] (w.drewN (p+m)) fun e W'=>e=.returned (.bool (nameB xn))∧∃ n,W'=w.drewN (p+n):=fun m=>quietN (refName_any xn _ hxl.1)
   have hV:∀ m,Calls Tryz.prog 120 #[.string ⟨xv.toArray⟩] (w.drewN (p+m)) fun e W'=>e=.returned (.bool (valB xv))∧∃ n,W'=w.drewN (p+n):=fun m=>quietN (refValue_any xv _ hxl.2)
   clear hx hdr hok hxl hv
   obtain ⟨bn,hbn0⟩:∃ b,b=nameB xn:=⟨_,rfl⟩
   obtain ⟨bv,hbv0⟩:∃ b,b=valB xv:=⟨_,rfl⟩
   rw [← hbn0] at hbad hgood hN
   rw [← hbv0] at hbad hgood hV
   clear hbn0 hbv0
   cases bn with
   | false =>
    have HB:=Lib.hid (hbad.out (.inl rfl))
    clear hr hbad hgood hV
    go_wp2_with fail
    go_big_quiet ((go_at_call 63;exact hN _))
    clear hN
    go_wp2_with fail
    go_ret
    exact ⟨by rw [HB.out];rfl,_,World.drewN_drewN _ _ _⟩
   | true =>
    cases bv with
    | false =>
     have HB:=Lib.hid (hbad.out (.inr (.inl rfl)))
     clear hr hbad hgood
     go_wp2_with fail
     go_big_quiet (first | (go_at_call 63;exact hN _) | (go_at_call 120;exact hV _))
     clear hN hV
     go_wp2_with fail
     go_ret
     exact ⟨by rw [HB.out];rfl,_,World.drewN_drewN _ _ _⟩
    | true =>
     rcases Nat.eq_zero_or_pos k with h0 | h0
     ·have HG:=Lib.hid (hgood.out rfl rfl (fun y hy=>by subst h0;cases hy))
      have d4:decide ((0:Int)<(k:Int))=false:=by simp;omega
      have d4':decide (0<k)=false:=by simp;omega
      clear h0 hr hbad hgood
      go_wp2_with fail
      go_big_quiet (first | (go_at_call 63;exact hN _) | (go_at_call 120;exact hV _))
      clear hN hV
      go_wp2_with fail
      go_roundw
      case rel=>exact ⟨k+1,by omega,by go_num,HG,_,rfl⟩
      case measure=>simp [intOf];omega
     ·have d4:decide ((0:Int)<(k:Int))=true:=by simp;omega
      have d4':decide (0<k)=true:=by simp;omega
      have hk1l:k-1<l.length:=by omega
      obtain ⟨y,hy⟩:∃ y,y=(l[k-1]'hk1l).1:=⟨_,rfl⟩
      have hpv:prevP l k=some y:=by
       obtain ⟨j,rfl⟩:∃ j,k=j+1:=⟨k-1,by omega⟩
       show (l[j]?).map (·.1)=_
       have hj:j<l.length:=by simpa using hk1l
       rw [List.getElem?_eq_getElem hj,hy]
       rfl
      obtain ⟨ad2,e2,-,c2,-⟩:=(hr.prop HN.out (k:=k-1) (by omega))
      injection e2 with e2
      subst e2
      rw [← hy] at c2
      simp only [strV] at c2
      have i1:(1:Int)≤(k:Int):=by omega
      have i2:(k:Int)-1<(n:Int):=by omega
      have i3:IntKind.i64.wrap ((k:Int)-1)=(k:Int)-1:=IntWalk.i64_in _ (by omega)
      have i4:((k:Int)-1).toNat=k-1:=by omega
      have hleq:=leqS 9 xn y
      cases hcmp:Op.bytesLess y xn with
      | true =>
       have HG:=Lib.hid (hgood.out rfl rfl (fun y' hy'=>by rw [hpv] at hy';cases hy';exact hcmp))
       have f1:(Op.bytesLess xn y || xn == y)=false:=by
        rw [Bool.or_eq_false_iff]
        refine ⟨?_,by simpa using (bl_ne hcmp).symm⟩
        rw [← Bool.not_eq_true]
        intro h
        have:=bl_trans hcmp h
        rw [bl_irrefl] at this
        cases this
       rw [f1] at hleq
       clear hr hbad hgood h0 hpv hy hcmp f1
       go_wp2_with fail
       go_big_quiet (first | (go_at_call 63;exact hN _) | (go_at_call 120;exact hV _))
       clear hN hV hleq
       go_wp2_with fail
       go_roundw
       case rel=>exact ⟨k+1,by omega,by go_num,HG,_,rfl⟩
       case measure=>simp [intOf];omega
      | false =>
       have HB:=Lib.hid (hbad.out (.inr (.inr ⟨y,hpv,hcmp⟩)))
       have f1:(Op.bytesLess xn y || xn == y)=true:=by
        by_cases e:xn=y
        ·simp [e]
        ·rw [bl_tri y xn hcmp (fun h=>e h.symm)];rfl
       rw [f1] at hleq
       clear hr hbad hgood h0 hpv hy hcmp f1
       go_wp2_with fail
       go_big_quiet (first | (go_at_call 63;exact hN _) | (go_at_call 120;exact hV _))
       clear hN hV hleq
       go_wp2_with fail
       go_ret
       exact ⟨by rw [HB.out];rfl,_,World.drewN_drewN _ _ _⟩
  ·have hkn:k=n:=by omega
   have hF:Hid (E=if n≤8 then 0 else 9):=by
    show _=_
    rw [hPE.out true]
    ·simp
    rw [hok.out,List.drop_of_length_le (by rw [hkn,HN.out];exact Nat.le_refl _)]
    rfl
   clear hok hr hkn hPE
   by_cases h8:n≤8
   ·have hi8:¬ (8:Int)<(n:Int):=by omega
    have HV:Hid (E=0):=by show _=_;rw [hF.out,if_pos h8]
    clear hF
    go_wp2_with fail
    go_ret
    exact ⟨by rw [HV.out];rfl,p,rfl⟩
   ·have hi8:(8:Int)<(n:Int):=by omega
    have HV:Hid (E=9):=by show _=_;rw [hF.out,if_neg h8]
    clear hF
    go_wp2_with fail
    go_ret
    exact ⟨by rw [HV.out];rfl,p,rfl⟩
end Go.Proofs.YtcgclpcocdappaaGreatDoor
