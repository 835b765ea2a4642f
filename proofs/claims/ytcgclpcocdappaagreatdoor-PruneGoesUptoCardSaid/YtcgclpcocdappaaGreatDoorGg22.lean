/-
  The page's Path, by its contract. The frame of every law of this seat: from a contract 'returns true, below the old heap nothing has turned' to the row's post. A wide store into a block that has been made before.
-/
import Derived.WalkKit
import Derived.WalkSpells
import Derived.Below
import Derived.Laws.OwnMore
import Derived.Deep.AppendLies
import Derived.Deep.Draws
import Derived.Laws.Rows
import Derived.Maps.AppendAt
import Derived.RegionTactic
import Derived.OwnWalk
import Derived.Deep.QuietTactic
import Derived.BigQuiet
import Derived.Lib.Hide
import Derived.Laws.CopyOwn
import Derived.IntWalk
import Derived.Deep.Quiet
import Derived.Lib.SplitLaws
import Derived.Lib.LastIndexByte
import Derived.Lib.Strings
import Derived.Test.YtcgclpcocdappaaGreatDoorRows
import Derived.Handy
import Derived.Shelf.Strings.Search1
import Derived.Shelf.Strings.Search2
import Derived.Shelf.Strings.Search3
import Derived.Shelf.Strings.Cut
import Derived.Shelf.Strings.Count
import Derived.Shelf.LaysM
import Derived.Shelf.Strings.Shaped
import Derived.Shelf.Strings.LastIndex
import Derived.Shelf.Strings.Split
import Derived.Shelf.Strings.SplitShaped
import Derived.Shelf.Unicode.Decode
import Derived.Shelf.Strings.RuneCount
import Derived.Shelf.Strings.Explode
import Derived.Shelf.Unicode.DecodeSlow
import Derived.Test.YtcgclpcocdappaaGreatDoorProg
import Derived.Laws.BytesString
import Derived.Laws.IdiomStrings
import Derived.Lib.ConvBytes
import Derived.ProofKit
import Derived.OpenShut
import Derived.ShutString
import Derived.ChangeOld
import Derived.Carry
import Derived.SizedLaws
import Derived.JoinedCond
import Derived.Deep.CondSized
import Derived.Deep.Slices
import Derived.Deep.Fields
import Derived.Lib.SmallJoins
import Derived.Deep.MidRow
import Derived.Test.YtcgclpcocdappaaGreatDoorG0
import Derived.Test.YtcgclpcocdappaaGreatDoorGg1
import Derived.Test.YtcgclpcocdappaaGreatDoorGg3
import Derived.Test.YtcgclpcocdappaaGreatDoorGg5
import Derived.Test.YtcgclpcocdappaaGreatDoorGg8
import Derived.Test.YtcgclpcocdappaaGreatDoorGg9
import Derived.Test.YtcgclpcocdappaaGreatDoorGg13
namespace Go.Proofs.YtcgclpcocdappaaGreatDoor
open Go.RowKit
theorem extract_mk (s:ByteArray) (j k:Nat):s.extract j k=⟨((s.data.toList.drop j).take (k-j)).toArray⟩:=by
 apply eq_mk
 rw [ByteArray.data_extract,Array.toList_extract]
theorem partsL_len (l:BS):(partsL l).length≤l.length+1:=by
 induction l with
 | nil=>simp [partsL]
 | cons c l ih =>
  unfold partsL
  split
  ·simp;omega
  ·split
   ·rename_i p ps h
    rw [h] at ih
    simp at ih ⊢
    omega
   ·simp
set_option maxRecDepth 100000 in
set_option maxHeartbeats 1000000 in
theorem parts_any (s:ByteArray) (w:World) (hs:s.size≤4000000000) :
  Calls Tryz.prog 177 #[.string s,.int .u8 47] w fun e w'=>∃ v,e=.returned v∧w'.ownsRow w.heap.size 9 1 v (partsL s.data.toList).length (scells (partsL s.data.toList))∧Below w.heap.size w w':=by
 obtain ⟨i0,hi0,hz0,hz1,hz2⟩:=info_parts Tryz.infoS
 have HSZ:=Lib.hid (Lib.size_eq s)
 go_enter Tryz.func177,Tryz.ntmps177
 go_wp2_with fail
 go_loopw [5,6,7] (fun o f i wr=>∃ (k j m:Nat) (done:List BS) (A1:Option Addr) (c1:Nat),k≤s.size∧j≤k∧m≤j∧i=.int .i64 (k:Int)∧f=.int .i64 (j:Int)∧o=.slice A1 m c1∧Hid (m=done.length∧partsL s.data.toList=done++partsL (s.data.toList.drop j)∧47 ∉ (s.data.toList.drop j).take (k-j))∧wr.ownsRow w.heap.size 9 1 (.slice A1 m c1) m (scells done)∧Below w.heap.size w wr) (fun _ _ i _=>s.size-(intOf i).toNat)
 case atStart=>exact ⟨0,0,0,[],none,0,Nat.zero_le _,Nat.le_refl _,Nat.le_refl _,rfl,rfl,rfl,⟨rfl,by simp,by simp⟩,⟨rfl,.inl ⟨rfl,rfl⟩⟩,Below.refl _ _⟩
 case round =>
  obtain ⟨k,j,m,done,A1,c1,hk,hj,hm,rfl,rfl,rfl,hI,hown,hbw⟩:=hrel
  by_cases hlt:k<s.size
  ·have hki:(k:Int)<(s.size:Int):=by omega
   have hkl:k<s.data.toList.length:=by have:=HSZ.out;omega
   have hg:=bget s k hlt
   obtain ⟨y,hy⟩:∃ y,y=s[k]'hlt:=⟨_,rfl⟩
   have hyv:((s[k]'hlt).toNat:Int)=(y.toNat:Int):=by rw [hy]
   have hget:s.data.toList[k]?=some y:=by rw [List.getElem?_eq_getElem hkl,hg,← hy]
   have htk:(s.data.toList.drop j).take (k+1-j)=(s.data.toList.drop j).take (k-j)++[y]:=by
    rw [show k+1-j=k-j+1 by omega,List.take_add_one,List.getElem?_drop,show j+(k-j)=k by omega,hget]
    rfl
   have HTK:=Lib.hid htk
   have HGET:=Lib.hid hget
   clear hg hy hget htk
   by_cases h47:y=47
   ·have hyi:(y.toNat:Int)=47:=by rw [h47];rfl
    have hjk:(j:Int)≤(k:Int):=by omega
    have hks:(k:Int)≤(s.size:Int):=by omega
    have hex:=extract_mk s j k
    obtain ⟨q,hq⟩:∃ q,q=(s.data.toList.drop j).take (k-j):=⟨_,rfl⟩
    rw [← hq] at hex
    have HN:Hid (partsL s.data.toList=(done++[q])++partsL (s.data.toList.drop (k+1))):=by
     show _=_
     have hsp:s.data.toList.drop j=q++47 :: s.data.toList.drop (k+1):=by
      conv=>lhs;rw [← List.take_append_drop (k-j) (s.data.toList.drop j),← hq,List.drop_drop,show j+(k-j)=k by omega,List.drop_eq_getElem_cons hkl]
      have:=HGET.out
      rw [List.getElem?_eq_getElem hkl,h47] at this
      rw [Option.some.inj this]
     rw [hI.out.2.1,hsp,partsL_two _ _ (by rw [hq];exact hI.out.2.2),List.append_assoc]
     rfl
    have HM:Hid (m+1=(done++[q]).length):=by show _=_;rw [List.length_append,hI.out.1];rfl
    have hsz2:=hbw.size
    clear hq h47
    go_wp2_with (at_builtin;(refine wpList_push _ rfl (.tmp 19) (.tmp 24) 48 rfl w.heap.size 9 i0 (.string ByteArray.empty) 1 16 Tryz.underlying48 hi0 hz0 hz1 hz2 rfl (by decide) (.slice A1 m c1) m (scells done) rfl hown 1 #[.string ⟨q.toArray⟩] 9 (by simp [Act.eval]) rfl (by simp [Value.oneCell']) (by unfold maxLen;omega) (by omega) hsz2 ?_);intro v4 w4 hown4 hb4 _)
    obtain ⟨A4,c4,rfl,_,_,_⟩:=own_form hown4
    have hb5:=hbw.trans hb4
    have HO:Hid (w4.ownsRow w.heap.size 9 1 (.slice A4 (m+1) c4) (m+1) (scells (done++[q]))):=by show World.ownsRow _ _ _ _ _ _ _;rw [scells_append];exact hown4
    clear hown hown4 hbw hb4
    go_wp2_with fail
    go_roundw
    case rel=>exact ⟨k+1,k+1,m+1,done++[q],A4,c4,by omega,Nat.le_refl _,by omega,by go_num,by go_num,rfl,⟨HM.out,HN.out,by simp⟩,HO.out,hb5⟩
    case measure=>simp [intOf];omega
   ·have hyi:¬ (y.toNat:Int)=47:=by
     intro e
     exact h47 (UInt8.toNat_inj.1 (by have:(47:UInt8).toNat=47:=rfl;omega))
    have HN:Hid (47 ∉ (s.data.toList.drop j).take (k+1-j)):=by
     show _ ∉ _
     rw [HTK.out,List.mem_append,List.mem_singleton]
     rintro (h | h)
     ·exact hI.out.2.2 h
     ·exact h47 h.symm
    clear h47
    go_wp2_with fail
    go_roundw
    case rel=>exact ⟨k+1,j,m,done,A1,c1,by omega,by omega,hm,by go_num,rfl,rfl,⟨hI.out.1,hI.out.2.1,HN.out⟩,hown,hbw⟩
    case measure=>simp [intOf];omega
  ·obtain rfl:k=s.size:=by omega
   have hex:=extract_mk s j s.size
   obtain ⟨q,hq⟩:∃ q,q=(s.data.toList.drop j).take (s.size-j):=⟨_,rfl⟩
   rw [← hq] at hex
   have HN:Hid (partsL s.data.toList=done++[q]):=by
    show _=_
    have:(s.data.toList.drop j).take (s.size-j)=s.data.toList.drop j:=List.take_of_length_le (by rw [List.length_drop];have:=HSZ.out;omega)
    have h47:=hI.out.2.2
    rw [this] at h47 hq
    rw [hI.out.2.1,partsL_one _ h47,hq]
   have HM:Hid (m+1=(partsL s.data.toList).length):=by show _=_;rw [HN.out,List.length_append,hI.out.1];rfl
   have hsz2:=hbw.size
   have hjk:(j:Int)≤(s.size:Int):=by omega
   clear hq
   go_wp2_with (at_builtin;(refine wpList_push _ rfl (.tmp 28) (.tmp 32) 48 rfl w.heap.size 9 i0 (.string ByteArray.empty) 1 16 Tryz.underlying48 hi0 hz0 hz1 hz2 rfl (by decide) (.slice A1 m c1) m (scells done) rfl hown 1 #[.string ⟨q.toArray⟩] 9 (by simp [Act.eval]) rfl (by simp [Value.oneCell']) (by unfold maxLen;omega) (by omega) hsz2 ?_);intro v4 w4 hown4 hb4 _)
   have HO:Hid (w4.ownsRow w.heap.size 9 1 v4 (m+1) (scells (partsL s.data.toList))):=by show World.ownsRow _ _ _ _ _ _ _;rw [HN.out,scells_append];exact hown4
   have hb5:=hbw.trans hb4
   clear hown hown4 hbw hb4
   go_wp2_with fail
   go_ret
   exact ⟨v4,rfl,by rw [← HM.out];exact HO.out,hb5⟩
theorem parts_small (l:BS):∀ p∈partsL l,p.length≤l.length:=by
 induction l with
 | nil=>simp [partsL]
 | cons c l ih =>
  unfold partsL
  split
  ·intro p hp
   rcases List.mem_cons.1 hp with rfl | hp
   ·simp
   ·have:=ih p hp;simp;omega
  ·split
   ·rename_i q ps h
    rw [h] at ih
    intro p hp
    rcases List.mem_cons.1 hp with rfl | hp
    ·have:=ih q (List.mem_cons_self ..);simp;omega
    ·have:=ih p (List.mem_cons_of_mem _ hp);simp;omega
   ·intro p hp
    rw [List.mem_singleton] at hp
    subst hp
    simp
set_option maxRecDepth 100000 in
set_option maxHeartbeats 1000000 in
theorem refPath_any (s:ByteArray) (w:World) (hs:s.size≤4000000000) :
  Calls Tryz.prog 115 #[.string s] w fun e w'=>e=.returned (.bool (pathB s.data.toList))∧Below w.heap.size w w':=by
 have htl:=Lib.hid (toList_data s)
 have hpar:=parts_any s w hs
 have HSM:=Lib.hid (parts_small s.data.toList)
 have HPL:=Lib.hid (partsL_len s.data.toList)
 have HSZ:=Lib.hid (Lib.size_eq s)
 go_enter Tryz.func115,Tryz.ntmps115
 go_wp2_with fail
 ·have h0:s.toList.isEmpty=true:=by assumption
  rw [htl.out,List.isEmpty_iff] at h0
  go_ret
  exact ⟨by rw [h0];rfl,Below.refl _ _⟩
 ·have h0:s.toList.isEmpty=false:=by assumption
  have HP:Hid (pathB s.data.toList=(decide ((partsL s.data.toList).length≤4) && (partsL s.data.toList).all nameB)):=by
   show _=_
   rw [htl.out] at h0
   unfold pathB
   rw [h0,Bool.false_or]
  obtain ⟨L,hL⟩:∃ L,L=partsL s.data.toList:=⟨_,rfl⟩
  rw [← hL] at hpar HSM HPL HP
  obtain ⟨n,hn⟩:∃ n,n=L.length:=⟨_,rfl⟩
  rw [← hn] at hpar HPL HP
  have hnb:n≤4000000001:=by have:=HPL.out;have:=HSZ.out;omega
  have HN:=Lib.hid hn
  clear hL hn
  refine hpar.mono ?_
  clear hpar
  rintro e w1 ⟨v,rfl,hown,hb1⟩
  obtain ⟨A1,c1,rfl,_,_,hr⟩:=own_form hown
  clear hown
  go_wp2_with fail
  go_loopw [4] (fun i wr=>∃ k:Nat,k≤n∧i=.int .i64 (k:Int)∧Hid ((L.take k).all nameB=true)∧wr=w1) (fun i _=>n-(intOf i).toNat)
  case atStart=>exact ⟨0,Nat.zero_le _,rfl,rfl,rfl⟩
  case round =>
   obtain ⟨k,hk,rfl,hok,hww⟩:=hrel
   have hww:=hww.symm
   subst hww
   by_cases hlt:k<n
   ·have hki:(k:Int)<(n:Int):=by omega
    have hkl:k<L.length:=by have:=HN.out;omega
    obtain ⟨ad,rfl,hadB,d0⟩:=strs_at hr HN.out hlt
    have htk:=List.take_succ_eq_append_getElem hkl
    obtain ⟨x,hx⟩:∃ x,x=L[k]'hkl:=⟨_,rfl⟩
    have hm:x∈L:=by rw [hx];exact List.getElem_mem _
    rw [← hx] at d0 htk
    simp only [strV] at d0
    have hxs:=HSM.out x hm
    have hc:=refName_any x w1 (by have:=HSZ.out;omega)
    obtain ⟨b,hb⟩:∃ b,b=nameB x:=⟨_,rfl⟩
    rw [← hb] at hc
    have HBB:=Lib.hid hb
    have HT:=Lib.hid htk
    have HM:=Lib.hid hm
    clear hx htk hb hxs hm
    go_wp2_with fail
    refine hc.mono ?_
    clear hc
    rintro e w2 ⟨rfl,rfl⟩
    cases b with
    | true =>
     go_wp2_with fail
     go_roundw
     case rel =>
      refine ⟨k+1,by omega,by go_num,?_,trivial⟩
      show List.all _ _=_
      rw [HT.out,List.all_append,hok.out]
      simp [HBB.out.symm]
     case measure=>simp [intOf];omega
    | false =>
     have HV:Hid (pathB s.data.toList=false):=by
      show _=_
      have:L.all nameB=false:=by
       rw [← Bool.not_eq_true,List.all_eq_true]
       intro h
       have:=h x HM.out
       rw [← HBB.out] at this
       cases this
      rw [HP.out,this,Bool.and_false]
     go_wp2_with fail
     go_ret
     exact ⟨by rw [HV.out];rfl,hb1⟩
   ·have HA:Hid (pathB s.data.toList=decide ((n:Int)≤4)):=by
     show _=_
     have:=hok.out
     rw [List.take_of_length_le (by have:=HN.out;omega)] at this
     rw [HP.out,this,Bool.and_true]
     exact decide_eq_decide.2 (by omega)
    clear hok hr
    go_wp2_with fail
    go_ret
    exact ⟨by rw [HA.out];rfl,hb1⟩
end Go.Proofs.YtcgclpcocdappaaGreatDoor
namespace Go.Proofs.YtcgclpcocdappaaGreatDoor
open Go.ChangeShapes Go.WideShapes Go.ChangeAt Go.RowKit Go.Deep Go.Joins
open Go.ChangeMaps (open_string shut_string)
theorem Tryz.own:ownKnob Tryz.prog.godebug=none:=by kernel_rfl
section
variable {H:Type} {enc:TypeId×Value→H} {P:Program}
/-- one argument as the form hands it over -/
structure ArgIn (enc:TypeId×Value→H) (P:Program) (W:World) (t:TypeId) (v:Value) (d:DataW H):Prop where
 ok:∃ base,Value.okWide P W .any base t v
 rd:∃ p,DataW.Trod enc P W 0 (fun _=>true) true t v d p
 wt:∀ n∈d.weights P t,n≤reachBytes
/-! ### Opening arguments -/
section
variable {W:World} {t:TypeId} {v:Value} {d:DataW H}
theorem ArgIn.int {k:IntKind} (ht:P.underlying t=some (.int k)) (h:ArgIn enc P W t v d):∃ n,v=.int k n∧(Lit.int k n).wf=true:=by
 obtain ⟨⟨base,ho⟩,⟨p,hr⟩,_⟩:=h
 obtain ⟨n,hv,_,_,hw⟩:=open_int ht ho hr
 exact ⟨n,hv,hw⟩
theorem ArgIn.bool (ht:P.underlying t=some .bool) (h:ArgIn enc P W t v d):∃ n,v=.bool n:=by
 obtain ⟨⟨base,ho⟩,⟨p,hr⟩,_⟩:=h
 obtain ⟨n,hv,_⟩:=open_bool ht ho hr
 exact ⟨n,hv⟩
theorem ArgIn.string (ht:P.underlying t=some .string) (h:ArgIn enc P W t v d):∃ s:ByteArray,v=.string s∧s.size≤140737488351232∧d=.lit (.string s.data.toList):=by
 obtain ⟨⟨base,ho⟩,⟨p,hr⟩,hw⟩:=h
 obtain ⟨s,hv,rfl,_,_⟩:=open_string ht ho hr
 refine ⟨s,hv,?_,rfl⟩
 have:=hw s.data.toList.length (by simp [DataW.weights])
 simp only [reachBytes] at this
 simpa using this
theorem ArgIn.bytes {e:TypeId} (ht:P.underlying t=some (.slice e)) (he:P.underlying e=some (.int .u8)) (hc:P.cellsOf e=1) (hb:P.bytesOf e=1) (h:ArgIn enc P W t v d) :
  ∃ (A:Option Addr) (b:List UInt8) (c:Nat),v=.slice A b.length c∧b.length≤c∧c≤140737488351232∧Reads W W.heap.size 1 A b.length (bts b)∧(d=.nil∧b=[]∨∃ sp,d=.slice (b.map fun x=>.lit (.int .u8 (x.toNat:Int))) sp):=by
 obtain ⟨⟨base,ho⟩,⟨p,m,hr⟩,hw⟩:=h
 obtain ⟨A,n,c,rfl⟩:=okWide_slice ht ho
 rcases open_ints ht he hc hr with ⟨hcs,hx⟩ | ⟨x,l,cc,zs,hcs,_,hl,hm,hz,hx,hcell,hwz⟩
 ·simp [Value.cells] at hcs
  obtain ⟨rfl,rfl,rfl⟩:=hcs
  simp at hx
  exact ⟨none,[],0,rfl,Nat.le_refl _,by omega,Reads.none_,.inl ⟨hx.1,rfl⟩⟩
 ·simp [Value.cells] at hcs
  obtain ⟨rfl,rfl,rfl⟩:=hcs
  simp only [Prod.mk.injEq] at hx
  have hz':zs.length=c:=by simpa using hz
  have hcb:c≤140737488351232:=by
   have:=hw ((lits (H:=H) .u8 (zs.take n)).length+(lits (H:=H) .u8 (zs.drop n)).length) (by rw [hx.1];simp [DataW.weights,ht,hb])
   simp only [reachBytes,lits,List.length_map,List.length_take,List.length_drop] at this
   omega
  have hbyte:∀ z∈zs,((UInt8.ofNat z.toNat).toNat:Int)=z:=by
   intro z hzm
   have:=hwz z hzm
   simp [Lit.wf,IntKind.min,IntKind.max,IntKind.signed,IntKind.bits] at this
   rw [UInt8.toNat_ofNat_of_lt' (by show z.toNat<256;omega)]
   omega
  have hlen:((zs.take n).map fun z=>UInt8.ofNat z.toNat).length=n:=by simp;omega
  have hget:∀ i u,(bts ((zs.take n).map fun z=>UInt8.ofNat z.toNat))[i]?=some u→i<n∧u=.int .u8 (zs.getD i 0):=by
   intro i u hu
   have hi:i<n:=by
    have h1:=(List.getElem?_eq_some_iff.1 hu).1
    rw [bts_length,hlen] at h1
    exact h1
   refine ⟨hi,?_⟩
   have hzi:i<zs.length:=by omega
   simp [bts,hi,List.getElem?_eq_getElem hzi] at hu
   rw [← hu]
   have:=hbyte zs[i] (List.getElem_mem hzi)
   simp at this
   simp [List.getD_eq_getElem?_getD,List.getElem?_eq_getElem hzi,this]
  refine ⟨some x,(zs.take n).map fun z=>UInt8.ofNat z.toNat,c,by rw [hlen],by omega,hcb,⟨by rw [bts_length];simp,fun hn=>⟨x,rfl,?_,?_⟩⟩,.inr ⟨lits .u8 (zs.drop n),?_⟩⟩
  ·have h0:0<zs.length:=by rw [hlen] at hn;omega
   have:=World.block_lt_of_cell? W _ (hcell 0 h0)
   rwa [block_of_add] at this
  ·intro i u hu
   obtain ⟨hi,rfl⟩:=hget i u hu
   exact hcell i (by omega)
  ·rw [hx.1]
   simp only [lits,List.map_map]
   congr 1
   apply List.map_congr_left
   intro z hzm
   show _=DataW.lit (Lit.int .u8 ((UInt8.ofNat z.toNat).toNat:Int))
   rw [hbyte z (List.mem_of_mem_take hzm)]
end
end
end Go.Proofs.YtcgclpcocdappaaGreatDoor
namespace Go.Proofs.YtcgclpcocdappaaGreatDoor
open Go.RowKit
theorem Blk.setCells {g:Nat} {t:TypeId} (cs:List Value):∀ (w:World) (pre post:List Value),post.length=cs.length→Blk w g t (pre++post).toArray→Blk (w.setCells g pre.length cs) g t (pre++cs).toArray:=by
 induction cs with
 | nil =>
  intro w pre post h hb
  rw [List.eq_nil_of_length_eq_zero h] at hb
  exact hb
 | cons v cs ih =>
  intro w pre post h hb
  cases post with
  | nil=>simp at h
  | cons p post =>
   have h1:=hb.set_ pre.length v
   rw [show (pre++p :: post).toArray.setIfInBounds pre.length v=((pre++[v])++post).toArray by simp [List.set_append_right]] at h1
   have:=ih (w.setCell ⟨g,pre.length,none⟩ v) (pre++[v]) post (by simpa using h) h1
   rw [List.length_append] at this
   rw [show pre++v :: cs=pre++[v]++cs by simp]
   exact this
theorem below_setCells {B g:Nat} {a:World} (hg:B≤g) (cs:List Value):∀ (w:World) (o:Nat),Below B a w→Below B a (w.setCells g o cs):=by
 induction cs with
 | nil=>intro w o h;exact h
 | cons v cs ih=>intro w o h;exact ih _ _ (h.setCell (p:=⟨g,o,none⟩) hg v)
theorem Blk.there {w:World} {g:Nat} {t:TypeId} {cs:Array Value} (h:Blk w g t cs) (n:Nat) (hn:n≤cs.size):w.there g 0 n:=by
 intro j hj
 rw [Nat.zero_add]
 exact ⟨by rw [h.cell j];simp;omega,h.frozen j⟩
end Go.Proofs.YtcgclpcocdappaaGreatDoor
