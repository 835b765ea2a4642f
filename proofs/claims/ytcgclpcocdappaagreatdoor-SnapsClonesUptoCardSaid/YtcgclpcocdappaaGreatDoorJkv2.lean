/-
  Words for memory that all texts of this seat use: a slice that reads as a list, a block known whole, append from any source.   Turned from the guide's pages extra-words and extra-small. tree.Clones, by its contract. shape.Destroy: a set is gone. Snapshots by content: what is asked, found, made, and gone. What is found, as the walks of chapter 17 need it; what is told then.
-/
import Derived.WalkKit
import Derived.WalkSpells
import Derived.Below
import Derived.Laws.OwnMore
import Derived.Deep.AppendLies
import Derived.Deep.Draws
import Derived.Laws.Rows
import Derived.Maps.AppendAt
import Derived.RegionTactic
import Derived.OwnWalk
import Derived.Deep.QuietTactic
import Derived.BigQuiet
import Derived.Lib.Hide
import Derived.Laws.CopyOwn
import Derived.IntWalk
import Derived.Test.YtcgclpcocdappaaGreatDoorRows
import Derived.Handy
import Derived.Deep.Quiet
import Derived.Orders
import Derived.Lib.SplitLaws
import Derived.Lib.LastIndexByte
import Derived.Lib.Strings
import Derived.ShutString
import Derived.Sort.Walk0
import Derived.Sort.KeysCollected
import Derived.Shelf.Strings.Search1
import Derived.Shelf.Strings.Search2
import Derived.Shelf.Strings.Search3
import Derived.Shelf.Strings.Cut
import Derived.Shelf.Strings.Count
import Derived.Shelf.LaysM
import Derived.Shelf.Strings.Shaped
import Derived.Shelf.Strings.LastIndex
import Derived.Shelf.Strings.Split
import Derived.Shelf.Strings.SplitShaped
import Derived.Shelf.Unicode.Decode
import Derived.Shelf.Strings.RuneCount
import Derived.Shelf.Strings.Explode
import Derived.Shelf.Unicode.DecodeSlow
import Derived.Test.YtcgclpcocdappaaGreatDoorProg
import Derived.Laws.BytesString
import Derived.Laws.IdiomStrings
import Derived.Lib.ConvBytes
import Derived.Deep.MidRow
import Derived.ProofKit
import Derived.OpenShut
import Derived.ChangeOld
import Derived.Carry
import Derived.SizedLaws
import Derived.JoinedCond
import Derived.Deep.CondSized
import Derived.Deep.Slices
import Derived.Deep.Fields
import Derived.Lib.SmallJoins
import Derived.Deep.RegionLaw
import Derived.Lib.AppendZeros
import Derived.Lib.Overlaps
import Derived.Lib.AppendZerosOnto
import Derived.Deep.DeepCutAuto
import Derived.Great.BuildSlice
import Derived.Test.YtcgclpcocdappaaGreatDoorJ0
import Derived.Test.YtcgclpcocdappaaGreatDoorJbkv1
import Derived.Test.YtcgclpcocdappaaGreatDoorJbkv3
import Derived.Test.YtcgclpcocdappaaGreatDoorJbkv4
import Derived.Test.YtcgclpcocdappaaGreatDoorJbkv5
import Derived.Test.YtcgclpcocdappaaGreatDoorJbkv7
import Derived.Test.YtcgclpcocdappaaGreatDoorJbkv8
import Derived.Test.YtcgclpcocdappaaGreatDoorJbkv10
import Derived.Test.YtcgclpcocdappaaGreatDoorJbkv14
import Derived.Test.YtcgclpcocdappaaGreatDoorJbkv16
import Derived.Test.YtcgclpcocdappaaGreatDoorJbkv17
import Derived.Test.YtcgclpcocdappaaGreatDoorJbkv20
import Derived.Test.YtcgclpcocdappaaGreatDoorJbkv21
import Derived.Test.YtcgclpcocdappaaGreatDoorJbkv22
namespace Go.Proofs.YtcgclpcocdappaaGreatDoor
open Go.RowKit
section
variable {w w':World} {B B' size n:Nat} {A:Option Addr} {xs:List Value}
end
section
variable {w w':World} {g:Nat} {t:TypeId} {cs:Array Value}
end
section
variable {P:Program} (w:World)
end
/-! ### My own words -/
section
variable {w w':World} {base:Nat} {e:TypeId} {size n:Nat} {v:Value} {xs:List Value}
end
/-! ### For a region that is held: S says cells, and last 'Below w0.heap.size w0 w'' -/
theorem own_reads {w:World} {base:Nat} {e:TypeId} {size n c:Nat} {A:Option Addr} {xs:List Value} (h:w.ownsRow base e size (.slice A n c) n xs):n≤c∧c≤maxLen∧Reads w w.heap.size size A n xs:=by
 obtain ⟨A',c',hv,h1,h2,h3⟩:=own_form h
 injection hv with e1 _ e2
 subst e1 e2
 exact ⟨h1,h2,h3⟩
end Go.Proofs.YtcgclpcocdappaaGreatDoor
namespace Go.Proofs.YtcgclpcocdappaaGreatDoor
open Go.RowKit
/-- is a set a clone of a snapshot of a set's (or of any, where no name is asked)? -/
def clP (p q:BS) (o:BS):Bool:=match splitL o with
 | none=>false
 | some (a,b)=>a == p && (q == [] || b == q)
def clonesL (l:List SetR) (p q:BS):List BS:=(l.filter fun s=>clP p q s.org).map (·.path)
theorem clonesL_snoc (l:List SetR) (x:SetR) (p q:BS):clonesL (l++[x]) p q=clonesL l p q++(if clP p q x.org=true then [x.path] else []):=by
 unfold clonesL
 rw [List.filter_append,List.map_append]
 congr 1
 by_cases h:clP p q x.org=true
 ·rw [if_pos h,List.filter_cons_of_pos (by simpa using h)];rfl
 ·rw [if_neg h,List.filter_cons_of_neg (by simpa using h)];rfl
set_option maxRecDepth 100000 in
set_option maxHeartbeats 4000000 in
theorem clones_any (v0 v1 v2 v4 v5 v6:Value) (l:List SetR) (n:Nat) (hnl:n=l.length) (A:Option Addr) (c:Nat) (p nq:BS) (w:World) (B:Nat) (hr:Reads w B 5 A n (cellsK encSet l)) (hB:B≤w.heap.size) (hn:n≤1000000000000) (hv:∀ y∈l,y.org.length≤4000000000) (hmx:HasMax w) :
  Calls Tryz.prog 70 #[.agg #[v0,v1,v2,.slice A n c,v4,v5,v6],.string ⟨p.toArray⟩,.string ⟨nq.toArray⟩] w fun e w'=>∃ A1 c1,e=.returned (.slice A1 (clonesL l p nq).length c1)∧w'.ownsRow w.heap.size 9 1 (.slice A1 (clonesL l p nq).length c1) (clonesL l p nq).length (scells (clonesL l p nq))∧Below w.heap.size w w':=by
 obtain ⟨i0,hi0,hz0,hz1,hz2⟩:=info_parts Tryz.infoS
 have HN:=Lib.hid hnl
 have hb1:=(Below.refl w.heap.size w).alloc (Nat.le_refl _) (.cells #[v0,v1,v2,.slice A n c,v4,v5,v6] 27)
 have kT:=Blk.new w 27 #[v0,v1,v2,.slice A n c,v4,v5,v6]
 obtain ⟨W1,hW1⟩:∃ W,W=w.alloc (.cells #[v0,v1,v2,.slice A n c,v4,v5,v6] 27):=⟨_,rfl⟩
 have hsz1:W1.heap.size=w.heap.size+1:=by rw [hW1];simp
 rw [← hW1] at hb1 kT
 have hT:Hid (∀ W',Below W1.heap.size W1 W'→W'.cell? ⟨w.heap.size,3,none⟩=some (.slice A n c)):=fun W' hB'=>(kT.below hB' (by omega)).cell 3
 have hR:=Lib.hid (fun (W':World) (hB':Below W1.heap.size W1 W')=>(⟨hr.below ((hb1.trans (hB'.mono (by omega))).mono hB),hmx.below (hb1.trans (hB'.mono (by omega)))⟩:Reads W' B 5 A n (cellsK encSet l)∧HasMax W'))
 have HB1:=Lib.hid hb1
 have HSZ1:=Lib.hid hsz1
 have HVS:=Lib.hid hv
 obtain ⟨KL,hKL⟩:∃ K,K=clonesL l p nq:=⟨_,rfl⟩
 rw [← hKL]
 have HKL:=Lib.hid hKL
 clear hnl hr kT hsz1 hv hKL
 go_enter Tryz.func70,Tryz.ntmps70
 go_wp2_with fail
 rw [← hW1]
 clear hW1
 go_loopw [7,16] (fun a j wr=>∃ (k m:Nat) (A1:Option Addr) (c1:Nat),k≤n∧m≤k∧a=.slice A1 m c1∧j=.int .i64 (k:Int)∧Hid (m=(clonesL (l.take k) p nq).length)∧wr.ownsRow W1.heap.size 9 1 (.slice A1 m c1) m (scells (clonesL (l.take k) p nq))∧Below W1.heap.size W1 wr) (fun _ j _=>n-(intOf j).toNat)
 case atStart=>exact ⟨0,0,none,0,Nat.zero_le _,Nat.zero_le _,rfl,rfl,rfl,⟨rfl,.inl ⟨rfl,rfl⟩⟩,Below.refl _ _⟩
 case round =>
  clear hb1
  obtain ⟨k,m,A1,c1,hk,hmk,rfl,rfl,hml,hown,hbw⟩:=hrel
  by_cases hlt:k<n
  ·obtain ⟨hrw,hmw⟩:=hR.out _ hbw
   obtain ⟨ad,rfl,-,c0,c1',c2,c3,c4⟩:=set_at hrw HN.out hlt
   have hki:(k:Int)<(n:Int):=by omega
   have hkl:k<l.length:=by have:=HN.out;omega
   obtain ⟨x,hx⟩:∃ x,x=l[k]'hkl:=⟨_,rfl⟩
   have hxl:=HVS.out x (by rw [hx];exact List.getElem_mem _)
   rw [← hx] at c0 c1' c2 c3 c4
   have htk:=List.take_succ_eq_append_getElem hkl
   rw [← hx] at htk
   have HNT:Hid (clonesL (l.take (k+1)) p nq=clonesL (l.take k) p nq++(if clP p nq x.org=true then [x.path] else [])):=by
    show _=_
    rw [htk,clonesL_snoc]
   obtain ⟨W0,hW0⟩:∃ W0,W0=wr.alloc (.cells #[.string ⟨x.path.toArray⟩,.string ⟨x.org.toArray⟩,.slice x.body.A x.body.n x.body.c,.slice x.snaps.A x.snaps.n x.snaps.c,.slice x.own.A x.own.n x.own.c] 42):=⟨_,rfl⟩
   have hblk:Blk W0 wr.heap.size 42 #[.string ⟨x.path.toArray⟩,.string ⟨x.org.toArray⟩,.slice x.body.A x.body.n x.body.c,.slice x.snaps.A x.snaps.n x.snaps.c,.slice x.own.A x.own.n x.own.c]:=by rw [hW0];exact Blk.new wr _ _
   have hszW:W0.heap.size=wr.heap.size+1:=by rw [hW0];show (wr.heap.push _).size=_;rw [Array.size_push]
   have hwr:=hbw.size
   have hsz1:=HSZ1.out
   have hb1W:Below W1.heap.size W1 W0:=by rw [hW0];exact hbw.alloc hbw.size _
   have HB2:=Lib.hid hb1W
   have HSZ:=Lib.hid hszW
   have hpn:=split_any ⟨x.org.toArray⟩ W0 (by show x.org.length≤_;exact hxl) (hR.out _ hb1W).2
   rw [show (ByteArray.mk x.org.toArray).data.toList=x.org from rfl] at hpn
   have hown0:Hid (∀ W,Below W0.heap.size W0 W→W.ownsRow W1.heap.size 9 1 (.slice A1 m c1) m (scells (clonesL (l.take k) p nq))∧W.cell? ⟨wr.heap.size,0,none⟩=some (.string ⟨x.path.toArray⟩)):=by
    show ∀ W,_→_
    intro W hb
    refine ⟨own_below (w:=W0) ?_ hb,(hblk.below hb (by omega)).cell 0⟩
    rw [hW0]
    exact hown.alloc _
   obtain ⟨xp,xo,⟨b1,b2,b3,bl⟩,⟨s1,s2,s3,sl⟩,⟨o1,o2,o3,ol⟩⟩:=x
   simp only at c0 c1' c2 c3 c4 HNT hW0 hpn hown0
   clear hx htk hxl hblk hrw hown hR hT hmw
   go_wp2_with fail
   rw [← hW0]
   clear hW0 hszW c0 c1' c2 c3 c4
   refine hpn.mono ?_
   clear hpn
   rintro e w4 ⟨rfl,hb4⟩
   obtain ⟨ho4,q0⟩:=hown0.out _ hb4
   have hbf:=HB2.out.trans (hb4.mono (by have:=HSZ.out;omega))
   have hbF:=HB1.out.trans (hbf.mono (by omega))
   have hbase:=hbf.size
   clear hown0 hb4
   rcases splitV_cases xo with ⟨hs1,hs2⟩ | ⟨sa,sb,hs1,hs2,-,-⟩
   ·rw [hs2]
    have HS1:=Lib.hid hs1
    clear hs1 hs2
    have HNT2:Hid (clonesL (l.take (k+1)) p nq=clonesL (l.take k) p nq):=by
     show _=_
     rw [HNT.out,if_neg (by unfold clP;rw [HS1.out];simp)]
     simp
    clear HNT
    go_wp2_with fail
    go_roundw
    case rel=>exact ⟨k+1,m,A1,c1,by omega,by omega,rfl,by go_num,by rw [HNT2.out];exact hml.out,by rw [HNT2.out];exact ho4,hbf⟩
    case measure=>simp [intOf];omega
   ·rw [hs2]
    have HCL:Hid (clP p nq xo=(sa == p && (nq == [] || sb == nq))):=by show _=_;unfold clP;rw [hs1]
    clear hs1 hs2
    by_cases hap:sa=p
    ·have hap1:(sa == p)=true:=by simpa using hap
     by_cases hq:nq=[]
     ·subst hq
      have HNT2:Hid (clonesL (l.take (k+1)) p []=clonesL (l.take k) p []++[xp]):=by
       show _=_
       rw [HNT.out,if_pos (by rw [HCL.out,hap1];rfl)]
      clear HNT
      go_wp2_with (at_builtin;(refine wpList_push w4 rfl (.tmp 43) (.tmp 46) 48 rfl W1.heap.size 9 i0 (.string ByteArray.empty) 1 16 Tryz.underlying48 hi0 hz0 hz1 hz2 rfl (by omega) (.slice A1 m c1) m _ rfl ho4 1 #[.string ⟨xp.toArray⟩] 9 rfl rfl (by simp [Value.oneCell']) (by unfold maxLen;omega) (by omega) hbase ?_);intro v' w' ho' hb' hg')
      obtain ⟨A2,c2,rfl,_,_,_⟩:=own_form ho'
      have hb'2:=hbf.trans hb'
      go_wp2_with fail
      go_roundw
      case rel=>exact ⟨k+1,m+1,A2,c2,by omega,by omega,rfl,by go_num,by show _=_;rw [HNT2.out,List.length_append,← hml.out];rfl,by rw [HNT2.out,scells_append];exact ho',hb'2⟩
      case measure=>simp [intOf];omega
     ·have hq1:(nq == [])=false:=by simpa using hq
      have hq2:(nq.toArray == #[])=false:=by simpa using hq
      by_cases hb:sb=nq
      ·subst hb
       have hq3:(sb == sb)=true:=by simp
       have HNT2:Hid (clonesL (l.take (k+1)) p sb=clonesL (l.take k) p sb++[xp]):=by
        show _=_
        rw [HNT.out,if_pos (by rw [HCL.out,hap1,hq3];simp)]
       clear HNT
       go_wp2_with (at_builtin;(refine wpList_push w4 rfl (.tmp 43) (.tmp 46) 48 rfl W1.heap.size 9 i0 (.string ByteArray.empty) 1 16 Tryz.underlying48 hi0 hz0 hz1 hz2 rfl (by omega) (.slice A1 m c1) m _ rfl ho4 1 #[.string ⟨xp.toArray⟩] 9 rfl rfl (by simp [Value.oneCell']) (by unfold maxLen;omega) (by omega) hbase ?_);intro v' w' ho' hb' hg')
       obtain ⟨A2,c2,rfl,_,_,_⟩:=own_form ho'
       have hb'2:=hbf.trans hb'
       go_wp2_with fail
       go_roundw
       case rel=>exact ⟨k+1,m+1,A2,c2,by omega,by omega,rfl,by go_num,by show _=_;rw [HNT2.out,List.length_append,← hml.out];rfl,by rw [HNT2.out,scells_append];exact ho',hb'2⟩
       case measure=>simp [intOf];omega
      ·have hb1:(sb == nq)=false:=by simpa using hb
       have HNT2:Hid (clonesL (l.take (k+1)) p nq=clonesL (l.take k) p nq):=by
        show _=_
        rw [HNT.out,if_neg (by rw [HCL.out,hap1,hq1,hb1];simp)]
        simp
       clear HNT
       go_wp2_with fail
       go_roundw
       case rel=>exact ⟨k+1,m,A1,c1,by omega,by omega,rfl,by go_num,by rw [HNT2.out];exact hml.out,by rw [HNT2.out];exact ho4,hbf⟩
       case measure=>simp [intOf];omega
    ·have hap1:(sa == p)=false:=by simpa using hap
     have HNT2:Hid (clonesL (l.take (k+1)) p nq=clonesL (l.take k) p nq):=by
      show _=_
      rw [HNT.out,if_neg (by rw [HCL.out,hap1];simp)]
      simp
     clear HNT
     go_wp2_with fail
     go_roundw
     case rel=>exact ⟨k+1,m,A1,c1,by omega,by omega,rfl,by go_num,by rw [HNT2.out];exact hml.out,by rw [HNT2.out];exact ho4,hbf⟩
     case measure=>simp [intOf];omega
  ·have hkn:k=n:=by omega
   have hall:l.take k=l:=List.take_of_length_le (by rw [hkn,HN.out];exact Nat.le_refl _)
   rw [hall,← HKL.out] at hown
   have HM:Hid (m=KL.length):=by show _=_;rw [hml.out,hall,HKL.out]
   have HO:=Lib.hid (own_mono hown (show w.heap.size≤W1.heap.size by have:=HSZ1.out;omega))
   have HBF:=Lib.hid (HB1.out.trans (hbw.mono (by have:=HSZ1.out;omega)))
   clear hkn hall hml hown hbw
   go_wp2_with fail
   go_ret
   refine ⟨A1,c1,by rw [← HM.out];rfl,by rw [← HM.out];exact HO.out,HBF.out⟩
end Go.Proofs.YtcgclpcocdappaaGreatDoor
namespace Go.Proofs.YtcgclpcocdappaaGreatDoor
open Go.RowKit
def TenC.clones (c:TenC) (p q:BS):Nat:=(c.sets.filter fun s=>clP p q s.org).length
theorem clones_con (t:TenR) (p q:BS):(clonesL t.sets.l p q).length=t.con.clones p q:=by
 unfold clonesL TenC.clones
 rw [List.length_map]
 show _=((t.sets.l.map SetR.con).filter _).length
 rw [List.filter_map,List.length_map]
 rfl
end Go.Proofs.YtcgclpcocdappaaGreatDoor
namespace Go.Proofs.YtcgclpcocdappaaGreatDoor
open Go.RowKit
/-! ### what is made -/
def SetC.dropSnap (s:SetC) (i:Nat):SetC:=⟨s.path,s.org,s.body,s.snaps.take i++s.snaps.drop (i+1),s.own⟩
def TenC.unsnap (c:TenC) (p n:BS):Int×TenC :=
 if (c.foundS p n false).2.2≠0 then ((c.foundS p n false).2.2,c) else if 0<c.clones p n then (44,c) else match c.sets[(c.foundS p n false).1.toNat]? with
 | none=>(71,c)
 | some s=>match s.snaps[(c.foundS p n false).2.1.toNat]? with
  | none=>(71,c)
  | some x=>if 0<x.tags.length then (43,c) else (0,c.putS (c.foundS p n false).1.toNat (s.dropSnap (c.foundS p n false).2.1.toNat))
/-! ### what may be -/
/-- sets of the same paths, each as it may be, whose origins are there -/
theorem SetsOk.re {l l':List SetC} (h:SetsOk l) (hp:l'.map SetC.path=l.map SetC.path) (he:∀ z∈l',propsB z.own=true∧okL z.body=true∧SnapsOk z.snaps∧(z.org=[]∨∃ a b,splitL z.org=some (a,b)∧a≠z.path∧∃ x∈l',x.path=a∧∃ y∈x.snaps,y.nm=b)):SetsOk l':=by
 have hlen:l'.length=l.length:=by simpa using congrArg List.length hp
 have hasc:l'.Pairwise fun a b=>Op.bytesLess a.path b.path=true:=by
  have:=List.pairwise_map (f:=SetC.path) (l:=l) (R:=fun a b=>Op.bytesLess a b=true)
  have h4:=this.2 h.asc
  rw [← hp] at h4
  exact List.pairwise_map.1 h4
 have hto:∀ {a:BS},(∃ x∈l,x.path=a)→∃ x∈l',x.path=a:=by
  rintro a ⟨x,hx,rfl⟩
  have:x.path∈l'.map SetC.path:=by rw [hp];exact List.mem_map_of_mem hx
  obtain ⟨y,hy,e⟩:=List.mem_map.1 this
  exact ⟨y,hy,e⟩
 refine ⟨by rw [hlen];exact h.len,hto h.root,fun z hz=>?_,hasc⟩
 obtain ⟨h1,h2,h3,h4⟩:=he z hz
 have:z.path∈l.map SetC.path:=by rw [← hp];exact List.mem_map_of_mem hz
 obtain ⟨s,hs,e⟩:=List.mem_map.1 this
 have ho:=h.each s hs
 refine ⟨by rw [← e];exact ho.path,fun u hu=>hto (ho.par u (by rw [e];exact hu)),h1,h2,(snapsB_iff _).2 h3,?_⟩
 rcases h4 with h4 | ⟨a,b,g1,g2,x,hx,rfl,y,hy,e3⟩
 ·exact .inl h4
 ·exact .inr ⟨_,b,g1,g2,x,find_of_mem hasc hx,y,hy,e3⟩
theorem set_paths {l:List SetC} {k:Nat} (hk:k<l.length) {s:SetC} (h:s.path=(l[k]'hk).path):(l.set k s).map SetC.path=l.map SetC.path:=by
 rw [List.map_set,h,← List.getElem_map SetC.path (h:=by rw [List.length_map];exact hk),List.set_getElem_self]
/-- who stands for whom when a set is put at a place -/
theorem mem_set {l:List SetC} {k:Nat} (hk:k<l.length) {s:SetC} {x:SetC} (hx:x∈l):x∈l.set k s∨x=l[k]'hk∧s∈l.set k s:=by
 obtain ⟨j,hj,rfl⟩:=List.mem_iff_getElem.1 hx
 by_cases hjk:k=j
 ·subst hjk
  exact .inr ⟨rfl,List.mem_iff_getElem.2 ⟨k,by rw [List.length_set];exact hj,by rw [List.getElem_set_self]⟩⟩
 ·exact .inl (List.mem_iff_getElem.2 ⟨j,by rw [List.length_set];exact hj,by rw [List.getElem_set_ne hjk]⟩)
/-! ### another name -/
end Go.Proofs.YtcgclpcocdappaaGreatDoor
namespace Go.Proofs.YtcgclpcocdappaaGreatDoor
open Go.RowKit
section
variable {c:TenC} {p n tq:BS} {a k' E:Int} {k i:Nat} {s:SetC} {y:SnapC}
theorem unsnap_bad (h:c.foundS p n false=(a,k',E)) (hE:E≠0):c.unsnap p n=(E,c):=by
 unfold TenC.unsnap
 rw [h,if_pos hE]
theorem unsnap_at (h:c.foundS p n false=((k:Int),(i:Int),0)) (hs:c.sets[k]?=some s) (hy:s.snaps[i]?=some y):c.unsnap p n=if 0<c.clones p n then (44,c) else if 0<y.tags.length then (43,c) else (0,c.putS k (s.dropSnap i)):=by
 unfold TenC.unsnap
 rw [h]
 simp only [Int.toNat_natCast,hs,hy]
 rw [if_neg (by decide)]
end
/-! ### rows of sets -/
theorem dropSnap_con (x:SetR) (i:Nat) (A:Option Addr) (n c:Nat):(x.withSn ⟨A,n,c,x.snaps.l.take i++x.snaps.l.drop (i+1)⟩).con=x.con.dropSnap i:=by
 unfold SetR.withSn SetR.con SetC.dropSnap
 simp only [List.map_append,List.map_take,List.map_drop]
end Go.Proofs.YtcgclpcocdappaaGreatDoor
