/-
  Steps that proofs share, each as a lemma whose proof is tried where it is used.
-/
import Derived.Below
import Derived.BigQuiet
import Derived.Carry
import Derived.ChangeOld
import Derived.ChangeSame
import Derived.Deep.AppendLies
import Derived.Deep.CondSized
import Derived.Deep.DeepCutAuto
import Derived.Deep.DeepHandedRow
import Derived.Deep.Draws
import Derived.Deep.Fields
import Derived.Deep.MidRow
import Derived.Deep.Quiet
import Derived.Deep.QuietTactic
import Derived.Deep.RegionLaw
import Derived.Deep.Slices
import Derived.Great.BuildSlice
import Derived.Handy
import Derived.IntWalk
import Derived.JoinedCond
import Derived.Laws.BytesString
import Derived.Laws.CopyOwn
import Derived.Laws.IdiomStrings
import Derived.Laws.OwnMore
import Derived.Laws.Rows
import Derived.Lib.AppendZeros
import Derived.Lib.AppendZerosOnto
import Derived.Lib.ConvBytes
import Derived.Lib.Hide
import Derived.Lib.LaidTab
import Derived.Lib.LastIndexByte
import Derived.Lib.Overlaps
import Derived.Lib.SmallJoins
import Derived.Lib.SplitLaws
import Derived.Lib.Strings
import Derived.Maps.AppendAt
import Derived.OpenShut
import Derived.Orders
import Derived.OwnWalk
import Derived.ProofKit
import Derived.RegionTactic
import Derived.Shelf.LaysM
import Derived.Shelf.Slices.Turned
import Derived.Shelf.Strings.Count
import Derived.Shelf.Strings.Cut
import Derived.Shelf.Strings.Explode
import Derived.Shelf.Strings.LastIndex
import Derived.Shelf.Strings.RuneCount
import Derived.Shelf.Strings.Search1
import Derived.Shelf.Strings.Search2
import Derived.Shelf.Strings.Search3
import Derived.Shelf.Strings.Shaped
import Derived.Shelf.Strings.Split
import Derived.Shelf.Strings.SplitShaped
import Derived.Shelf.Unicode.Decode
import Derived.Shelf.Unicode.DecodeSlow
import Derived.ShutString
import Derived.SizedLaws
import Derived.Sort.KeysCollected
import Derived.Sort.Walk0
import Derived.WalkKit
import Derived.WalkSpells
namespace Go.Proofs
open Go.RowKit
theorem tZ1{p:Prop}(h:p:=by omega):p:=h
theorem tZ2{p:Prop}(h:p:=by kernel_rfl):p:=h
theorem tZ3{p:Prop}(h:p:=by simp):p:=h
theorem tZ4{p:Prop}(h:p:=by decide):p:=h
theorem tZ5{p:Prop}(h:p:=by simp [Value.oneCell']):p:=h
theorem tZ6{p:Prop}(h:p:=by have:=HSZ.out;omega):p:=h
theorem tZ7{p:Prop}(h:p:=by simp;omega):p:=h
theorem tZ8{p:Prop}(h:p:=by rw [hA];exact tmps_free (by kernel_rfl)):p:=h
theorem tZ9{p:Prop}(h:p:=by have:=HN.out;omega):p:=h
theorem tZ10{p:Prop}(h:p:=by show _=_;rw [HV.out];rfl):p:=h
theorem tZ11{p:Prop}(h:p:=by unfold maxLen;omega):p:=h
theorem tZ12{p:Prop}(h:p:=by rw [hx];exact List.getElem_mem _):p:=h
theorem tZ13{p:Prop}(h:p:=by have:=HSZ1.out;omega):p:=h
theorem tZ14{p:Prop}(h:p:=by rw [hkn,HN.out];exact Nat.le_refl _):p:=h
theorem tZ15{p:Prop}(h:p:=by rw [hW0];show (wr.heap.push _).size=_;rw [Array.size_push]):p:=h
theorem tZ16{p:Prop}(h:p:=by show (w.heap.size+1+1)<_;omega):p:=h
theorem tZ17{p:Prop}(h:p:=by have:=hz.sets;simp only at this;omega):p:=h
theorem tZ18{p:Prop}(h:p:=by trivial):p:=h
theorem tZ19{p:Prop}(h:p:=by have:=hSZ.out W1 hW0.out;have:=HBS.out;omega):p:=h
theorem tZ20{p:Prop}(h:p:=by have:=hb.size;omega):p:=h
theorem tZ21{p:Prop}(h:p:=by rw [IntKind.wrap_i64];omega):p:=h
theorem tZ22{p:Prop}(h:p:=by rw [hA];exact tmps_own (by kernel_rfl) hx0 (of_decide_eq_true (by kernel_rfl))):p:=h
theorem tZ23{p:Prop}(h:p:=by rw [hA];exact tmps_own (by kernel_rfl) hx2 (of_decide_eq_true (by kernel_rfl))):p:=h
theorem tZ24{p:Prop}(h:p:=by rw [hA];exact tmps_own (by kernel_rfl) hx3 (of_decide_eq_true (by kernel_rfl))):p:=h
theorem tZ25{p:Prop}(h:p:=by rw [hA];exact tmps_own (by kernel_rfl) hx5 (of_decide_eq_true (by kernel_rfl))):p:=h
theorem tZ26{p:Prop}(h:p:=by rw [hA];exact tmps_own (by kernel_rfl) hx7 (of_decide_eq_true (by kernel_rfl))):p:=h
theorem tZ27{p:Prop}(h:p:=by rw [hA];exact tmps_own (by kernel_rfl) hx6 (of_decide_eq_true (by kernel_rfl))):p:=h
theorem tZ28{p:Prop}(h:p:=by rw [hA];exact tmps_own (by kernel_rfl) hx4 (of_decide_eq_true (by kernel_rfl))):p:=h
theorem tZ29{p:Prop}(h:p:=by rw [hA];exact tmps_own (by kernel_rfl) hx9 (of_decide_eq_true (by kernel_rfl))):p:=h
theorem tZ30{p:Prop}(h:p:=by rw [List.take_of_length_le (by rw [hkn,HN.out];exact Nat.le_refl _)];exact hy):p:=h
theorem tZ31{p:Prop}(h:p:=by rw [hW0];exact hbw.alloc hbw.size _):p:=h
theorem tZ32{p:Prop}(h:p:=by rw [hW1];simp):p:=h
theorem tZ33{p:Prop}(h:p:=by show wo.heap.size<_;omega):p:=h
theorem tZ34{p:Prop}(h:p:=by rw [← HGG.out];exact HB.out.alloc (by have:=HB.out.size;have:=HGG.out;omega) _):p:=h
theorem tZ35{p:Prop}(h:p:=by rw [hA];exact tmps_own (by kernel_rfl) hx10 (of_decide_eq_true (by kernel_rfl))):p:=h
theorem tZ36{p:Prop}(h:p:=by rw [hA];exact tmps_own (by kernel_rfl) hx11 (of_decide_eq_true (by kernel_rfl))):p:=h
theorem tZ37{p:Prop}(h:p:=by show w.heap.size<_;omega):p:=h
theorem tZ38{p:Prop}(h:p:=by rw [hA];exact tmps_own (by kernel_rfl) hx1 (of_decide_eq_true (by kernel_rfl))):p:=h
theorem tZ39{p:Prop}(h:p:=by rw [hA];exact tmps_own (by kernel_rfl) hx8 (of_decide_eq_true (by kernel_rfl))):p:=h
theorem tZ40{p:Prop}(h:p:=by rw [hW2];simp):p:=h
theorem tZ41{p:Prop}(h:p:=by have:=hW.size;omega):p:=h
theorem tZ42{p:Prop}(h:p:=by simp [Act.eval,Act.put]):p:=h
theorem tZ43{p:Prop}(h:p:=by rw [Array.length_toList,HN.out]):p:=h
theorem tZ44{p:Prop}(h:p:=by rw [hcl];kernel_rfl):p:=h
theorem tZ45{p:Prop}(h:p:=by show (w.heap.size+1)≠(w.heap.size+1+1);omega):p:=h
theorem tZ46{p:Prop}(h:p:=by rw [hW0];exact Blk.new wr _ _):p:=h
theorem tZ47{p:Prop}(h:p:=by simp [binOp,Op.stringOp,ByteArray.toList_eq]):p:=h
theorem tZ48{p:Prop}(h:p:=by unfold Addr.add;split <;> simp_all):p:=h
theorem tZ49{p:Prop}(h:p:=by show w.heap.size≤(w.heap.size+1+1);omega):p:=h
theorem tZ50{p:Prop}(h:p:=by simpa using h):p:=h
theorem tZ51{p:Prop}(h:p:=by simp only [Nat.min_def];split <;> omega):p:=h
theorem tZ52{p:Prop}(h:p:=by show EachR _ _ _;rw [HTK.out];exact HEQ.out.snoc hry):p:=h
theorem tZ53{p:Prop}(h:p:=by show x.path.length≤_;exact hxs.path):p:=h
theorem tZ54{p:Prop}(h:p:=by simp [results,Tryz.results95,go_sem]):p:=h
theorem tZ55{p:Prop}(h:p:=by simp [results,Tryz.results48,go_sem]):p:=h
theorem tZ56{p:Prop}(h:p:=by have:=HB.out.size;omega):p:=h
theorem tZ57{p:Prop}(h:p:=by rw [← askP_con];exact askP_in t p):p:=h
theorem tZ58{p:Prop}(h:p:=by show wr.heap.size<_;omega):p:=h
theorem tZ59{p:Prop}(h:p:=by simpa [ByteArray.size] using hp):p:=h
theorem tZ60{p:Prop}(h:p:=by simpa [Value.ownBlock] using he):p:=h
theorem tZ61{p:Prop}(h:p:=by show w.heap.size≠(w.heap.size+1+1);omega):p:=h
theorem tZ62{p:Prop}(h:p:=by simpa using hr.1):p:=h
theorem tZ63{p:Prop}(h:p:=by have:=HW6.out.size;have:=hSZ.out w6 HW6.out;have:=HBS.out;omega):p:=h
theorem tZ64{p:Prop}(h:p:=by have:=hz.grants;simp only at this;omega):p:=h
theorem tZ65{p:Prop}(h:p:=by show _=_;rw [HE.out,hpb];rfl):p:=h
theorem tZ66{p:Prop}(h:p:=by rw [List.length_take];omega):p:=h
theorem tZ67{p:Prop}(h:p:=by have:=HB.out.size;have:=HGG.out;omega):p:=h
theorem tZ68{p:Prop}(h:p:=by simpa using hl):p:=h
theorem tZ69{p:Prop}(h:p:=by simp [results,Tryz.results92,go_sem]):p:=h
theorem tZ70{p:Prop}(h:p:=by simp [results,Tryz.results40,go_sem]):p:=h
theorem tZ71{p:Prop}(h:p:=by rw [List.length_drop,HXL.out];omega):p:=h
theorem tZ72{p:Prop}(h:p:=by show (0:Nat)≤1000000000000;decide):p:=h
theorem tZ73{p:Prop}(h:p:=by simp [maxLen]):p:=h
theorem tZ74{p:Prop}(h:p:=by show _=_;rw [HV2.out];rfl):p:=h
theorem tZ75{p:Prop}(h:p:=by rw [e];exact List.mem_cons_self ..):p:=h
theorem tZ76{p:Prop}(h:p:=by have:=hW.size;have:=hW2.size;omega):p:=h
theorem tZ77{p:Prop}(h:p:=by have:=HBS.out;have:=HSZ3.out;omega):p:=h
theorem tZ78{p:Prop}(h:p:=by have:=HTN.out;omega):p:=h
theorem tZ79{p:Prop}(h:p:=by have:=HSN.out;omega):p:=h
theorem tZ80{p:Prop}(h:p:=by have:=hby.size;simp at this;omega):p:=h
theorem tZ81{p:Prop}(h:p:=by simpa using hap):p:=h
theorem tZ82{p:Prop}(h:p:=by rw [block_of_add];omega):p:=h
theorem tZ83{p:Prop}(h:p:=by rw [HN.out];exact Nat.le_refl _):p:=h
theorem tZ84{p:Prop}(h:p:=by show _=_;rw [HO.out];unfold originP;rw [ho1];rfl):p:=h
theorem tZ85{p:Prop}(h:p:=by have:=(hrw.out W hb).2.1;omega):p:=h
theorem tZ86{p:Prop}(h:p:=by have:=(List.getElem?_eq_some_iff.1 hj).1;omega):p:=h
theorem tZ87{p:Prop}(h:p:=by rw [← scells_enc];exact (hrd W hb).tags.2.2):p:=h
theorem tZ88{p:Prop}(h:p:=by rw [Array.length_toList,HN.out,HL1.out];omega):p:=h
theorem tZ89{p:Prop}(h:p:=by rw [Array.length_toList,HN.out,HRL.out];omega):p:=h
theorem tZ90{p:Prop}(h:p:=by have:=HG7.out;show g5<_;omega):p:=h
theorem tZ91{p:Prop}(h:p:=by have:=HKK.out.1;omega):p:=h
theorem tZ92{p:Prop}(h:p:=by simpa using hk1l):p:=h
theorem tZ93{p:Prop}(h:p:=by have:=hSZ.out w4 HW4.out;have:=HBS.out;omega):p:=h
theorem tZ94{p:Prop}(h:p:=by rw [List.length_drop,HXL.out,HCL.out];omega):p:=h
theorem tZ95{p:Prop}(h:p:=by rw [List.length_drop,HXL.out,HL1.out];omega):p:=h
theorem tZ96{p:Prop}(h:p:=by show _=_;rw [HV.out,decide_eq_false hk];rfl):p:=h
theorem tZ97{p:Prop}(h:p:=by simpa using hxy):p:=h
theorem tZ98{p:Prop}(h:p:=by have:=HSL.out;omega):p:=h
theorem tZ99{p:Prop}(h:p:=by have:=HZN.out;omega):p:=h
theorem tZ100{p:Prop}(h:p:=by simpa using hx):p:=h
theorem tZ101{p:Prop}(h:p:=by rw [hk,Nat.add_mul];omega):p:=h
theorem tZ102{p:Prop}(h:p:=by have:=HM.out;omega):p:=h
theorem tZ103{p:Prop}(h:p:=by have:=h.size;omega):p:=h
theorem tZ104{p:Prop}(h:p:=by have:=hz.stages;simp only at this;omega):p:=h
theorem tZ105{p:Prop}(h:p:=by show _=_;rw [HE3.out];exact HA.out.symm):p:=h
theorem tZ106{p:Prop}(h:p:=by show _=_;rw [HVV.out];rfl):p:=h
theorem tZ107{p:Prop}(h:p:=by rw [← hxs,List.length_take,hcl];omega):p:=h
theorem tZ108{p:Prop}(h:p:=by rw [hW0];exact (Blk.new wr _ _).cell 0):p:=h
theorem tZ109{p:Prop}(h:p:=by rw [hW0];exact (Blk.new wr _ _).cell 1):p:=h
theorem tZ110{p:Prop}(h:p:=by simp [Region.wanted,hgd]):p:=h
theorem tZ111{p:Prop}(h:p:=by show _=_;rw [HU.out];rfl):p:=h
theorem tZ112{p:Prop}(h:p:=by simp [results,Tryz.results104,go_sem]):p:=h
theorem tZ113{p:Prop}(h:p:=by simp [results,Tryz.results41,go_sem]):p:=h
theorem tZ114{p:Prop}(h:p:=by rw [List.takeWhile_append_dropWhile]):p:=h
theorem tZ115{p:Prop}(h:p:=by have:=HKK.out.1;unfold maxLen;omega):p:=h
theorem tZ116{p:Prop}(h:p:=by have:=HCB.out;simpa using this.symm):p:=h
theorem tZ117{p:Prop}(h:p:=by have:=hb.size;have:=HSZ1.out;omega):p:=h
theorem tZ118{p:Prop}(h:p:=by show _=_;rw [← HXP.out];exact hd):p:=h
theorem tZ119{p:Prop}(h:p:=by rw [← hx,List.length_take];omega):p:=h
theorem tZ120{p:Prop}(h:p:=by show _=_;rw [hml.out,hall,HKL.out]):p:=h
theorem tZ121{p:Prop}(h:p:=by simpa using hsz):p:=h
theorem tZ122{p:Prop}(h:p:=by simp [Act.eval]):p:=h
theorem tZ123{p:Prop}(h:p:=by simpa using hps):p:=h
theorem tZ124{p:Prop}(h:p:=by simpa using hp0):p:=h
theorem tZ125{p:Prop}(h:p:=by simpa using hip):p:=h
theorem tZ126{p:Prop}(h:p:=by rw [X1.out,X2.out];simp only [e]):p:=h
theorem tZ127{p:Prop}(h:p:=by have:=hxs.body;omega):p:=h
theorem tZ128{p:Prop}(h:p:=by rw [List.length_take,hxl];omega):p:=h
theorem tZ129{p:Prop}(h:p:=by rw [hown.1];exact Nat.le_refl _):p:=h
theorem tZ130{p:Prop}(h:p:=by rw [h];exact List.mem_cons_self):p:=h
theorem tZ131{p:Prop}(h:p:=by rw [List.length_drop,hxl];omega):p:=h
theorem tZ132{p:Prop}(h:p:=by rw [Lib.bytesWorld_size];omega):p:=h
theorem tZ133{p:Prop}(h:p:=by show xp.length≤_;exact hxl.2):p:=h
theorem tZ134{p:Prop}(h:p:=by have:=HGG.out;omega):p:=h
theorem tZ135{p:Prop}(h:p:=by have:=hsz.out;omega):p:=h
theorem tZ136{p:Prop}(h:p:=by have:=hSZ.out w3 HW3.out;omega):p:=h
theorem tZ137{p:Prop}(h:p:=by rw [beq_eq_false_iff_ne];omega):p:=h
theorem tZ138{p:Prop}(h:p:=by show _=_;rw [hF.out,if_pos h8]):p:=h
theorem tZ139{p:Prop}(h:p:=by show _=_;rw [hF.out,if_neg h8]):p:=h
theorem tZ140{p:Prop}(h:p:=by have:=hSN.out;omega):p:=h
theorem tZ141{p:Prop}(h:p:=by have:=HG5.out;simp only;omega):p:=h
theorem tZ142{p:Prop}(h:p:=by unfold Addr.add;split <;> rfl):p:=h
theorem tZ143{p:Prop}(h:p:=by rw [hj,put_toArray];exact hn):p:=h
theorem tZ144{p:Prop}(h:p:=by show pa.length≤_;exact hpa):p:=h
theorem tZ145{p:Prop}(h:p:=by show _=_;rw [HV.out,hu1];rfl):p:=h
theorem tZ146{p:Prop}(h:p:=by show _=_;unfold clP;rw [hs1]):p:=h
theorem mZ1{p:Prop}(h:p:=by
 go_wp2
 all_goals go_ret
 all_goals refine ⟨congrArg Ending.returned (congrArg Value.bool ?_),rfl⟩
 all_goals rw [Bool.eq_iff_iff,Bool.not_eq_true',← Bool.not_eq_true,hk.out]
 all_goals simp
 all_goals omega):p:=h
theorem mZ2{p:Prop}(h:p:=by
 go_wp2_with fail
 go_ret
 exact ⟨by rw [HF.out];rfl,hbw⟩):p:=h
theorem mZ3{p:Prop}(h:p:=by
 go_wp2_with fail
 go_ret
 have hf:=firstP_eq p l k x hno.out HX.out HBX.out.symm
 exact ⟨by unfold firstI;rw [hf,if_pos hkl];rfl,hbw1⟩):p:=h
theorem mZ4{p:Prop}(h:p:=by
 intro y hy
 rw [HTK.out] at hy
 rcases List.mem_append.1 hy with hy | hy
 ·exact hno.out y hy
 ·simp at hy;subst hy;exact HBX.out.symm):p:=h
theorem mZ5{p:Prop}(h:p:=by
 go_wp2_with fail
 go_loopw [8] (fun j wr=>∃ k:Nat,k≤n∧j=.int .i64 (k:Int)∧Hid (∀ y∈l.take k,p y=false)∧Below w.heap.size w wr) (fun j _=>n-(intOf j).toNat)
 case atStart=>exact ⟨0,Nat.zero_le _,rfl,(show ∀ y∈_,_ by simp),Below.refl _ _⟩
 case round =>
  obtain ⟨k,hk,rfl,hno,hbw⟩:=hrel
  by_cases hlt:k<n
  ·have hki:(k:Int)<(n:Int):=tZ1
   have hkl:k<l.length:=tZ9
   obtain ⟨ad,u,rfl,_,hxu,hcell⟩:=(hr.below (hbw.mono hB)).at_ hlt
   obtain ⟨x,hx⟩:∃ x,x=l[k]'hkl:=⟨_,rfl⟩
   have hux:u=f x:=by
    rw [List.getElem?_map,List.getElem?_eq_getElem hkl] at hxu
    rw [hx]
    exact (Option.some.inj hxu).symm
   subst hux
   clear hxu
   have htk:=List.take_succ_eq_append_getElem hkl
   rw [← hx] at htk
   have HTK:=Lib.hid htk
   have HX:=Lib.hid (show l[k]?=some x by rw [hx];exact List.getElem?_eq_getElem _)
   have hc:=HP.out x (List.mem_of_getElem? HX.out) wr
   obtain ⟨b,hb⟩:∃ b,b=p x:=⟨_,rfl⟩
   rw [← hb] at hc
   have HBX:=Lib.hid hb
   clear hx htk hr hb
   obtain ⟨fx,hfx⟩:∃ v,v=f x:=⟨_,rfl⟩
   rw [← hfx] at hc hcell
   clear hfx
   go_wp2_with fail
   refine hc.mono ?_
   clear hc
   rintro e w1 ⟨rfl,hb1⟩
   have hbw1:=hbw.trans (hb1.mono hbw.size)
   cases b with
   | true =>
    exact mZ3
   | false =>
    go_wp2_with fail
    go_roundw
    case rel =>
     refine ⟨k+1,by omega,by go_num,?_,hbw1⟩
     show ∀ y∈l.take (k+1),p y=false
     exact mZ4
    case measure=>simp [intOf];omega
  ·have hkn:k=n:=tZ1
   have HF:Hid (firstI p l=-1):=by
    show _=_
    unfold firstI
    rw [firstP_none p l (fun y hy=>hno.out y (by rw [List.take_of_length_le tZ14];exact hy)),if_neg (Nat.lt_irrefl _)]
   clear hr hkn
   exact mZ2):p:=h
theorem mZ6{p:Prop}(h:p:=by
 have HN:=Lib.hid hnl
 have HP:=Lib.hid hp
 clear hnl hp
 go_enter Tryz.func160,Tryz.ntmps160
 exact mZ5):p:=h
theorem mZ7{p:Prop}(h:p:=by
 rintro e w1 ⟨rfl,hb⟩
 go_wp2_with fail
 go_ret
 exact ⟨by rw [← HA.out];rfl,hb⟩):p:=h
theorem mZ8{p:Prop}(h:p:=by
 have HA:=Lib.hid (firstI_any p l)
 clear hnl hr hp
 go_enter Tryz.func127,Tryz.ntmps127
 go_wp2_with fail
 refine hcall.out.mono ?_
 exact mZ7):p:=h
theorem mZ9{p:Prop}(h:p:=by
 rw [e]
 cases k with
 | zero=>exact ⟨rfl,rfl⟩
 | succ k =>
  rw [show (k+1)*2=k*2+1+1 by omega]
  simp only [zD,List.getElem_cons_succ]
  exact ih k tZ50):p:=h
theorem mZ10{p:Prop}(h:p:=by
 refine ⟨ad,e,hb,hc _ _ g1,?_⟩
 have h2:=hc _ _ g2
 rw [← add_of_add] at h2
 simpa [Addr.add] using h2):p:=h
theorem mZ11{p:Prop}(h:p:=by
 show _=_
 rw [hPE.out true]
 ·rfl
 rw [hok.out,List.drop_of_length_le tZ83]
 rfl):p:=h
theorem mZ12{p:Prop}(h:p:=by
 go_wp2_with fail
 go_ret
 exact ⟨by rw [HB.out];rfl,hbW.trans (hcW.mono tZ6)⟩):p:=h
theorem mZ13{p:Prop}(h:p:=by
 go_wp2_with fail
 go_roundw
 case rel=>exact ⟨k+1,by omega,by go_num,HG,hbW.trans (hcW.mono tZ6)⟩
 case measure=>simp [intOf];omega):p:=h
theorem mZ14{p:Prop}(h:p:=by
 obtain ⟨j,rfl⟩:∃ j,k=j+1:=⟨k-1,by omega⟩
 show (l[j]?).map (·.1)=_
 have hj:j<l.length:=tZ92
 rw [List.getElem?_eq_getElem hj,hy]
 rfl):p:=h
theorem mZ15{p:Prop}(h:p:=by
 show _→_→_→_
 intro h1 h2 h3
 rw [hok.out,HDR.out]
 have hp:prevP l (k+1)=some xn:=by
  show (l[k]?).map (·.1)=_
  rw [List.getElem?_eq_getElem hkl,← HX.out]
  rfl
 rw [hp,propsFrom_cons,h1,h2]
 cases hq:prevP l k with
 | none=>rfl
 | some y=>simp [h3 y hq]):p:=h
theorem mZ16{p:Prop}(h:p:=by
 show _→_
 intro h
 rw [hPE.out false]
 ·rfl
 rw [hok.out,HDR.out,propsFrom_cons]
 rcases h with h | h | ⟨y,hy,h⟩
 ·rw [h];rfl
 ·rw [h];simp
 ·rw [hy];simp [h]):p:=h
theorem mZ17{p:Prop}(h:p:=by
 clear hr hv
 go_wp2_with fail
 go_ret
 exact ⟨by rw [HE.out];rfl,Below.refl _ _⟩):p:=h
theorem mZ18{p:Prop}(h:p:=by
 rw [hd] at hgtr
 rw [h1] at hlss
 clear h1 h2 hd
 go_wp2_with fail
 go_ret
 exact ⟨by rw [HV.out];rfl,q1+q2,rfl⟩):p:=h
theorem mZ19{p:Prop}(h:p:=by
 go_big_quiet (fail)
 go_wp2_with fail
 go_ret
 exact ⟨by rw [HF.out];rfl,q+nq,World.drewN_drewN _ _ _⟩):p:=h
theorem mZ20{p:Prop}(h:p:=by
 show _=_
 unfold okE
 rw [hok.out,List.drop_of_length_le tZ83]
 rfl):p:=h
theorem mZ21{p:Prop}(h:p:=by
 go_wp2_with fail
 go_ret
 exact ⟨by rw [HB.out];rfl,below_drewN (hbw.alloc hbw.size _) nq⟩):p:=h
theorem mZ22{p:Prop}(h:p:=by
 go_wp2_with fail
 go_big_quiet (fail)
 exact mZ21):p:=h
theorem mZ23{p:Prop}(h:p:=by
 go_wp2_with fail
 go_roundw
 case rel=>exact ⟨k+1,by omega,by go_num,HG,below_drewN (hbw.alloc hbw.size _) nq⟩
 case measure=>simp [intOf];omega):p:=h
theorem mZ24{p:Prop}(h:p:=by
 rintro ⟨h1,h2,h3,h4⟩
 rw [hok.out,HDR.out]
 have hp:prevAt l (k+1)=some xi:=by
  show (l[k]?).map (·.1)=_
  rw [List.getElem?_eq_getElem hkl,← HX.out]
  rfl
 rw [hp]
 simp only [okFrom,h1,h2,h3,decide_true,Bool.true_and]
 cases hq:prevAt l k with
 | none=>rfl
 | some y=>simp [h4 y hq]):p:=h
theorem mZ25{p:Prop}(h:p:=by
 intro h
 have hf:okL l=false:=by
  rw [hok.out,HDR.out]
  cases hfv:okFrom (prevAt l k) ((xi,xs) :: l.drop (k+1)) with
  | false=>rfl
  | true =>
   exfalso
   simp only [okFrom,Bool.and_eq_true,decide_eq_true_eq] at hfv
   obtain ⟨⟨⟨⟨h1,h2⟩,h3⟩,h4⟩,_⟩:=hfv
   rcases h with h | h | h | ⟨y,hy,h⟩
   ·omega
   ·omega
   ·exact h h3
   ·rw [hy] at h4;simp at h4;omega
 unfold okE
 rw [hf]
 rfl):p:=h
theorem mZ26{p:Prop}(h:p:=by
 have:=hc 2 tZ1;rwa [addr_add_succ] at this):p:=h
theorem mZ27{p:Prop}(h:p:=by
 have:=hc 1 tZ1;rwa [addr_add_succ] at this):p:=h
theorem mZ28{p:Prop}(h:p:=by
 have:=hc 0 tZ1;rwa [add_zero] at this):p:=h
theorem mZ29{p:Prop}(h:p:=by
 rcases List.mem_cons.1 hx with rfl | hx
 ·exact h1
 ·exact h3 x hx):p:=h
theorem mZ30{p:Prop}(h:p:=by
 have:=hc 3 tZ1;rwa [addr_add_succ] at this):p:=h
theorem mZ31{p:Prop}(h:p:=by
 unfold firstI
 rw [firstP_none _ l (fun y hy=>hno.out y (by rw [List.take_of_length_le tZ14];exact hy)),if_neg (Nat.lt_irrefl _)]):p:=h
theorem mZ32{p:Prop}(h:p:=by
 intro z hz
 rw [HTK.out] at hz
 rcases List.mem_append.1 hz with hz | hz
 ·exact hno.out z hz
 ·simp at hz;subst hz;exact HD.out):p:=h
theorem mZ33{p:Prop}(h:p:=by
 show _=_
 rw [hok.out,List.drop_of_length_le tZ14]
 rfl):p:=h
theorem mZ34{p:Prop}(h:p:=by
 rintro e w1 ⟨rfl,hb1⟩
 go_wp2_with fail
 go_ret
 exact ⟨by rw [HV1.out];rfl,hbw.trans (hb1.mono hbw.size)⟩):p:=h
theorem mZ35{p:Prop}(h:p:=by
 go_wp2_with fail
 all_goals go_ret
 all_goals refine ⟨congrArg Ending.returned (congrArg Value.bool ?_),rfl⟩
 all_goals unfold amt
 all_goals rw [Bool.eq_iff_iff]
 all_goals simp
 all_goals omega):p:=h
theorem mZ36{p:Prop}(h:p:=by
 have htk:=List.take_succ_eq_append_getElem hkl
 rw [← hx] at htk
 have HTK:=Lib.hid htk
 have HX:=Lib.hid (show l[k]?=some x by rw [hx];exact List.getElem?_eq_getElem _)
 have hc:=HP.out.call x wr (List.mem_of_getElem? HX.out) hkw
 obtain ⟨b,hb⟩:∃ b,b=p x:=⟨_,rfl⟩
 rw [← hb] at hc
 have HBX:=Lib.hid hb
 simp only [List.append_toArray,List.cons_append,List.nil_append] at hc
 clear hx htk hr hb
 go_wp2_with fail
 refine hc.mono ?_
 clear hc
 rintro e w1 ⟨rfl,hb1⟩
 have hkw1:=HP.out.below wr w1 hkw hb1
 have hbw1:=hbw.trans (hb1.mono hbw.size)
 cases b with
 | true =>
  exact mZ3
 | false =>
  go_wp2_with fail
  go_roundw
  case rel =>
   refine ⟨k+1,by omega,by go_num,?_,hbw1,hkw1⟩
   show ∀ y∈l.take (k+1),p y=false
   exact mZ4
  case measure=>simp [intOf];omega):p:=h
theorem mZ37{p:Prop}(h:p:=by
 go_wp2_with fail
 go_loopw [8] (fun j wr=>∃ k:Nat,k≤n∧j=.int .i64 (k:Int)∧Hid (∀ y∈l.take k,p y=false)∧Below w.heap.size w wr∧Keep wr) (fun j _=>n-(intOf j).toNat)
 case atStart=>exact ⟨0,Nat.zero_le _,rfl,(show ∀ y∈_,_ by simp),Below.refl _ _,hk0⟩
 case round =>
  obtain ⟨k,hk,rfl,hno,hbw,hkw⟩:=hrel
  by_cases hlt:k<n
  ·have hki:(k:Int)<(n:Int):=tZ1
   have hkl:k<l.length:=tZ9
   obtain ⟨ad,rfl,_,c0,c1,c2,c3,c4⟩:=(hr.below (hbw.mono hB)).el5 HN.out hlt
   obtain ⟨x,hx⟩:∃ x,x=l[k]'hkl:=⟨_,rfl⟩
   rw [← hx] at c0 c1 c2 c3 c4
   exact mZ36
  ·have hkn:k=n:=tZ1
   have HF:Hid (firstI p l=-1):=by
    show _=_
    unfold firstI
    rw [firstP_none p l (fun y hy=>hno.out y (by rw [List.take_of_length_le tZ14];exact hy)),if_neg (Nat.lt_irrefl _)]
   clear hr hkn
   exact mZ2):p:=h
theorem mZ38{p:Prop}(h:p:=by
 have HN:=Lib.hid hnl
 have HP:=Lib.hid hp
 clear hnl hp
 go_enter Tryz.func129,Tryz.ntmps129
 exact mZ37):p:=h
theorem mZ39{p:Prop}(h:p:=by
 go_wp2_with fail
 all_goals go_ret
 all_goals refine ⟨congrArg Ending.returned (congrArg Value.bool ?_),hb⟩
 all_goals simp_all):p:=h
theorem mZ40{p:Prop}(h:p:=by
 go_wp2_with fail
 rw [← hW2]
 refine HC.out.mono ?_
 rintro e w1 ⟨rfl,hb3⟩
 go_wp2_with fail
 go_ret
 exact ⟨rfl,HB.out.trans (hb3.mono tZ6)⟩):p:=h
theorem mZ41{p:Prop}(h:p:=by
 have:c≠b:=fun e=>h tZ75
 simp [List.isPrefixOf,this]):p:=h
theorem mZ42{p:Prop}(h:p:=by
 rw [if_neg (fun e=>h tZ75),ih (fun e=>h (List.mem_cons_of_mem _ e))]):p:=h
theorem mZ43{p:Prop}(h:p:=by
 have h0:s.toList.isEmpty=true:=by assumption
 rw [htl.out,List.isEmpty_iff] at h0
 go_ret
 exact ⟨by rw [h0];rfl,Below.refl _ _⟩):p:=h
theorem mZ44{p:Prop}(h:p:=by
 have:=hall i hi
 cases hmi:m i with
 | none=>rw [hmi] at this;cases this
 | some v=>exact ⟨v,rfl,hJ.2.1 _ _ hmi⟩):p:=h
theorem mZ45{p:Prop}(h:p:=by
 intro i v W W' h hb
 unfold Says at h ⊢
 cases hG:Gs[i]? with
 | none=>trivial
 | some p=>rw [hG] at h;exact hst p (List.mem_of_getElem? hG) v W W' h hb):p:=h
theorem mZ46{p:Prop}(h:p:=by
 rintro e w1 ⟨rfl,rfl⟩
 exact ⟨rfl,Below.refl _ _⟩):p:=h
theorem mZ47{p:Prop}(h:p:=by
 go_wp2_with fail
 rw [← hW1]
 go_ret
 exact ⟨by rw [HB.out];rfl,HB1.out⟩):p:=h
theorem mZ48{p:Prop}(h:p:=by
 go_wp2_with fail
 go_ret
 exact ⟨by rw [HB.out];rfl,HB1.out.trans (hWw11.mono tZ13)⟩):p:=h
theorem mZ49{p:Prop}(h:p:=by
 have HB:Hid (V=false):=tZ10
 exact mZ48):p:=h
theorem mZ50{p:Prop}(h:p:=by
 go_wp2_with fail
 go_ret
 exact ⟨by rw [HB.out];rfl,HB1.out.trans (hWw12.mono tZ13)⟩):p:=h
theorem mZ51{p:Prop}(h:p:=by
 have HB:Hid (V=false):=tZ10
 exact mZ50):p:=h
theorem mZ52{p:Prop}(h:p:=by
 go_wp2_with fail
 go_ret
 exact ⟨by rw [HB.out];rfl,HB1.out.trans (hWw13.mono tZ13)⟩):p:=h
theorem mZ53{p:Prop}(h:p:=by
 have HB:Hid (V=false):=tZ10
 exact mZ52):p:=h
theorem mZ54{p:Prop}(h:p:=by
 go_wp2_with fail
 go_ret
 exact ⟨by rw [HB.out];rfl,HB1.out.trans (hWw14.mono tZ13)⟩):p:=h
theorem mZ55{p:Prop}(h:p:=by
 have HB:Hid (V=false):=tZ10
 exact mZ54):p:=h
theorem mZ56{p:Prop}(h:p:=by
 go_wp2_with fail
 go_ret
 exact ⟨by rw [HB.out];rfl,HBF.out⟩):p:=h
theorem mZ57{p:Prop}(h:p:=by
 go_wp2_with fail
 go_ret
 exact ⟨by rw [HB.out];simp,HBF.out⟩):p:=h
theorem mZ58{p:Prop}(h:p:=by
 have hc:=hN.out _ hW0
 cases bN with
 | false =>
  go_wp2_with fail
  rw [← hW1]
  refine hc.mono ?_
  clear hc
  rintro e w11 ⟨rfl,hbw11⟩
  have hWw11:=hW0.trans (hbw11.mono hW0.size)
  clear hbw11
  obtain ⟨t0,t1,t2,t3,t4,t5,t6,t7,t8,t9,t10,t11⟩:=hT.out _ hWw11
  exact mZ49
 | true =>
  go_wp2_with fail
  rw [← hW1]
  refine hc.mono ?_
  clear hc
  rintro e w11 ⟨rfl,hbw11⟩
  have hWw11:=hW0.trans (hbw11.mono hW0.size)
  clear hbw11
  obtain ⟨t0,t1,t2,t3,t4,t5,t6,t7,t8,t9,t10,t11⟩:=hT.out _ hWw11
  have hc:=hA0.out _ hWw11
  cases bA with
  | false =>
   go_wp2_with fail
   refine hc.mono ?_
   clear hc
   rintro e w12 ⟨rfl,hbw12⟩
   have hWw12:=hWw11.trans (hbw12.mono hWw11.size)
   clear hbw12
   obtain ⟨t0,t1,t2,t3,t4,t5,t6,t7,t8,t9,t10,t11⟩:=hT.out _ hWw12
   exact mZ51
  | true =>
   go_wp2_with fail
   refine hc.mono ?_
   clear hc
   rintro e w12 ⟨rfl,hbw12⟩
   have hWw12:=hWw11.trans (hbw12.mono hWw11.size)
   clear hbw12
   obtain ⟨t0,t1,t2,t3,t4,t5,t6,t7,t8,t9,t10,t11⟩:=hT.out _ hWw12
   have hc:=hA1.out _ hWw12
   cases bG with
   | false =>
    go_wp2_with fail
    refine hc.mono ?_
    clear hc
    rintro e w13 ⟨rfl,hbw13⟩
    have hWw13:=hWw12.trans (hbw13.mono hWw12.size)
    clear hbw13
    obtain ⟨t0,t1,t2,t3,t4,t5,t6,t7,t8,t9,t10,t11⟩:=hT.out _ hWw13
    exact mZ53
   | true =>
    go_wp2_with fail
    refine hc.mono ?_
    clear hc
    rintro e w13 ⟨rfl,hbw13⟩
    have hWw13:=hWw12.trans (hbw13.mono hWw12.size)
    clear hbw13
    obtain ⟨t0,t1,t2,t3,t4,t5,t6,t7,t8,t9,t10,t11⟩:=hT.out _ hWw13
    have hc:=hPr.out _ hWw13
    cases bP with
    | false =>
     rw [if_neg tZ4] at hc
     go_wp2_with fail
     refine hc.mono ?_
     clear hc
     rintro e w14 ⟨rfl,hbw14⟩
     have hWw14:=hWw13.trans (hbw14.mono hWw13.size)
     clear hbw14
     obtain ⟨t0,t1,t2,t3,t4,t5,t6,t7,t8,t9,t10,t11⟩:=hT.out _ hWw14
     exact mZ55
    | true =>
     rw [if_pos rfl] at hc
     go_wp2_with fail
     refine hc.mono ?_
     clear hc
     rintro e w14 ⟨rfl,hbw14⟩
     have hWw14:=hWw13.trans (hbw14.mono hWw13.size)
     clear hbw14
     obtain ⟨t0,t1,t2,t3,t4,t5,t6,t7,t8,t9,t10,t11⟩:=hT.out _ hWw14
     have HR:Hid (V=(decide (ix=0) && (decide (ct=0) && (decide (dt=[]) && decide (sa=0∧sb=0∧sc=0∧sd=0))))):=tZ10
     have HBF:=Lib.hid (HB1.out.trans (hWw14.mono tZ13))
     by_cases z1:ix=0
     ·by_cases z2:ct=0
      ·by_cases z3:dt=[]
       ·by_cases z4:sa=0
        ·by_cases z5:sb=0
         ·by_cases z6:sc=0
          ·by_cases z7:sd=0
           ·subst z1 z2 z3 z4 z5 z6 z7
            go_wp2_with fail
            go_ret
            exact ⟨by rw [HR.out];rfl,HBF.out⟩
           ·subst z1 z2 z3 z4 z5 z6
            have HB:Hid (V=false):=by show _=_;rw [HR.out];simp [z7]
            exact mZ57
          ·subst z1 z2 z3 z4 z5
           have HB:Hid (V=false):=by show _=_;rw [HR.out];simp [z6]
           exact mZ57
         ·subst z1 z2 z3 z4
          have HB:Hid (V=false):=by show _=_;rw [HR.out];simp [z5]
          exact mZ57
        ·subst z1 z2 z3
         have HB:Hid (V=false):=by show _=_;rw [HR.out];simp [z4]
         exact mZ57
       ·subst z1 z2
        have HB:Hid (V=false):=by show _=_;rw [HR.out];simp [z3]
        have z3b:(dt == [])=false:=by simpa using z3
        have z3c:dt.isEmpty=false:=by cases dt <;> simp_all
        exact mZ56
      ·subst z1
       have z2b:(ct == 0)=false:=by simpa using z2
       have HB:Hid (V=false):=by show _=_;rw [HR.out];simp [z2]
       exact mZ56
     ·have z1b:(ix == 0)=false:=by simpa using z1
      have HB:Hid (V=false):=by show _=_;rw [HR.out];simp [z1]
      exact mZ56):p:=h
theorem mZ59{p:Prop}(h:p:=by
 have HV1:Hid (V=false):=by show _=_;rw [HF.out,decide_eq_false h8]
 clear hkn
 go_wp2_with fail
 go_ret
 exact ⟨by rw [HV1.out];rfl,hbw⟩):p:=h
theorem mZ60{p:Prop}(h:p:=by
 have HV1:Hid (V=true):=by show _=_;rw [HF.out,decide_eq_true h8]
 clear hkn
 go_wp2_with fail
 go_ret
 exact ⟨by rw [HV1.out];rfl,hbw⟩):p:=h
theorem mZ61{p:Prop}(h:p:=by
 as_aux_lemma =>
  have HB:=Lib.hid (hbad.out (.inr (.inr (.inr (.inl tZ18)))))
  refine zN hBg.out ?_
  iterate 20 refine zX ?_
  refine wpQuiet_nil (HQQ.out _ (fun W hW=>?_))
  skip
  go_wp2_with fail
  go_ret
  exact ⟨by rw [HB.out];rfl,hbW.trans (hW.mono tZ6)⟩):p:=h
theorem mZ62{p:Prop}(h:p:=by
 as_aux_lemma =>
  have HB:=Lib.hid (hbad.out (.inr (.inr (.inr (.inr (.inl tZ18))))))
  refine zN hBk.out ?_
  iterate 14 refine zX ?_
  refine wpQuiet_nil (HQQ.out _ (fun W hW=>?_))
  skip
  go_wp2_with fail
  go_ret
  exact ⟨by rw [HB.out];rfl,hbW.trans (hW.mono tZ6)⟩):p:=h
theorem mZ63{p:Prop}(h:p:=by
 as_aux_lemma =>
  have HB:=Lib.hid (hbad.out (.inr (.inr (.inr (.inr (.inr (.inl tZ18)))))))
  refine zN hA0.out ?_
  iterate 8 refine zX ?_
  refine wpQuiet_nil (HQQ.out _ (fun W hW=>?_))
  skip
  go_wp2_with fail
  go_ret
  exact ⟨by rw [HB.out];rfl,hbW.trans (hW.mono tZ6)⟩):p:=h
theorem mZ64{p:Prop}(h:p:=by
 as_aux_lemma =>
  have HB:=Lib.hid (hbad.out (.inr (.inr (.inr (.inr (.inr (.inr tZ18)))))))
  refine zN hA1.out ?_
  iterate 2 refine zX ?_
  refine wpQuiet_nil (HQQ.out _ (fun W hW=>?_))
  skip
  go_wp2_with fail
  go_ret
  exact ⟨by rw [HB.out];rfl,hbW.trans (hW.mono tZ6)⟩):p:=h
theorem mZ65{p:Prop}(h:p:=by
 go_wp2_with fail
 go_roundw
 case rel=>exact ⟨k+1,by omega,by go_num,HGG.out,hbf⟩
 case measure=>simp [intOf];omega):p:=h
theorem mZ66{p:Prop}(h:p:=by
 go_simp;try (with_reducible rfl)):p:=h
theorem mZ67{p:Prop}(h:p:=by
 replace hW:=HD.out W hW
 skip
 have qp:=hSp.out W hW _ d6.out
 exact mZ66):p:=h
theorem mZ68{p:Prop}(h:p:=by
 exact ⟨fun h y hy=>by rw [hpv] at hy;cases hy;exact h,fun h=>⟨_,hpv,h⟩⟩):p:=h
theorem mZ69{p:Prop}(h:p:=by
 obtain ⟨j,rfl⟩:∃ j,k=j+1:=⟨k-1,by omega⟩
 show (l[j]?).map _=_
 have hj:j<l.length:=tZ92
 rw [List.getElem?_eq_getElem hj]
 rfl):p:=h
theorem mZ70{p:Prop}(h:p:=by
 exact .inl ⟨by simp;omega,by simp;omega,(fun y hy=>by subst h0;cases hy)⟩):p:=h
theorem mZ71{p:Prop}(h:p:=by
 show (l[k]?).map _=_
 rw [List.getElem?_eq_getElem hkl,← hx]
 rfl):p:=h
theorem mZ72{p:Prop}(h:p:=by
 rw [hce j (by have:=(List.getElem?_eq_some_iff.1 hv).1;simpa using this)]
 exact hv):p:=h
theorem mZ73{p:Prop}(h:p:=by
 replace hW:=HD.out W hW
 obtain ⟨q0,q1,q2,q3,q4,qp⟩:=hS.out W hW
 go_simp
 refine (hA _).mono ?_
 rintro e w4 ⟨rfl,rfl⟩
 exact ⟨rfl,HD2.out _ hW⟩):p:=h
theorem mZ74{p:Prop}(h:p:=by
 have HB:=Lib.hid (hbad.out (.inr (.inr (.inl rfl))))
 refine zN hBk.out ?_
 iterate 14 refine zX ?_
 refine wpQuiet_nil (HQQ.out _ (fun W hW=>?_))
 obtain ⟨q0,q1,q2,q3,q4,qp⟩:=hS.out W hW
 go_wp2_with fail
 go_ret
 exact ⟨by rw [HB.out];rfl,hbW.trans (hW.mono tZ6)⟩):p:=h
theorem mZ75{p:Prop}(h:p:=by
 have HB:=Lib.hid (hbad.out (.inr (.inr (.inr (.inl rfl)))))
 refine zN hPr.out ?_
 iterate 8 refine zX ?_
 refine wpQuiet_nil (HQQ.out _ (fun W hW=>?_))
 obtain ⟨q0,q1,q2,q3,q4,qp⟩:=hS.out W hW
 go_wp2_with fail
 go_ret
 exact ⟨by rw [HB.out];rfl,hbW.trans (hW.mono tZ6)⟩):p:=h
theorem mZ76{p:Prop}(h:p:=by
 have HB:=Lib.hid (hbad.out (.inr (.inr (.inr (.inr rfl)))))
 refine zN hTg.out ?_
 iterate 2 refine zX ?_
 refine wpQuiet_nil (HQQ.out _ (fun W hW=>?_))
 obtain ⟨q0,q1,q2,q3,q4,qp⟩:=hS.out W hW
 go_wp2_with fail
 go_ret
 exact ⟨by rw [HB.out];rfl,hbW.trans (hW.mono tZ6)⟩):p:=h
theorem mZ77{p:Prop}(h:p:=by
 have hown1:=hown0.out _ hW
 have hbf:=hbW.trans (hW.mono tZ6)
 have hbase:=hbf.size
 go_wp2_with (at_builtin;(refine wpList_push W rfl (.tmp 50) (.tmp 53) 51 rfl w.heap.size 9 i0 (.string ByteArray.empty) 1 16 Tryz.underlying51 hi0 hz0 hz1 hz2 rfl tZ1 (.slice A1 k c1) k _ rfl hown1 1 #[.string ⟨nm.toArray⟩] 9 rfl rfl tZ5 tZ11 tZ1 hbase ?_);intro v' w' ho' hb' hg')
 obtain ⟨A2,c2,rfl,_,_,_⟩:=own_form ho'
 go_wp2_with fail
 go_roundw
 case rel=>exact ⟨k+1,A2,c2,by omega,rfl,by go_num,HGG.out,by rw [HNT.out];exact ho',hbf.trans hb'⟩
 case measure=>simp [intOf];omega):p:=h
theorem mZ78{p:Prop}(h:p:=by
 rcases Nat.eq_zero_or_pos k with h0 | h0
 ·exact mZ70
 ·have hk1l:k-1<l.length:=tZ1
  have hpv:prevD l k=some (l[k-1]'hk1l).gd:=by
   exact mZ69
  refine .inr ⟨by simp;omega,by simp;omega,by omega,by omega,IntWalk.i64_in _ tZ1,by omega,(l[k-1]'hk1l).gd,?_,⟨hk1l,rfl⟩⟩
  exact ⟨fun h y hy=>by rw [hpv] at hy;cases hy;omega,fun h=>⟨_,hpv,by omega⟩⟩):p:=h
theorem mZ79{p:Prop}(h:p:=by
 cases hq:prevD l k with
 | none=>rfl
 | some y=>simp only [decide_eq_true (h2 y hq)];rfl):p:=h
theorem mZ80{p:Prop}(h:p:=by
 go_wp2_with fail
 go_ret
 exact ⟨by rw [HE2.out];rfl,HB.out.trans (HB2.out.mono tZ6)⟩):p:=h
theorem mZ81{p:Prop}(h:p:=by
 go_wp2_with fail
 go_ret
 exact ⟨by rw [HV.out];rfl,rfl⟩):p:=h
theorem mZ82{p:Prop}(h:p:=by
 have HV:Hid (nameB s.data.toList=false):=by show _=_;rw [← Bool.not_eq_true,HE.out];omega
 exact mZ81):p:=h
theorem mZ83{p:Prop}(h:p:=by
 go_wp2_with fail
 go_roundw
 case rel =>
  refine ⟨k+1,by omega,by go_num,?_,trivial⟩
  show List.all _ _=_
  rw [HT.out,List.all_append,hok.out]
  simp [HBB.out.symm]
 case measure=>simp [intOf];omega):p:=h
theorem mZ84{p:Prop}(h:p:=by
 clear hK
 go_simp
 exact hK0):p:=h
theorem mZ85{p:Prop}(h:p:=by
 clear hF
 go_wp2_with fail
 go_ret
 exact ⟨by rw [HV.out];rfl,p,rfl⟩):p:=h
theorem mZ86{p:Prop}(h:p:=by
 show _=_
 rw [hPE.out true]
 ·simp
 rw [hok.out,List.drop_of_length_le tZ14]
 rfl):p:=h
theorem mZ87{p:Prop}(h:p:=by
 go_wp2_with fail
 go_ret
 exact ⟨by rw [HB.out];rfl,_,World.drewN_drewN _ _ _⟩):p:=h
theorem mZ88{p:Prop}(h:p:=by
 go_wp2_with fail
 go_roundw
 case rel=>exact ⟨k+1,by omega,by go_num,HG,_,rfl⟩
 case measure=>simp [intOf];omega):p:=h
theorem mZ89{p:Prop}(h:p:=by
 rw [Bool.or_eq_false_iff]
 refine ⟨?_,by simpa using (bl_ne hcmp).symm⟩
 rw [← Bool.not_eq_true]
 intro h
 have:=bl_trans hcmp h
 rw [bl_irrefl] at this
 cases this):p:=h
theorem mZ90{p:Prop}(h:p:=by
 go_wp2_with fail
 go_region
 go_wp2_with fail
 go_ret
 exact ⟨by rw [HD.out];rfl,q+1,rfl⟩):p:=h
theorem mZ91{p:Prop}(h:p:=by
 go_wp2_with fail
 go_region
 go_wp2_with fail
 go_roundw
 case rel =>
  refine ⟨k+1,by omega,by go_num,?_,q+1,rfl⟩
  show a.take (k+1)=b.take (k+1)
  rw [T1.out,T2.out,hok.out]
 case measure=>simp [intOf];omega):p:=h
theorem mZ92{p:Prop}(h:p:=by
 have HB:=Lib.hid (hbad.out (.inr (.inl (d5.out.2 hbl))))
 rw [hbl] at hge
 iterate 13 refine zX ?_
 refine wpQuiet_nil (HQQ.out _ (fun W hW=>?_))
 obtain ⟨t0,t1,t2,t3,t4,t5,t6,q0,q1,q2,q3,q4,qp⟩:=hS.out W hW
 go_wp2_with fail
 go_ret
 exact ⟨by rw [HB.out];rfl,hbW.trans (hW.mono tZ6)⟩):p:=h
theorem mZ93{p:Prop}(h:p:=by
 cases bP with
 | false =>
  have HB:=Lib.hid (hbad.out (.inr (.inr (.inr (.inl rfl)))))
  have hc:=hPr.out _ hW
  rw [if_neg tZ4] at hc
  go_wp2_with fail
  refine (hc).mono ?_
  rintro e w6 ⟨rfl,hb6⟩
  have hWw6:=hW.trans (hb6.mono hW.size)
  clear hb6 t0 t1 t2 t3 t4 t5 t6 q0 q1 q2 q3 q4 qp
  obtain ⟨t0,t1,t2,t3,t4,t5,t6,q0,q1,q2,q3,q4,qp⟩:=hS.out _ hWw6
  go_wp2_with fail
  go_ret
  exact ⟨by rw [HB.out];rfl,hbW.trans (hWw6.mono tZ6)⟩
 | true =>
  have hc:=hPr.out _ hW
  rw [if_pos rfl] at hc
  go_wp2_with fail
  refine (hc).mono ?_
  rintro e w6 ⟨rfl,hb6⟩
  have hWw6:=hW.trans (hb6.mono hW.size)
  clear hb6 t0 t1 t2 t3 t4 t5 t6 q0 q1 q2 q3 q4 qp
  obtain ⟨t0,t1,t2,t3,t4,t5,t6,q0,q1,q2,q3,q4,qp⟩:=hS.out _ hWw6
  clear hc
  have hc:=hBk.out _ hWw6
  cases bB with
  | false =>
   have HB:=Lib.hid (hbad.out (.inr (.inr (.inr (.inr (.inl rfl))))))
   rw [if_neg tZ4] at hc
   go_wp2_with fail
   refine (hc).mono ?_
   rintro e w7 ⟨rfl,hb7⟩
   have hWw7:=hWw6.trans (hb7.mono hWw6.size)
   clear hb7 t0 t1 t2 t3 t4 t5 t6 q0 q1 q2 q3 q4 qp
   obtain ⟨t0,t1,t2,t3,t4,t5,t6,q0,q1,q2,q3,q4,qp⟩:=hS.out _ hWw7
   go_wp2_with fail
   go_ret
   exact ⟨by rw [HB.out];rfl,hbW.trans (hWw7.mono tZ6)⟩
  | true =>
   rw [if_pos rfl] at hc
   go_wp2_with fail
   refine (hc).mono ?_
   rintro e w7 ⟨rfl,hb7⟩
   have hWw7:=hWw6.trans (hb7.mono hWw6.size)
   clear hb7 t0 t1 t2 t3 t4 t5 t6 q0 q1 q2 q3 q4 qp
   obtain ⟨t0,t1,t2,t3,t4,t5,t6,q0,q1,q2,q3,q4,qp⟩:=hS.out _ hWw7
   clear hc
   have hc:=hSn.out _ hWw7
   cases bS with
   | false =>
    have HB:=Lib.hid (hbad.out (.inr (.inr (.inr (.inr (.inr (.inl rfl)))))))
    go_wp2_with fail
    refine (hc).mono ?_
    rintro e w8 ⟨rfl,hb8⟩
    have hWw8:=hWw7.trans (hb8.mono hWw7.size)
    clear hb8 t0 t1 t2 t3 t4 t5 t6 q0 q1 q2 q3 q4 qp
    obtain ⟨t0,t1,t2,t3,t4,t5,t6,q0,q1,q2,q3,q4,qp⟩:=hS.out _ hWw8
    go_wp2_with fail
    go_ret
    exact ⟨by rw [HB.out];rfl,hbW.trans (hWw8.mono tZ6)⟩
   | true =>
    go_wp2_with fail
    refine (hc).mono ?_
    rintro e w8 ⟨rfl,hb8⟩
    have hWw8:=hWw7.trans (hb8.mono hWw7.size)
    clear hb8 t0 t1 t2 t3 t4 t5 t6 q0 q1 q2 q3 q4 qp
    obtain ⟨t0,t1,t2,t3,t4,t5,t6,q0,q1,q2,q3,q4,qp⟩:=hS.out _ hWw8
    clear hc
    have hc:=hOr.out _ hWw8
    cases bO with
    | false =>
     have HB:=Lib.hid (hbad.out (.inr (.inr (.inr (.inr (.inr (.inr rfl)))))))
     go_wp2_with fail
     refine (hc).mono ?_
     rintro e w9 ⟨rfl,hb9⟩
     have hWw9:=hWw8.trans (hb9.mono hWw8.size)
     clear hb9 t0 t1 t2 t3 t4 t5 t6 q0 q1 q2 q3 q4 qp
     obtain ⟨t0,t1,t2,t3,t4,t5,t6,q0,q1,q2,q3,q4,qp⟩:=hS.out _ hWw9
     go_wp2_with fail
     go_ret
     exact ⟨by rw [HB.out];rfl,hbW.trans (hWw9.mono tZ6)⟩
    | true =>
     have HGG:=Lib.hid (hgood.out tZ18 HGO.out HPAR.out tZ18 tZ18 tZ18 tZ18)
     go_wp2_with fail
     refine (hc).mono ?_
     rintro e w9 ⟨rfl,hb9⟩
     have hWw9:=hWw8.trans (hb9.mono hWw8.size)
     clear hb9 t0 t1 t2 t3 t4 t5 t6 q0 q1 q2 q3 q4 qp
     obtain ⟨t0,t1,t2,t3,t4,t5,t6,q0,q1,q2,q3,q4,qp⟩:=hS.out _ hWw9
     have hbf:=HB1.out.trans (hWw9.mono (by have:=HSZ.out;have:=HB1.out.size;omega))
     clear hc
     exact mZ65):p:=h
theorem mZ94{p:Prop}(h:p:=by
 have HB:=Lib.hid (hbad.out (.inr (.inr (.inl (HFL.out.1 hF)))))
 have hz1:decide (z<0)=true:=by simpa using hF
 refine zN hFi.out ?_
 iterate 4 refine zX ?_
 refine wpQuiet_nil (HQQ.out _ (fun W hW=>?_))
 obtain ⟨t0,t1,t2,t3,t4,t5,t6,q0,q1,q2,q3,q4,qp⟩:=hS.out W hW
 go_wp2_with fail
 go_ret
 exact ⟨by rw [HB.out];rfl,hbW.trans (hW.mono tZ6)⟩):p:=h
theorem mZ95{p:Prop}(h:p:=by
 replace hW:=HD.out W hW
 obtain ⟨t0,t1,t2,t3,t4,t5,t6,q0,q1,q2,q3,q4,qp⟩:=hS.out W hW
 replace qp:=qp _ d6.out
 exact mZ66):p:=h
theorem mZ96{p:Prop}(h:p:=by
 unfold parB
 rw [if_neg (by rw [hpb];simp [hne])]):p:=h
theorem mZ97{p:Prop}(h:p:=by
 go_simp
 refine (hV _ hmW).mono ?_
 rintro e w4 ⟨rfl,hbn⟩
 exact ⟨rfl,HD2.out _ (hS.out _ (below_step hcW hbn))⟩):p:=h
theorem mZ98{p:Prop}(h:p:=by
 replace hW:=HD.out W hW
 obtain ⟨q0,q1,q2,hmW,hcW⟩:=hW
 exact mZ97):p:=h
theorem mZ99{p:Prop}(h:p:=by
 obtain ⟨j,rfl⟩:∃ j,k=j+1:=⟨k-1,by omega⟩
 show l[j]?=_
 have hj:j<l.length:=tZ92
 rw [List.getElem?_eq_getElem hj,hy]
 rfl):p:=h
theorem mZ100{p:Prop}(h:p:=by
 show _→_→_→_→_→_
 intro h1 h2 h4 h5 h3
 rw [hok.out,HDR.out]
 have hp:prevG l (k+1)=some (xu,xp,xz):=by
  show l[k]?=_
  rw [List.getElem?_eq_getElem hkl,← HX.out]
 rw [hp,grantsFrom_cons]
 unfold grantB
 simp only [h1,h2,decide_eq_true h4,decide_eq_true h5]
 cases hq:prevG l k with
 | none=>rfl
 | some y=>simp only [decide_eq_true (h3 y hq)];rfl):p:=h
theorem mZ101{p:Prop}(h:p:=by
 show _→_
 intro h
 rw [hPE.out false]
 ·rfl
 rw [hok.out,HDR.out,grantsFrom_cons]
 unfold grantB
 rcases h with h | h | h | h | ⟨y,hy,h⟩
 ·simp only [h];rfl
 ·simp only [h];simp
 ·simp only [decide_eq_false (show ¬ 1≤xz by omega)];simp
 ·simp only [decide_eq_false (show ¬ xz≤255 by omega)];simp
 ·rw [hy];simp only [decide_eq_false h];simp):p:=h
theorem mZ102{p:Prop}(h:p:=by
 rintro e w1 ⟨rfl,q,rfl⟩
 exact ⟨by simp,below_drewN (Below.refl _ _) q⟩):p:=h
theorem mZ103{p:Prop}(h:p:=by
 go_wp2_with fail
 go_ret
 exact ⟨rfl,HB2.out.trans (hWr.mono tZ6)⟩):p:=h
theorem mZ104{p:Prop}(h:p:=by
 refine zN hSS.out ?_
 refine zX ?_
 refine wpQuiet_nil (HQQ.out _ (fun W hW=>?_))
 skip
 go_wp2_with fail
 go_roundw
 case rel=>exact ⟨k+1,by omega,by go_num,hW⟩
 case measure=>simp [intOf];omega):p:=h
theorem mZ105{p:Prop}(h:p:=by
 go_wp2_with fail
 rw [← hW1]
 refine hc.mono ?_
 clear hc
 rintro e w11 ⟨rfl,hbw11⟩
 have hWw11:=hW0.trans (hbw11.mono hW0.size)
 clear hbw11
 obtain ⟨t0,t1,t2,t3⟩:=hT.out _ hWw11
 have HB:Hid (V=true):=tZ10
 exact mZ48):p:=h
theorem mZ106{p:Prop}(h:p:=by
 go_wp2_with fail
 refine hc.mono ?_
 clear hc
 rintro e w12 ⟨rfl,hbw12⟩
 have hWw12:=hWw11.trans (hbw12.mono hWw11.size)
 clear hbw12
 obtain ⟨t0,t1,t2,t3⟩:=hT.out _ hWw12
 have HB:Hid (V=true):=tZ10
 exact mZ50):p:=h
theorem mZ107{p:Prop}(h:p:=by
 go_wp2_with fail
 refine hc.mono ?_
 clear hc
 rintro e w13 ⟨rfl,hbw13⟩
 have hWw13:=hWw12.trans (hbw13.mono hWw12.size)
 clear hbw13
 obtain ⟨t0,t1,t2,t3⟩:=hT.out _ hWw13
 have HB:Hid (V=true):=tZ10
 exact mZ52):p:=h
theorem mZ108{p:Prop}(h:p:=by
 go_wp2_with fail
 refine hc.mono ?_
 clear hc
 rintro e w14 ⟨rfl,hbw14⟩
 have hWw14:=hWw13.trans (hbw14.mono hWw13.size)
 clear hbw14
 obtain ⟨t0,t1,t2,t3⟩:=hT.out _ hWw14
 have HB:Hid (V=true):=tZ10
 exact mZ54):p:=h
theorem mZ109{p:Prop}(h:p:=by
 go_wp2_with fail
 refine hc.mono ?_
 clear hc
 rintro e w14 ⟨rfl,hbw14⟩
 have hWw14:=hWw13.trans (hbw14.mono hWw13.size)
 clear hbw14
 obtain ⟨t0,t1,t2,t3⟩:=hT.out _ hWw14
 exact mZ55):p:=h
theorem mZ110{p:Prop}(h:p:=by
 go_wp2_with fail
 refine hc.mono ?_
 clear hc
 rintro e w13 ⟨rfl,hbw13⟩
 have hWw13:=hWw12.trans (hbw13.mono hWw12.size)
 clear hbw13
 obtain ⟨t0,t1,t2,t3⟩:=hT.out _ hWw13
 exact mZ53):p:=h
theorem mZ111{p:Prop}(h:p:=by
 show ∀ j v,_→_
 intro j v hv
 rw [addr_add0,k3.cell j,zF]
 exact hv):p:=h
theorem mZ112{p:Prop}(h:p:=by
 intro Q hQ cs
 induction cs with
 | nil=>intro W o v h;exact h
 | cons u r ih=>intro W o v h;exact ih _ _ _ (hQ _ _ _ _ h (grown_box W _ o u) tZ1)):p:=h
theorem mZ113{p:Prop}(h:p:=by
 clear hK1 hK2 hA hdeps hcl hmi hcell hfz
 go_simp
 exact hK0):p:=h
theorem mZ114{p:Prop}(h:p:=by
 rintro e w2 ⟨A,n,c,rfl,hQ,hb⟩
 exact hKK _ _ hb ⟨A,n,c,rfl,hQ⟩ tZ4):p:=h
theorem mZ115{p:Prop}(h:p:=by
 have hKK:=hK1
 clear hK1 hK2 hA hdeps hcl hmi hcell hfz
 go_simp
 refine (hCz W (hlow W hgr) (Nat.le_trans hsz2 hgr.size)).mono ?_
 exact mZ114):p:=h
theorem mZ116{p:Prop}(h:p:=by
 clear hK1 hK2 hA hdeps hcl hmi hcell hfz hs0
 go_simp
 exact hK0):p:=h
theorem mZ117{p:Prop}(h:p:=by
 have hKK:=hK1
 clear hK1 hK2 hA hdeps hcl hmi hcell hfz
 go_simp
 refine (hCo W (hlow W hgr) (Nat.le_trans hsz2 hgr.size)).mono ?_
 exact mZ114):p:=h
theorem mZ118{p:Prop}(h:p:=by
 injection ho with ho
 subst ho
 have ef1:AA.tmps[1]?.getD undef=.pointer (some ⟨w.heap.size,0,none⟩):=by rw [hA];exact tmps_free tZ2
 have hK0:KK (AA.put (some 6) _) _:=hK1 (.pointer (some ⟨w.heap.size,4,none⟩)) _ (Below.refl _ _) (Eq.refl _) tZ4
 exact mZ113):p:=h
theorem mZ119{p:Prop}(h:p:=by
 injection ho with ho
 subst ho
 obtain ⟨x1,hx1,hg1⟩:=hdeps ⟨1,.data⟩ tZ3 rfl
 have hg1:x1=.slice b1 b2 b3:=hg1
 subst hg1
 have e1:AA.tmps[4]?.getD undef=.slice b1 b2 b3:=by rw [hA];exact tmps_own tZ2 hx1 (of_decide_eq_true tZ2)
 have hKK:=hK1
 clear hK1 hK2 hA hdeps hcl hmi hcell hfz
 go_simp
 refine (hCb W (hlow W hgr) (Nat.le_trans hsz2 hgr.size)).mono ?_
 exact mZ114):p:=h
theorem mZ120{p:Prop}(h:p:=by
 simp only [fld] at hce
 simp [hs0] at hce
 have hK0:KK (AA.put (some 4) _) _:=hK1 (.slice b1 b2 b3) _ (Below.refl _ _) (Eq.refl _) tZ4
 exact mZ116):p:=h
theorem mZ121{p:Prop}(h:p:=by
 obtain ⟨c0,c1,c2,c3,c4,c5,c6⟩:=hT.out _ hWw11
 have HB:Hid (E=9):=tZ10
 exact mZ48):p:=h
theorem mZ122{p:Prop}(h:p:=by
 go_wp2_with fail
 rw [← hW1]
 refine hc.mono ?_
 clear hc
 rintro e w11 ⟨rfl,hbw11⟩
 have hWw11:=hW0.trans (hbw11.mono hW0.size)
 clear hbw11
 exact mZ121):p:=h
theorem mZ123{p:Prop}(h:p:=by
 go_wp2_with fail
 refine hc.mono ?_
 clear hc
 rintro e w12 ⟨rfl,hbw12⟩
 have hWw12:=hWw11.trans (hbw12.mono hWw11.size)
 clear hbw12
 obtain ⟨c0,c1,c2,c3,c4,c5,c6⟩:=hT.out _ hWw12
 have HB:Hid (E=9):=tZ10
 exact mZ50):p:=h
theorem mZ124{p:Prop}(h:p:=by
 go_wp2_with fail
 refine hc.mono ?_
 clear hc
 rintro e w13 ⟨rfl,hbw13⟩
 have hWw13:=hWw12.trans (hbw13.mono hWw12.size)
 clear hbw13
 obtain ⟨c0,c1,c2,c3,c4,c5,c6⟩:=hT.out _ hWw13
 have HB:Hid (E=9):=tZ10
 exact mZ52):p:=h
theorem mZ125{p:Prop}(h:p:=by
 go_wp2_with fail
 go_ret
 exact ⟨by rw [HB.out];rfl,HB1.out.trans (hWw15.mono tZ13)⟩):p:=h
theorem mZ126{p:Prop}(h:p:=by
 go_wp2_with fail
 go_ret
 exact ⟨by rw [HB.out];rfl,HB1.out.trans (hWw16.mono tZ13)⟩):p:=h
theorem mZ127{p:Prop}(h:p:=by
 go_ret
 refine ⟨v1,rfl,by simpa using hown1,((Below.refl _ _).alloc (Nat.le_refl _) _).grown hg1 tZ3 (fun k hk=>?_)⟩
 simp [Value.ownBlock] at hk
 omega):p:=h
theorem mZ128{p:Prop}(h:p:=by
 go_wp2_with fail
 go_ret
 exact ⟨_,rfl,World.ownsRow_nil _ _ _ _,Below.refl _ _⟩):p:=h
theorem mZ129{p:Prop}(h:p:=by
 rcases Nat.eq_zero_or_pos n with h | h
 ·exact h
 ·obtain ⟨_,h,_⟩:=hr.2 h;cases h):p:=h
theorem mZ130{p:Prop}(h:p:=by
 rw [hs]
 have:((#[(0,x)]:Array (Nat×Operand)).map fun (i,x)=>(i,a.eval x)).toList=[(0,.agg cs.toArray)]:=by simp [hx]
 rw [this]
 exact fill_one _ cs tZ3 hp):p:=h
theorem mZ131{p:Prop}(h:p:=by
 show World.ownsRow _ _ _ _ _ _ _
 rw [cellsK_append,cellsK_one,← hds'.out]
 exact HO4.out):p:=h
theorem mZ132{p:Prop}(h:p:=by
 rw [zF,hu] at this
 rw [addr_add0]
 exact this):p:=h
theorem mZ133{p:Prop}(h:p:=by
 show List.Pairwise _ _
 rw [List.pairwise_append]
 exact ⟨HPW.out,by simp,fun a ha b hb=>by rw [List.mem_singleton.1 hb];exact hD _ _ _ _ _ _ (HE.out a ha) hoy tZ3⟩):p:=h
theorem mZ134{p:Prop}(h:p:=by
 show ∀ z∈_,_
 intro z hz
 rcases List.mem_append.1 hz with hz | hz
 ·exact hO.below _ _ _ _ (HE.out z hz) hba
 ·rw [List.mem_singleton.1 hz]
  exact hO.below _ _ _ _ (hO.mono _ _ _ _ hoy tZ7) ((Below.refl w2.heap.size w2).alloc (Nat.le_refl _) _)):p:=h
theorem mZ135{p:Prop}(h:p:=by
 rw [zF,hv] at this
 rw [addr_add0]
 exact this):p:=h
theorem mZ136{p:Prop}(h:p:=by
 rw [List.take_add_one,List.getElem?_eq_getElem h,Option.toList_some,List.map_append,List.sum_append,List.map_cons,List.map_nil,List.sum_cons,List.sum_nil,Int.add_zero]):p:=h
theorem mZ137{p:Prop}(h:p:=by
 rw [List.take_length]
 conv=>lhs;rw [← List.take_append_drop k l]
 rw [List.map_append,List.sum_append]):p:=h
theorem mZ138{p:Prop}(h:p:=by
 go_enter Tryz.func112,Tryz.ntmps112
 go_wp2_with fail
 go_region
 go_wp2_with fail
 go_ret
 exact ⟨by rw [hd.out];rfl,(Below.refl _ _).drew⟩):p:=h
theorem mZ139{p:Prop}(h:p:=by
 obtain ⟨s,h1,h2,h3,h4⟩:=h
 exact ⟨s,h1,h2.kept hg hl,fun y hy=>(h3 y hy).kept hg hl,h4⟩):p:=h
theorem mZ140{p:Prop}(h:p:=by
 refine (clonePr_any _ on o1 o3 W B (ho.2.2.below (hW.mono hB)) tZ41 (cells_one encP_one _) (by have:=hz.own;simp only at this;omega)).mono ?_
 rintro e w' ⟨v,rfl,h1,h2⟩
 obtain ⟨A,c,rfl,_⟩:=own_form h1
 exact ⟨A,on,c,rfl,own_mono h1 hsz,h2⟩):p:=h
theorem mZ141{p:Prop}(h:p:=by
 refine (cloneBl_any _ bn b1 b3 W B (hb.2.2.below (hW.mono hB)) tZ41 (cells_one encB_one _) (by have:=hz.body;simp only at this;omega)).mono ?_
 rintro e w' ⟨v,rfl,h1,h2⟩
 obtain ⟨A,c,rfl,_⟩:=own_form h1
 exact ⟨A,bn,c,rfl,own_mono h1 hsz,h2⟩):p:=h
theorem mZ142{p:Prop}(h:p:=by
 induction cs with
 | nil=>intro W o;exact ⟨rfl,rfl,rfl,Nat.le_refl _,fun _ _ _=>rfl⟩
 | cons u r ih=>intro W o;exact grown_tr (grown_box W g o u) (ih _ _)):p:=h
theorem mZ143{p:Prop}(h:p:=by
 go_wp2_with fail
 go_ret
 exact ⟨by rw [HB.out];rfl,q0+nq,World.drewN_drewN _ _ _⟩):p:=h
theorem mZ144{p:Prop}(h:p:=by
 go_wp2_with fail
 go_big_quiet (fail)
 exact mZ143):p:=h
theorem mZ145{p:Prop}(h:p:=by
 go_wp2_with fail
 go_roundw
 case rel=>exact ⟨k+1,q0+nq,by omega,by go_num,HG,rfl⟩
 case measure=>simp [intOf];omega):p:=h
theorem mZ146{p:Prop}(h:p:=by
 go_wp2_with fail
 refine bodyPost_ret (v:=.tuple #[.string ⟨#[]⟩,.string ⟨#[]⟩,.int .i64 31]) tZ112 rfl ⟨by rw [HVF.out],hb3⟩):p:=h
theorem mZ147{p:Prop}(h:p:=by
 rintro e w1 ⟨rfl,q,rfl⟩
 exact ⟨rfl,below_drewN (Below.refl _ _) q⟩):p:=h
theorem mZ148{p:Prop}(h:p:=by
 go_wp2_with fail
 rw [← hW1]
 refine hc.mono ?_
 clear hc
 rintro e w11 ⟨rfl,hbw11⟩
 have hWw11:=hW0.trans (hbw11.mono hW0.size)
 clear hbw11
 obtain ⟨t0,t1,t2,t3⟩:=hT.out _ hWw11
 exact mZ49):p:=h
theorem mZ149{p:Prop}(h:p:=by
 go_wp2_with fail
 refine hc.mono ?_
 clear hc
 rintro e w12 ⟨rfl,hbw12⟩
 have hWw12:=hWw11.trans (hbw12.mono hWw11.size)
 clear hbw12
 obtain ⟨t0,t1,t2,t3⟩:=hT.out _ hWw12
 exact mZ51):p:=h
theorem mZ150{p:Prop}(h:p:=by
 have HB:=Lib.hid (hbad.out (.inr (.inr (.inr (.inl tZ18)))))
 refine zN hTg.out ?_
 iterate 14 refine zX ?_
 refine wpQuiet_nil (HQQ.out _ (fun W hW=>?_))
 skip
 go_wp2_with fail
 go_ret
 exact ⟨by rw [HB.out];rfl,hbW.trans (hW.mono tZ6)⟩):p:=h
theorem mZ151{p:Prop}(h:p:=by
 have HB:=Lib.hid (hbad.out (.inr (.inr (.inr (.inr (.inl tZ18))))))
 refine zN hBk.out ?_
 iterate 8 refine zX ?_
 refine wpQuiet_nil (HQQ.out _ (fun W hW=>?_))
 skip
 go_wp2_with fail
 go_ret
 exact ⟨by rw [HB.out];rfl,hbW.trans (hW.mono tZ6)⟩):p:=h
theorem mZ152{p:Prop}(h:p:=by
 have HB:=Lib.hid (hbad.out (.inr (.inr (.inr (.inr (.inr tZ18))))))
 refine zN hPr.out ?_
 iterate 2 refine zX ?_
 refine wpQuiet_nil (HQQ.out _ (fun W hW=>?_))
 skip
 go_wp2_with fail
 go_ret
 exact ⟨by rw [HB.out];rfl,hbW.trans (hW.mono tZ6)⟩):p:=h
theorem mZ153{p:Prop}(h:p:=by
 have HFW:=Lib.hid hW
 clear hbad hgood hNm hA hTg hBk hPr hSp
 go_wp2_with fail
 go_loopw [5] (fun j wr2=>∃ i:Nat,i≤k∧j=.int .i64 (i:Int)∧Hid (∀ y∈l.take i,(y.nm == nm)=false)∧Below W0.heap.size W0 wr2) (fun j _=>k-(intOf j).toNat)
 case atStart=>exact ⟨0,Nat.zero_le _,rfl,(fun y hy=>by simp at hy),hW⟩
 case round =>
  clear hW HFW
  obtain ⟨i,hi,rfl,hno,hW⟩:=hrel
  obtain ⟨q0,-⟩:=hS.out _ hW
  have hbF:=hbW.trans (hW.mono tZ6)
  by_cases hli:i<k
  ·have hii:(i:Int)<(k:Int):=tZ1
   have hin:(i:Int)<(n:Int):=tZ1
   have hil:i<l.length:=tZ9
   obtain ⟨ad2,e2,-,p0,-⟩:=snap_at (hRR.out _ hW) HN.out (i:=i) tZ1
   injection e2 with e2
   subst e2
   obtain ⟨y,hy⟩:∃ y,y=(l[i]'hil).nm:=⟨_,rfl⟩
   rw [← hy] at p0
   have htk2:=List.take_succ_eq_append_getElem hil
   have HY:=Lib.hid hy
   have HT2:=Lib.hid htk2
   have HM:Hid (l[i]'hil∈l.take k):=by
    show _∈_
    exact List.mem_take_iff_getElem.2 ⟨i,by omega,rfl⟩
   clear hy htk2
   by_cases hyn:y=nm
   ·have HB:Hid (V=false):=by
     show _=_
     refine hdup.out (l[i]'hil) HM.out ?_
     rw [← HY.out]
     exact hyn
    subst hyn
    go_wp2_with fail
    go_big_quiet (fail)
    go_wp2_with fail
    go_ret
    exact ⟨by rw [HB.out];rfl,below_drewN hbF _⟩
   ·have hynb:(y == nm)=false:=by simpa using hyn
    have HG2:Hid (∀ z∈l.take (i+1),(z.nm == nm)=false):=by
     show ∀ z∈_,_
     intro z hz
     rw [HT2.out] at hz
     rcases List.mem_append.1 hz with hz | hz
     ·exact hno.out z hz
     ·rw [List.mem_singleton] at hz
      rw [hz,← HY.out]
      exact hynb
    clear hyn
    go_wp2_with fail
    go_big_quiet (fail)
    go_wp2_with fail
    go_roundw
    case rel=>exact ⟨i+1,by omega,by go_num,HG2,below_drewN hW _⟩
    case measure=>simp [intOf];omega
  ·have hik:i=k:=tZ1
   have HNX:=Lib.hid (HGG.out (by rw [← hik];exact hno.out))
   clear hik
   go_wp2_with fail
   go_roundw
   case rel=>exact ⟨k+1,by omega,by go_num,HNX,hbF⟩
   case measure=>simp [intOf];omega):p:=h
theorem mZ154{p:Prop}(h:p:=by
 simp only [List.length_append,List.length_take,List.length_drop,List.length_cons,List.length_nil]
 omega):p:=h
theorem mZ155{p:Prop}(h:p:=by
 rw [List.length_map]
 show _=((t.sets.l.map SetR.con).filter _).length
 rw [List.filter_map,List.length_map]
 rfl):p:=h
theorem mZ156{p:Prop}(h:p:=by
 go_wp2_with fail
 go_roundw
 case rel=>exact ⟨k+1,m,A1,c1,by omega,by omega,rfl,by go_num,by rw [HNT2.out];exact hml.out,by rw [HNT2.out];exact ho4,hbf⟩
 case measure=>simp [intOf];omega):p:=h
theorem mZ157{p:Prop}(h:p:=by
 obtain ⟨A2,c2,rfl,_,_,_⟩:=own_form ho'
 have hb'2:=hbf.trans hb'
 go_wp2_with fail
 go_roundw
 case rel=>exact ⟨k+1,m+1,A2,c2,by omega,by omega,rfl,by go_num,by show _=_;rw [HNT2.out,List.length_append,← hml.out];rfl,by rw [HNT2.out,scells_append];exact ho',hb'2⟩
 case measure=>simp [intOf];omega):p:=h
theorem mZ158{p:Prop}(h:p:=by
 show ∀ W,_→_
 intro W hb
 refine ⟨own_below (w:=W0) ?_ hb,(hblk.below hb tZ1).cell 0⟩
 rw [hW0]
 exact hown.alloc _):p:=h
theorem mZ159{p:Prop}(h:p:=by
 have HNT2:Hid (clonesL (l.take (k+1)) p nq=clonesL (l.take k) p nq):=by
  show _=_
  rw [HNT.out,if_neg (by rw [HCL.out,hap1,hq1,hb1];simp)]
  simp
 clear HNT
 exact mZ156):p:=h
theorem mZ160{p:Prop}(h:p:=by
 clear HNT
 go_wp2_with (at_builtin;(refine wpList_push w4 rfl (.tmp 43) (.tmp 46) 51 rfl W1.heap.size 9 i0 (.string ByteArray.empty) 1 16 Tryz.underlying51 hi0 hz0 hz1 hz2 rfl tZ1 (.slice A1 m c1) m _ rfl ho4 1 #[.string ⟨xp.toArray⟩] 9 rfl rfl tZ5 tZ11 tZ1 hbase ?_);intro v' w' ho' hb' hg')
 exact mZ157):p:=h
theorem mZ161{p:Prop}(h:p:=by
 rw [hs2]
 have HS1:=Lib.hid hs1
 clear hs1 hs2
 have HNT2:Hid (clonesL (l.take (k+1)) p nq=clonesL (l.take k) p nq):=by
  show _=_
  rw [HNT.out,if_neg (by unfold clP;rw [HS1.out];simp)]
  simp
 clear HNT
 exact mZ156):p:=h
theorem mZ162{p:Prop}(h:p:=by
 rintro e w1 ⟨rfl,hb⟩
 have HB:=Lib.hid hb
 clear hb
 go_wp2_with fail
 go_ret
 exact ⟨by rw [← HA.out];rfl,HB.out⟩):p:=h
theorem mZ163{p:Prop}(h:p:=by
 exact bodyPost_ret (v:=.tuple #[.agg #[.string ⟨#[]⟩,.int .i64 0,.int .i64 0,.slice none 0 0,.slice none 0 0,.slice none 0 0,.slice none 0 0],.int .i64 31]) (results_cell_tmp rfl rfl HL.out) rfl (tenPost_err HX.out tZ4 HBW.out)):p:=h
theorem mZ164{p:Prop}(h:p:=by
 exact bodyPost_ret (v:=.tuple #[.agg #[.string ⟨#[]⟩,.int .i64 0,.int .i64 0,.slice none 0 0,.slice none 0 0,.slice none 0 0,.slice none 0 0],.int .i64 9]) (results_cell_tmp rfl rfl HL.out) rfl (tenPost_err HX.out tZ4 HBW.out)):p:=h
theorem mZ165{p:Prop}(h:p:=by
 exact bodyPost_ret (v:=.tuple #[.agg #[.string ⟨#[]⟩,.int .i64 0,.int .i64 0,.slice none 0 0,.slice none 0 0,.slice none 0 0,.slice none 0 0],.int .i64 44]) (results_cell_tmp rfl rfl HL.out) rfl (tenPost_err HX.out tZ4 HBW.out)):p:=h
theorem mZ166{p:Prop}(h:p:=by
 have KZ:=Lib.hid (hKz.out w4 HW4.out)
 have HB:=Lib.hid (hBW.out w4 HW4.out)
 obtain ⟨WR,hW4,hth,HL,HBW,hgw⟩:=res7 (g:=(w.heap.size+2)) [.string ⟨#[]⟩,.int .i64 0,.int .i64 0,.slice none 0 0,.slice none 0 0,.slice none 0 0,.slice none 0 0] KZ.out HB.out tZ1
 clear hgw
 go_wp2_with (refine wpList_store_mid rfl 27 (.tmp 4) (.tmp 43) rfl ((w.heap.size+2)) 0 #[.string ⟨#[]⟩,.int .i64 0,.int .i64 0,.slice none 0 0,.slice none 0 0,.slice none 0 0,.slice none 0 0] rfl rfl hth.out tZ2 tZ5 ?_;rw [← hW4];clear hW4)
 exact mZ165):p:=h
theorem mZ167{p:Prop}(h:p:=by
 exact bodyPost_ret (v:=.tuple #[.agg #[.string ⟨#[]⟩,.int .i64 0,.int .i64 0,.slice none 0 0,.slice none 0 0,.slice none 0 0,.slice none 0 0],.int .i64 43]) (results_cell_tmp rfl rfl HL.out) rfl (tenPost_err HX.out tZ4 HBW.out)):p:=h
theorem mZ168{p:Prop}(h:p:=by
 injection ho with ho;subst ho
 have e2:=eD hdeps hA 2 28
 have e12:=eD hdeps hA 12 38
 exact zP):p:=h
theorem mZ169{p:Prop}(h:p:=by
 injection ho with ho;subst ho
 have e2:=eD hdeps hA 2 28
 have e6:=eD hdeps hA 6 32
 have e10:=eD hdeps hA 10 36
 clear hA hdeps hcl hmi
 rw [if_pos (wanted_of (k:=28) rfl rfl e2)]
 have hK0:KK (AA.put (some 37) _) _:=hK (.int .i64 sU) _ (Below.refl _ _) (Eq.refl _)
 exact mZ84):p:=h
theorem mZ170{p:Prop}(h:p:=by
 injection ho with ho;subst ho
 have e2:=eD hdeps hA 2 28
 obtain ⟨x9,hx9,hg9⟩:=hdeps ⟨9,.data⟩ tZ3 rfl
 have hg9:∃ A c,x9=.slice A cN c:=hg9
 have hk9:=hg9
 obtain ⟨A9,c9,rfl⟩:=hg9
 have e9:AA.tmps[35]?.getD undef=.slice A9 cN c9:=tO hA hx9
 clear hA hdeps hcl hmi hx9
 rw [if_pos (wanted_of (k:=28) rfl rfl e2)]
 have hK0:KK (AA.put (some 36) _) _:=hK (.int .i64 (cN:Int)) _ (Below.refl _ _) (Eq.refl _)
 exact mZ84):p:=h
theorem mZ171{p:Prop}(h:p:=by
 injection ho with ho;subst ho
 have e2:=eD hdeps hA 2 28
 have e7:=eD hdeps hA 7 33
 have e8:=eD hdeps hA 8 34
 clear hA hdeps hcl hmi
 rw [if_pos (wanted_of (k:=28) rfl rfl e2)]
 have hKK:=Lib.hid hK
 clear hK
 go_simp
 refine (hCN.out _ (HW3.out.trans (hb0.mono HW3.out.size))).mono ?_
 rintro e w5 ⟨⟨A9,c9,rfl⟩,hbn⟩
 exact hKK.out _ _ hbn ⟨A9,c9,rfl⟩):p:=h
theorem mZ172{p:Prop}(h:p:=by
 injection ho with ho;subst ho
 have e2:=eD hdeps hA 2 28
 have ef3:AA.tmps[3]?.getD undef=.pointer (some ⟨(w.heap.size+1),0,none⟩):=tF hA
 clear hA hdeps hcl hmi
 rw [if_pos (wanted_of (k:=28) rfl rfl e2)]
 obtain ⟨c0,c1,c2,c3,c4,c5,c6,d0⟩:=hS.out W hb0
 have hK0:KK (AA.put (some 34) _) _:=hK (.string ⟨p.toArray⟩) _ (Below.refl _ _) (Eq.refl _)
 exact mZ84):p:=h
theorem mZ173{p:Prop}(h:p:=by
 injection ho with ho;subst ho
 have e2:=eD hdeps hA 2 28
 have ef2:AA.tmps[2]?.getD undef=.pointer (some ⟨w.heap.size,0,none⟩):=tF hA
 clear hA hdeps hcl hmi
 rw [if_pos (wanted_of (k:=28) rfl rfl e2)]
 obtain ⟨c0,c1,c2,c3,c4,c5,c6,d0⟩:=hS.out W hb0
 have hK0:KK (AA.put (some 33) _) _:=hK (TV) _ (Below.refl _ _) (Eq.refl _)
 clear hK
 rw [HTV.out] at hK0
 go_simp
 exact hK0):p:=h
theorem mZ174{p:Prop}(h:p:=by
 injection ho with ho;subst ho
 have e2:=eD hdeps hA 2 28
 obtain ⟨x5,hx5,hg5⟩:=hdeps ⟨5,.data⟩ tZ3 rfl
 have hg5:∃ A c,x5=.slice A kN c:=hg5
 have hk5:=hg5
 obtain ⟨A5,c5,rfl⟩:=hg5
 have e5:AA.tmps[31]?.getD undef=.slice A5 kN c5:=tO hA hx5
 clear hA hdeps hcl hmi hx5
 rw [if_pos (wanted_of (k:=28) rfl rfl e2)]
 have hK0:KK (AA.put (some 32) _) _:=hK (.int .i64 (kN:Int)) _ (Below.refl _ _) (Eq.refl _)
 exact mZ84):p:=h
theorem mZ175{p:Prop}(h:p:=by
 injection ho with ho;subst ho
 have e2:=eD hdeps hA 2 28
 have e3:=eD hdeps hA 3 29
 have e4:=eD hdeps hA 4 30
 clear hA hdeps hcl hmi
 rw [if_pos (wanted_of (k:=28) rfl rfl e2)]
 have hKK:=Lib.hid hK
 clear hK
 go_simp
 refine (hKD.out _ (HW3.out.trans (hb0.mono HW3.out.size))).mono ?_
 rintro e w5 ⟨⟨A9,c9,rfl⟩,hbn⟩
 exact hKK.out _ _ hbn ⟨A9,c9,rfl⟩):p:=h
theorem mZ176{p:Prop}(h:p:=by
 injection ho with ho;subst ho
 have e2:=eD hdeps hA 2 28
 have ef3:AA.tmps[3]?.getD undef=.pointer (some ⟨(w.heap.size+1),0,none⟩):=tF hA
 clear hA hdeps hcl hmi
 rw [if_pos (wanted_of (k:=28) rfl rfl e2)]
 obtain ⟨c0,c1,c2,c3,c4,c5,c6,d0⟩:=hS.out W hb0
 have hK0:KK (AA.put (some 30) _) _:=hK (.string ⟨p.toArray⟩) _ (Below.refl _ _) (Eq.refl _)
 exact mZ84):p:=h
theorem mZ177{p:Prop}(h:p:=by
 injection ho with ho;subst ho
 have e2:=eD hdeps hA 2 28
 have ef2:AA.tmps[2]?.getD undef=.pointer (some ⟨w.heap.size,0,none⟩):=tF hA
 clear hA hdeps hcl hmi
 rw [if_pos (wanted_of (k:=28) rfl rfl e2)]
 obtain ⟨c0,c1,c2,c3,c4,c5,c6,d0⟩:=hS.out W hb0
 have hK0:KK (AA.put (some 29) _) _:=hK (TV) _ (Below.refl _ _) (Eq.refl _)
 clear hK
 rw [HTV.out] at hK0
 go_simp
 exact hK0):p:=h
theorem mZ178{p:Prop}(h:p:=by
 injection ho with ho;subst ho
 have e1:=eD hdeps hA 1 27
 exact zP):p:=h
theorem mZ179{p:Prop}(h:p:=by
 injection ho with ho;subst ho
 have e0:=eD hdeps hA 0 26
 exact zP):p:=h
theorem mZ180{p:Prop}(h:p:=by
 injection ho with ho;subst ho
 have ef3:AA.tmps[3]?.getD undef=.pointer (some ⟨(w.heap.size+1),0,none⟩):=tF hA
 obtain ⟨c0,c1,c2,c3,c4,c5,c6,d0⟩:=hS.out W hb0
 exact zP):p:=h
theorem mZ181{p:Prop}(h:p:=by
 repeat' (first | exact stays_nil | refine stays_cons ?_ ?_ | exact Stays.pure)):p:=h
theorem mZ182{p:Prop}(h:p:=by
 clear hall m0 m1 m2 m3 m4 m5 m6 m7 m8 m9 m10 m11 m12 m13 m14 m15 m16 m17
 simp only [putAll,Act.put,List.setIfInBounds_toArray,zC,zB]
 have HW4:=Lib.hid (HW3.out.trans (hbx.mono HW3.out.size))
 obtain ⟨w4,hw4⟩:∃ w4,w4=W:=⟨_,rfl⟩
 subst hw4
 clear hbx hS
 exact mZ166):p:=h
theorem mZ183{p:Prop}(h:p:=by
 clear hA hdeps hcl hmi
 rw [if_neg (unwanted_of (b:=false) (k:=28) rfl rfl (.inl e2))]
 exact hK undef _ (Below.refl _ _) (Eq.refl _)):p:=h
theorem mZ184{p:Prop}(h:p:=by
 injection ho with ho;subst ho
 have e2:=eD hdeps hA 2 28
 have ef3:AA.tmps[3]?.getD undef=.pointer (some ⟨(w.heap.size+1),0,none⟩):=tF hA
 exact mZ183):p:=h
theorem mZ185{p:Prop}(h:p:=by
 injection ho with ho;subst ho
 have e2:=eD hdeps hA 2 28
 have ef2:AA.tmps[2]?.getD undef=.pointer (some ⟨w.heap.size,0,none⟩):=tF hA
 exact mZ183):p:=h
theorem mZ186{p:Prop}(h:p:=by
 exact bodyPost_ret (v:=.tuple #[.agg #[.string ⟨#[]⟩,.int .i64 0,.int .i64 0,.slice none 0 0,.slice none 0 0,.slice none 0 0,.slice none 0 0],.int .i64 71]) (results_cell_tmp rfl rfl HL.out) rfl (tenPost_err HX.out tZ4 HBW.out)):p:=h
theorem mZ187{p:Prop}(h:p:=by
 rw [← findS_con] at hk
 rcases firstI_cases (fun s:SetR=>s.path == p) t.sets.l with ⟨h1,h2⟩ | ⟨j,hj,h1,h2⟩
 ·have h1:findS t.sets.l p=-1:=h1
  omega
 ·have h1:findS t.sets.l p=(j:Int):=h1
  obtain rfl:j=k:=tZ1
  refine ⟨hj,?_⟩
  unfold TenC.heldAt
  rw [show t.con.sets[j]?=some (t.sets.l[j]'hj).con from by show (t.sets.l.map SetR.con)[j]?=_;rw [List.getElem?_map,List.getElem?_eq_getElem hj];rfl]
  show ((t.sets.l[j]'hj).snaps.l.map SnapR.con).any _=_
  rw [List.any_map]
  refine any_congr_mem _ fun y hy=>?_
  show decide (0<y.tags.l.length)=_
  rw [((hr.eachS _ (List.getElem_mem hj)).each y hy).tags.1]):p:=h
theorem mZ188{p:Prop}(h:p:=by
 clear hbw11
 obtain ⟨t0,t1,t2,t3,t4,t5,t6,q0,q1,q2,q3,q4⟩:=hS.out _ hWw11
 have HB:Hid (V=false):=tZ10
 go_wp2_with fail
 go_ret
 exact ⟨by rw [HB.out];rfl,HB2.out.trans (hWw11.mono tZ6)⟩):p:=h
theorem mZ189{p:Prop}(h:p:=by
 rw [if_neg tZ4] at hc
 go_wp2_with fail
 refine hc.mono ?_
 clear hc
 rintro e w12 ⟨rfl,hbw12⟩
 have hWw12:=hWw11.trans (hbw12.mono hWw11.size)
 clear hbw12
 obtain ⟨t0,t1,t2,t3,t4,t5,t6,q0,q1,q2,q3,q4⟩:=hS.out _ hWw12
 have HB:Hid (V=false):=tZ10
 go_wp2_with fail
 go_ret
 exact ⟨by rw [HB.out];rfl,HB2.out.trans (hWw12.mono tZ6)⟩):p:=h
theorem mZ190{p:Prop}(h:p:=by
 go_wp2_with fail
 refine hc.mono ?_
 clear hc
 rintro e w13 ⟨rfl,hbw13⟩
 have hWw13:=hWw12.trans (hbw13.mono hWw12.size)
 clear hbw13
 obtain ⟨t0,t1,t2,t3,t4,t5,t6,q0,q1,q2,q3,q4⟩:=hS.out _ hWw13
 have HB:Hid (V=false):=tZ10
 go_wp2_with fail
 go_ret
 exact ⟨by rw [HB.out];rfl,HB2.out.trans (hWw13.mono tZ6)⟩):p:=h
theorem mZ191{p:Prop}(h:p:=by
 clear hb21
 obtain ⟨t0,t1,t2,t3,t4,t5,t6,q0,q1,q2,q3,q4⟩:=hS.out _ hWw21
 clear hc
 have hc:=hFd.out p _ hWw21
 obtain ⟨z,hz⟩:∃ z,z=findS all p:=⟨_,rfl⟩
 rw [← hz] at hc
 have HZ:=Lib.hid hz
 clear hz
 go_wp2_with fail
 refine (hc).mono ?_
 rintro e w22 ⟨rfl,hb22⟩
 have hWw22:=hWw21.trans (hb22.mono hWw21.size)
 clear hb22
 obtain ⟨t0,t1,t2,t3,t4,t5,t6,q0,q1,q2,q3,q4⟩:=hS.out _ hWw22
 clear hc
 have HBF:=Lib.hid (HB2.out.trans (hWw22.mono tZ6))
 by_cases hps:p=xp
 ·have hpb:(p == xp)=true:=tZ123
  have HE2:Hid (V=false):=tZ65
  subst hps
  go_wp2_with fail
  go_ret
  exact ⟨by rw [HE2.out];rfl,HBF.out⟩
 ·have hpb:(p == xp)=false:=tZ123
  have HE2:Hid (V=match all.find? (fun x=>x.path == p) with
   | none=>false
   | some x=>x.snaps.l.any fun y=>y.nm == m):=tZ65
  clear hps HE
  rcases firstI_cases (fun x:SetR=>x.path == p) all with ⟨f1,f2⟩ | ⟨k,hk,f1,f2⟩
  ·have hz:z=-1:=HZ.out.trans f1
   rw [f2] at HE2
   subst hz
   clear f1 f2
   go_wp2_with fail
   go_ret
   exact ⟨by rw [HE2.out];rfl,HBF.out⟩
  ·have hz:z=(k:Int):=HZ.out.trans f1
   rw [f2] at HE2
   subst hz
   obtain ⟨r1,r2,r4⟩:=hR.out _ hWw22
   have hkn:k<n:=by have:=HNL.out;omega
   have hki:(k:Int)<(n:Int):=tZ1
   obtain ⟨ad,rfl,-,c0,c1,c2,c3,c4⟩:=set_at r1 HNL.out hkn
   obtain ⟨x,hx⟩:∃ x,x=all[k]'hk:=⟨_,rfl⟩
   rw [← hx] at c0 c1 c2 c3 c4 HE2
   have hxm:x∈all:=tZ12
   have r5:=(r4 x hxm).snaps
   have hsn:=HVS.out x hxm
   have HC:=Lib.hid (refSnap_any (.string ⟨x.path.toArray⟩) (.string ⟨x.org.toArray⟩) (.slice x.body.A x.body.n x.body.c) (.slice x.own.A x.own.n x.own.c) x.snaps.l x.snaps.n r5.1 x.snaps.A x.snaps.c m w22 B r5.2.2 tZ6 (by have:=hsn.snaps;omega))
   have HA:=Lib.hid (firstI_any (fun y:SnapR=>y.nm == m) x.snaps.l)
   have HE3:Hid (V=x.snaps.l.any fun y=>y.nm == m):=HE2
   obtain ⟨yp,yo,⟨e1,e2,e3,el⟩,⟨u1,u2,u3,ul⟩,⟨g1,g2,g3,gl⟩⟩:=x
   simp only at c0 c1 c2 c3 c4 HC HA HE3
   clear hx f1 f2 HE2 r1 r2 r4 r5 hsn hxm hR HZ HVS HNL
   go_wp2_with fail
   refine HC.out.mono ?_
   rintro e w23 ⟨rfl,hb23⟩
   have HBG:=Lib.hid (HB2.out.trans ((hWw22.trans (hb23.mono hWw22.size)).mono tZ6))
   have HA2:Hid (V=decide ((0:Int)≤findN ul m)):=tZ105
   clear c0 c1 c2 c3 c4 hb23 HC HA HE3
   go_wp2_with fail
   go_ret
   exact ⟨by rw [HA2.out];rfl,HBG.out⟩):p:=h
theorem mZ192{p:Prop}(h:p:=by
 clear hb21
 obtain ⟨t0,t1,t2,t3,t4,t5,t6,q0,q1,q2,q3,q4⟩:=hS.out _ hWw21
 clear hc
 have hc:=hFd.out [] _ hWw21
 go_wp2_with fail
 refine (hc).mono ?_
 rintro e w22 ⟨rfl,hb22⟩
 have hWw22:=hWw21.trans (hb22.mono hWw21.size)
 clear hb22
 obtain ⟨t0,t1,t2,t3,t4,t5,t6,q0,q1,q2,q3,q4⟩:=hS.out _ hWw22
 go_wp2_with fail
 go_ret
 exact ⟨by rw [HE.out];rfl,HB2.out.trans (hWw22.mono tZ6)⟩):p:=h
theorem mZ193{p:Prop}(h:p:=by
 clear hr hrw hbad hgood
 go_wp2_with fail
 refine (hN _).mono ?_
 rintro e w4 ⟨rfl,rfl⟩
 go_wp2_with fail
 refine (hV _).mono ?_
 rintro e w5 ⟨rfl,hb5⟩
 have hbf:=hb1.trans (hb5.mono hb1.size)
 obtain ⟨q0,q1,q2,hprev⟩:=hS.out _ hb5
 clear hS hb5 hb1
 clear hprev
 go_wp2_with fail
 go_ret
 exact ⟨by rw [HB.out];rfl,hbf⟩):p:=h
theorem mZ194{p:Prop}(h:p:=by
 go_wp2_with fail
 go_roundw
 case rel=>exact ⟨k+1,by omega,by go_num,HG,below_drewN hbf _⟩
 case measure=>simp [intOf];omega):p:=h
theorem mZ195{p:Prop}(h:p:=by
 as_aux_lemma =>
  have HB:=Lib.hid (hbad.out (.inl tZ18))
  refine zN hCl.out ?_
  iterate 21 refine zX ?_
  refine wpQuiet_nil (HQQ.out _ (fun W hW=>?_))
  skip
  go_wp2_with fail
  go_ret
  exact ⟨by rw [HB.out];rfl,HB1.out.trans (hW.mono tZ13)⟩):p:=h
theorem mZ196{p:Prop}(h:p:=by
 as_aux_lemma =>
  have HB:=Lib.hid (hbad.out (.inr (d5.out.2 hbl)))
  rw [leq_of_not hbl] at hle
  iterate 3 refine zX ?_
  refine wpQuiet_nil (HQQ.out _ (fun W hW=>?_))
  skip
  go_wp2_with fail
  go_ret
  exact ⟨by rw [HB.out];rfl,HB1.out.trans (hW.mono tZ13)⟩):p:=h
theorem mZ197{p:Prop}(h:p:=by
 go_wp2_with fail
 go_roundw
 case rel=>exact ⟨k+1,by omega,by go_num,HGG.out,hW⟩
 case measure=>simp [intOf];omega):p:=h
theorem mZ198{p:Prop}(h:p:=by
 as_aux_lemma =>
  have HG:=d5.out.1 hbl
  rw [leq_of_lt hbl] at hle
  iterate 3 refine zX ?_
  refine wpQuiet_nil (HQQ.out _ (fun W hW=>?_))
  skip
  have HGG:=Lib.hid (hgood.out tZ18 HG)
  exact mZ197):p:=h
theorem mZ199{p:Prop}(h:p:=by
 as_aux_lemma =>
  iterate 18 refine zX ?_
  refine wpQuiet_nil (HQQ.out _ (fun W hW=>?_))
  skip
  have HGG:=Lib.hid (hgood.out tZ18 d5.out)
  exact mZ197):p:=h
theorem mZ200{p:Prop}(h:p:=by
 rcases c.E_two with h6 | h6
 ·exact h6
 ·rw [if_pos h6] at h1
  exact absurd tZ4 h1):p:=h
theorem mZ201{p:Prop}(h:p:=by
 injection h with h _
 cases h):p:=h
theorem mZ202{p:Prop}(h:p:=by
 rw [HU.out]
 clear hkn
 go_wp2_with fail
 go_ret
 exact ⟨rfl,hBW.out _ hbw.out⟩):p:=h
theorem mZ203{p:Prop}(h:p:=by
 go_wp2_with fail
 go_roundw
 case rel=>exact ⟨k+1,by omega,by rw [HN.out],by go_num,hbw⟩
 case measure=>simp [intOf];omega):p:=h
theorem mZ204{p:Prop}(h:p:=by
 cases hc:Op.bytesLess b.path s.path with
 | false=>rfl
 | true=>exact absurd (by simpa using (cmpS_neg b.path s.path).2 hc) h1):p:=h
theorem mZ205{p:Prop}(h:p:=by
 have:=List.all_eq_true.1 List.all_takeWhile x hx
 exact (cmpS_neg _ _).1 (by simpa using this)):p:=h
theorem mZ206{p:Prop}(h:p:=by
 show World.ownsRow _ _ _ _ _ _ (cellsK encSet (L++[S0]))
 rw [cellsK_append,cellsK_one,HS0.out]
 exact HON.out):p:=h
theorem mZ207{p:Prop}(h:p:=by
 exact absurd hil tZ4):p:=h
theorem mZ208{p:Prop}(h:p:=by
 obtain ⟨r1,r2,r3,r4,r5,r6,r7⟩:=hS.out W hb0
 exact zP):p:=h
theorem mZ209{p:Prop}(h:p:=by
 rw [hls] at hge
 go_quiet (fail)
 go_wp2_with fail
 go_meet
 exact ⟨by simp [hls],_,rfl⟩):p:=h
theorem mZ210{p:Prop}(h:p:=by
 intro i oo ho m2 W hb0 hmi hcl hdeps AA KK hA hK
 rcases i with _ | _ | _ | _ | _ | i
 ·injection ho with ho;subst ho
  have ef1:AA.tmps[1]?.getD undef=.pointer (some ⟨w.heap.size,0,none⟩):=tF hA
  obtain ⟨c0,c1,c2,c3,c4,c5,c6⟩:=hS.out W hb0
  exact zP
 ·injection ho with ho;subst ho
  have e0:=eD hdeps hA 0 4
  clear hA hdeps hcl hmi
  have hKK:=hK
  clear hK
  go_simp
  refine (hCG.out W hb0).mono ?_
  rintro e w5 ⟨rfl,hbn⟩
  exact hKK _ _ hbn (Eq.refl _)
 ·injection ho with ho;subst ho
  have ef1:AA.tmps[1]?.getD undef=.pointer (some ⟨w.heap.size,0,none⟩):=tF hA
  exact zP
 ·injection ho with ho;subst ho
  have e2:=eD hdeps hA 2 6
  obtain ⟨c0,c1,c2,c3,c4,c5,c6⟩:=hS.out W hb0
  exact zP
 ·injection ho with ho;subst ho
  have e1:=eD hdeps hA 1 5
  have e3:=eD hdeps hA 3 7
  exact zP
 ·simp at ho):p:=h
theorem mZ211{p:Prop}(h:p:=by
 have hbf:=HB1.out.trans (hbw.mono HB1.out.size)
 subst hkn
 clear hown hbw
 go_wp2_with fail
 go_ret
 exact ⟨⟨A1,c1,by rw [← HML.out];rfl⟩,hbf⟩):p:=h
theorem mZ212{p:Prop}(h:p:=by
 show _=_
 rw [hml.out,List.take_of_length_le tZ14]):p:=h
theorem mZ213{p:Prop}(h:p:=by
 obtain ⟨A2,c2,rfl,_,_,_⟩:=own_form ho'
 go_wp2_with fail
 go_roundw
 case rel=>exact ⟨k+1,m+1,A2,c2,by omega,by omega,rfl,by go_num,by show _=_;rw [HNT2.out,List.length_append,← hml.out];rfl,by rw [HNT2.out,scells_append];exact ho',hbf.trans hb'⟩
 case measure=>simp [intOf];omega):p:=h
theorem mZ214{p:Prop}(h:p:=by
 clear HNT
 go_wp2_with (at_builtin;(refine wpList_push w4 rfl (.tmp 46) (.tmp 53) 51 rfl W1.heap.size 9 i0 (.string ByteArray.empty) 1 16 Tryz.underlying51 hi0 hz0 hz1 hz2 rfl tZ1 (.slice A1 m c1) m _ rfl ho4 1 #[.string ⟨xp.toArray⟩] 9 rfl rfl tZ5 tZ11 tZ1 hbase ?_);intro v' w' ho' hb' hg')
 exact mZ213):p:=h
theorem mZ215{p:Prop}(h:p:=by
 have KZ:=Lib.hid (hKz.out w2 HW2.out)
 have HB:=Lib.hid (hBW.out w2 HW2.out)
 obtain ⟨WR,hW4,hth,HL,HBW,hgw⟩:=res7 (g:=(w.heap.size+1)) [.string ⟨#[]⟩,.int .i64 0,.int .i64 0,.slice none 0 0,.slice none 0 0,.slice none 0 0,.slice none 0 0] KZ.out HB.out tZ1
 clear hgw
 go_wp2_with (refine wpList_store_mid rfl 27 (.tmp 4) (.tmp 17) rfl ((w.heap.size+1)) 0 #[.string ⟨#[]⟩,.int .i64 0,.int .i64 0,.slice none 0 0,.slice none 0 0,.slice none 0 0,.slice none 0 0] rfl rfl hth.out tZ2 tZ5 ?_;rw [← hW4];clear hW4)
 exact mZ163):p:=h
theorem mZ216{p:Prop}(h:p:=by
 have KZ:=Lib.hid (hKz.out w2 HW2.out)
 have HB:=Lib.hid (hBW.out w2 HW2.out)
 obtain ⟨WR,hW4,hth,HL,HBW,hgw⟩:=res7 (g:=(w.heap.size+1)) [.string ⟨#[]⟩,.int .i64 0,.int .i64 0,.slice none 0 0,.slice none 0 0,.slice none 0 0,.slice none 0 0] KZ.out HB.out tZ1
 clear hgw
 go_wp2_with (refine wpList_store_mid rfl 27 (.tmp 4) (.tmp 17) rfl ((w.heap.size+1)) 0 #[.string ⟨#[]⟩,.int .i64 0,.int .i64 0,.slice none 0 0,.slice none 0 0,.slice none 0 0,.slice none 0 0] rfl rfl hth.out tZ2 tZ5 ?_;rw [← hW4];clear hW4)
 exact mZ164):p:=h
theorem mZ217{p:Prop}(h:p:=by
 injection ho with ho;subst ho
 have ef7:AA.tmps[7]?.getD undef=.int .i64 (k:Int):=tF hA
 exact zP):p:=h
theorem mZ218{p:Prop}(h:p:=by
 injection ho with ho;subst ho
 have ef10:AA.tmps[10]?.getD undef=.pointer (some ⟨g5,0,none⟩):=tF hA
 exact zP):p:=h
theorem mZ219{p:Prop}(h:p:=by
 obtain ⟨WR,hW4,hth,HL,HBW,hgw⟩:=res7 (g:=(w.heap.size+1)) [.string ⟨#[]⟩,.int .i64 0,.int .i64 0,.slice none 0 0,.slice none 0 0,.slice none 0 0,.slice none 0 0] KZ.out HB.out tZ1
 clear hgw
 go_wp2_with (refine wpList_store_mid rfl 27 (.tmp 4) (.tmp 41) rfl ((w.heap.size+1)) 0 #[.string ⟨#[]⟩,.int .i64 0,.int .i64 0,.slice none 0 0,.slice none 0 0,.slice none 0 0,.slice none 0 0] rfl rfl hth.out tZ2 tZ5 ?_;rw [← hW4];clear hW4)
 exact mZ165):p:=h
theorem mZ220{p:Prop}(h:p:=by
 rw [hC]
 exact rasked_any ⟨nm,qu,nx,⟨s1,sn,s3,sl⟩,⟨gA,gN,gC,gL⟩,⟨t1,tn,t3,tl⟩,⟨l1,ln,l3,ll⟩⟩ p W B (hrw.out W h).2 (hrw.out W h).1 hz hp):p:=h
theorem mZ221{p:Prop}(h:p:=by
 clear HV
 go_wp2_with fail
 go_ret
 exact ⟨by rw [HX.out];rfl,hBW.out _ HW4.out⟩):p:=h
theorem mZ222{p:Prop}(h:p:=by
 exact bodyPost_ret (v:=.tuple #[.agg #[.string ⟨mm.toArray⟩,.int .i64 mq,.int .i64 mx,.slice m1 m2 m3,.slice n1 n2 n3,.slice p1 p2 p3,.slice q1 q2 q3],.int .i64 0]) (results_cell_tmp rfl rfl HL.out) rfl (tenPost_ok HX.out HBW.out ⟨mm,mq,mx,⟨m1,m2,m3,ml⟩,⟨n1,n2,n3,nl⟩,⟨p1,p2,p3,pl⟩,⟨q1,q2,q3,ql⟩⟩ HOO.out HCY.out)):p:=h
theorem mZ223{p:Prop}(h:p:=by
 exact bodyPost_ret (v:=.tuple #[.agg #[.string ⟨#[]⟩,.int .i64 0,.int .i64 0,.slice none 0 0,.slice none 0 0,.slice none 0 0,.slice none 0 0],.int .i64 42]) (results_cell_tmp rfl rfl HL.out) rfl (tenPost_err HX.out tZ4 HBW.out)):p:=h
theorem mZ224{p:Prop}(h:p:=by
 obtain ⟨n,hcs,hn⟩:=h.int ht
 simp [Lit.wf,IntKind.min,IntKind.max,IntKind.signed,IntKind.bits] at hn
 exact ⟨n,hcs,by omega,by omega⟩):p:=h
theorem mZ225{p:Prop}(h:p:=by
 exact ⟨⟨A,n,c,l⟩,hcs,⟨hn,hc,hr⟩,by show n≤_;omega,hg⟩):p:=h
end Go.Proofs
