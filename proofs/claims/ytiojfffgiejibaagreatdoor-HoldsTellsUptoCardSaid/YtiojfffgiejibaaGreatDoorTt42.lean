/-
  slices.Delete of one element, at elements of 1 cells, by its contract. holds.Release: a tag less. blocks.Free, by its contract.
-/
import Derived.Test.YtiojfffgiejibaaGreatDoorTtM1
import Derived.Test.YtiojfffgiejibaaGreatDoorRows
import Derived.Handy
import Derived.Lib.Hide
import Derived.Deep.RegionLaw
import Derived.WalkKit
import Derived.WalkSpells
import Derived.Below
import Derived.Laws.OwnMore
import Derived.Deep.AppendLies
import Derived.Deep.Draws
import Derived.Laws.Rows
import Derived.Maps.AppendAt
import Derived.RegionTactic
import Derived.OwnWalk
import Derived.Deep.QuietTactic
import Derived.BigQuiet
import Derived.Laws.CopyOwn
import Derived.IntWalk
import Derived.Lib.Overlaps
import Derived.Lib.AppendZerosOnto
import Derived.Deep.Quiet
import Derived.ProofKit
import Derived.OpenShut
import Derived.ShutString
import Derived.ChangeOld
import Derived.Carry
import Derived.SizedLaws
import Derived.JoinedCond
import Derived.Deep.CondSized
import Derived.Deep.Slices
import Derived.Deep.Fields
import Derived.Lib.SmallJoins
import Derived.Lib.AppendZeros
import Derived.Orders
import Derived.Lib.SplitLaws
import Derived.Lib.LastIndexByte
import Derived.Lib.Strings
import Derived.Sort.Walk0
import Derived.Sort.KeysCollected
import Derived.Deep.MidRow
import Derived.Shelf.Strings.Search1
import Derived.Shelf.Strings.Search2
import Derived.Shelf.Strings.Search3
import Derived.Shelf.Strings.Cut
import Derived.Shelf.Strings.Count
import Derived.Shelf.LaysM
import Derived.Shelf.Strings.Shaped
import Derived.Shelf.Strings.LastIndex
import Derived.Shelf.Strings.Split
import Derived.Shelf.Strings.SplitShaped
import Derived.Shelf.Unicode.Decode
import Derived.Shelf.Strings.RuneCount
import Derived.Shelf.Strings.Explode
import Derived.Shelf.Unicode.DecodeSlow
import Derived.Shelf.Slices.Turned
import Derived.Test.YtiojfffgiejibaaGreatDoorProg
import Derived.Laws.BytesString
import Derived.Laws.IdiomStrings
import Derived.Lib.ConvBytes
import Derived.Deep.DeepCutAuto
import Derived.Great.BuildSlice
import Derived.Test.YtiojfffgiejibaaGreatDoorT0
import Derived.Test.YtiojfffgiejibaaGreatDoorTt1
import Derived.Test.YtiojfffgiejibaaGreatDoorTt5
import Derived.Test.YtiojfffgiejibaaGreatDoorTt6
import Derived.Test.YtiojfffgiejibaaGreatDoorTt7
import Derived.Test.YtiojfffgiejibaaGreatDoorTt8
import Derived.Test.YtiojfffgiejibaaGreatDoorTt10
import Derived.Test.YtiojfffgiejibaaGreatDoorTt11
import Derived.Test.YtiojfffgiejibaaGreatDoorTt12
import Derived.Test.YtiojfffgiejibaaGreatDoorTt15
import Derived.Test.YtiojfffgiejibaaGreatDoorTt16
import Derived.Test.YtiojfffgiejibaaGreatDoorTt19
import Derived.Test.YtiojfffgiejibaaGreatDoorTt20
import Derived.Test.YtiojfffgiejibaaGreatDoorTt21
import Derived.Test.YtiojfffgiejibaaGreatDoorTt23
import Derived.Test.YtiojfffgiejibaaGreatDoorTt24
import Derived.Test.YtiojfffgiejibaaGreatDoorTt25
import Derived.Test.YtiojfffgiejibaaGreatDoorTt30
import Derived.Test.YtiojfffgiejibaaGreatDoorTt33
import Derived.Test.YtiojfffgiejibaaGreatDoorTt34
import Derived.Test.YtiojfffgiejibaaGreatDoorTt35
import Derived.Test.YtiojfffgiejibaaGreatDoorTt36
import Derived.Test.YtiojfffgiejibaaGreatDoorTt37
import Derived.Test.YtiojfffgiejibaaGreatDoorTt39
namespace Go.Proofs.YtiojfffgiejibaaGreatDoor
open Go.RowKit
theorem Tryz.delTx_size:(Tryz.prog.info? 9).map (·.size)=some 1:=tZ2
theorem Tryz.delTx_zero (w:World):(zeroValue 9).run Tryz.prog w=.ok (.string ByteArray.empty) w:=tZ2
theorem delTx_splice (cur:List Value) (n i c0:Nat) (xs:List Value) (hx:cur.take (n)=xs) (hi:i<n) (hn:n≤c0) (hl:cur.length=c0) (zs:List Value) (hz:zs.length=1) :
  (splice (splice cur (i) (xs.drop (i+1))) ((n-1)) zs).take ((n-1))=xs.take (i)++xs.drop (i+1)∧(splice (splice cur (i) (xs.drop (i+1))) ((n-1)) zs).length=c0:=by
 have hxl:xs.length=n:=tZ89
 have hdl:(xs.drop (i+1)).length=(n-1-i):=tZ71
 have h1:(splice cur (i) (xs.drop (i+1))).length=c0:=by
  exact mZ189
 refine ⟨?_,?_⟩
 ·have e1:(splice (splice cur (i) (xs.drop (i+1))) ((n-1)) zs).take ((n-1))=(splice cur (i) (xs.drop (i+1))).take ((n-1)):=by
   show List.take _ (List.take _ (splice cur (i) (xs.drop (i+1)))++(zs++_))=_
   exact mZ188
  rw [e1]
  have hc:cur.take (i)=xs.take (i):=by rw [← hx,List.take_take,Nat.min_eq_left tZ1]
  have hL:(xs.take (i)++xs.drop (i+1)).length=(n-1):=tZ81
  show List.take _ (cur.take (i)++(xs.drop (i+1)++_))=_
  exact mZ187
 ·show (List.take _ (splice cur (i) (xs.drop (i+1)))++(zs++List.drop _ _)).length=_
  exact mZ186
set_option maxRecDepth 100000 in
set_option maxHeartbeats 1000000 in
theorem delTx_any (xs:List Value) (h1:∀ u∈xs,u.oneCell'=true) (n i c0 base:Nat) (A0:Option Addr) (w:World) (hi:i<n) (hn:n≤5000000000000) (hown:w.ownsRow base 9 1 (.slice A0 n c0) n xs) :
  Calls Tryz.prog 84 #[.slice A0 n c0,.int .i64 i,.int .i64 ((i:Int)+1)] w fun e w'=>∃ v,e=.returned v∧w'.ownsRow base 9 1 v (n-1) (xs.take (i)++xs.drop (i+1))∧w.grownBy w' (Value.slice A0 n c0).ownBlock:=by
 rcases hown.2 with ⟨_,h0⟩ | ⟨g,cap,cur,hs,hbg,hh,hnc,hcm,hsz,hx⟩
 ·omega
 injection hs with e1 _ e2
 subst e1 e2
 have hh':w.heap[g]?=some (.cells cur.toList.toArray 9 (0,0)):=by simpa using hh
 have hcl:cur.toList.length=c0:=tZ114
 obtain ⟨cl,hcl0⟩:∃ cl,cl=cur.toList:=⟨_,rfl⟩
 rw [← hcl0] at hh' hcl hx
 rw [Nat.mul_one] at hx
 have hxl:xs.length=n:=by have:=hown.1;omega
 have hdl:(xs.drop (i+1)).length=(n-1-i):=tZ71
 have hcells:∀ (w':World),w'.heap[g]?=w.heap[g]?→∀ j v,(xs.drop (i+1))[j]?=some v→w'.cell? ((⟨g,(i+1),none⟩:Addr).add j)=some v:=by
  intro w' hw j v hv
  have hv2:cl[(i+1)+j]?=some v:=by
   exact mZ192
  have had:(⟨g,(i+1),none⟩:Addr).add j=⟨g,(i+1)+j,none⟩:=tZ49
  rw [had,cell_of_row w' g _ _ _ _ (hw.trans hh')]
  simpa using hv2
 have hni:(i:Int)+1≤(n:Int):=tZ1
 have hin:(i:Int)≤(n:Int):=tZ1
 have hnci:(n:Int)≤(c0:Int):=tZ1
 have hcmi:c0≤9223372036854775807:=by unfold maxLen at hcm;omega
 have hne:(((i:Int)) == (i:Int)+1)=false:=tZ101
 have ht1:((i:Int)+1).toNat=i+1:=tZ1
 have hsub:n-(i+1)=n-1-i:=tZ1
 have hi1c:(i:Int)+1≤(c0:Int):=tZ1
 have hic:(i:Int)≤(c0:Int):=tZ1
 have hi0:(0:Int)≤(i:Int)+1:=tZ1
 have HC:=Lib.hid hcells
 have HH:=Lib.hid hh'
 have HDL:=Lib.hid hdl
 have HXL:=Lib.hid hxl
 have HCL:=Lib.hid hcl
 have HX:=Lib.hid hx
 have H1:=Lib.hid (fun u hu=>h1 u (List.mem_of_mem_drop (i:=(i+1)) hu))
 have HSP:=Lib.hid (fun zs hz=>delTx_splice cl n i c0 xs hx hi hnc hcl zs hz)
 have hgl:g<w.heap.size:=heap_lt hh'
 clear hcells hh' hdl hxl hcl hx h1 hown hh hsz hcl0
 go_enter Tryz.func84,Tryz.ntmps84
 go_wp2_with fail
 by_cases hlast:c0=i+1
 ·have hnl:n=i+1:=tZ1
  subst hlast
  subst hnl
  have hic2:(i:Int)≤(i:Int)+1:=tZ1
  have hnil:xs.drop (i+1)=[]:=List.drop_eq_nil_of_le tZ144
  have HNIL:=Lib.hid hnil
  clear hnil
  go_region_law (refine step_appendK rfl _ _ 51 rfl 9 1 Tryz.underlying51 Tryz.delTx_size g i (i+1) ⟨g,0,none⟩ 0 0 tZ30 tZ30 cl 9 HH.out [] tZ4 tZ4 (by rw [HCL.out];simp) tZ1 tZ4 ?_;intro w1 hg1 hgr1)
  have hgr:=grown_drew hgr1
  have HGR:=Lib.hid hgr
  have HG1:=hg1
  rw [Nat.mul_one] at HG1
  have hz1:∀ u∈(.string ByteArray.empty:Value).cells.toList,u.oneCell'=true:=fun u hu=>List.all_eq_true.1 (show ((.string ByteArray.empty:Value).cells.toList.all (·.oneCell'))=true from rfl) u hu
  clear hg1 hgr1 hgr
  simp only [Act.put,zA]
  go_wp2_with (with_reducible refine wpList_clearK rfl (.tmp 31) 51 rfl 9 (.string ByteArray.empty) Tryz.underlying51 Tryz.delTx_zero hz1 g (i) 1 1 tZ92 (splice cl (i) ([])) 9 HG1.out (by simp [splice,Value.cells,HCL.out] <;> omega) ?_;intro w2 zs hzs hg2 hgr2)
  have hzz:zs.length=1:=by rw [hzs];rfl
  have hsp:=HSP.out zs hzz
  rw [HNIL.out,Nat.add_sub_cancel] at hsp
  have hrow:w2.ownsRow base 9 1 (.slice (some ⟨g,0,none⟩) i (i+1)) i (xs.take i++[]):=own_of_row (sz:=1) (base:=base) hg2.out hbg (Nat.le_succ i) hcm tZ163 tZ164
  exact mZ191
 ·have hlt2:i+1<c0:=tZ1
  obtain ⟨p,hp⟩:∃ p,p=n-1:=⟨_,rfl⟩
  have hip:i+(n-1-i)=p:=tZ1
  have hnp1:n-p=1:=tZ1
  have hpn:(p:Int)≤(n:Int):=tZ1
  have hpc:(p:Int)≤(c0:Int):=tZ1
  have hcp:¬ c0=p:=tZ1
  have HIP:=Lib.hid hip
  have HP:=Lib.hid hp
  clear hip hp
  go_region_law (refine step_appendK rfl _ _ 51 rfl 9 1 Tryz.underlying51 Tryz.delTx_size g i c0 ⟨g,(i+1),none⟩ (n-1-i) (c0-(i+1)) tZ30 tZ30 cl 9 HH.out (xs.drop (i+1)) (by rw [HDL.out,Nat.mul_one]) (HC.out _ rfl) (by rw [HDL.out,HCL.out];omega) tZ1 H1.out ?_;intro w1 hg1 hgr1)
  have hgr:=grown_drew hgr1
  have HGR:=Lib.hid hgr
  have HG1:=hg1
  rw [Nat.mul_one] at HG1
  have hz1:∀ u∈(.string ByteArray.empty:Value).cells.toList,u.oneCell'=true:=fun u hu=>List.all_eq_true.1 (show ((.string ByteArray.empty:Value).cells.toList.all (·.oneCell'))=true from rfl) u hu
  clear hg1 hgr1 hgr
  simp only [Act.put,zA]
  rw [HIP.out]
  go_wp2_with (with_reducible refine wpList_clearK rfl (.tmp 31) 51 rfl 9 (.string ByteArray.empty) Tryz.underlying51 Tryz.delTx_zero hz1 g (p) 1 (c0-p) tZ92 (splice cl (i) (xs.drop (i+1))) 9 HG1.out (by have h2:=(HSP.out (.string ByteArray.empty:Value).cells.toList rfl).2;have h3:=HDL.out;have h4:=HCL.out;have h5:=HP.out;unfold splice;simp only [List.length_append,List.length_take,List.length_drop] at h3 ⊢;simp [Value.cells];omega) ?_;intro w2 zs hzs hg2 hgr2)
  have hzz:zs.length=1:=by rw [hzs];rfl
  have hsp:=HSP.out zs hzz
  rw [← HP.out] at hsp
  have hrow:w2.ownsRow base 9 1 (.slice (some ⟨g,0,none⟩) p c0) p (xs.take i++xs.drop (i+1)):=own_of_row (sz:=1) (base:=base) hg2.out hbg (by have:=HP.out;omega) hcm tZ163 tZ164
  exact mZ190
end Go.Proofs.YtiojfffgiejibaaGreatDoor
namespace Go.Proofs.YtiojfffgiejibaaGreatDoor
open Go.RowKit
theorem delT_cells (g:BS) (l:List BS):(cellsK encS l).take (posT g l)++(cellsK encS l).drop (posT g l+1)=cellsK encS (delT g l):=by
 unfold delT
 exact mZ193
theorem isT_lt {g:BS} {l:List BS} (h:isT g l=true):posT g l<l.length:=by
 unfold isT atF at h
 unfold posT
 rcases Nat.lt_or_ge (posF (fun x=>cmpS x g) l) l.length with h1 | h1
 ·exact h1
 ·rw [List.getElem?_eq_none h1] at h
  cases h
theorem delT_len {g:BS} {l:List BS} (h:isT g l=true):(delT g l).length=l.length-1:=by
 have:=isT_lt h
 unfold delT
 simp only [List.length_append,List.length_take,List.length_drop]
 omega
set_option maxRecDepth 100000 in
set_option maxHeartbeats 8000000 in
theorem rel_any (t:TenR) (p n:BS) (tg:BS) (w:World) (B:Nat) (hB:B≤w.heap.size) (hr:t.rd w B) (hz:t.sz) (hp:p.length≤3000000000) (hmx:HasMax w) :
  Calls Tryz.prog 32 #[t.val,.string ⟨p.toArray⟩,.string ⟨n.toArray⟩,.string ⟨tg.toArray⟩] w (TenPost w (t.con.release p n tg)):=by
 obtain ⟨V,hV⟩:∃ V,V=t.con.release p n tg:=⟨_,rfl⟩
 rw [← hV]
 obtain ⟨R,hR⟩:∃ R,R=t.con.foundH p n tg:=⟨_,rfl⟩
 have hway:=foundH_way t t.sets.l rfl p n tg R hR
 have hcz:=TenC.sz_of hr hz
 obtain ⟨nm,qu,nx,⟨s1,sn,s3,sl⟩,⟨gA,gN,gC,gL⟩,⟨t1,tn,t3,tl⟩,⟨l1,ln,l3,ll⟩⟩:=t
 show Calls Tryz.prog 32 #[.agg #[.string ⟨nm.toArray⟩,.int .i64 qu,.int .i64 nx,.slice s1 sn s3,.slice gA gN gC,.slice t1 tn t3,.slice l1 ln l3],.string ⟨p.toArray⟩,.string ⟨n.toArray⟩,.string ⟨tg.toArray⟩] w _
 have hb:=(((Below.refl w.heap.size w).alloc (Nat.le_refl _) (.cells #[.string ⟨nm.toArray⟩,.int .i64 qu,.int .i64 nx,.slice s1 sn s3,.slice gA gN gC,.slice t1 tn t3,.slice l1 ln l3] 27)).alloc tZ4 (.cells #[.string ⟨#[]⟩,.int .i64 0,.int .i64 0,.slice none 0 0,.slice none 0 0,.slice none 0 0,.slice none 0 0] 27))
 have kt:=Blk.new w 27 #[.string ⟨nm.toArray⟩,.int .i64 qu,.int .i64 nx,.slice s1 sn s3,.slice gA gN gC,.slice t1 tn t3,.slice l1 ln l3]
 replace kt:=kt.alloc (.cells #[.string ⟨#[]⟩,.int .i64 0,.int .i64 0,.slice none 0 0,.slice none 0 0,.slice none 0 0,.slice none 0 0] 27)
 have kz:=Blk.new (w.alloc (.cells #[.string ⟨nm.toArray⟩,.int .i64 qu,.int .i64 nx,.slice s1 sn s3,.slice gA gN gC,.slice t1 tn t3,.slice l1 ln l3] 27)) 27 #[.string ⟨#[]⟩,.int .i64 0,.int .i64 0,.slice none 0 0,.slice none 0 0,.slice none 0 0,.slice none 0 0]
 rw [show (w.alloc (.cells #[.string ⟨nm.toArray⟩,.int .i64 qu,.int .i64 nx,.slice s1 sn s3,.slice gA gN gC,.slice t1 tn t3,.slice l1 ln l3] 27)).heap.size=w.heap.size+1 by simp] at kz
 have hsz:((w.alloc (.cells #[.string ⟨nm.toArray⟩,.int .i64 qu,.int .i64 nx,.slice s1 sn s3,.slice gA gN gC,.slice t1 tn t3,.slice l1 ln l3] 27)).alloc (.cells #[.string ⟨#[]⟩,.int .i64 0,.int .i64 0,.slice none 0 0,.slice none 0 0,.slice none 0 0,.slice none 0 0] 27)).heap.size=w.heap.size+2:=tZ4
 obtain ⟨W1,hW1⟩:∃ W,W=((w.alloc (.cells #[.string ⟨nm.toArray⟩,.int .i64 qu,.int .i64 nx,.slice s1 sn s3,.slice gA gN gC,.slice t1 tn t3,.slice l1 ln l3] 27)).alloc (.cells #[.string ⟨#[]⟩,.int .i64 0,.int .i64 0,.slice none 0 0,.slice none 0 0,.slice none 0 0,.slice none 0 0] 27)):=⟨_,rfl⟩
 rw [← hW1] at hb hsz kt kz
 have hKt:Hid (∀ W,Below W1.heap.size W1 W→Blk W w.heap.size 27 #[.string ⟨nm.toArray⟩,.int .i64 qu,.int .i64 nx,.slice s1 sn s3,.slice gA gN gC,.slice t1 tn t3,.slice l1 ln l3]):=fun W h=>kt.below h tZ1
 have hKz:Hid (∀ W,Below W1.heap.size W1 W→Blk W (w.heap.size+1) 27 #[.string ⟨#[]⟩,.int .i64 0,.int .i64 0,.slice none 0 0,.slice none 0 0,.slice none 0 0,.slice none 0 0]):=fun W h=>kz.below h tZ1
 have hBW:Hid (∀ W,Below W1.heap.size W1 W→Below w.heap.size w W):=fun W h=>hb.trans (h.mono tZ1)
 have hSZ:Hid (∀ W,Below W1.heap.size W1 W→w.heap.size+2≤W.heap.size):=fun W h=>by have:=h.size;omega
 have hW0:Hid (Below W1.heap.size W1 W1):=Below.refl _ _
 have hrw:Hid (∀ W,Below W1.heap.size W1 W→TenR.rd W B ⟨nm,qu,nx,⟨s1,sn,s3,sl⟩,⟨gA,gN,gC,gL⟩,⟨t1,tn,t3,tl⟩,⟨l1,ln,l3,ll⟩⟩∧B≤W.heap.size∧HasMax W):=fun W h =>
  ⟨TenR.rd.below hr ((hBW.out W h).mono hB),by have:=hSZ.out W h;omega,hmx.below (hBW.out W h)⟩
 obtain ⟨C,hC⟩:∃ C,C=TenR.con ⟨nm,qu,nx,⟨s1,sn,s3,sl⟩,⟨gA,gN,gC,gL⟩,⟨t1,tn,t3,tl⟩,⟨l1,ln,l3,ll⟩⟩:=⟨_,rfl⟩
 have hHC:=Lib.hid hC
 rw [← hC] at hR hway hcz hV
 simp only at hway
 have HR:=Lib.hid hR
 have HV:=Lib.hid hV
 have HCZ:=Lib.hid hcz
 have HZ:=Lib.hid hz
 have HP:=Lib.hid hp
 obtain ⟨a0,k0,e0⟩:=R
 have hFO:Hid (∀ W,Below W1.heap.size W1 W→Calls Tryz.prog 80 #[.agg #[.string ⟨nm.toArray⟩,.int .i64 qu,.int .i64 nx,.slice s1 sn s3,.slice gA gN gC,.slice t1 tn t3,.slice l1 ln l3],.string ⟨p.toArray⟩,.string ⟨n.toArray⟩,.string ⟨tg.toArray⟩] W fun e w'=>e=.returned (.tuple #[.int .i64 a0,.int .i64 k0,.int .i64 e0])∧Below W.heap.size W w'):=fun W h=>by
  exact mZ204
 have hCP:Hid (∀ W,Below W1.heap.size W1 W→Calls Tryz.prog 54 #[.agg #[.string ⟨nm.toArray⟩,.int .i64 qu,.int .i64 nx,.slice s1 sn s3,.slice gA gN gC,.slice t1 tn t3,.slice l1 ln l3]] W fun e w'=>∃ y:TenR,e=.returned y.val∧TenO w' W.heap.size y∧TenR.eqv ⟨nm,qu,nx,⟨s1,sn,s3,sl⟩,⟨gA,gN,gC,gL⟩,⟨t1,tn,t3,tl⟩,⟨l1,ln,l3,ll⟩⟩ y∧(y.sets.l.Pairwise ApartU∧∀ x∈y.sets.l,x.snaps.l.Pairwise ApartT)∧Below W.heap.size W w'):=fun W h =>
  tcopy3_any ⟨nm,qu,nx,⟨s1,sn,s3,sl⟩,⟨gA,gN,gC,gL⟩,⟨t1,tn,t3,tl⟩,⟨l1,ln,l3,ll⟩⟩ W B (hrw.out W h).2.1 (hrw.out W h).1 hz
 have hSN:=Lib.hid (show sn=sl.length from hr.sets.1)
 clear hb hsz kt kz hr hp hmx hV hC hz hcz hR
 go_enter Tryz.func32,Tryz.ntmps32
 have hc:=hFO.out  W1 hW0.out
 have kk:=hKt.out W1 hW0.out
 obtain ⟨c0,c1,c2,c3,c4,c5,c6⟩:=(⟨kk.cell 0,kk.cell 1,kk.cell 2,kk.cell 3,kk.cell 4,kk.cell 5,kk.cell 6⟩:_∧_∧_∧_∧_∧_∧_)
 simp only [zF,zD,zE] at c0 c1 c2 c3 c4 c5 c6
 clear kk
 go_wp2_with fail
 rw [← hW1]
 clear hW1
 refine hc.mono ?_
 clear hc c0 c1 c2 c3 c4 c5 c6
 rintro e w2 ⟨rfl,hb⟩
 have HW2:=Lib.hid (hW0.out.trans (hb.mono hW0.out.size))
 clear hb
 rcases hway with ⟨E,hE,hRe,aB,kB,hFB⟩ | ⟨k,i,hkl,hil,hRe,hFB,hat,hgk,hgi,hnm⟩
 ·obtain ⟨rfl,rfl,rfl⟩:a0=0∧k0=0∧e0=E:=tZ11
  clear hRe
  have hne:e0≠0:=by rcases hE with h | h | h <;> rw [h] <;> decide
  have hneb:(e0 == 0)=false:=tZ116
  have HX:Hid (V=(e0,C)):=by show _=_;rw [HV.out];exact release_bad hFB hne
  exact mZ203
 ·obtain ⟨rfl,rfl,rfl⟩:a0=(k:Int)∧k0=(i:Int)∧e0=0:=tZ11
  clear hRe
  have HX0:Hid (V=if isT tg (sl[k]'hkl).snaps.l[i].con.tags=false then (71,C) else (0,C.putS k ((sl[k]'hkl).con.retag i (sl[k]'hkl).snaps.l[i].con (delT tg (sl[k]'hkl).snaps.l[i].con.tags)))):=by show _=_;rw [HV.out];exact release_at hFB hgk hgi
  have htok0:TagsOk (sl[k]'hkl).snaps.l[i].con.tags:=by
   exact mZ201
  clear HV HR hFB hat
  have hrk:=(hrw.out w2 HW2.out).1
  have hks:k<sn:=tZ44
  have hki:(k:Int)<(sn:Int):=tZ1
  have hk0:(0:Int)≤(k:Int):=tZ1
  obtain ⟨ad,hsa,-,fa0,fa1,fa2,fa3,fa4⟩:=set_at hrk.sets.2.2 hSN.out hks
  simp only at hsa
  have hx:=hrk.eachS _ (List.getElem_mem hkl)
  have hzx:=HZ.out.eachS _ (List.getElem_mem hkl)
  obtain ⟨x,hxx⟩:∃ x,x=sl[k]'hkl:=⟨_,rfl⟩
  simp only [← hxx] at fa0 fa1 fa2 fa3 fa4 hx hzx hgk hil hgi hnm
  have hin:i<x.snaps.n:=tZ86
  have hii:(i:Int)<(x.snaps.n:Int):=tZ1
  have hi0:(0:Int)≤(i:Int):=tZ1
  obtain ⟨az,hza,-,fb0,fb1,fb2,fb3,fb4⟩:=snap_at hx.snaps.2.2 hx.snaps.1 hin
  obtain ⟨zz,hzz⟩:∃ z,z=x.snaps.l[i]'hil:=⟨_,rfl⟩
  have hxi:=hx.each _ (List.getElem_mem hil)
  have hzi:=hzx.each _ (List.getElem_mem hil)
  simp only [← hzz] at fb0 fb1 fb2 fb3 fb4 hgi hnm hxi hzi
  have hHX0:V=if isT tg (x.snaps.l[i]'hil).con.tags=false then (71,C) else (0,C.putS k (x.con.retag i (x.snaps.l[i]'hil).con (delT tg (x.snaps.l[i]'hil).con.tags))):=by have h:=HX0.out;simpa only [hxx] using h
  have htok:TagsOk (x.snaps.l[i]'hil).con.tags:=tZ108
  rw [← hzz] at hHX0 htok
  replace htok:TagsOk zz.tags.l:=htok
  replace hHX0:V=if isT tg zz.tags.l=false then (71,C) else (0,C.putS k (x.con.retag i zz.con (delT tg zz.tags.l))):=hHX0
  have htn4:zz.tags.n≤4:=by have h1:=htok.len;have h2:=hxi.tags.1;omega
  obtain ⟨ps,hps⟩:∃ q,q=posT tg zz.tags.l:=⟨_,rfl⟩
  obtain ⟨ib,hib⟩:∃ q,q=isT tg zz.tags.l:=⟨_,rfl⟩
  have hpsl:ps≤zz.tags.n:=tZ131
  have hBS:Hid (Calls Tryz.prog 81 #[.slice zz.tags.A zz.tags.n zz.tags.c,.string ⟨tg.toArray⟩] w2 fun e w'=>e=.returned (.tuple #[.int .i64 (ps:Int),.bool ib])∧Below w2.heap.size w2 w'):=by
   exact mZ200
  rw [← hib] at hHX0
  have HXa:=Lib.hid hHX0
  have HPS:=Lib.hid hps
  have HIB:=Lib.hid hib
  have HXTR:Hid (∀ W,Below w2.heap.size w2 W→Reads W B 1 zz.tags.A zz.tags.n (cellsK encS zz.tags.l)∧B≤W.heap.size):=fun W h=>⟨hxi.tags.2.2.below (h.mono (hrw.out w2 HW2.out).2.1),by have h1:=(hrw.out w2 HW2.out).2.1;have h2:=h.size;omega⟩
  have HTL:Hid (zz.tags.n=zz.tags.l.length):=hxi.tags.1
  have HGK:=Lib.hid hgk
  have HXN:=Lib.hid hx.snaps.1
  have HIL:=Lib.hid hil
  have HZC:Hid (x.con.snaps[i]?=some zz.con):=hgi
  have HT4:=Lib.hid htn4
  have HPL:=Lib.hid hpsl
  subst hsa
  rw [hza] at fa3
  clear hHX0 HX0 htok0 hps hib hpsl htok hxx hzz hx hzx hxi hzi hrk hin hgi hgk hnm hza fb0 fb1 fb2 fb4 fa0 fa1 fa2 fa4 htn4
  have hc:=hBS.out
  have kk:=hKt.out w2 HW2.out
  obtain ⟨c0,c1,c2,c3,c4,c5,c6⟩:=(⟨kk.cell 0,kk.cell 1,kk.cell 2,kk.cell 3,kk.cell 4,kk.cell 5,kk.cell 6⟩:_∧_∧_∧_∧_∧_∧_)
  simp only [zF,zD,zE] at c0 c1 c2 c3 c4 c5 c6
  clear kk
  clear hBS
  go_wp2_with fail
  refine hc.mono ?_
  clear hc c0 c1 c2 c3 c4 c5 c6 fa3 fb3
  rintro e w3 ⟨rfl,hb⟩
  have HTR:Hid (∀ W,Below w3.heap.size w3 W→Reads W B 1 zz.tags.A zz.tags.n (cellsK encS zz.tags.l)∧B≤W.heap.size):=fun W h=>HXTR.out W (hb.trans (h.mono hb.size))
  have HW3:=Lib.hid (HW2.out.trans (hb.mono HW2.out.size))
  clear hb HXTR
  cases ib with
  | false =>
   have HX:=Lib.hid (HXa.out.trans (if_pos rfl))
   clear HXa HGK HZC HXN
   have KZ:=Lib.hid (hKz.out w3 HW3.out)
   have HB:=Lib.hid (hBW.out w3 HW3.out)
   clear HIL HTR HT4 HPL HPS HIB HTL
   obtain ⟨WR,hW4,hth,HL,HBW,hgw⟩:=res7 (g:=(w.heap.size+1)) [.string ⟨#[]⟩,.int .i64 0,.int .i64 0,.slice none 0 0,.slice none 0 0,.slice none 0 0,.slice none 0 0] KZ.out HB.out tZ1
   clear hgw
   go_wp2_with (refine wpList_store_mid rfl 27 (.tmp 8) (.tmp 47) rfl ((w.heap.size+1)) 0 #[.string ⟨#[]⟩,.int .i64 0,.int .i64 0,.slice none 0 0,.slice none 0 0,.slice none 0 0,.slice none 0 0] rfl rfl hth.out tZ2 tZ5 ?_;rw [← hW4];clear hW4)
   exact mZ209
  | true =>
   have HX:=Lib.hid (HXa.out.trans (if_neg tZ3))
   clear HXa
   have hc:=hCP.out w3 HW3.out
   have kk:=hKt.out w3 HW3.out
   obtain ⟨c0,c1,c2,c3,c4,c5,c6⟩:=(⟨kk.cell 0,kk.cell 1,kk.cell 2,kk.cell 3,kk.cell 4,kk.cell 5,kk.cell 6⟩:_∧_∧_∧_∧_∧_∧_)
   simp only [zF,zD,zE] at c0 c1 c2 c3 c4 c5 c6
   clear kk
   clear hCP
   go_wp2_with fail
   refine hc.mono ?_
   clear hc c0 c1 c2 c3 c4 c5 c6
   rintro e w6 ⟨y,rfl,ho6,he6,hpw,hb6⟩
   have HW6:=Lib.hid (HW3.out.trans (hb6.mono HW3.out.size))
   have HCON:=Lib.hid ((TenR.eqv_iff _ _).1 he6)
   have hlen:y.sets.n=sn:=by
    exact mZ173
   obtain ⟨mm,mq,mx,⟨m1,m2,m3,ml⟩,⟨n1,n2,n3,nl⟩,⟨p1,p2,p3,pl⟩,⟨q1,q2,q3,ql⟩⟩:=y
   replace hlen:m2=sn:=hlen
   replace hpw:ml.Pairwise ApartU∧∀ x∈ml,x.snaps.l.Pairwise ApartT:=hpw
   have hms:m2=ml.length:=ho6.sets.1
   have hkm:k<m2:=tZ44
   have hkml:k<ml.length:=tZ1
   obtain ⟨gS,csS,hA,hbg,hblk⟩:=ho6.sets.blk tZ115
   replace hA:m1=some ⟨gS,0,none⟩:=hA
   subst hA
   have hgS6:=hblk.lt
   simp only [TenR.val,TenR.cells,FS.val,strV]
   have hszc:=hSZ.out w3 HW3.out
   have hszn:=hSZ.out w6 HW6.out
   have hb67:=(Below.refl w6.heap.size w6).alloc (Nat.le_refl _) (.cells #[.string ⟨mm.toArray⟩,.int .i64 mq,.int .i64 mx,.slice (some ⟨gS,0,none⟩) m2 m3,.slice n1 n2 n3,.slice p1 p2 p3,.slice q1 q2 q3] 27)
   have ho7:=ho6.below hb67
   have k7:=Blk.new w6 27 #[.string ⟨mm.toArray⟩,.int .i64 mq,.int .i64 mx,.slice (some ⟨gS,0,none⟩) m2 m3,.slice n1 n2 n3,.slice p1 p2 p3,.slice q1 q2 q3]
   have kz7:=(hKz.out w6 HW6.out).alloc (.cells #[.string ⟨mm.toArray⟩,.int .i64 mq,.int .i64 mx,.slice (some ⟨gS,0,none⟩) m2 m3,.slice n1 n2 n3,.slice p1 p2 p3,.slice q1 q2 q3] 27)
   have hbw7:=(hBW.out w6 HW6.out).alloc tZ1 (.cells #[.string ⟨mm.toArray⟩,.int .i64 mq,.int .i64 mx,.slice (some ⟨gS,0,none⟩) m2 m3,.slice n1 n2 n3,.slice p1 p2 p3,.slice q1 q2 q3] 27)
   have hw17:=HW6.out.alloc HW6.out.size (.cells #[.string ⟨mm.toArray⟩,.int .i64 mq,.int .i64 mx,.slice (some ⟨gS,0,none⟩) m2 m3,.slice n1 n2 n3,.slice p1 p2 p3,.slice q1 q2 q3] 27)
   have hsz7:(w6.alloc (.cells #[.string ⟨mm.toArray⟩,.int .i64 mq,.int .i64 mx,.slice (some ⟨gS,0,none⟩) m2 m3,.slice n1 n2 n3,.slice p1 p2 p3,.slice q1 q2 q3] 27)).heap.size=w6.heap.size+1:=tZ4
   obtain ⟨g5,hg5⟩:∃ g,g=w6.heap.size:=⟨_,rfl⟩
   obtain ⟨w7,hW7⟩:∃ W,W=w6.alloc (.cells #[.string ⟨mm.toArray⟩,.int .i64 mq,.int .i64 mx,.slice (some ⟨gS,0,none⟩) m2 m3,.slice n1 n2 n3,.slice p1 p2 p3,.slice q1 q2 q3] 27):=⟨_,rfl⟩
   rw [← hW7] at ho7 k7 kz7 hbw7 hw17 hsz7
   rw [← hg5] at k7 hsz7
   have HW7:=Lib.hid hw17
   have K7:=Lib.hid k7
   have KZ7:=Lib.hid kz7
   have HB7:=Lib.hid hbw7
   have HO7:=Lib.hid ho7
   have HPW:=Lib.hid hpw
   have HKM:=Lib.hid hkml
   have HG5:=Lib.hid (show gS<g5∧w3.heap.size≤gS∧g5<w7.heap.size∧w3.heap.size≤w7.heap.size∧w.heap.size+2≤w3.heap.size by omega)
   have hyc:Hid (TenR.con ⟨mm,mq,mx,⟨some ⟨gS,0,none⟩,m2,m3,ml⟩,⟨n1,n2,n3,nl⟩,⟨p1,p2,p3,pl⟩,⟨q1,q2,q3,ql⟩⟩=C):=tZ51
   have hkm2:(k:Int)<(m2:Int):=tZ1
   obtain ⟨xk,hxk⟩:∃ x,x=ml[k]'hkml:=⟨_,rfl⟩
   have HXK:=Lib.hid hxk
   have hxcon:xk.con=x.con:=by
    exact mZ172
   have HXC:=Lib.hid hxcon
   have hsx7:=ho7.eachS _ (List.getElem_mem hkml)
   simp only [← hxk] at hsx7
   have HSX:=Lib.hid hsx7
   obtain ⟨hbg7,hltS,hfzS,-,-,-,hcS,-⟩:=row_cells ho7.sets hkml rfl
   simp only [← hxk] at hcS
   have hzcon:xk.con.snaps[i]?=some zz.con:=tZ129
   have hxs:xk.snaps.l.length=x.snaps.l.length:=by have h:=congrArg (fun c:SetC=>c.snaps.length) hxcon;simpa [SetR.con] using h
   have hxil:i<xk.snaps.l.length:=by have:=HIL.out;omega
   have hxn:i<xk.snaps.n:=tZ94
   obtain ⟨gZ,csZ,hAZ,hbZ,hkZ⟩:=hsx7.snaps.blk tZ1
   obtain ⟨zk,hzk⟩:∃ z,z=xk.snaps.l[i]'hxil:=⟨_,rfl⟩
   have hzkc:zk.con=zz.con:=by
    exact mZ198
   rw [hAZ] at hcS
   have hxin:(i:Int)<(xk.snaps.n:Int):=tZ1
   have HZK:=Lib.hid hzk
   have HXIL:=Lib.hid hxil
   have HZKC:=Lib.hid hzkc
   have HKZ:=Lib.hid hkZ
   have HAZ:=Lib.hid hAZ
   have hzn:zk.tags.n=zz.tags.n∧zk.tags.l=zz.tags.l:=by
    have h1:zk.con.tags=zz.con.tags:=by rw [hzkc]
    have h1:zk.tags.l=zz.tags.l:=h1
    have h2:=(hsx7.each zk tZ141).tags.1
    exact ⟨by rw [h2,h1,HTL.out],h1⟩
   have HSNZ:=Lib.hid (hsx7.each zk tZ141)
   have hpst:ps<zk.tags.n:=by rw [hzn.1,HPS.out,HTL.out];exact isT_lt HIB.out.symm
   have HPST:=Lib.hid hpst
   have HZN:=Lib.hid hzn
   have hcT:w7.cell? ⟨gZ,i*5+3,none⟩=some (.slice zk.tags.A zk.tags.n zk.tags.c):=by
    obtain ⟨az,hza,-,-,-,-,f3,-⟩:=snap_at hsx7.snaps.rd.2.2 hsx7.snaps.1 hxn
    rw [hAZ] at hza
    injection hza with hza
    subst hza
    rw [addr_add0] at f3
    simp only [← hzk] at f3
    exact f3
   have hlZ:=hkZ.lt
   have hS:Hid (∀ W,Below w7.heap.size w7 W→W.cell? ⟨gZ,i*5+3,none⟩=some (.slice zk.tags.A zk.tags.n zk.tags.c)):=fun W h=>(h.cell (p:=⟨gZ,i*5+3,none⟩) hlZ).trans hcT
   have hd3:w7.cell? ⟨g5,3,none⟩=some (.slice (some ⟨gS,0,none⟩) m2 m3):=K7.out.cell 3
   have h37:Below w3.heap.size w3 w7:=tZ31
   have hDL:Hid (∀ W,Below w7.heap.size w7 W→Calls Tryz.prog 84 #[.slice zk.tags.A zk.tags.n zk.tags.c,.int .i64 (ps:Int),.int .i64 ((ps:Int)+1)] W fun e w'=>∃ v,e=.returned v∧w'.ownsRow w3.heap.size 9 1 v (zk.tags.n-1) (cellsK encS (delT tg zz.tags.l))∧W.grownBy w' zk.tags.val.ownBlock):=fun W h=>by
    have h1:=(HSNZ.out.below h).tags
    refine (delTx_any (cellsK encS zk.tags.l) (cells_one encS_one _) zk.tags.n ps zk.tags.c w3.heap.size zk.tags.A W HPST.out (by have:=HT4.out;have:=HZN.out.1;omega) h1.2).mono ?_
    rintro e w' ⟨v,rfl,hv,hg⟩
    refine ⟨v,rfl,?_,hg⟩
    rw [← delT_cells,← HPS.out,← HZN.out.2]
    exact hv
   have HSS:=Lib.hid (show W1.heap.size≤w3.heap.size∧w3.heap.size≤w7.heap.size from ⟨HW3.out.size,h37.size⟩)
   have HGZ:=Lib.hid (show w3.heap.size≤gZ∧gZ<w7.heap.size from ⟨hbZ,hkZ.lt⟩)
   clear ho6 he6 hb6 hlen hms hbg hblk hgS6 hszc hszn hb67 ho7 k7 kz7 hbw7 hw17 hsz7 hxk hxcon hsx7 hxs hxn hAZ hbZ hkZ hzk hzkc hzcon hfzS hltS hbg7 hpw HCON hkm hks h37 hzn hpst hcT hlZ
   go_upto_region 8 with (refine wpList_store_new w6 rfl 27 (.tmp 15) (.tmp 49) rfl 27 [.string ⟨#[]⟩,.int .i64 0,.int .i64 0,.slice none 0 0,.slice none 0 0,.slice none 0 0,.slice none 0 0] [.string ⟨mm.toArray⟩,.int .i64 mq,.int .i64 mx,.slice (some ⟨gS,0,none⟩) m2 m3,.slice n1 n2 n3,.slice p1 p2 p3,.slice q1 q2 q3] rfl rfl rfl tZ2 tZ5 ?_;rw [show ([.string ⟨mm.toArray⟩,.int .i64 mq,.int .i64 mx,.slice (some ⟨gS,0,none⟩) m2 m3,.slice n1 n2 n3,.slice p1 p2 p3,.slice q1 q2 q3]:List Value).toArray=#[.string ⟨mm.toArray⟩,.int .i64 mq,.int .i64 mx,.slice (some ⟨gS,0,none⟩) m2 m3,.slice n1 n2 n3,.slice p1 p2 p3,.slice q1 q2 q3] from rfl,← hW7,← hg5];clear hW7 hg5)
   go_upto_region 9 with (fail)
   clear hd3 hcS
   have hcT:=hS.out w7 (Below.refl _ _)
   have hb9:=Below.refl w7.heap.size w7
   have hps4:ps<5:=by have:=HPST.out;have:=HZN.out.1;have:=HT4.out;omega
   go_wp2_with fail
   refine (hDL.out w7 hb9).mono ?_
   clear hcT
   rintro e W ⟨v,rfl,hv,hg⟩
   obtain ⟨v1,v3,rfl,_⟩:=own_form hv
   have ho9:=HO7.out.below hb9
   have htn:=HSNZ.out.tags
   have hgb:∀ g,zk.tags.val.ownBlock=some g→w3.heap.size≤g:=fun g hg=>(htn.2.lt _ hg).1
   have hw9:Below W1.heap.size W1 W:=(HW7.out.trans (hb9.mono HW7.out.size)).grown hg (by have:=hb9.size;have:=HSS.out;omega) (fun g h=>by have:=hgb g h;have:=HSS.out;omega)
   have k9:Blk W g5 27 #[.string ⟨mm.toArray⟩,.int .i64 mq,.int .i64 mx,.slice (some ⟨gS,0,none⟩) m2 m3,.slice n1 n2 n3,.slice p1 p2 p3,.slice q1 q2 q3]:=(K7.out.below hb9 K7.out.lt).grown hg (fun e=>own_blk_ne htn.2 K7.out tZ3 e.symm)
   have hnew:(⟨v1,zk.tags.n-1,v3,delT tg zz.tags.l⟩:FS BS).own W w3.heap.size 9 1 encS:=⟨by show zk.tags.n-1=_;rw [delT_len HIB.out.symm,HZN.out.1,← HTL.out],hv⟩
   obtain ⟨⟨hTO,hgZ⟩,hfZ,zv,fz3⟩:=ho9.retagged HPW.out.1 HPW.out.2 k HKM.out xk HXK.out i HXIL.out zk HZK.out hg (⟨v1,zk.tags.n-1,v3,delT tg zz.tags.l⟩:FS BS) hnew HAZ.out
   have HYO:Hid (TenO (W.setCell ⟨gZ,i*5+3,none⟩ (.slice v1 (zk.tags.n-1) v3)) w3.heap.size (TenR.putS ⟨mm,mq,mx,⟨some ⟨gS,0,none⟩,m2,m3,ml⟩,⟨n1,n2,n3,nl⟩,⟨p1,p2,p3,pl⟩,⟨q1,q2,q3,ql⟩⟩ k (xk.withSn ⟨xk.snaps.A,xk.snaps.n,xk.snaps.c,xk.snaps.l.set i ⟨zk.nm,zk.gd,zk.body,⟨v1,zk.tags.n-1,v3,delT tg zz.tags.l⟩,zk.own⟩⟩))):=hTO
   have HW10:=Lib.hid (hw9.setCell (p:=⟨gZ,i*5+3,none⟩) tZ111 (.slice v1 (zk.tags.n-1) v3))
   have K10:=Lib.hid (k9.far (p:=⟨gZ,i*5+3,none⟩) (by intro e;have h1:=HGZ.out;have h2:g5=gZ:=e;have h3:=own_blk_ne (HSX.out.snaps.2) K7.out tZ3;rw [show xk.snaps.val.ownBlock=some gZ from by show (Value.slice xk.snaps.A _ _).ownBlock=_;rw [HAZ.out];rfl] at h3;exact h3 (congrArg some h2.symm)) (.slice v1 (zk.tags.n-1) v3))
   have HYC:Hid (TenR.con (TenR.putS ⟨mm,mq,mx,⟨some ⟨gS,0,none⟩,m2,m3,ml⟩,⟨n1,n2,n3,nl⟩,⟨p1,p2,p3,pl⟩,⟨q1,q2,q3,ql⟩⟩ k (xk.withSn ⟨xk.snaps.A,xk.snaps.n,xk.snaps.c,xk.snaps.l.set i ⟨zk.nm,zk.gd,zk.body,⟨v1,zk.tags.n-1,v3,delT tg zz.tags.l⟩,zk.own⟩⟩))=C.putS k (x.con.retag i zz.con (delT tg zz.tags.l))):=by
    show _=_
    have h1:=retag_con xk zk i (⟨v1,zk.tags.n-1,v3,delT tg zz.tags.l⟩:FS BS)
    rw [TenR.con_putS,hyc.out,h1,HXC.out,HZKC.out]
   clear ho9 htn hgb k9 hw9 hv hb9 hnew hgZ hTO
   go_upto_region 10 with (fail)
   obtain ⟨W10,hW10⟩:∃ W',W'=W.setCell ⟨gZ,i*5+3,none⟩ (.slice v1 (zk.tags.n-1) v3):=⟨_,rfl⟩
   clear hfZ hg fz3
   rw [← hW10] at HYO HW10 K10 ⊢
   clear hW10
   obtain ⟨d0,d1,d2,d3,d4,d5,d6⟩:=(⟨K10.out.cell 0,K10.out.cell 1,K10.out.cell 2,K10.out.cell 3,K10.out.cell 4,K10.out.cell 5,K10.out.cell 6⟩:_∧_∧_∧_∧_∧_∧_)
   simp only [zF,zD,zE] at d0 d1 d2 d3 d4 d5 d6
   have KZ:=Lib.hid (hKz.out W10 HW10.out)
   have HB:=Lib.hid (hBW.out W10 HW10.out)
   obtain ⟨WR,hW4,hth,HL,HBW,hgw⟩:=res7 (g:=(w.heap.size+1)) [.string ⟨mm.toArray⟩,.int .i64 mq,.int .i64 mx,.slice (some ⟨gS,0,none⟩) m2 m3,.slice n1 n2 n3,.slice p1 p2 p3,.slice q1 q2 q3] KZ.out HB.out tZ1
   have HOO:=Lib.hid ((TenO.keptT HYO.out hgw KZ.out offT_ten).mono (base':=w.heap.size) tZ90)
   clear hgw
   go_wp2_with (refine wpList_store_mid rfl 27 (.tmp 8) (.tmp 69) rfl ((w.heap.size+1)) 0 #[.string ⟨mm.toArray⟩,.int .i64 mq,.int .i64 mx,.slice (some ⟨gS,0,none⟩) m2 m3,.slice n1 n2 n3,.slice p1 p2 p3,.slice q1 q2 q3] rfl rfl hth.out tZ2 tZ5 ?_;rw [← hW4];clear hW4)
   exact bodyPost_ret (v:=.tuple #[.agg #[.string ⟨mm.toArray⟩,.int .i64 mq,.int .i64 mx,.slice (some ⟨gS,0,none⟩) m2 m3,.slice n1 n2 n3,.slice p1 p2 p3,.slice q1 q2 q3],.int .i64 0]) (results_cell_tmp rfl rfl HL.out) rfl (tenPost_ok HX.out HBW.out (TenR.putS ⟨mm,mq,mx,⟨some ⟨gS,0,none⟩,m2,m3,ml⟩,⟨n1,n2,n3,nl⟩,⟨p1,p2,p3,pl⟩,⟨q1,q2,q3,ql⟩⟩ k (xk.withSn ⟨xk.snaps.A,xk.snaps.n,xk.snaps.c,xk.snaps.l.set i ⟨zk.nm,zk.gd,zk.body,⟨v1,zk.tags.n-1,v3,delT tg zz.tags.l⟩,zk.own⟩⟩)) HOO.out HYC.out)
end Go.Proofs.YtiojfffgiejibaaGreatDoor
namespace Go.Proofs.YtiojfffgiejibaaGreatDoor
open Go.RowKit
def inB (i c:Int) (x:Int×List UInt8):Bool:=decide (i≤x.1) && decide (x.1<i+c)
def freeL (l:BL) (i c:Int):BL:=l.filter fun x=>!inB i c x
end Go.Proofs.YtiojfffgiejibaaGreatDoor
