/-
  snaps.Snapshot: a snapshot more.
-/
import Derived.Test.YtiojfffgiejibaaGreatDoorTtM1
import Derived.WalkKit
import Derived.WalkSpells
import Derived.Below
import Derived.Laws.OwnMore
import Derived.Deep.AppendLies
import Derived.Deep.Draws
import Derived.Laws.Rows
import Derived.Maps.AppendAt
import Derived.RegionTactic
import Derived.OwnWalk
import Derived.Deep.QuietTactic
import Derived.BigQuiet
import Derived.Lib.Hide
import Derived.Laws.CopyOwn
import Derived.IntWalk
import Derived.Test.YtiojfffgiejibaaGreatDoorRows
import Derived.Handy
import Derived.Deep.Quiet
import Derived.ProofKit
import Derived.OpenShut
import Derived.ShutString
import Derived.ChangeOld
import Derived.Carry
import Derived.SizedLaws
import Derived.JoinedCond
import Derived.Deep.CondSized
import Derived.Deep.Slices
import Derived.Deep.Fields
import Derived.Lib.SmallJoins
import Derived.Orders
import Derived.Lib.SplitLaws
import Derived.Lib.LastIndexByte
import Derived.Lib.Strings
import Derived.Sort.Walk0
import Derived.Sort.KeysCollected
import Derived.Deep.MidRow
import Derived.Deep.RegionLaw
import Derived.Lib.AppendZeros
import Derived.Shelf.Strings.Search1
import Derived.Shelf.Strings.Search2
import Derived.Shelf.Strings.Search3
import Derived.Shelf.Strings.Cut
import Derived.Shelf.Strings.Count
import Derived.Shelf.LaysM
import Derived.Shelf.Strings.Shaped
import Derived.Shelf.Strings.LastIndex
import Derived.Shelf.Strings.Split
import Derived.Shelf.Strings.SplitShaped
import Derived.Shelf.Unicode.Decode
import Derived.Shelf.Strings.RuneCount
import Derived.Shelf.Strings.Explode
import Derived.Shelf.Unicode.DecodeSlow
import Derived.Shelf.Slices.Turned
import Derived.Test.YtiojfffgiejibaaGreatDoorProg
import Derived.Lib.Overlaps
import Derived.Lib.AppendZerosOnto
import Derived.Laws.BytesString
import Derived.Laws.IdiomStrings
import Derived.Lib.ConvBytes
import Derived.Deep.DeepCutAuto
import Derived.Great.BuildSlice
import Derived.Test.YtiojfffgiejibaaGreatDoorT0
import Derived.Test.YtiojfffgiejibaaGreatDoorTt1
import Derived.Test.YtiojfffgiejibaaGreatDoorTt5
import Derived.Test.YtiojfffgiejibaaGreatDoorTt7
import Derived.Test.YtiojfffgiejibaaGreatDoorTt10
import Derived.Test.YtiojfffgiejibaaGreatDoorTt11
import Derived.Test.YtiojfffgiejibaaGreatDoorTt12
import Derived.Test.YtiojfffgiejibaaGreatDoorTt15
import Derived.Test.YtiojfffgiejibaaGreatDoorTt16
import Derived.Test.YtiojfffgiejibaaGreatDoorTt17
import Derived.Test.YtiojfffgiejibaaGreatDoorTt19
import Derived.Test.YtiojfffgiejibaaGreatDoorTt20
import Derived.Test.YtiojfffgiejibaaGreatDoorTt21
import Derived.Test.YtiojfffgiejibaaGreatDoorTt23
import Derived.Test.YtiojfffgiejibaaGreatDoorTt24
import Derived.Test.YtiojfffgiejibaaGreatDoorTt25
import Derived.Test.YtiojfffgiejibaaGreatDoorTt26
import Derived.Test.YtiojfffgiejibaaGreatDoorTt30
namespace Go.Proofs.YtiojfffgiejibaaGreatDoor
open Go.RowKit
/-- a tenant, a number and an error -/
def TenPost3 (w:World) (g:Int) (c:Int×TenC) (e:Ending) (w':World):Prop:=∃ v gi,e=.returned (.tuple #[v,.int .i64 gi,.int .i64 c.1])∧Below w.heap.size w w' ∧
 ((c.1≠0∧v=ZEROT∧gi=0)∨(c.1=0∧gi=g∧∃ y:TenR,v=y.val∧TenO w' w.heap.size y∧y.con=c.2))
theorem tenPost3_err {w w':World} {c:Int×TenC} {g E:Int} {c':TenC} (hc:c=(E,c')) (hE:E≠0) (hb:Below w.heap.size w w'):TenPost3 w g c (.returned (.tuple #[ZEROT,.int .i64 0,.int .i64 E])) w':=by
 subst hc
 exact ⟨_,_,rfl,hb,.inl ⟨hE,rfl,rfl⟩⟩
theorem tenPost3_ok {w w':World} {c:Int×TenC} {g:Int} {c':TenC} (hc:c=(0,c')) (hb:Below w.heap.size w w') (y:TenR) (ho:TenO w' w.heap.size y) (hy:y.con=c'):TenPost3 w g c (.returned (.tuple #[y.val,.int .i64 g,.int .i64 0])) w':=by
 subst hc
 exact ⟨_,_,rfl,hb,.inr ⟨rfl,rfl,y,rfl,ho,hy⟩⟩
theorem op_build_one {P:Program} {op:Oper} {a:Act} {w:World} {K:Act→World→Prop} {Q:Exit→Act→World→Prop} (t e:TypeId) (x:Operand) (ho:op.op=.buildSlice t 1 #[(0,x)])
  (cs:List Value) (hx:a.eval x=.agg cs.toArray) (ie:TypeInfo) (z:Value) (hu:P.underlying t=some (.slice e)) (hie:P.info? e=some ie) (hz:ie.zero=some z) (hs:ie.size=cs.length) (hp:0<cs.length) (hl:cs.length≤16777216)
  (h:K (a.put op.dst (.slice (some ⟨w.heap.size,0,none⟩) 1 1)) (w.alloc (.cells cs.toArray e))):op.wp P a w K Q:=by
 refine wp_buildSlice t e 1 #[(0,x)] ho cs.toArray ie z hu hie hz (by rw [hs];omega) (by rw [hs];omega) ?_ h
 exact mZ138
theorem SetR.rd.below2 {x:SetR} {w w':World} {B:Nat} (h:x.rd w B) (hb:Below B w w'):x.rd w' B:=⟨h.body.below hb,h.snaps.below hb,fun y hy=>⟨(h.each y hy).body.below hb,(h.each y hy).tags.below hb,(h.each y hy).own.below hb⟩,h.own.below hb⟩
theorem encSn_one (x:SnapR):∀ u∈encSnap x,u.oneCell'=true:=by intro u hu;simp [encSnap,strV,FS.val] at hu;rcases hu with rfl | rfl | rfl | rfl | rfl <;> rfl
theorem addSnap_con (x:SetR) (y:SnapR) (A:Option Addr) (n c:Nat):(x.withSn ⟨A,n,c,x.snaps.l++[y]⟩).con=x.con.addSnap y.con:=by
 unfold SetR.withSn SetR.con SetC.addSnap
 simp only [List.map_append,List.map_cons,List.map_nil]
theorem guid_at {c:TenC} {p n:BS} {bad:Bool} {k:Nat} (h:AtS c p n bad k) {s:SetC} (hs:c.sets[k]?=some s):c.guidAt p=guidC c.next s.snaps:=by
 unfold TenC.guidAt
 rw [h.find,Int.toNat_natCast,hs]
theorem guid_low (nx:Int) (l:List SnapC):nx≤guidC nx l:=by
 unfold guidC
 split
 ·exact Int.le_refl _
 ·omega
theorem SnapO.asideS {w w1:World} {base:Nat} {s:FS SnapR} {y:SnapR} (hy:SnapO w base y) (hs:s.own w base 58 5 encSnap) (hg:w.grownBy w1 s.val.ownBlock):SnapO w1 base y :=
 ⟨⟨hy.body.1,own_aside hs hg tZ3 hy.body.2⟩,⟨hy.tags.1,own_aside hs hg tZ3 hy.tags.2⟩,⟨hy.own.1,own_aside hs hg tZ3 hy.own.2⟩⟩
theorem snapOk_gd {x:SnapC} (h:snapOk x.r=true):1≤x.gd∧x.gd≤1099511627776:=by
 unfold snapOk at h
 rw [Bool.and_eq_true,Bool.and_eq_true,Bool.and_eq_true] at h
 have h1:amt x.gd 1=true:=h.1.1.1
 unfold amt at h1
 simpa using h1
set_option maxRecDepth 100000 in
set_option maxHeartbeats 8000000 in
theorem snapshot_any (t:TenR) (p n:BS)  (w:World) (B:Nat) (hB:B≤w.heap.size) (hr:t.rd w B) (hz:t.sz) (hp:p.length≤2000000000) (hn:n.length≤500000000) (hmx:HasMax w) :
  Calls Tryz.prog 18 #[t.val,.string ⟨p.toArray⟩,.string ⟨n.toArray⟩] w (TenPost3 w (t.con.guidAt p) (t.con.snapshot p n)):=by
 obtain ⟨V,hV⟩:∃ V,V=t.con.snapshot p n:=⟨_,rfl⟩
 rw [← hV]
 obtain ⟨gI,hgI⟩:∃ g,g=t.con.guidAt p:=⟨_,rfl⟩
 rw [← hgI]
 obtain ⟨R,hR⟩:∃ R,R=t.con.askS p n false:=⟨_,rfl⟩
 have hway:=asked_way t t.sets.l rfl p n false R hR
 have hcz:=TenC.sz_of hr hz
 obtain ⟨nm,qu,nx,⟨s1,sn,s3,sl⟩,⟨gA,gN,gC,gL⟩,⟨t1,tn,t3,tl⟩,⟨l1,ln,l3,ll⟩⟩:=t
 show Calls Tryz.prog 18 #[.agg #[.string ⟨nm.toArray⟩,.int .i64 qu,.int .i64 nx,.slice s1 sn s3,.slice gA gN gC,.slice t1 tn t3,.slice l1 ln l3],.string ⟨p.toArray⟩,.string ⟨n.toArray⟩] w _
 have hb:=(((Below.refl w.heap.size w).alloc (Nat.le_refl _) (.cells #[.string ⟨nm.toArray⟩,.int .i64 qu,.int .i64 nx,.slice s1 sn s3,.slice gA gN gC,.slice t1 tn t3,.slice l1 ln l3] 27)).alloc tZ4 (.cells #[.string ⟨#[]⟩,.int .i64 0,.int .i64 0,.slice none 0 0,.slice none 0 0,.slice none 0 0,.slice none 0 0] 27))
 have kt:=Blk.new w 27 #[.string ⟨nm.toArray⟩,.int .i64 qu,.int .i64 nx,.slice s1 sn s3,.slice gA gN gC,.slice t1 tn t3,.slice l1 ln l3]
 replace kt:=kt.alloc (.cells #[.string ⟨#[]⟩,.int .i64 0,.int .i64 0,.slice none 0 0,.slice none 0 0,.slice none 0 0,.slice none 0 0] 27)
 have kz:=Blk.new (w.alloc (.cells #[.string ⟨nm.toArray⟩,.int .i64 qu,.int .i64 nx,.slice s1 sn s3,.slice gA gN gC,.slice t1 tn t3,.slice l1 ln l3] 27)) 27 #[.string ⟨#[]⟩,.int .i64 0,.int .i64 0,.slice none 0 0,.slice none 0 0,.slice none 0 0,.slice none 0 0]
 rw [show (w.alloc (.cells #[.string ⟨nm.toArray⟩,.int .i64 qu,.int .i64 nx,.slice s1 sn s3,.slice gA gN gC,.slice t1 tn t3,.slice l1 ln l3] 27)).heap.size=w.heap.size+1 by simp] at kz
 have hsz:((w.alloc (.cells #[.string ⟨nm.toArray⟩,.int .i64 qu,.int .i64 nx,.slice s1 sn s3,.slice gA gN gC,.slice t1 tn t3,.slice l1 ln l3] 27)).alloc (.cells #[.string ⟨#[]⟩,.int .i64 0,.int .i64 0,.slice none 0 0,.slice none 0 0,.slice none 0 0,.slice none 0 0] 27)).heap.size=w.heap.size+2:=tZ4
 obtain ⟨W1,hW1⟩:∃ W,W=((w.alloc (.cells #[.string ⟨nm.toArray⟩,.int .i64 qu,.int .i64 nx,.slice s1 sn s3,.slice gA gN gC,.slice t1 tn t3,.slice l1 ln l3] 27)).alloc (.cells #[.string ⟨#[]⟩,.int .i64 0,.int .i64 0,.slice none 0 0,.slice none 0 0,.slice none 0 0,.slice none 0 0] 27)):=⟨_,rfl⟩
 rw [← hW1] at hb hsz kt kz
 have hKt:Hid (∀ W,Below W1.heap.size W1 W→Blk W w.heap.size 27 #[.string ⟨nm.toArray⟩,.int .i64 qu,.int .i64 nx,.slice s1 sn s3,.slice gA gN gC,.slice t1 tn t3,.slice l1 ln l3]):=fun W h=>kt.below h tZ1
 have hKz:Hid (∀ W,Below W1.heap.size W1 W→Blk W (w.heap.size+1) 27 #[.string ⟨#[]⟩,.int .i64 0,.int .i64 0,.slice none 0 0,.slice none 0 0,.slice none 0 0,.slice none 0 0]):=fun W h=>kz.below h tZ1
 have hBW:Hid (∀ W,Below W1.heap.size W1 W→Below w.heap.size w W):=fun W h=>hb.trans (h.mono tZ1)
 have hSZ:Hid (∀ W,Below W1.heap.size W1 W→w.heap.size+2≤W.heap.size):=fun W h=>by have:=h.size;omega
 have hW0:Hid (Below W1.heap.size W1 W1):=Below.refl _ _
 have hrw:Hid (∀ W,Below W1.heap.size W1 W→TenR.rd W B ⟨nm,qu,nx,⟨s1,sn,s3,sl⟩,⟨gA,gN,gC,gL⟩,⟨t1,tn,t3,tl⟩,⟨l1,ln,l3,ll⟩⟩∧B≤W.heap.size∧HasMax W):=fun W h =>
  ⟨TenR.rd.below hr ((hBW.out W h).mono hB),by have:=hSZ.out W h;omega,hmx.below (hBW.out W h)⟩
 obtain ⟨C,hC⟩:∃ C,C=TenR.con ⟨nm,qu,nx,⟨s1,sn,s3,sl⟩,⟨gA,gN,gC,gL⟩,⟨t1,tn,t3,tl⟩,⟨l1,ln,l3,ll⟩⟩:=⟨_,rfl⟩
 have hHC:=Lib.hid hC
 rw [← hC] at hR hway hcz hV hgI
 simp only at hway
 have HR:=Lib.hid hR
 have HV:=Lib.hid hV
 have HCZ:=Lib.hid hcz
 have HZ:=Lib.hid hz
 have HP:=Lib.hid hp
 obtain ⟨a0,k0,e0⟩:=R
 have hAS:Hid (∀ W,Below W1.heap.size W1 W→Calls Tryz.prog 67 #[.agg #[.string ⟨nm.toArray⟩,.int .i64 qu,.int .i64 nx,.slice s1 sn s3,.slice gA gN gC,.slice t1 tn t3,.slice l1 ln l3],.string ⟨p.toArray⟩,.string ⟨n.toArray⟩,.slice none 0 0] W fun e w'=>e=.returned (.tuple #[.int .i64 a0,.int .i64 k0,.int .i64 e0])∧Below W.heap.size W w'):=fun W h=>by
  have h1:=asked_any ⟨nm,qu,nx,⟨s1,sn,s3,sl⟩,⟨gA,gN,gC,gL⟩,⟨t1,tn,t3,tl⟩,⟨l1,ln,l3,ll⟩⟩ p n [] none 0 0 W B (hrw.out W h).2.1 (hrw.out W h).1 hz tZ1 (hrw.out W h).2.2 rfl tZ3 Reads.none_
  rw [askS_con,← hC,show ([]:List Bool).contains false=false from rfl,← hR] at h1
  exact h1
 have hCP:Hid (∀ W,Below W1.heap.size W1 W→Calls Tryz.prog 54 #[.agg #[.string ⟨nm.toArray⟩,.int .i64 qu,.int .i64 nx,.slice s1 sn s3,.slice gA gN gC,.slice t1 tn t3,.slice l1 ln l3]] W fun e w'=>∃ y:TenR,e=.returned y.val∧TenO w' W.heap.size y∧TenR.eqv ⟨nm,qu,nx,⟨s1,sn,s3,sl⟩,⟨gA,gN,gC,gL⟩,⟨t1,tn,t3,tl⟩,⟨l1,ln,l3,ll⟩⟩ y∧y.sets.l.Pairwise ApartS∧Below W.heap.size W w'):=fun W h =>
  tcopy2_any ⟨nm,qu,nx,⟨s1,sn,s3,sl⟩,⟨gA,gN,gC,gL⟩,⟨t1,tn,t3,tl⟩,⟨l1,ln,l3,ll⟩⟩ W B (hrw.out W h).2.1 (hrw.out W h).1 hz
 have hSN:=Lib.hid (show sn=sl.length from hr.sets.1)
 have HGI:=Lib.hid hgI
 have HNL:=Lib.hid hn
 have HNX:Hid (C.next=nx):=by show _=_;rw [hC];rfl
 have hSE:Hid (∀ (y:TenR) (c:TenC),y.con=c→c.sz→∀ W b,TenO W b y→HasMax W→Calls Tryz.prog 11 #[y.val] W (TenPost W c.settle)):=fun y c hy hc W b ho h=>by
  rw [← hy]
  exact settleT_any y W W.heap.size (Nat.le_refl _) ho.rd (TenR.sz_of ho.rd (by rw [hy];exact hc)) h
 clear hb hsz kt kz hr hp hmx hV hC hz hcz hR hn hgI
 go_enter Tryz.func18,Tryz.ntmps18
 have hc:=hAS.out  W1 hW0.out
 have kk:=hKt.out W1 hW0.out
 obtain ⟨c0,c1,c2,c3,c4,c5,c6⟩:=(⟨kk.cell 0,kk.cell 1,kk.cell 2,kk.cell 3,kk.cell 4,kk.cell 5,kk.cell 6⟩:_∧_∧_∧_∧_∧_∧_)
 simp only [zF,zD,zE] at c0 c1 c2 c3 c4 c5 c6
 clear kk
 go_wp2_with fail
 rw [← hW1]
 clear hW1
 refine hc.mono ?_
 clear hc c0 c1 c2 c3 c4 c5 c6
 rintro e w2 ⟨rfl,hb⟩
 have HW2:=Lib.hid (hW0.out.trans (hb.mono hW0.out.size))
 clear hb
 rcases hway with ⟨E,hE,hRe⟩ | ⟨k,hkl,hRe,hat,hgk⟩
 ·obtain ⟨rfl,rfl,rfl⟩:a0=0∧k0=0∧e0=E:=tZ11
  clear hRe
  have hne:e0≠0:=by rcases hE with h | h | h <;> rw [h] <;> decide
  have hneb:(e0 == 0)=false:=tZ116
  have HX:Hid (V=(e0,C)):=by show _=_;rw [HV.out];exact snapshot_bad HR.out.symm hne
  have HNE:=Lib.hid hne
  clear HV HR hE hne
  have KZ:=Lib.hid (hKz.out w2 HW2.out)
  have HB:=Lib.hid (hBW.out w2 HW2.out)
  obtain ⟨WR,hW4,hth,HL,HBW,hgw⟩:=res7 (g:=(w.heap.size+1)) [.string ⟨#[]⟩,.int .i64 0,.int .i64 0,.slice none 0 0,.slice none 0 0,.slice none 0 0,.slice none 0 0] KZ.out HB.out tZ1
  clear hgw
  go_wp2_with (refine wpList_store_mid rfl 27 (.tmp 6) (.tmp 26) rfl ((w.heap.size+1)) 0 #[.string ⟨#[]⟩,.int .i64 0,.int .i64 0,.slice none 0 0,.slice none 0 0,.slice none 0 0,.slice none 0 0] rfl rfl hth.out tZ2 tZ5 ?_;rw [← hW4];clear hW4)
  exact bodyPost_ret (v:=.tuple #[.agg #[.string ⟨#[]⟩,.int .i64 0,.int .i64 0,.slice none 0 0,.slice none 0 0,.slice none 0 0,.slice none 0 0],.int .i64 0,.int .i64 e0]) (results_cell_tmp2 rfl rfl HL.out) rfl (tenPost3_err HX.out HNE.out HBW.out)
 ·obtain ⟨rfl,hk0e,rfl⟩:a0=(k:Int)∧k0=(sl[k]'hkl).con.findN n∧e0=0:=tZ11
  clear hRe hk0e
  have hrk:=(hrw.out w2 HW2.out).1
  have hks:k<sn:=tZ44
  have hki:(k:Int)<(sn:Int):=tZ1
  have hk0:(0:Int)≤(k:Int):=tZ1
  obtain ⟨ad,hsa,-,fa0,fa1,fa2,fa3,fa4⟩:=set_at hrk.sets.2.2 hSN.out hks
  simp only at hsa
  have hx:=hrk.eachS _ (List.getElem_mem hkl)
  have hzx:=HZ.out.eachS _ (List.getElem_mem hkl)
  obtain ⟨x,hxx⟩:∃ x,x=sl[k]'hkl:=⟨_,rfl⟩
  simp only [← hxx] at fa0 fa1 fa2 fa3 fa4 hx hzx hgk
  have HXV:Hid (V=if 0≤k0 then (6,C) else if x.con.snaps.length=16 then (3,C) else if 1099511627776≤guidC C.next x.con.snaps then (15,C) else (C.snapped k x.con n (guidC C.next x.con.snaps)).settle):=by show _=_;rw [HV.out];exact snapshot_at HR.out.symm hgk
  obtain ⟨gD,hgN⟩:∃ g,g=guidC C.next x.con.snaps:=⟨_,rfl⟩
  have HGN:Hid (gI=gD):=by show _=_;rw [HGI.out,hgN];exact guid_at hat hgk
  have hxl:x.con.snaps.length=x.snaps.n:=by rw [hx.snaps.1];exact List.length_map ..
  rw [← hgN,hxl] at HXV
  have hsn:=hat.snaps
  have hsn2:(C.sets[k]'hat.lt)=x.con:=by have h:=List.getElem?_eq_getElem hat.lt;rw [hgk] at h;exact (Option.some.inj h).symm
  rw [hsn2] at hsn
  have hx16:x.snaps.n≤16:=by have:=hsn.len;omega
  have HX16:=Lib.hid (show x.con.snaps.length≤16 by omega)
  have hglo:1≤gD:=by
   have h1:=guid_low C.next x.con.snaps
   have h2:=((TenC.E_ok C).1 hat.E).next
   unfold amt at h2
   have h2:1≤C.next∧C.next≤1099511627776:=by simpa using h2
   omega
  have hb67:=(Below.refl w2.heap.size w2).alloc (Nat.le_refl _) (.cells #[.string ⟨x.path.toArray⟩,.string ⟨x.org.toArray⟩,.slice x.body.A x.body.n x.body.c,.slice x.snaps.A x.snaps.n x.snaps.c,.slice x.own.A x.own.n x.own.c] 56)
  have ks3:=Blk.new w2 56 #[.string ⟨x.path.toArray⟩,.string ⟨x.org.toArray⟩,.slice x.body.A x.body.n x.body.c,.slice x.snaps.A x.snaps.n x.snaps.c,.slice x.own.A x.own.n x.own.c]
  have hw13:=HW2.out.alloc HW2.out.size (.cells #[.string ⟨x.path.toArray⟩,.string ⟨x.org.toArray⟩,.slice x.body.A x.body.n x.body.c,.slice x.snaps.A x.snaps.n x.snaps.c,.slice x.own.A x.own.n x.own.c] 56)
  have hxr3:x.rd _ B:=hx.below2 (hb67.mono (hrw.out w2 HW2.out).2.1)
  obtain ⟨g6,hg6⟩:∃ g,g=w2.heap.size:=⟨_,rfl⟩
  have hg6s:(w2.alloc (.cells #[.string ⟨x.path.toArray⟩,.string ⟨x.org.toArray⟩,.slice x.body.A x.body.n x.body.c,.slice x.snaps.A x.snaps.n x.snaps.c,.slice x.own.A x.own.n x.own.c] 56)).heap.size=w2.heap.size+1:=tZ4
  obtain ⟨w3,hW3⟩:∃ W,W=w2.alloc (.cells #[.string ⟨x.path.toArray⟩,.string ⟨x.org.toArray⟩,.slice x.body.A x.body.n x.body.c,.slice x.snaps.A x.snaps.n x.snaps.c,.slice x.own.A x.own.n x.own.c] 56):=⟨_,rfl⟩
  rw [← hW3] at ks3 hw13 hxr3 hg6s
  rw [← hg6] at ks3 hg6s
  have HW3:=Lib.hid hw13
  have KS3:=Lib.hid ks3
  have HXR:=Lib.hid hxr3
  have HG6:=Lib.hid (show g6=w2.heap.size∧w3.heap.size=g6+1 from ⟨hg6,hg6s⟩)
  have HXZ:=Lib.hid hzx
  have HGD:Hid (guidI nx x.snaps.l=gD):=by show _=_;rw [guid_con,hgN,HNX.out];rfl
  have hGU:Hid (Calls Tryz.prog 68 #[.agg #[.string ⟨nm.toArray⟩,.int .i64 qu,.int .i64 nx,.slice (some ad) sn s3,.slice gA gN gC,.slice t1 tn t3,.slice l1 ln l3],.agg #[.string ⟨x.path.toArray⟩,.string ⟨x.org.toArray⟩,.slice x.body.A x.body.n x.body.c,.slice x.snaps.A x.snaps.n x.snaps.c,.slice x.own.A x.own.n x.own.c]] w3 fun e w'=>e=.returned (.int .i64 gD)∧Below w3.heap.size w3 w'):=by
   show Calls _ _ _ _ _
   rw [← HGD.out]
   exact guid_any _ _ _ _ _ _ nx _ _ _ _ x.snaps.l x.snaps.A x.snaps.n x.snaps.c w3 B (hrw.out w3 hw13).2.1 hxr3.snaps.2.2 hx.snaps.1 tZ1 (fun z hz=>by
    have h:=snapOk_gd (hsn.each z.con (List.mem_map_of_mem hz)).1
    have h1:z.con.gd=z.gd:=rfl
    omega)
  have HGK:=Lib.hid hgk
  have HAT:=Lib.hid hat
  have HXN:=Lib.hid hx.snaps.1
  subst hsa
  have kk:=hKt.out w2 HW2.out
  obtain ⟨c0,c1,c2,c3,c4,c5,c6⟩:=(⟨kk.cell 0,kk.cell 1,kk.cell 2,kk.cell 3,kk.cell 4,kk.cell 5,kk.cell 6⟩:_∧_∧_∧_∧_∧_∧_)
  simp only [zF,zD,zE] at c0 c1 c2 c3 c4 c5 c6
  clear kk
  have e0_:=ks3.cell 0
  have e1_:=ks3.cell 1
  have e2_:=ks3.cell 2
  have e3_:=ks3.cell 3
  have e4_:=ks3.cell 4
  simp only [zF,zD,zE] at e0_ e1_ e2_ e3_ e4_
  have f0_:=(hKt.out w3 hw13).cell 0
  have f1_:=(hKt.out w3 hw13).cell 1
  have f2_:=(hKt.out w3 hw13).cell 2
  have f3_:=(hKt.out w3 hw13).cell 3
  have f4_:=(hKt.out w3 hw13).cell 4
  have f5_:=(hKt.out w3 hw13).cell 5
  have f6_:=(hKt.out w3 hw13).cell 6
  simp only [zF,zD,zE] at f0_ f1_ f2_ f3_ f4_ f5_ f6_
  clear HV HR hgN hxl hsn hsn2 hb67 ks3 hw13 hxr3 hg6s hxx hx hzx hrk hgk hat HGD
  rw [hW3] at f0_ f1_ f2_ f3_ f4_ f5_ f6_
  rw [hW3,hg6] at e0_ e1_ e2_ e3_ e4_
  have hGV:=hGU.out
  rw [hW3] at hGV
  go_wp2_with fail
  refine hGV.mono ?_
  clear hGU hGV c0 c1 c2 c3 c4 c5 c6 e0_ e1_ e2_ e3_ e4_ f0_ f1_ f2_ f3_ f4_ f5_ f6_ fa0 fa1 fa2 fa3 fa4
  rintro e w4 ⟨rfl,hb⟩
  rw [← hW3] at hb
  rw [← hg6]
  clear hW3 hg6
  have HW4:=Lib.hid (HW3.out.trans (hb.mono HW3.out.size))
  have KS4:=Lib.hid (KS3.out.below hb KS3.out.lt)
  have hxb:=hb.mono (hrw.out w3 HW3.out).2.1
  have HXR4:Hid (x.rd w4 B):=HXR.out.below2 hxb
  clear hb hxb
  have e3_:=KS4.out.cell 3
  simp only [zF,zD,zE] at e3_
  by_cases hk0n:0≤k0
  ·have HX:=Lib.hid (HXV.out.trans (if_pos hk0n))
   clear HXV
   have KZ:=Lib.hid (hKz.out w4 HW4.out)
   have HB:=Lib.hid (hBW.out w4 HW4.out)
   obtain ⟨WR,hW4,hth,HL,HBW,hgw⟩:=res7 (g:=(w.heap.size+1)) [.string ⟨#[]⟩,.int .i64 0,.int .i64 0,.slice none 0 0,.slice none 0 0,.slice none 0 0,.slice none 0 0] KZ.out HB.out tZ1
   clear hgw
   go_wp2_with (refine wpList_store_mid rfl 27 (.tmp 6) (.tmp 39) rfl ((w.heap.size+1)) 0 #[.string ⟨#[]⟩,.int .i64 0,.int .i64 0,.slice none 0 0,.slice none 0 0,.slice none 0 0,.slice none 0 0] rfl rfl hth.out tZ2 tZ5 ?_;rw [← hW4];clear hW4)
   exact bodyPost_ret (v:=.tuple #[.agg #[.string ⟨#[]⟩,.int .i64 0,.int .i64 0,.slice none 0 0,.slice none 0 0,.slice none 0 0,.slice none 0 0],.int .i64 0,.int .i64 6]) (results_cell_tmp2 rfl rfl HL.out) rfl (tenPost3_err HX.out tZ3 HBW.out)
  ·have HXa:=Lib.hid (HXV.out.trans (if_neg hk0n))
   clear HXV
   by_cases h16:(x.snaps.n:Int)=16
   ·have HX:=Lib.hid (HXa.out.trans (if_pos tZ1))
    have h16b:((x.snaps.n:Int) == 16)=true:=by simpa using h16
    clear HXa
    have KZ:=Lib.hid (hKz.out w4 HW4.out)
    have HB:=Lib.hid (hBW.out w4 HW4.out)
    obtain ⟨WR,hW4,hth,HL,HBW,hgw⟩:=res7 (g:=(w.heap.size+1)) [.string ⟨#[]⟩,.int .i64 0,.int .i64 0,.slice none 0 0,.slice none 0 0,.slice none 0 0,.slice none 0 0] KZ.out HB.out tZ1
    clear hgw
    go_wp2_with (refine wpList_store_mid rfl 27 (.tmp 6) (.tmp 45) rfl ((w.heap.size+1)) 0 #[.string ⟨#[]⟩,.int .i64 0,.int .i64 0,.slice none 0 0,.slice none 0 0,.slice none 0 0,.slice none 0 0] rfl rfl hth.out tZ2 tZ5 ?_;rw [← hW4];clear hW4)
    exact bodyPost_ret (v:=.tuple #[.agg #[.string ⟨#[]⟩,.int .i64 0,.int .i64 0,.slice none 0 0,.slice none 0 0,.slice none 0 0,.slice none 0 0],.int .i64 0,.int .i64 3]) (results_cell_tmp2 rfl rfl HL.out) rfl (tenPost3_err HX.out tZ3 HBW.out)
   ·have HXb:=Lib.hid (HXa.out.trans (if_neg tZ1))
    have h16b:((x.snaps.n:Int) == 16)=false:=by simpa using h16
    clear HXa
    by_cases hgm:1099511627776≤gD
    ·have HX:=Lib.hid (HXb.out.trans (if_pos hgm))
     clear HXb
     have KZ:=Lib.hid (hKz.out w4 HW4.out)
     have HB:=Lib.hid (hBW.out w4 HW4.out)
     obtain ⟨WR,hW4,hth,HL,HBW,hgw⟩:=res7 (g:=(w.heap.size+1)) [.string ⟨#[]⟩,.int .i64 0,.int .i64 0,.slice none 0 0,.slice none 0 0,.slice none 0 0,.slice none 0 0] KZ.out HB.out tZ1
     clear hgw
     go_wp2_with (refine wpList_store_mid rfl 27 (.tmp 6) (.tmp 49) rfl ((w.heap.size+1)) 0 #[.string ⟨#[]⟩,.int .i64 0,.int .i64 0,.slice none 0 0,.slice none 0 0,.slice none 0 0,.slice none 0 0] rfl rfl hth.out tZ2 tZ5 ?_;rw [← hW4];clear hW4)
     exact bodyPost_ret (v:=.tuple #[.agg #[.string ⟨#[]⟩,.int .i64 0,.int .i64 0,.slice none 0 0,.slice none 0 0,.slice none 0 0,.slice none 0 0],.int .i64 0,.int .i64 15]) (results_cell_tmp2 rfl rfl HL.out) rfl (tenPost3_err HX.out tZ3 HBW.out)
    ·have HXc:=Lib.hid (HXb.out.trans (if_neg hgm))
     clear HXb h16
     have HHI:=Lib.hid (show 1≤gD∧gD<1099511627776 by omega)
     have hc:=hCP.out w4 HW4.out
     have kk:=hKt.out w4 HW4.out
     obtain ⟨c0,c1,c2,c3,c4,c5,c6⟩:=(⟨kk.cell 0,kk.cell 1,kk.cell 2,kk.cell 3,kk.cell 4,kk.cell 5,kk.cell 6⟩:_∧_∧_∧_∧_∧_∧_)
     simp only [zF,zD,zE] at c0 c1 c2 c3 c4 c5 c6
     clear kk
     clear hCP
     go_wp2_with fail
     refine hc.mono ?_
     clear hc c0 c1 c2 c3 c4 c5 c6
     rintro e w6 ⟨y,rfl,ho6,he6,hpw,hb6⟩
     have HW6:=Lib.hid (HW4.out.trans (hb6.mono HW4.out.size))
     have HCON:=Lib.hid ((TenR.eqv_iff _ _).1 he6)
     have hlen:y.sets.n=sn:=by
      exact mZ173
     obtain ⟨mm,mq,mx,⟨m1,m2,m3,ml⟩,⟨n1,n2,n3,nl⟩,⟨p1,p2,p3,pl⟩,⟨q1,q2,q3,ql⟩⟩:=y
     replace hlen:m2=sn:=hlen
     replace hpw:ml.Pairwise ApartS:=hpw
     have hms:m2=ml.length:=ho6.sets.1
     have hkm:k<m2:=tZ44
     have hkml:k<ml.length:=tZ1
     obtain ⟨gS,csS,hA,hbg,hblk⟩:=ho6.sets.blk tZ115
     replace hA:m1=some ⟨gS,0,none⟩:=hA
     subst hA
     have hgS6:=hblk.lt
     simp only [TenR.val,TenR.cells,FS.val,strV]
     clear hk0n h16b hgm e3_ hglo
     have hszc:=hSZ.out w4 HW4.out
     have hszn:=hSZ.out w6 HW6.out
     have hb67:=(Below.refl w6.heap.size w6).alloc (Nat.le_refl _) (.cells #[.string ⟨mm.toArray⟩,.int .i64 mq,.int .i64 mx,.slice (some ⟨gS,0,none⟩) m2 m3,.slice n1 n2 n3,.slice p1 p2 p3,.slice q1 q2 q3] 27)
     have ho7:=ho6.below hb67
     have k7:=Blk.new w6 27 #[.string ⟨mm.toArray⟩,.int .i64 mq,.int .i64 mx,.slice (some ⟨gS,0,none⟩) m2 m3,.slice n1 n2 n3,.slice p1 p2 p3,.slice q1 q2 q3]
     have kz7:=(hKz.out w6 HW6.out).alloc (.cells #[.string ⟨mm.toArray⟩,.int .i64 mq,.int .i64 mx,.slice (some ⟨gS,0,none⟩) m2 m3,.slice n1 n2 n3,.slice p1 p2 p3,.slice q1 q2 q3] 27)
     have hbw7:=(hBW.out w6 HW6.out).alloc tZ1 (.cells #[.string ⟨mm.toArray⟩,.int .i64 mq,.int .i64 mx,.slice (some ⟨gS,0,none⟩) m2 m3,.slice n1 n2 n3,.slice p1 p2 p3,.slice q1 q2 q3] 27)
     have hw17:=HW6.out.alloc HW6.out.size (.cells #[.string ⟨mm.toArray⟩,.int .i64 mq,.int .i64 mx,.slice (some ⟨gS,0,none⟩) m2 m3,.slice n1 n2 n3,.slice p1 p2 p3,.slice q1 q2 q3] 27)
     have hsz7:(w6.alloc (.cells #[.string ⟨mm.toArray⟩,.int .i64 mq,.int .i64 mx,.slice (some ⟨gS,0,none⟩) m2 m3,.slice n1 n2 n3,.slice p1 p2 p3,.slice q1 q2 q3] 27)).heap.size=w6.heap.size+1:=tZ4
     obtain ⟨g5,hg5⟩:∃ g,g=w6.heap.size:=⟨_,rfl⟩
     obtain ⟨w7,hW7⟩:∃ W,W=w6.alloc (.cells #[.string ⟨mm.toArray⟩,.int .i64 mq,.int .i64 mx,.slice (some ⟨gS,0,none⟩) m2 m3,.slice n1 n2 n3,.slice p1 p2 p3,.slice q1 q2 q3] 27):=⟨_,rfl⟩
     rw [← hW7] at ho7 k7 kz7 hbw7 hw17 hsz7
     rw [← hg5] at k7 hsz7
     have HW7:=Lib.hid hw17
     have K7:=Lib.hid k7
     have KZ7:=Lib.hid kz7
     have HB7:=Lib.hid hbw7
     have HO7:=Lib.hid ho7
     have HPW:=Lib.hid hpw
     have HKM:=Lib.hid hkml
     have HG5:=Lib.hid (show gS<g5∧w4.heap.size≤gS∧g5<w7.heap.size∧w4.heap.size≤w7.heap.size∧w.heap.size+2≤w4.heap.size by omega)
     have hyc:Hid (TenR.con ⟨mm,mq,mx,⟨some ⟨gS,0,none⟩,m2,m3,ml⟩,⟨n1,n2,n3,nl⟩,⟨p1,p2,p3,pl⟩,⟨q1,q2,q3,ql⟩⟩=C):=tZ51
     have hkm2:(k:Int)<(m2:Int):=tZ1
     obtain ⟨xk,hxk⟩:∃ x,x=ml[k]'hkml:=⟨_,rfl⟩
     have HXK:=Lib.hid hxk
     have hxcon:xk.con=x.con:=by
      exact mZ172
     have HXC:=Lib.hid hxcon
     have hsx7:=ho7.eachS _ (List.getElem_mem hkml)
     simp only [← hxk] at hsx7
     have HSX:=Lib.hid hsx7
     obtain ⟨hbg7,hltS,hfzS,-,-,-,hcS,-⟩:=row_cells ho7.sets hkml rfl
     simp only [← hxk] at hcS
     have hxs:xk.snaps.l.length=x.snaps.l.length:=by have h:=congrArg (fun c:SetC=>c.snaps.length) hxcon;simpa [SetR.con] using h
     have hxz:xk.snaps.n≤16:=by have h1:=hsx7.snaps.1;have h2:=HXN.out;omega
     have HIN:=Lib.hid (show xk.snaps.n=xk.snaps.l.length∧xk.snaps.n≤16 from ⟨hsx7.snaps.1,hxz⟩)
     have HSS:=Lib.hid (show W1.heap.size≤w4.heap.size from HW4.out.size)
     have hb47:Below w4.heap.size w4 w7:=by rw [hW7];exact (hb6.trans ((Below.refl w6.heap.size w6).alloc (Nat.le_refl _) (.cells #[.string ⟨mm.toArray⟩,.int .i64 mq,.int .i64 mx,.slice (some ⟨gS,0,none⟩) m2 m3,.slice n1 n2 n3,.slice p1 p2 p3,.slice q1 q2 q3] 27) |>.mono hb6.size))
     have KS7:=Lib.hid (KS4.out.below hb47 KS4.out.lt)
     have hxb:=hb47.mono (hrw.out w4 HW4.out).2.1
     have HXR7:Hid (x.rd w7 B):=HXR4.out.below2 hxb
     have HB7b:=Lib.hid (hrw.out w7 HW7.out).2.1
     have hS:Hid (∀ W,Below w7.heap.size w7 W→W.cell? ⟨g5,3,none⟩=some (.slice (some ⟨gS,0,none⟩) m2 m3)∧W.cell? ⟨gS,k*5+3,none⟩=some (.slice xk.snaps.A xk.snaps.n xk.snaps.c)∧W.cell? ⟨g6,2,none⟩=some (.slice x.body.A x.body.n x.body.c)∧W.cell? ⟨g6,4,none⟩=some (.slice x.own.A x.own.n x.own.c)):=fun W h=>⟨(K7.out.below h K7.out.lt).cell 3,(h.cell (p:=⟨gS,k*5+3,none⟩) hltS).trans hcS,(KS7.out.below h KS7.out.lt).cell 2,(KS7.out.below h KS7.out.lt).cell 4⟩
     have hCB:Hid (∀ W,Below w7.heap.size w7 W→Calls Tryz.prog 69 #[.slice x.body.A x.body.n x.body.c] W fun e w'=>∃ v,e=.returned v∧w'.ownsRow W.heap.size 97 2 v x.body.n (cellsK encB x.body.l)∧Below W.heap.size W w'):=fun W h =>
      cloneBl_any _ x.body.n x.body.A x.body.c W B (HXR7.out.body.2.2.below (h.mono HB7b.out)) tZ140 (cells_one encB_one _) (by have:=HXZ.out.body;omega)
     have hCQ:Hid (∀ W,Below w7.heap.size w7 W→Calls Tryz.prog 70 #[.slice x.own.A x.own.n x.own.c] W fun e w'=>∃ v,e=.returned v∧w'.ownsRow W.heap.size 100 2 v x.own.n (cellsK encP x.own.l)∧Below W.heap.size W w'):=fun W h =>
      clonePr_any _ x.own.n x.own.A x.own.c W B (HXR7.out.own.2.2.below (h.mono HB7b.out)) tZ140 (cells_one encP_one _) (by have:=HXZ.out.own;omega)
     have HW74:=Lib.hid (show w4.heap.size≤w7.heap.size from hb47.size)
     obtain ⟨i0,hi0,hz0,hz1,hz2⟩:=info_parts Tryz.eachSnap_info
     have d3:=k7.cell 3
     simp only [zF,zD,zE] at d3
     clear ho6 he6 hb6 hlen hms hbg hblk hgS6 hszc hszn hb67 ho7 k7 kz7 hbw7 hw17 hsz7 hxk hxcon hsx7 hxs hxz hcS hfzS hltS hbg7 hpw HCON hkm hks hb47 hxb
     go_upto_region 14 with (refine wpList_store_new w6 rfl 27 (.tmp 14) (.tmp 51) rfl 27 [.string ⟨#[]⟩,.int .i64 0,.int .i64 0,.slice none 0 0,.slice none 0 0,.slice none 0 0,.slice none 0 0] [.string ⟨mm.toArray⟩,.int .i64 mq,.int .i64 mx,.slice (some ⟨gS,0,none⟩) m2 m3,.slice n1 n2 n3,.slice p1 p2 p3,.slice q1 q2 q3] rfl rfl rfl tZ2 tZ5 ?_;rw [show ([.string ⟨mm.toArray⟩,.int .i64 mq,.int .i64 mx,.slice (some ⟨gS,0,none⟩) m2 m3,.slice n1 n2 n3,.slice p1 p2 p3,.slice q1 q2 q3]:List Value).toArray=#[.string ⟨mm.toArray⟩,.int .i64 mq,.int .i64 mx,.slice (some ⟨gS,0,none⟩) m2 m3,.slice n1 n2 n3,.slice p1 p2 p3,.slice q1 q2 q3] from rfl,← hW7,← hg5];clear hW7 hg5)
     refine wp_region_two 15 18 [0,16,17] tZ2 tZ2 tZ2 tZ3 tZ3 tZ3 [(fun v _=>v=.pointer (some ⟨gS,k*5,none⟩)),
       (fun v _=>v=.pointer (some ⟨gS,k*5,none⟩)),
       (fun v _=>v=.pointer (some ⟨gS,k*5,none⟩)),
       (fun v _=>v=.pointer (some ⟨gS,k*5+3,none⟩)),
       (fun v _=>v=.slice xk.snaps.A xk.snaps.n xk.snaps.c),
       (fun v _=>v=.string ⟨n.toArray⟩),
       (fun v _=>v=.int .i64 gD),
       (fun v _=>v=.pointer (some ⟨g6,2,none⟩)),
       (fun v _=>v=.slice x.body.A x.body.n x.body.c),
       (fun v W=>∃ A c,v=.slice A x.body.n c∧W.ownsRow w4.heap.size 97 2 v x.body.n (cellsK encB x.body.l)),
       (fun v _=>v=.pointer (some ⟨g6,4,none⟩)),
       (fun v _=>v=.slice x.own.A x.own.n x.own.c),
       (fun v W=>∃ A c,v=.slice A x.own.n c∧W.ownsRow w4.heap.size 100 2 v x.own.n (cellsK encP x.own.l)),
       (fun v W=>∃ A c A2 c2,v=.agg #[.string ⟨n.toArray⟩,.int .i64 gD,.slice A x.body.n c,.slice none 0 0,.slice A2 x.own.n c2]∧SnapO W w4.heap.size ⟨n,gD,⟨A,x.body.n,c,x.body.l⟩,⟨none,0,0,[]⟩,⟨A2,x.own.n,c2,x.own.l⟩⟩),
       (fun v W=>∃ (y:SnapR) (A:Option Addr) (c:Nat),v=.slice A 1 c∧Reads W W.heap.size 5 A 1 (encSnap y)∧SnapO W w4.heap.size y∧y.con=⟨n,gD,x.body.l,[],x.own.l⟩),
       (fun _ _=>True),
       (fun v _=>v=.pointer (some ⟨gS,k*5,none⟩)),
       (fun v _=>v=.pointer (some ⟨gS,k*5+3,none⟩)),
       (fun _ _=>True)] ?_ (early2 tZ2) ?_ (fun W9 u W=>∃ A1 c1 y,u=.slice A1 (xk.snaps.n+1) c1∧W.ownsRow w4.heap.size 58 5 u (xk.snaps.n+1) (cellsK encSnap xk.snaps.l++encSnap y)∧W9.grownBy W xk.snaps.val.ownBlock∧SnapO W9 w4.heap.size y∧y.con=⟨n,gD,x.body.l,[],x.own.l⟩) ?_ ?_ ?_
     ·repeat' (first | exact stays_nil | refine stays_cons ?_ ?_ | exact Stays.pure | exact (fun v W W' h hb=>let ⟨A,c,h1,h2⟩:=h;⟨A,c,h1,own_below h2 hb⟩) | exact (fun v W W' h hb=>let ⟨A,c,A2,c2,h1,h2⟩:=h;⟨A,c,A2,c2,h1,h2.below hb⟩) | exact (fun v W W' h hb=>let ⟨y,A,c,h1,h2,h3,h4⟩:=h;⟨y,A,c,h1,(h2.below hb).more hb.size,h3.below hb,h4⟩))
     ·intro i oo ho hiS hiL hil mf W hb0 hmi hcl hdeps AA KK hA hK
      rcases i with _ | _ | _ | _ | _ | _ | _ | _ | _ | _ | _ | _ | _ | _ | _ | _ | _ | _ | _ | i
      ·exact mZ167
      ·injection ho with ho;subst ho
       have ef15:AA.tmps[15]?.getD undef=.pointer (some ⟨gS,k*5,none⟩):=tF hA
       exact zP
      ·injection ho with ho;subst ho
       have e1:=eD hdeps hA 1 57
       exact zP
      ·injection ho with ho;subst ho
       have e2:=eD hdeps hA 2 58
       exact zP
      ·injection ho with ho;subst ho
       have e3:=eD hdeps hA 3 59
       exact mZ169
      ·exact mZ171
      ·injection ho with ho;subst ho
       have ef13:AA.tmps[13]?.getD undef=.int .i64 gD:=tF hA
       exact zP
      ·exact mZ170
      ·injection ho with ho;subst ho
       have e7:=eD hdeps hA 7 63
       exact mZ169
      ·injection ho with ho;subst ho
       have e8:=eD hdeps hA 8 64
       clear hA hdeps hcl hmi hiS hiL hil
       have hKK:=hK
       clear hK
       go_simp
       refine (hCB.out W hb0).mono ?_
       exact mZ168
      ·exact mZ170
      ·injection ho with ho;subst ho
       have e10:=eD hdeps hA 10 66
       exact mZ169
      ·injection ho with ho;subst ho
       have e11:=eD hdeps hA 11 67
       clear hA hdeps hcl hmi hiS hiL hil
       have hKK:=hK
       clear hK
       go_simp
       refine (hCQ.out W hb0).mono ?_
       exact mZ168
      ·injection ho with ho;subst ho
       have e5:=eD hdeps hA 5 61
       have e6:=eD hdeps hA 6 62
       obtain ⟨x9,hx9,hg9⟩:=hdeps ⟨9,.data⟩ tZ4 rfl
       have hg9:∃ A c,x9=.slice A x.body.n c∧W.ownsRow w4.heap.size 97 2 x9 x.body.n (cellsK encB x.body.l):=hg9
       have hk9:=hg9
       obtain ⟨A9,c9,rfl,how9⟩:=hg9
       have e9:AA.tmps[65]?.getD undef=.slice A9 x.body.n c9:=tO hA hx9
       obtain ⟨x12,hx12,hg12⟩:=hdeps ⟨12,.data⟩ tZ4 rfl
       have hg12:∃ A c,x12=.slice A x.own.n c∧W.ownsRow w4.heap.size 100 2 x12 x.own.n (cellsK encP x.own.l):=hg12
       have hk12:=hg12
       obtain ⟨A12,c12,rfl,how12⟩:=hg12
       have e12:AA.tmps[68]?.getD undef=.slice A12 x.own.n c12:=tO hA hx12
       clear hA hdeps hcl hmi hiS hiL hil hx9 hx12
       have hK0:KK (AA.put (some 69) _) _:=hK (.agg #[.string ⟨n.toArray⟩,.int .i64 gD,.slice A9 x.body.n c9,.slice none 0 0,.slice A12 x.own.n c12]) W (Below.refl _ _) ⟨A9,c9,A12,c12,rfl,⟨HXR7.out.body.1,how9⟩,⟨rfl,rfl,.inl ⟨rfl,rfl⟩⟩,⟨HXR7.out.own.1,how12⟩⟩
       exact mZ90
      ·injection ho with ho;subst ho
       obtain ⟨x13,hx13,hg13⟩:=hdeps ⟨13,.data⟩ tZ4 rfl
       have hg13:∃ A c A2 c2,x13=.agg #[.string ⟨n.toArray⟩,.int .i64 gD,.slice A x.body.n c,.slice none 0 0,.slice A2 x.own.n c2]∧SnapO W w4.heap.size ⟨n,gD,⟨A,x.body.n,c,x.body.l⟩,⟨none,0,0,[]⟩,⟨A2,x.own.n,c2,x.own.l⟩⟩:=hg13
       have hk13:=hg13
       obtain ⟨A13,c13,Ax13,cx13,rfl,how13⟩:=hg13
       have e13:AA.tmps[69]?.getD undef=.agg #[.string ⟨n.toArray⟩,.int .i64 gD,.slice A13 x.body.n c13,.slice none 0 0,.slice Ax13 x.own.n cx13]:=tO hA hx13
       clear hA hdeps hcl hmi hiS hiL hil hx13
       rw [if_pos (show Region.wanted _ _=true from rfl)]
       refine op_build_one 53 58 (.tmp 69) rfl [.string ⟨n.toArray⟩,.int .i64 gD,.slice A13 x.body.n c13,.slice none 0 0,.slice Ax13 x.own.n cx13] (by simpa [Act.eval] using e13) i0 _ Tryz.underlying53 hi0 hz0 hz1 tZ4 tZ4 ?_
       exact hK _ _ ((Below.refl _ _).alloc (Nat.le_refl _) _) ⟨⟨n,gD,⟨A13,x.body.n,c13,x.body.l⟩,⟨none,0,0,[]⟩,⟨Ax13,x.own.n,cx13,x.own.l⟩⟩,_,_,rfl,(Reads.lit W #[.string ⟨n.toArray⟩,.int .i64 gD,.slice A13 x.body.n c13,.slice none 0 0,.slice Ax13 x.own.n cx13] 58 (n:=1) (size:=5) rfl).more tZ4,how13.below ((Below.refl _ _).alloc (Nat.le_refl _) _),rfl⟩
      ·exact absurd rfl hiS
      ·exact mZ167
      ·exact mZ167
      ·exact absurd rfl hiL
      ·simp at ho
     ·intro i oo ho hiS hiL hil mf W9 W hb9 hmi hcl hdeps hRW AA KK hA hK
      rcases i with _ | _ | _ | _ | _ | _ | _ | _ | _ | _ | _ | _ | _ | _ | _ | _ | _ | _ | _ | i
      ·injection ho with ho;subst ho
       have ef15:AA.tmps[15]?.getD undef=.pointer (some ⟨gS,k*5,none⟩):=tF hA
       exact zL
      ·exact mZ166
      ·exact mZ166
      ·exact mZ166
      ·exact mZ166
      ·exact mZ166
      ·exact mZ166
      ·exact mZ166
      ·exact mZ166
      ·exact mZ166
      ·exact mZ166
      ·exact mZ166
      ·exact mZ166
      ·exact mZ166
      ·exact mZ166
      ·exact absurd rfl hiS
      ·injection ho with ho;subst ho
       have e0:=eL hdeps hA 0 56
       exact zL
      ·injection ho with ho;subst ho
       have e16:=eL hdeps hA 16 72
       exact zL
      ·exact absurd rfl hiL
      ·simp at ho
     ·intro oo ho mf W hb0 hmi hcl hdeps AA KK hA hK
      injection ho with ho;subst ho
      have e4:=eD hdeps hA 4 60
      obtain ⟨x14,hx14,hg14⟩:=hdeps ⟨14,.data⟩ tZ4 rfl
      have hg14:∃ (y:SnapR) (A:Option Addr) (c:Nat),x14=.slice A 1 c∧Reads W W.heap.size 5 A 1 (encSnap y)∧SnapO W w4.heap.size y∧y.con=⟨n,gD,x.body.l,[],x.own.l⟩:=hg14
      obtain ⟨y14,A14,c14,rfl,hr14,how14,hyc14⟩:=hg14
      have e14:AA.tmps[70]?.getD undef=.slice A14 1 c14:=tO hA hx14
      clear hA hdeps hmi hcl
      have hown:=(HSX.out.below hb0).snaps
      have hKK:=Lib.hid hK
      clear hK
      refine step_append_any W rfl (.tmp 60) (.tmp 70) 53 rfl w4.heap.size 58 i0 _ 5 96 Tryz.underlying53 hi0 hz0 hz1 hz2 rfl tZ3 (.slice xk.snaps.A xk.snaps.n xk.snaps.c) xk.snaps.n (cellsK encSnap xk.snaps.l) ?_ hown.2 W.heap.size A14 1 c14 (encSnap y14) ?_ hr14 (fun u hu=>encSn_one y14 u hu) (by have:=HIN.out;unfold maxLen;omega) (by have:=HIN.out;omega) tZ135 ?_
      ·simpa [Act.eval] using e4
      ·simpa [Act.eval] using e14
      ·intro v' w' h1 h2 h3
       obtain ⟨v1,v3,rfl,_⟩:=own_form h1
       exact hKK.out _ _ ⟨v1,v3,y14,rfl,h1,h2,how14,hyc14⟩
     ·intro oo ho mf W9 W uS hb9 hmi hall hSm hR AA KK hA hK
      injection ho with ho;subst ho
      have zm0:=dV (hall 0 tZ4 tZ3 tZ3)
      have zm1:=dV (hall 1 tZ4 tZ3 tZ3)
      have zm2:=dV (hall 2 tZ4 tZ3 tZ3)
      have zm3:=dV (hall 3 tZ4 tZ3 tZ3)
      have zm4:=dV (hall 4 tZ4 tZ3 tZ3)
      have zm5:=dV (hall 5 tZ4 tZ3 tZ3)
      have zm6:=dV (hall 6 tZ4 tZ3 tZ3)
      have zm7:=dV (hall 7 tZ4 tZ3 tZ3)
      have zm8:=dV (hall 8 tZ4 tZ3 tZ3)
      obtain ⟨x9,zm9,hg9⟩:=hall 9 tZ4 tZ3 tZ3
      have hg9:∃ A c,x9=.slice A x.body.n c∧W9.ownsRow w4.heap.size 97 2 x9 x.body.n (cellsK encB x.body.l):=hg9
      obtain ⟨A9,c9,rfl,how9⟩:=hg9
      have zm10:=dV (hall 10 tZ4 tZ3 tZ3)
      have zm11:=dV (hall 11 tZ4 tZ3 tZ3)
      obtain ⟨x12,zm12,hg12⟩:=hall 12 tZ4 tZ3 tZ3
      have hg12:∃ A c,x12=.slice A x.own.n c∧W9.ownsRow w4.heap.size 100 2 x12 x.own.n (cellsK encP x.own.l):=hg12
      obtain ⟨A12,c12,rfl,how12⟩:=hg12
      obtain ⟨x13,zm13,hg13⟩:=hall 13 tZ4 tZ3 tZ3
      have hg13:∃ A c A2 c2,x13=.agg #[.string ⟨n.toArray⟩,.int .i64 gD,.slice A x.body.n c,.slice none 0 0,.slice A2 x.own.n c2]∧SnapO W9 w4.heap.size ⟨n,gD,⟨A,x.body.n,c,x.body.l⟩,⟨none,0,0,[]⟩,⟨A2,x.own.n,c2,x.own.l⟩⟩:=hg13
      obtain ⟨A13,c13,Ax13,cx13,rfl,how13⟩:=hg13
      obtain ⟨x14,zm14,hg14⟩:=hall 14 tZ4 tZ3 tZ3
      have hg14:∃ (y:SnapR) (A:Option Addr) (c:Nat),x14=.slice A 1 c∧Reads W9 W9.heap.size 5 A 1 (encSnap y)∧SnapO W9 w4.heap.size y∧y.con=⟨n,gD,x.body.l,[],x.own.l⟩:=hg14
      obtain ⟨y14,A14,c14,rfl,hr14,how14,hyc14⟩:=hg14
      have zm16:=dV (hall 16 tZ4 tZ3 tZ3)
      have zm17:=dV (hall 17 tZ4 tZ3 tZ3)
      obtain ⟨v1,v3,yy,rfl,hv,hg,hyo,hyy⟩:=hR
      have e15:AA.tmps[71]?.getD undef=.slice v1 (xk.snaps.n+1) v3:=tO hA hSm
      have e17:AA.tmps[73]?.getD undef=.pointer (some ⟨gS,k*5+3,none⟩):=tO hA zm17
      have ho9:=HO7.out.below hb9
      have hsx9:=HSX.out.below hb9
      have hAs:=ho9.aside HPW.out k HKM.out tZ143
      obtain ⟨hbS,hlS,hfS,-,-,-,hcS,-⟩:=row_cells hAs.sets HKM.out rfl
      have hfS:=hfS (k*5+3)
      have k9:=(K7.out.below hb9 K7.out.lt).grown hg (own_ne hsx9.snaps (K7.out.below hb9 K7.out.lt) tZ3)
      have hw9:Below W1.heap.size W1 W:=(HW7.out.trans (hb9.mono HW7.out.size)).grown hg tZ121 (fun g hgg=>by have:=(hsx9.snaps.2.lt _ hgg).1;have:=HSS.out;omega)
      have hst:=hAs.store ⟨v1,xk.snaps.n+1,v3,xk.snaps.l++[yy]⟩ ⟨by have:=HIN.out;simp only [List.length_append,List.length_cons,List.length_nil];omega,by
       show World.ownsRow _ _ _ _ _ _ (cellsK encSnap (xk.snaps.l++[yy]))
       rw [cellsK_append,cellsK_one]
       exact hv⟩ (fun z hz=>by
        rcases List.mem_append.1 hz with hz | hz
        ·exact hAs.olds z (by simp only [← HXK.out];exact hz)
        ·rw [List.mem_singleton.1 hz]
         exact hyo.asideS hsx9.snaps hg) (gS:=gS) rfl
      have HYO:Hid (TenO (W.setCell ⟨gS,k*5+3,none⟩ (.slice v1 (xk.snaps.n+1) v3)) w4.heap.size (TenR.putS ⟨mm,mq,mx,⟨some ⟨gS,0,none⟩,m2,m3,ml⟩,⟨n1,n2,n3,nl⟩,⟨p1,p2,p3,pl⟩,⟨q1,q2,q3,ql⟩⟩ k ((ml[k]'HKM.out).withSn ⟨v1,xk.snaps.n+1,v3,xk.snaps.l++[yy]⟩))):=hst.1
      have HW10:=Lib.hid (hw9.setCell (p:=⟨gS,k*5+3,none⟩) tZ70 (.slice v1 (xk.snaps.n+1) v3))
      have K10:=Lib.hid (k9.far (p:=⟨gS,k*5+3,none⟩) tZ158 (.slice v1 (xk.snaps.n+1) v3))
      have HYC:Hid (TenR.con (TenR.putS ⟨mm,mq,mx,⟨some ⟨gS,0,none⟩,m2,m3,ml⟩,⟨n1,n2,n3,nl⟩,⟨p1,p2,p3,pl⟩,⟨q1,q2,q3,ql⟩⟩ k ((ml[k]'HKM.out).withSn ⟨v1,xk.snaps.n+1,v3,xk.snaps.l++[yy]⟩))=C.putS k (x.con.addSnap (snapOf x.con n gD))):=by
       show _=_
       have h1:=addSnap_con xk yy v1 (xk.snaps.n+1) v3
       simp only [← HXK.out]
       rw [TenR.con_putS,hyc.out,h1,HXC.out,hyy]
       rfl
      clear ho9 hsx9 hAs k9 hw9 hst hv hb9 hyo hyy
      have hK0:=hK undef (W.setCell ⟨gS,k*5+3,none⟩ (.slice v1 (xk.snaps.n+1) v3))
      clear hA hK hall hmi
      go_simp
      refine hK0 ?_
      clear hK0 e15 e17
      rw [frameM_all tZ2 [.pointer (some ⟨gS,k*5,none⟩),.pointer (some ⟨gS,k*5,none⟩),.pointer (some ⟨gS,k*5,none⟩),.pointer (some ⟨gS,k*5+3,none⟩),.slice xk.snaps.A xk.snaps.n xk.snaps.c,.string ⟨n.toArray⟩,.int .i64 gD,.pointer (some ⟨g6,2,none⟩),.slice x.body.A x.body.n x.body.c,.slice A9 x.body.n c9,.pointer (some ⟨g6,4,none⟩),.slice x.own.A x.own.n x.own.c,.slice A12 x.own.n c12,.agg #[.string ⟨n.toArray⟩,.int .i64 gD,.slice A13 x.body.n c13,.slice none 0 0,.slice Ax13 x.own.n cx13],.slice A14 1 c14,.slice v1 (xk.snaps.n+1) v3,.pointer (some ⟨gS,k*5,none⟩),.pointer (some ⟨gS,k*5+3,none⟩),undef] rfl (fun i hi=>by rcases i with _ | _ | _ | _ | _ | _ | _ | _ | _ | _ | _ | _ | _ | _ | _ | _ | _ | _ | _ | i <;> first | (rw [upd_self];rfl) | (rw [upd_ne _ _ tZ3];assumption) | (simp at hi;omega))]
      clear hSm zm0 zm1 zm2 zm3 zm4 zm5 zm6 zm7 zm8 zm9 zm10 zm11 zm12 zm13 zm14 zm16 zm17
      simp only [putAll,Act.put,zA,zC,zB]
      obtain ⟨W10,hW10⟩:∃ W',W'=W.setCell ⟨gS,k*5+3,none⟩ (.slice v1 (xk.snaps.n+1) v3):=⟨_,rfl⟩
      clear hcS hfS hg
      rw [← hW10] at HYO HW10 K10 ⊢
      clear hW10
      have hwr:IntKind.i64.wrap (gD+1)=gD+1:=IntWalk.i64_in _ (by have:=HHI.out;omega)
      have k11:=K10.out.set_ 2 (.int .i64 (gD+1))
      simp only [zA,zC,zB] at k11
      have ho11:=HYO.out.keptT (grown_box W10 g5 2 (.int .i64 (gD+1))) K10.out offT_ten
      have hw11:=HW10.out.setCell (p:=⟨g5,2,none⟩) tZ70 (.int .i64 (gD+1))
      have e2_:=K10.out.cell 2
      simp only [zF,zD,zE] at e2_
      have z2_:=K10.out.frozen 2
      obtain ⟨w11,hW11⟩:∃ W',W'=W10.setCell ⟨g5,2,none⟩ (.int .i64 (gD+1)):=⟨_,rfl⟩
      rw [← hW11] at k11 ho11 hw11
      have HW11:=Lib.hid hw11
      have K11:=Lib.hid k11
      have hon:TenO w11 w4.heap.size ⟨mm,mq,gD+1,(TenR.sets (TenR.putS ⟨mm,mq,mx,⟨some ⟨gS,0,none⟩,m2,m3,ml⟩,⟨n1,n2,n3,nl⟩,⟨p1,p2,p3,pl⟩,⟨q1,q2,q3,ql⟩⟩ k ((ml[k]'HKM.out).withSn ⟨v1,xk.snaps.n+1,v3,xk.snaps.l++[yy]⟩))),⟨n1,n2,n3,nl⟩,⟨p1,p2,p3,pl⟩,⟨q1,q2,q3,ql⟩⟩:=⟨ho11.sets,ho11.eachS,ho11.grants,ho11.stages,ho11.eachG,ho11.log⟩
      have hcn:TenR.con ⟨mm,mq,gD+1,(TenR.sets (TenR.putS ⟨mm,mq,mx,⟨some ⟨gS,0,none⟩,m2,m3,ml⟩,⟨n1,n2,n3,nl⟩,⟨p1,p2,p3,pl⟩,⟨q1,q2,q3,ql⟩⟩ k ((ml[k]'HKM.out).withSn ⟨v1,xk.snaps.n+1,v3,xk.snaps.l++[yy]⟩))),⟨n1,n2,n3,nl⟩,⟨p1,p2,p3,pl⟩,⟨q1,q2,q3,ql⟩⟩=C.snapped k x.con n gD:=by
       have h:=HYC.out
       unfold TenC.snapped TenC.nextN
       rw [← h]
       rfl
      have hsz:(C.snapped k x.con n gD).sz:=snapped_sz HCZ.out k x.con (HCZ.out.eachS _ (List.mem_of_getElem? HGK.out)) HX16.out n tZ153 gD
      have hSE1:=hSE.out ⟨mm,mq,gD+1,(TenR.sets (TenR.putS ⟨mm,mq,mx,⟨some ⟨gS,0,none⟩,m2,m3,ml⟩,⟨n1,n2,n3,nl⟩,⟨p1,p2,p3,pl⟩,⟨q1,q2,q3,ql⟩⟩ k ((ml[k]'HKM.out).withSn ⟨v1,xk.snaps.n+1,v3,xk.snaps.l++[yy]⟩))),⟨n1,n2,n3,nl⟩,⟨p1,p2,p3,pl⟩,⟨q1,q2,q3,ql⟩⟩ _ hcn hsz w11 _ hon (hrw.out w11 hw11).2.2
      obtain ⟨⟨E2,C2⟩,hV2⟩:∃ V2:Int×TenC,V2=(C.snapped k x.con n gD).settle:=⟨_,rfl⟩
      rw [← hV2] at hSE1
      have HX:Hid (V=(E2,C2)):=HXc.out.trans hV2.symm
      have HSE1:Hid (Calls Tryz.prog 11 #[.agg #[.string ⟨mm.toArray⟩,.int .i64 mq,.int .i64 (gD+1),.slice (some ⟨gS,0,none⟩) m2 m3,.slice n1 n2 n3,.slice p1 p2 p3,.slice q1 q2 q3]] w11 (TenPost w11 (E2,C2))):=hSE1
      obtain ⟨d0,d1,d2,d3,d4,d5,d6⟩:=(⟨k11.cell 0,k11.cell 1,k11.cell 2,k11.cell 3,k11.cell 4,k11.cell 5,k11.cell 6⟩:_∧_∧_∧_∧_∧_∧_)
      simp only [zF,zD,zE] at d0 d1 d2 d3 d4 d5 d6
      clear hSE hSE1 hon hcn hsz hV2 k11 ho11 hw11 HXc
      go_upto_region 16 with (fail)
      rw [← hW11]
      clear hW11 e2_ z2_
      go_wp2_with fail
      refine HSE1.out.mono ?_
      clear HSE1 d0 d1 d2 d3 d4 d5 d6 hwr
      rintro e w12 ⟨v,rfl,hb,hcs⟩
      have HW12:=Lib.hid (HW11.out.trans (hb.mono HW11.out.size))
      have K12:=Lib.hid (K11.out.below hb K11.out.lt)
      have HS12:=Lib.hid (show W1.heap.size≤w11.heap.size from HW11.out.size)
      clear hb
      rcases hcs with ⟨h1,rfl⟩ | ⟨h1,z,rfl,ho,hy⟩
      ·simp only at h1
       have HE:=Lib.hid h1
       have hEb:(E2 == 0)=false:=by simpa using h1
       clear h1
       have HB12:=Lib.hid (hBW.out w12 HW12.out)
       unfold ZEROT
       obtain ⟨WG,hWG,hthG,-,HBG,hgG⟩:=res7 (g:=g5) [.string ⟨#[]⟩,.int .i64 0,.int .i64 0,.slice none 0 0,.slice none 0 0,.slice none 0 0,.slice none 0 0] K12.out (HB12.out) tZ90
       have kG:Blk WG g5 27 #[.string ⟨#[]⟩,.int .i64 0,.int .i64 0,.slice none 0 0,.slice none 0 0,.slice none 0 0,.slice none 0 0]:=by
        have k4:=Blk.setCells (g:=g5) [.string ⟨#[]⟩,.int .i64 0,.int .i64 0,.slice none 0 0,.slice none 0 0,.slice none 0 0,.slice none 0 0] w12 [] [.string ⟨mm.toArray⟩,.int .i64 mq,.int .i64 (gD+1),.slice (some ⟨gS,0,none⟩) m2 m3,.slice n1 n2 n3,.slice p1 p2 p3,.slice q1 q2 q3] rfl K12.out
        simp only [List.length_nil,List.nil_append] at k4
        rw [hWG]
        exact k4
       have hwG:=HW12.out.grown hgG (by have:=HW12.out.size;omega) (fun g hgg=>by injection hgg with hgg;have:=HG5.out;have:=HSS.out;omega)
       have HWG:=Lib.hid hwG
       obtain ⟨d0,d1,d2,d3,d4,d5,d6⟩:=(⟨kG.cell 0,kG.cell 1,kG.cell 2,kG.cell 3,kG.cell 4,kG.cell 5,kG.cell 6⟩:_∧_∧_∧_∧_∧_∧_)
       simp only [zF,zD,zE] at d0 d1 d2 d3 d4 d5 d6
       clear kG hwG
       clear d0 d1 d2 d3 d4 d5 d6
       go_upto_region 17 with (refine wpList_store_mid rfl 27 (.tmp 14) (.tmp 80) rfl g5 0 #[.string ⟨#[]⟩,.int .i64 0,.int .i64 0,.slice none 0 0,.slice none 0 0,.slice none 0 0,.slice none 0 0] rfl rfl hthG.out tZ2 tZ5 ?_;rw [← hWG];clear hWG)
       have KZ:=Lib.hid (hKz.out WG HWG.out)
       have HB:=Lib.hid (hBW.out WG HWG.out)
       obtain ⟨WR,hW4,hth,HL,HBW,hgw⟩:=res7 (g:=(w.heap.size+1)) [.string ⟨#[]⟩,.int .i64 0,.int .i64 0,.slice none 0 0,.slice none 0 0,.slice none 0 0,.slice none 0 0] KZ.out HB.out tZ1
       clear hgw
       go_wp2_with (refine wpList_store_mid rfl 27 (.tmp 6) (.tmp 84) rfl (w.heap.size+1) 0 #[.string ⟨#[]⟩,.int .i64 0,.int .i64 0,.slice none 0 0,.slice none 0 0,.slice none 0 0,.slice none 0 0] rfl rfl hth.out tZ2 tZ5 ?_;rw [← hW4];clear hW4)
       exact bodyPost_ret (v:=.tuple #[.agg #[.string ⟨#[]⟩,.int .i64 0,.int .i64 0,.slice none 0 0,.slice none 0 0,.slice none 0 0,.slice none 0 0],.int .i64 0,.int .i64 E2]) (results_cell_tmp2 rfl rfl HL.out) rfl (tenPost3_err HX.out HE.out HBW.out)
      ·simp only at h1
       subst h1
       have HB12:=Lib.hid (hBW.out w12 HW12.out)
       have HO:=Lib.hid (ho.mono (base':=w.heap.size) (by have:=HS12.out;have:=hSZ.out W1 hW0.out;omega))
       have HY:=Lib.hid hy
       clear ho hy
       obtain ⟨km,kq,kx,⟨k1,k2,k3,kl⟩,⟨j1,j2,j3,jl⟩,⟨i1,i2,i3,il⟩,⟨h1,h2,h3,hl⟩⟩:=z
       simp only [TenR.val,TenR.cells,FS.val,strV]
       obtain ⟨WG,hWG,hthG,-,HBG,hgG⟩:=res7 (g:=g5) [.string ⟨km.toArray⟩,.int .i64 kq,.int .i64 kx,.slice k1 k2 k3,.slice j1 j2 j3,.slice i1 i2 i3,.slice h1 h2 h3] K12.out (HB12.out) tZ90
       have kG:Blk WG g5 27 #[.string ⟨km.toArray⟩,.int .i64 kq,.int .i64 kx,.slice k1 k2 k3,.slice j1 j2 j3,.slice i1 i2 i3,.slice h1 h2 h3]:=by
        have k4:=Blk.setCells (g:=g5) [.string ⟨km.toArray⟩,.int .i64 kq,.int .i64 kx,.slice k1 k2 k3,.slice j1 j2 j3,.slice i1 i2 i3,.slice h1 h2 h3] w12 [] [.string ⟨mm.toArray⟩,.int .i64 mq,.int .i64 (gD+1),.slice (some ⟨gS,0,none⟩) m2 m3,.slice n1 n2 n3,.slice p1 p2 p3,.slice q1 q2 q3] rfl K12.out
        simp only [List.length_nil,List.nil_append] at k4
        rw [hWG]
        exact k4
       have hwG:=HW12.out.grown hgG (by have:=HW12.out.size;omega) (fun g hgg=>by injection hgg with hgg;have:=HG5.out;have:=HSS.out;omega)
       have HWG:=Lib.hid hwG
       obtain ⟨d0,d1,d2,d3,d4,d5,d6⟩:=(⟨kG.cell 0,kG.cell 1,kG.cell 2,kG.cell 3,kG.cell 4,kG.cell 5,kG.cell 6⟩:_∧_∧_∧_∧_∧_∧_)
       simp only [zF,zD,zE] at d0 d1 d2 d3 d4 d5 d6
       clear kG hwG
       have HOG:=Lib.hid (HO.out.keptT hgG K12.out offT_ten)
       go_upto_region 17 with (refine wpList_store_mid rfl 27 (.tmp 14) (.tmp 80) rfl g5 0 #[.string ⟨km.toArray⟩,.int .i64 kq,.int .i64 kx,.slice k1 k2 k3,.slice j1 j2 j3,.slice i1 i2 i3,.slice h1 h2 h3] rfl rfl hthG.out tZ2 tZ5 ?_;rw [← hWG];clear hWG)
       have KZ:=Lib.hid (hKz.out WG HWG.out)
       have HB:=Lib.hid (hBW.out WG HWG.out)
       obtain ⟨WR,hW4,hth,HL,HBW,hgw⟩:=res7 (g:=(w.heap.size+1)) [.string ⟨km.toArray⟩,.int .i64 kq,.int .i64 kx,.slice k1 k2 k3,.slice j1 j2 j3,.slice i1 i2 i3,.slice h1 h2 h3] KZ.out HB.out tZ1
       have HOO:=Lib.hid (HOG.out.keptT hgw KZ.out offT_ten)
       clear hgw
       go_wp2_with (refine wpList_store_mid rfl 27 (.tmp 6) (.tmp 86) rfl (w.heap.size+1) 0 #[.string ⟨km.toArray⟩,.int .i64 kq,.int .i64 kx,.slice k1 k2 k3,.slice j1 j2 j3,.slice i1 i2 i3,.slice h1 h2 h3] rfl rfl hth.out tZ2 tZ5 ?_;rw [← hW4];clear hW4)
       rw [HGN.out]
       exact bodyPost_ret (v:=.tuple #[.agg #[.string ⟨km.toArray⟩,.int .i64 kq,.int .i64 kx,.slice k1 k2 k3,.slice j1 j2 j3,.slice i1 i2 i3,.slice h1 h2 h3],.int .i64 gD,.int .i64 0]) (results_cell_tmp2 rfl rfl HL.out) rfl (tenPost3_ok HX.out HBW.out ⟨km,kq,kx,⟨k1,k2,k3,kl⟩,⟨j1,j2,j3,jl⟩,⟨i1,i2,i3,il⟩,⟨h1,h2,h3,hl⟩⟩ HOO.out HY.out)
end Go.Proofs.YtiojfffgiejibaaGreatDoor
