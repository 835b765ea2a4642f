/-
  shape.Settle: a changed tenant, if it may be and if it fits. What a tenant's content tells: whether it may be, and what it is charged for. What is done to a block of another element type keeps a tenant of one's own. The page's Set and Charge: what a tenant is charged for. Contents with a set more, with another set at a place, with a set less. The law TreeCopies: a copy is the tenant, and shares nothing with it. What a function tells that answers by a tenant and an error; sizes by content.
-/
import Derived.Test.YtcgclpcocdappaaGreatDoorXM1
import Derived.Test.YtcgclpcocdappaaGreatDoorX0
import Derived.Test.YtcgclpcocdappaaGreatDoorX23
import Derived.Test.YtcgclpcocdappaaGreatDoorX22
import Derived.Test.YtcgclpcocdappaaGreatDoorX11
import Derived.Test.YtcgclpcocdappaaGreatDoorX13
import Derived.Test.YtcgclpcocdappaaGreatDoorX14
import Derived.Test.YtcgclpcocdappaaGreatDoorX12
import Derived.Test.YtcgclpcocdappaaGreatDoorX21
import Derived.Test.YtcgclpcocdappaaGreatDoorX3
import Derived.Test.YtcgclpcocdappaaGreatDoorX24
import Derived.Test.YtcgclpcocdappaaGreatDoorX19
import Derived.Test.YtcgclpcocdappaaGreatDoorX4
import Derived.Test.YtcgclpcocdappaaGreatDoorX20
namespace Go.Proofs.YtcgclpcocdappaaGreatDoor
open Go.RowKit
theorem results_cell_tmp {P:Program} {fn:Func} {tmps:Array Value} {a b:Tmp} {t:TypeId} {ad:Addr} {v u:Value} {w:World} (hr:fn.results=#[.cell a t,.tmp b]) (ha:tmps[a]?.getD undef=.pointer (some ad)) (hl:(loadVar t ad).run P w=.ok v w) (hu:tmps[b]?.getD undef=u:=by rfl):(results fn tmps).run P w=.ok (.tuple #[v,u]) w:=by
 simp [results,hr,ha,hl,hu,asAddr]
theorem grown_cellsS (g:Nat) (cs:List Value):∀ (W:World) (o:Nat),W.grownBy (W.setCells g o cs) (some g):=by
 exact mZ209
theorem sum_le_len {α:Type} (f:α→Int) (c:Int) (l:List α) (h:∀ x∈l,f x≤c):(l.map f).sum≤l.length*c:=by
 induction l with
 | nil=>simp
 | cons x r ih =>
  have h1:=h x List.mem_cons_self
  have h2:=ih (fun y hy=>h y (List.mem_cons_of_mem _ hy))
  simp only [List.map_cons,List.sum_cons,List.length_cons,Int.natCast_add,Int.add_mul,Int.natCast_one,Int.one_mul]
  omega
theorem setSum_small (x:SetR) (hz:x.sz) (h:x.snaps.l.length≤16):setSum x≤20000000000000:=by
 unfold setSum sumB
 rw [List.take_length]
 have h1:=hz.body
 have h2:=sum_le_len (fun y:SnapR=>(y.body.n:Int)+1) 1000000000001 x.snaps.l (fun y hy=>by have:=(hz.each y hy).body;omega)
 omega
/-- what may be is not much -/
theorem tenSum_small (t:TenR) (hz:t.sz) (h:tenE t=0):tenSum t≤4000000000000000000:=by
 unfold tenE at h
 split at h
 ·rename_i hb
  unfold tenB at hb
  simp only [Bool.and_eq_true] at hb
  have hS:=hb.1.1.1.2
  have hG:=hb.1.2
  unfold setsB at hS
  unfold stagesB at hG
  simp only [Bool.and_eq_true,decide_eq_true_eq] at hS hG
  have hx:=((setsFrom_iff _ _ _).1 hS.2).1
  have h1:=sum_le_len setSum 20000000000000 t.sets.l (fun x hm=>by
   have h3:=hx x hm
   unfold setB at h3
   simp only [Bool.and_eq_true] at h3
   have h4:=h3.1.2
   unfold snapsB at h4
   simp only [Bool.and_eq_true,decide_eq_true_eq] at h4
   exact setSum_small x (hz.eachS x hm) h4.1.1)
  have h2:=sum_le_len (fun x:StageR=>(x.body.n:Int)+1) 1000000000001 t.stages.l (fun y hy=>by have:=(hz.eachT y hy).body;omega)
  unfold tenSum sumS sumG
  rw [List.take_length,List.take_length]
  have h5:=hS.1.1
  have h6:=hG.1
  omega
 ·cases h
def ZEROT:Value:=.agg #[.string ⟨#[]⟩,.int .i64 0,.int .i64 0,.slice none 0 0,.slice none 0 0,.slice none 0 0,.slice none 0 0]
def SettlePost (t:TenR) (w:World) (e:Ending) (w':World):Prop:=∃ v E,e=.returned (.tuple #[v,.int .i64 E])∧Below w.heap.size w w' ∧
 ((tenE t=9∧E=9∧v=ZEROT)∨(tenE t=0∧t.quota<tenSum t∧E=42∧v=ZEROT)∨(tenE t=0∧tenSum t≤t.quota∧E=0∧∃ y:TenR,v=y.val∧TenO w' w.heap.size y∧t.eqv y))
theorem tenE_09 (t:TenR):tenE t=0∨tenE t=9:=by unfold tenE;split <;> simp
set_option maxRecDepth 100000 in
set_option maxHeartbeats 4000000 in
theorem settle_any (t:TenR) (w:World) (B:Nat) (hB:B≤w.heap.size) (hr:t.rd w B) (hz:t.sz) (hmx:HasMax w) :
  Calls Tryz.prog 47 #[t.val] w (SettlePost t w):=by
 have h2:=tenE_09 t
 have hsm:=tenSum_small t hz
 obtain ⟨nm,qu,nx,⟨s1,sn,s3,sl⟩,⟨g1,gn,g3,gl⟩,⟨t1,tn,t3,tl⟩,⟨l1,ln,l3,ll⟩⟩:=t
 show Calls Tryz.prog 47 #[.agg #[.string ⟨nm.toArray⟩,.int .i64 qu,.int .i64 nx,.slice s1 sn s3,.slice g1 gn g3,.slice t1 tn t3,.slice l1 ln l3]] w _
 have hb2:=((Below.refl w.heap.size w).alloc (Nat.le_refl _) (.cells #[.string ⟨nm.toArray⟩,.int .i64 qu,.int .i64 nx,.slice s1 sn s3,.slice g1 gn g3,.slice t1 tn t3,.slice l1 ln l3] 27)).alloc tZ3 (.cells #[.string ⟨#[]⟩,.int .i64 0,.int .i64 0,.slice none 0 0,.slice none 0 0,.slice none 0 0,.slice none 0 0] 27)
 have kT:=(Blk.new w 27 #[.string ⟨nm.toArray⟩,.int .i64 qu,.int .i64 nx,.slice s1 sn s3,.slice g1 gn g3,.slice t1 tn t3,.slice l1 ln l3]).alloc (.cells #[.string ⟨#[]⟩,.int .i64 0,.int .i64 0,.slice none 0 0,.slice none 0 0,.slice none 0 0,.slice none 0 0] 27)
 have kZ:=Blk.new (w.alloc (.cells #[.string ⟨nm.toArray⟩,.int .i64 qu,.int .i64 nx,.slice s1 sn s3,.slice g1 gn g3,.slice t1 tn t3,.slice l1 ln l3] 27)) 27 #[.string ⟨#[]⟩,.int .i64 0,.int .i64 0,.slice none 0 0,.slice none 0 0,.slice none 0 0,.slice none 0 0]
 rw [show (w.alloc (.cells #[.string ⟨nm.toArray⟩,.int .i64 qu,.int .i64 nx,.slice s1 sn s3,.slice g1 gn g3,.slice t1 tn t3,.slice l1 ln l3] 27)).heap.size=w.heap.size+1 by simp] at kZ
 obtain ⟨W2,hW2⟩:∃ W,W=(w.alloc (.cells #[.string ⟨nm.toArray⟩,.int .i64 qu,.int .i64 nx,.slice s1 sn s3,.slice g1 gn g3,.slice t1 tn t3,.slice l1 ln l3] 27)).alloc (.cells #[.string ⟨#[]⟩,.int .i64 0,.int .i64 0,.slice none 0 0,.slice none 0 0,.slice none 0 0,.slice none 0 0] 27):=⟨_,rfl⟩
 have hsz:W2.heap.size=w.heap.size+2:=tZ53
 rw [← hW2] at hb2 kT kZ
 have hrw:Hid (∀ W,Below W2.heap.size W2 W→TenR.rd W B ⟨nm,qu,nx,⟨s1,sn,s3,sl⟩,⟨g1,gn,g3,gl⟩,⟨t1,tn,t3,tl⟩,⟨l1,ln,l3,ll⟩⟩∧w.heap.size+2≤W.heap.size∧HasMax W∧Below w.heap.size w W):=by
  show ∀ W,_→_
  intro W h
  have h1:=hb2.trans (h.mono tZ1)
  exact ⟨TenR.rd.below hr (h1.mono hB),by have:=h.size;omega,hmx.below h1,h1⟩
 have hTC:Hid (∀ W,Below W2.heap.size W2 W→Calls Tryz.prog 58 #[.agg #[.string ⟨nm.toArray⟩,.int .i64 qu,.int .i64 nx,.slice s1 sn s3,.slice g1 gn g3,.slice t1 tn t3,.slice l1 ln l3]] W fun e w'=>e=.returned (.int .i64 (tenE ⟨nm,qu,nx,⟨s1,sn,s3,sl⟩,⟨g1,gn,g3,gl⟩,⟨t1,tn,t3,tl⟩,⟨l1,ln,l3,ll⟩⟩))∧Below W.heap.size W w'):=fun W hb =>
  tcheck_any ⟨nm,qu,nx,⟨s1,sn,s3,sl⟩,⟨g1,gn,g3,gl⟩,⟨t1,tn,t3,tl⟩,⟨l1,ln,l3,ll⟩⟩ W B (hrw.out W hb).1 tZ127 hz (hrw.out W hb).2.2.1
 have hFT:Hid (tenE ⟨nm,qu,nx,⟨s1,sn,s3,sl⟩,⟨g1,gn,g3,gl⟩,⟨t1,tn,t3,tl⟩,⟨l1,ln,l3,ll⟩⟩=0→∀ W,Below W2.heap.size W2 W→Calls Tryz.prog 114 #[.agg #[.string ⟨nm.toArray⟩,.int .i64 qu,.int .i64 nx,.slice s1 sn s3,.slice g1 gn g3,.slice t1 tn t3,.slice l1 ln l3]] W fun e w'=>e=.returned (.bool (decide (tenSum ⟨nm,qu,nx,⟨s1,sn,s3,sl⟩,⟨g1,gn,g3,gl⟩,⟨t1,tn,t3,tl⟩,⟨l1,ln,l3,ll⟩⟩≤qu)))∧Below W.heap.size W w'):=fun h0 W hb =>
  fits_any ⟨nm,qu,nx,⟨s1,sn,s3,sl⟩,⟨g1,gn,g3,gl⟩,⟨t1,tn,t3,tl⟩,⟨l1,ln,l3,ll⟩⟩ W B tZ127 (hrw.out W hb).1 hz (hsm h0)
 have hCP:Hid (∀ W,Below W2.heap.size W2 W→Calls Tryz.prog 44 #[.agg #[.string ⟨nm.toArray⟩,.int .i64 qu,.int .i64 nx,.slice s1 sn s3,.slice g1 gn g3,.slice t1 tn t3,.slice l1 ln l3]] W fun e w'=>∃ y:TenR,e=.returned y.val∧TenO w' W.heap.size y∧TenR.eqv ⟨nm,qu,nx,⟨s1,sn,s3,sl⟩,⟨g1,gn,g3,gl⟩,⟨t1,tn,t3,tl⟩,⟨l1,ln,l3,ll⟩⟩ y∧Below W.heap.size W w'):=fun W hb =>
  tcopy_any ⟨nm,qu,nx,⟨s1,sn,s3,sl⟩,⟨g1,gn,g3,gl⟩,⟨t1,tn,t3,tl⟩,⟨l1,ln,l3,ll⟩⟩ W B tZ127 (hrw.out W hb).1 hz
 obtain ⟨E,hE⟩:∃ E,E=tenE ⟨nm,qu,nx,⟨s1,sn,s3,sl⟩,⟨g1,gn,g3,gl⟩,⟨t1,tn,t3,tl⟩,⟨l1,ln,l3,ll⟩⟩:=⟨_,rfl⟩
 obtain ⟨U,hU⟩:∃ U,U=tenSum ⟨nm,qu,nx,⟨s1,sn,s3,sl⟩,⟨g1,gn,g3,gl⟩,⟨t1,tn,t3,tl⟩,⟨l1,ln,l3,ll⟩⟩:=⟨_,rfl⟩
 rw [← hE] at h2 hTC hFT
 rw [← hU] at hFT
 have HE:=Lib.hid hE
 have HU:=Lib.hid hU
 have HSZ:=Lib.hid hsz
 have KT2:=Lib.hid kT
 have KZ2:=Lib.hid kZ
 have hc:=hTC.out W2 (Below.refl _ _)
 obtain ⟨c0,c1,c2,c3,c4,c5,c6⟩:=(⟨kT.cell 0,kT.cell 1,kT.cell 2,kT.cell 3,kT.cell 4,kT.cell 5,kT.cell 6⟩:_∧_∧_∧_∧_∧_∧_)
 simp only [zF,zD,zE] at c0 c1 c2 c3 c4 c5 c6
 clear hb2 kT kZ hr hz hsm hE hU hsz hmx hTC
 go_enter Tryz.func47,Tryz.ntmps47
 go_wp2_with fail
 rw [← hW2]
 clear hW2
 refine hc.mono ?_
 clear hc c0 c1 c2 c3 c4 c5 c6
 rintro e w3 ⟨rfl,hb3⟩
 have HW3:=Lib.hid hb3
 have HB3:=Lib.hid (hrw.out w3 hb3).2.2.2
 have KZ:=Lib.hid (KZ2.out.below hb3 KZ2.out.lt)
 have KT:=Lib.hid (KT2.out.below hb3 KT2.out.lt)
 clear hb3 KZ2 KT2
 rcases h2 with rfl | rfl
 ·have hc:=hFT.out rfl w3 HW3.out
  obtain ⟨c0,c1,c2,c3,c4,c5,c6⟩:=(⟨KT.out.cell 0,KT.out.cell 1,KT.out.cell 2,KT.out.cell 3,KT.out.cell 4,KT.out.cell 5,KT.out.cell 6⟩:_∧_∧_∧_∧_∧_∧_)
  simp only [zF,zD,zE] at c0 c1 c2 c3 c4 c5 c6
  clear hFT
  go_wp2_with fail
  refine hc.mono ?_
  clear hc c0 c1 c2 c3 c4 c5 c6
  rintro e w4 ⟨rfl,hb4⟩
  have HW4:=Lib.hid (HW3.out.trans (hb4.mono HW3.out.size))
  have HB4:=Lib.hid (HB3.out.trans (hb4.mono HB3.out.size))
  have KZ:=Lib.hid (KZ.out.below hb4 KZ.out.lt)
  have KT:=Lib.hid (KT.out.below hb4 KT.out.lt)
  clear hb4 HB3 HW3
  by_cases hq:U≤qu
  ·rw [decide_eq_true hq]
   have HQ:=Lib.hid hq
   have hc:=hCP.out w4 HW4.out
   obtain ⟨c0,c1,c2,c3,c4,c5,c6⟩:=(⟨KT.out.cell 0,KT.out.cell 1,KT.out.cell 2,KT.out.cell 3,KT.out.cell 4,KT.out.cell 5,KT.out.cell 6⟩:_∧_∧_∧_∧_∧_∧_)
   simp only [zF,zD,zE] at c0 c1 c2 c3 c4 c5 c6
   clear hCP hq
   go_wp2_with fail
   refine hc.mono ?_
   clear hc c0 c1 c2 c3 c4 c5 c6
   rintro e w5 ⟨y,rfl,ho5,he5,hb5⟩
   have HE5:=Lib.hid he5
   have HO5:=Lib.hid (ho5.mono (hrw.out w4 HW4.out).2.1)
   have HB5:=Lib.hid (HB4.out.trans (hb5.mono HB4.out.size))
   have KZ:=Lib.hid (KZ.out.below hb5 KZ.out.lt)
   clear he5 ho5 hb5 HB4 KT HW4 hrw
   obtain ⟨mm,mq,mx,⟨m1,m2,m3,ml⟩,⟨n1,n2,n3,nl⟩,⟨p1,p2,p3,pl⟩,⟨q1,q2,q3,ql⟩⟩:=y
   simp only [TenR.val,TenR.cells,FS.val,strV]
   have hth:=Lib.hid (KZ.out.there 7 tZ4)
   have k4:=Blk.setCells (g:=(w.heap.size+1)) [.string ⟨mm.toArray⟩,.int .i64 mq,.int .i64 mx,.slice m1 m2 m3,.slice n1 n2 n3,.slice p1 p2 p3,.slice q1 q2 q3] w5 [] [.string ⟨#[]⟩,.int .i64 0,.int .i64 0,.slice none 0 0,.slice none 0 0,.slice none 0 0,.slice none 0 0] rfl KZ.out
   simp only [List.length_nil,List.nil_append] at k4
   have hbw:=below_setCells (g:=(w.heap.size+1)) tZ1 [.string ⟨mm.toArray⟩,.int .i64 mq,.int .i64 mx,.slice m1 m2 m3,.slice n1 n2 n3,.slice p1 p2 p3,.slice q1 q2 q3] w5 0 HB5.out
   have hoo:=TenO.kept HO5.out (grown_cellsS (w.heap.size+1) [.string ⟨mm.toArray⟩,.int .i64 mq,.int .i64 mx,.slice m1 m2 m3,.slice n1 n2 n3,.slice p1 p2 p3,.slice q1 q2 q3] w5 0) tZ1
   obtain ⟨W4,hW4⟩:∃ W,W=w5.setCells (w.heap.size+1) 0 (#[.string ⟨mm.toArray⟩,.int .i64 mq,.int .i64 mx,.slice m1 m2 m3,.slice n1 n2 n3,.slice p1 p2 p3,.slice q1 q2 q3]:Array Value).toList:=⟨_,rfl⟩
   rw [show ([.string ⟨mm.toArray⟩,.int .i64 mq,.int .i64 mx,.slice m1 m2 m3,.slice n1 n2 n3,.slice p1 p2 p3,.slice q1 q2 q3]:List Value)=(#[.string ⟨mm.toArray⟩,.int .i64 mq,.int .i64 mx,.slice m1 m2 m3,.slice n1 n2 n3,.slice p1 p2 p3,.slice q1 q2 q3]:Array Value).toList from rfl,← hW4] at k4 hbw hoo
   have HL:Hid ((loadVar 27 ⟨(w.heap.size+1),0,none⟩).run Tryz.prog W4=.ok (.agg #[.string ⟨mm.toArray⟩,.int .i64 mq,.int .i64 mx,.slice m1 m2 m3,.slice n1 n2 n3,.slice p1 p2 p3,.slice q1 q2 q3]) W4):=run_loadVar_at W4 ⟨(w.heap.size+1),0,none⟩ 27 [.string ⟨mm.toArray⟩,.int .i64 mq,.int .i64 mx,.slice m1 m2 m3,.slice n1 n2 n3,.slice p1 p2 p3,.slice q1 q2 q3] _ (fun j v hv=>by rw [addr_add0,k4.cell j,zF];exact hv) Tryz.underlying27 rfl tZ2
   have HBW:=Lib.hid hbw
   have HOO:=Lib.hid (hoo.mono (base':=w.heap.size) tZ1)
   clear k4 hbw hoo HO5 HB5 KZ
   go_wp2_with (refine wpList_store_mid rfl 27 (.tmp 2) (.tmp 16) rfl (w.heap.size+1) 0 #[.string ⟨mm.toArray⟩,.int .i64 mq,.int .i64 mx,.slice m1 m2 m3,.slice n1 n2 n3,.slice p1 p2 p3,.slice q1 q2 q3] rfl rfl hth.out tZ2 tZ5 ?_;rw [← hW4];clear hW4)
   exact bodyPost_ret (v:=.tuple #[.agg #[.string ⟨mm.toArray⟩,.int .i64 mq,.int .i64 mx,.slice m1 m2 m3,.slice n1 n2 n3,.slice p1 p2 p3,.slice q1 q2 q3],.int .i64 0]) (results_cell_tmp rfl rfl HL.out) rfl ⟨_,_,rfl,HBW.out,.inr (.inr ⟨HE.out.symm,by rw [← HU.out];exact HQ.out,rfl,⟨mm,mq,mx,⟨m1,m2,m3,ml⟩,⟨n1,n2,n3,nl⟩,⟨p1,p2,p3,pl⟩,⟨q1,q2,q3,ql⟩⟩,rfl,HOO.out,HE5.out⟩)⟩
  ·rw [decide_eq_false hq]
   have HQ:=Lib.hid (show qu<U by omega)
   clear hCP hq
   have hth:=Lib.hid (KZ.out.there 7 tZ4)
   have k4:=Blk.setCells (g:=(w.heap.size+1)) [.string ⟨#[]⟩,.int .i64 0,.int .i64 0,.slice none 0 0,.slice none 0 0,.slice none 0 0,.slice none 0 0] w4 [] [.string ⟨#[]⟩,.int .i64 0,.int .i64 0,.slice none 0 0,.slice none 0 0,.slice none 0 0,.slice none 0 0] rfl KZ.out
   simp only [List.length_nil,List.nil_append] at k4
   have hbw:=below_setCells (g:=(w.heap.size+1)) tZ1 [.string ⟨#[]⟩,.int .i64 0,.int .i64 0,.slice none 0 0,.slice none 0 0,.slice none 0 0,.slice none 0 0] w4 0 HB4.out
   obtain ⟨W4,hW4⟩:∃ W,W=w4.setCells (w.heap.size+1) 0 (#[.string ⟨#[]⟩,.int .i64 0,.int .i64 0,.slice none 0 0,.slice none 0 0,.slice none 0 0,.slice none 0 0]:Array Value).toList:=⟨_,rfl⟩
   rw [show ([.string ⟨#[]⟩,.int .i64 0,.int .i64 0,.slice none 0 0,.slice none 0 0,.slice none 0 0,.slice none 0 0]:List Value)=(#[.string ⟨#[]⟩,.int .i64 0,.int .i64 0,.slice none 0 0,.slice none 0 0,.slice none 0 0,.slice none 0 0]:Array Value).toList from rfl,← hW4] at k4 hbw
   have HL:Hid ((loadVar 27 ⟨(w.heap.size+1),0,none⟩).run Tryz.prog W4=.ok (.agg #[.string ⟨#[]⟩,.int .i64 0,.int .i64 0,.slice none 0 0,.slice none 0 0,.slice none 0 0,.slice none 0 0]) W4):=run_loadVar_at W4 ⟨(w.heap.size+1),0,none⟩ 27 [.string ⟨#[]⟩,.int .i64 0,.int .i64 0,.slice none 0 0,.slice none 0 0,.slice none 0 0,.slice none 0 0] _ (fun j v hv=>by rw [addr_add0,k4.cell j,zF];exact hv) Tryz.underlying27 rfl tZ2
   have HBW:=Lib.hid hbw
   clear k4 hbw HW4 KT
   go_wp2_with (refine wpList_store_mid rfl 27 (.tmp 2) (.tmp 14) rfl (w.heap.size+1) 0 #[.string ⟨#[]⟩,.int .i64 0,.int .i64 0,.slice none 0 0,.slice none 0 0,.slice none 0 0,.slice none 0 0] rfl rfl hth.out tZ2 tZ5 ?_;rw [← hW4];clear hW4)
   exact bodyPost_ret (v:=.tuple #[.agg #[.string ⟨#[]⟩,.int .i64 0,.int .i64 0,.slice none 0 0,.slice none 0 0,.slice none 0 0,.slice none 0 0],.int .i64 42]) (results_cell_tmp rfl rfl HL.out) rfl ⟨_,_,rfl,HBW.out,.inr (.inl ⟨HE.out.symm,by rw [← HU.out];exact HQ.out,rfl,rfl⟩)⟩
 ·clear hFT hCP
  have hth:=Lib.hid (KZ.out.there 7 tZ4)
  have k4:=Blk.setCells (g:=(w.heap.size+1)) [.string ⟨#[]⟩,.int .i64 0,.int .i64 0,.slice none 0 0,.slice none 0 0,.slice none 0 0,.slice none 0 0] w3 [] [.string ⟨#[]⟩,.int .i64 0,.int .i64 0,.slice none 0 0,.slice none 0 0,.slice none 0 0,.slice none 0 0] rfl KZ.out
  simp only [List.length_nil,List.nil_append] at k4
  have hbw:=below_setCells (g:=(w.heap.size+1)) tZ1 [.string ⟨#[]⟩,.int .i64 0,.int .i64 0,.slice none 0 0,.slice none 0 0,.slice none 0 0,.slice none 0 0] w3 0 HB3.out
  obtain ⟨W4,hW4⟩:∃ W,W=w3.setCells (w.heap.size+1) 0 (#[.string ⟨#[]⟩,.int .i64 0,.int .i64 0,.slice none 0 0,.slice none 0 0,.slice none 0 0,.slice none 0 0]:Array Value).toList:=⟨_,rfl⟩
  rw [show ([.string ⟨#[]⟩,.int .i64 0,.int .i64 0,.slice none 0 0,.slice none 0 0,.slice none 0 0,.slice none 0 0]:List Value)=(#[.string ⟨#[]⟩,.int .i64 0,.int .i64 0,.slice none 0 0,.slice none 0 0,.slice none 0 0,.slice none 0 0]:Array Value).toList from rfl,← hW4] at k4 hbw
  have HL:Hid ((loadVar 27 ⟨(w.heap.size+1),0,none⟩).run Tryz.prog W4=.ok (.agg #[.string ⟨#[]⟩,.int .i64 0,.int .i64 0,.slice none 0 0,.slice none 0 0,.slice none 0 0,.slice none 0 0]) W4):=run_loadVar_at W4 ⟨(w.heap.size+1),0,none⟩ 27 [.string ⟨#[]⟩,.int .i64 0,.int .i64 0,.slice none 0 0,.slice none 0 0,.slice none 0 0,.slice none 0 0] _ (fun j v hv=>by rw [addr_add0,k4.cell j,zF];exact hv) Tryz.underlying27 rfl tZ2
  have HBW:=Lib.hid hbw
  clear k4 hbw HW3 KT
  go_wp2_with (refine wpList_store_mid rfl 27 (.tmp 2) (.tmp 9) rfl (w.heap.size+1) 0 #[.string ⟨#[]⟩,.int .i64 0,.int .i64 0,.slice none 0 0,.slice none 0 0,.slice none 0 0,.slice none 0 0] rfl rfl hth.out tZ2 tZ5 ?_;rw [← hW4];clear hW4)
  exact bodyPost_ret (v:=.tuple #[.agg #[.string ⟨#[]⟩,.int .i64 0,.int .i64 0,.slice none 0 0,.slice none 0 0,.slice none 0 0,.slice none 0 0],.int .i64 9]) (results_cell_tmp rfl rfl HL.out) rfl ⟨_,_,rfl,HBW.out,.inl ⟨HE.out.symm,rfl,rfl⟩⟩
end Go.Proofs.YtcgclpcocdappaaGreatDoor
namespace Go.Proofs.YtcgclpcocdappaaGreatDoor
open Go.RowKit
/-! ### a content as a tenant of its own -/
def mkF {α:Type} (l:List α):FS α:=⟨none,l.length,l.length,l⟩
def SnapC.r (x:SnapC):SnapR:=⟨x.nm,x.gd,mkF x.body,mkF x.tags,mkF x.own⟩
def SetC.r (x:SetC):SetR:=⟨x.path,x.org,mkF x.body,mkF (x.snaps.map SnapC.r),mkF x.own⟩
def StageC.r (x:StageC):StageR:=⟨x.into,x.kind,x.nm,x.frm,x.gd,mkF x.own,x.ix,x.ct,x.dt,x.sm,mkF x.body,x.at_,x.nx,x.sum,x.done⟩
def TenC.r (x:TenC):TenR:=⟨x.nm,x.quota,x.next,mkF (x.sets.map SetC.r),mkF x.grants,mkF (x.stages.map StageC.r),mkF x.log⟩
theorem firstI_map {α β:Type} (f:α→β) (p:β→Bool) (l:List α):firstI p (l.map f)=firstI (fun x=>p (f x)) l:=by
 have h:firstP p (l.map f)=firstP (fun x=>p (f x)) l:=by
  unfold firstP
  induction l with
  | nil=>rfl
  | cons x r ih =>
   rw [List.map_cons]
   cases hp:p (f x) with
   | true=>rw [List.takeWhile_cons_of_neg (by simp [hp]),List.takeWhile_cons_of_neg (by simp [hp])];rfl
   | false=>rw [List.takeWhile_cons_of_pos (by simp [hp]),List.takeWhile_cons_of_pos (by simp [hp]),List.length_cons,List.length_cons,ih]
 unfold firstI
 rw [h,List.length_map]
theorem snapsFrom_n (p:Option Int) (l:List SnapR):snapsFrom p (l.map fun x=>x.con.r)=snapsFrom p l:=by
 induction l generalizing p with
 | nil=>cases p <;> rfl
 | cons x l ih =>
  rw [List.map_cons,snapsFrom_cons,snapsFrom_cons,ih]
  rfl
theorem snapsB_n (l:List SnapR):snapsB (l.map fun x=>x.con.r)=snapsB l:=by
 unfold snapsB
 rw [snapsFrom_n,List.length_map,List.map_map]
 rfl
theorem setC_r (x:SetR):x.con.r=⟨x.path,x.org,mkF x.body.l,mkF (x.snaps.l.map fun y=>y.con.r),mkF x.own.l⟩:=by
 show SetR.mk _ _ _ _ _=_
 rw [show (x.con.snaps.map SnapC.r)=(x.snaps.l.map fun y=>y.con.r) from List.map_map]
 rfl
theorem find_map {α β:Type} (f:α→β) (p:β→Bool) (l:List α):(l.map f).find? p=(l.find? fun x=>p (f x)).map f:=by
 induction l with
 | nil=>rfl
 | cons x r ih =>
  rw [List.map_cons,List.find?_cons,List.find?_cons]
  cases p (f x) with
  | true=>rfl
  | false=>exact ih
theorem originB_n (all:List SetR) (s:SetR):originB (all.map fun x=>x.con.r) s.con.r=originB all s:=by
 unfold originB
 show (s.org == [] || match splitL s.org with
  | none=>false
  | some (p,n)=>!(p == s.path) && match (all.map fun x=>x.con.r).find? (fun x=>x.path == p) with
   | none=>false
   | some x=>x.snaps.l.any fun y=>y.nm == n)=_
 cases splitL s.org with
 | none=>rfl
 | some v =>
  obtain ⟨p,n⟩:=v
  simp only []
  rw [find_map]
  have e:(all.find? fun x:SetR=>x.con.r.path == p)=all.find? fun x=>x.path == p:=rfl
  rw [e]
  cases all.find? (fun x=>x.path == p) with
  | none=>rfl
  | some x =>
   simp only [Option.map_some]
   rw [setC_r x]
   show (s.org == [] || !(p == s.path) && (x.snaps.l.map fun y=>y.con.r).any fun y=>y.nm == n)=_
   rw [List.any_map]
   rfl
theorem setB_n (all:List SetR) (s:SetR):setB (all.map fun x=>x.con.r) s.con.r=setB all s:=by
 unfold setB
 rw [originB_n,setC_r s]
 show ((pathB s.path && match parB s.path with
  | none=>true
  | some u=>(all.map fun x=>x.con.r).any fun x=>x.path == u) && propsB s.own.l && okL s.body.l && snapsB (s.snaps.l.map fun y=>y.con.r) && originB all s)=_
 rw [snapsB_n]
 cases parB s.path with
 | none=>rfl
 | some u =>
  simp only []
  rw [List.any_map]
  rfl
theorem setsFrom_n (all:List SetR) (p:Option BS) (l:List SetR):setsFrom (all.map fun x=>x.con.r) p (l.map fun x=>x.con.r)=setsFrom all p l:=by
 induction l generalizing p with
 | nil=>cases p <;> rfl
 | cons x l ih =>
  have e:∀ (a:List SetR) (y:SetR) (r:List SetR),setsFrom a p (y :: r)=(setB a y && (match p with | none=>true | some q=>Op.bytesLess q y.path) && setsFrom a (some y.path) r):=by
   intro a y r
   cases p <;> rfl
  rw [List.map_cons,e,e,setB_n,show x.con.r.path=x.path from rfl,ih]
theorem setsB_n (l:List SetR):setsB (l.map fun x=>x.con.r)=setsB l:=by
 unfold setsB
 rw [setsFrom_n,List.length_map,List.any_map]
 rfl
theorem stagesFrom_n (p:Option BS) (l:List StageR):stagesFrom p (l.map fun x=>x.con.r)=stagesFrom p l:=by
 induction l generalizing p with
 | nil=>cases p <;> rfl
 | cons x l ih =>
  have e:∀ (y:StageR) (r:List StageR),stagesFrom p (y :: r)=(stageB y && (match p with | none=>true | some q=>Op.bytesLess q y.into) && stagesFrom (some y.into) r):=by
   intro y r
   cases p <;> rfl
  rw [List.map_cons,e,e,show x.con.r.into=x.into from rfl,ih]
  rfl
theorem stagesB_n (l:List StageR):stagesB (l.map fun x=>x.con.r)=stagesB l:=by
 unfold stagesB
 rw [stagesFrom_n,List.length_map]
theorem tenC_r (t:TenR):t.con.r=⟨t.nm,t.quota,t.next,mkF (t.sets.l.map fun x=>x.con.r),mkF t.grants.l,mkF (t.stages.l.map fun x=>x.con.r),mkF t.log.l⟩:=by
 show TenR.mk _ _ _ _ _ _ _=_
 rw [show (t.con.sets.map SetC.r)=(t.sets.l.map fun y=>y.con.r) from List.map_map,show (t.con.stages.map StageC.r)=(t.stages.l.map fun y=>y.con.r) from List.map_map]
 rfl
/-- whether a tenant may be hangs on its content alone -/
def TenC.E (c:TenC):Int:=tenE c.r
theorem tenE_con (t:TenR):tenE t=t.con.E:=by
 unfold TenC.E tenE
 have:tenB t.con.r=tenB t:=by
  rw [tenC_r]
  show (nameB t.nm && amt t.quota 0 && amt t.next 1 && setsB (t.sets.l.map fun x=>x.con.r) && grantsB t.grants.l && stagesB (t.stages.l.map fun x=>x.con.r) && logB t.log.l)=_
  rw [setsB_n,stagesB_n]
  rfl
 rw [this]
theorem TenC.E_two (c:TenC):c.E=0∨c.E=9:=by unfold TenC.E tenE;split <;> simp
/-! ### what it is charged for -/
theorem cast_sum {α:Type} (f:α→Nat) (g:α→Int) (l:List α) (h:∀ x∈l,g x=(f x:Int)):(l.map g).sum=((l.map f).sum:Nat):=by
 induction l with
 | nil=>rfl
 | cons x r ih =>
  rw [List.map_cons,List.map_cons,List.sum_cons,List.sum_cons,Int.natCast_add,h x List.mem_cons_self,ih fun y hy=>h y (List.mem_cons_of_mem _ hy)]
theorem setSum_con (x:SetR) (w:World) (B:Nat) (h:x.rd w B):setSum x=(x.con.charge:Nat):=by
 unfold setSum sumB SetC.charge
 rw [List.take_length,cast_sum (fun y:SnapR=>1+y.body.l.length) _ _ (fun y hy=>by rw [(h.each y hy).body.1];omega)]
 rw [h.body.1]
 show _=((1+x.body.l.length+((x.snaps.l.map SnapR.con).map fun y=>1+y.body.length).sum:Nat):Int)
 rw [List.map_map]
 show _=((1+x.body.l.length+(x.snaps.l.map fun y=>1+y.body.l.length).sum:Nat):Int)
 omega
theorem tenSum_con (t:TenR) (w:World) (B:Nat) (h:t.rd w B):tenSum t=(t.con.charge:Nat):=by
 unfold tenSum sumS sumG TenC.charge
 rw [List.take_length,List.take_length,cast_sum (fun y:SetR=>y.con.charge) _ _ (fun y hy=>setSum_con y w B (h.eachS y hy)),cast_sum (fun y:StageR=>1+y.body.l.length) _ _ (fun y hy=>by rw [(h.eachG y hy).body.1];omega)]
 show _=((((t.sets.l.map SetR.con).map SetC.charge).sum+((t.stages.l.map StageR.con).map fun s=>1+s.body.length).sum:Nat):Int)
 rw [List.map_map,List.map_map]
 rfl
end Go.Proofs.YtcgclpcocdappaaGreatDoor
namespace Go.Proofs.YtcgclpcocdappaaGreatDoor
open Go.RowKit
/-- none of a tenant's rows is of this type -/
def offT (T:TypeId):Prop:=75≠T∧9≠T∧78≠T∧57≠T∧42≠T∧147≠T∧103≠T∧106≠T
theorem offT_ten:offT 27:=by unfold offT;decide
section
variable {w w':World} {base g:Nat} {cs:Array Value} {T:TypeId}
theorem SnapO.keptT {x:SnapR} (h:SnapO w base x) (hg:w.grownBy w' (some g)) (hb:Blk w g T cs) (hT:offT T):SnapO w' base x :=
 ⟨h.body.keptT hg hb hT.1,h.tags.keptT hg hb hT.2.1,h.own.keptT hg hb hT.2.2.1⟩
theorem SetO.keptT {x:SetR} (h:SetO w base x) (hg:w.grownBy w' (some g)) (hb:Blk w g T cs) (hT:offT T):SetO w' base x :=
 ⟨h.body.keptT hg hb hT.1,h.snaps.keptT hg hb hT.2.2.2.1,fun y hy=>(h.each y hy).keptT hg hb hT,h.own.keptT hg hb hT.2.2.1⟩
theorem StageO.keptT {x:StageR} (h:StageO w base x) (hg:w.grownBy w' (some g)) (hb:Blk w g T cs) (hT:offT T):StageO w' base x :=
 ⟨h.own.keptT hg hb hT.2.2.1,h.body.keptT hg hb hT.1⟩
theorem TenO.keptT {t:TenR} (h:TenO w base t) (hg:w.grownBy w' (some g)) (hb:Blk w g T cs) (hT:offT T):TenO w' base t :=
 ⟨h.sets.keptT hg hb hT.2.2.2.2.1,fun y hy=>(h.eachS y hy).keptT hg hb hT,h.grants.keptT hg hb hT.2.2.2.2.2.1,h.stages.keptT hg hb hT.2.2.2.2.2.2.1,fun y hy=>(h.eachG y hy).keptT hg hb hT,h.log.keptT hg hb hT.2.2.2.2.2.2.2⟩
end
end Go.Proofs.YtcgclpcocdappaaGreatDoor
namespace Go.Proofs.YtcgclpcocdappaaGreatDoor
open Go.RowKit
set_option maxRecDepth 100000 in
set_option maxHeartbeats 2000000 in
theorem rset14c_any (x:SetR) (w:World) (B:Nat) (hB:B≤w.heap.size) (hr:x.rd w B) (hz:x.sz) (hs:setSum x≤4000000000000000000) :
  Calls Tryz.prog 76 #[.agg (encSet x).toArray] w fun e w'=>e=.returned (.int .i64 (setSum x))∧Below w.heap.size w w':=by
 obtain ⟨pa,og,⟨bA,bn,bc,bl⟩,⟨zA,zn,zc,zl⟩,⟨oA,on,oc,ol⟩⟩:=x
 show Calls Tryz.prog 76 #[.agg #[.string ⟨pa.toArray⟩,.string ⟨og.toArray⟩,.slice bA bn bc,.slice zA zn zc,.slice oA on oc]] w _
 have hb:=((Below.refl w.heap.size w).alloc (Nat.le_refl _) (.cells #[.string ⟨pa.toArray⟩,.string ⟨og.toArray⟩,.slice bA bn bc,.slice zA zn zc,.slice oA on oc] 42))
 have ks:=Blk.new w 42 #[.string ⟨pa.toArray⟩,.string ⟨og.toArray⟩,.slice bA bn bc,.slice zA zn zc,.slice oA on oc]
 have hsz:(w.alloc (.cells #[.string ⟨pa.toArray⟩,.string ⟨og.toArray⟩,.slice bA bn bc,.slice zA zn zc,.slice oA on oc] 42)).heap.size=w.heap.size+1:=tZ3
 obtain ⟨W1,hW1⟩:∃ W,W=(w.alloc (.cells #[.string ⟨pa.toArray⟩,.string ⟨og.toArray⟩,.slice bA bn bc,.slice zA zn zc,.slice oA on oc] 42)):=⟨_,rfl⟩
 rw [← hW1] at hb hsz ks
 have hKs:Hid (∀ W,Below W1.heap.size W1 W→Blk W w.heap.size 42 #[.string ⟨pa.toArray⟩,.string ⟨og.toArray⟩,.slice bA bn bc,.slice zA zn zc,.slice oA on oc]):=fun W h=>ks.below h tZ1
 have hBW:Hid (∀ W,Below W1.heap.size W1 W→Below w.heap.size w W):=fun W h=>hb.trans (h.mono tZ1)
 have hSZ:Hid (∀ W,Below W1.heap.size W1 W→w.heap.size+1≤W.heap.size):=fun W h=>by have:=h.size;omega
 have hW0:Hid (Below W1.heap.size W1 W1):=Below.refl _ _
 have hrd:Hid (∀ W,Below W1.heap.size W1 W→Reads W B 5 zA zn (cellsK encSnap zl)):=fun W h=>hr.snaps.2.2.below ((hBW.out W h).mono hB)
 have HZN:=Lib.hid (show zn=zl.length from hr.snaps.1)
 have HZ:=Lib.hid hz
 have HM:=Lib.hid (sumB_mono zl)
 have HS:Hid (setSum ⟨pa,og,⟨bA,bn,bc,bl⟩,⟨zA,zn,zc,zl⟩,⟨oA,on,oc,ol⟩⟩=((bn:Int)+1)+sumB zl zl.length):=rfl
 have HLE:=Lib.hid hs
 have hbn:bn≤1000000000000:=hz.body
 have hzn:zn≤1000000000000:=hz.snaps
 obtain ⟨S0,hS0⟩:∃ S:Int,S=1+(bn:Int):=⟨_,rfl⟩
 have hw1:IntKind.i64.wrap (1+(bn:Int))=S0:=tZ22
 have HS0:=Lib.hid hS0
 obtain ⟨U,hU⟩:∃ U,U=setSum ⟨pa,og,⟨bA,bn,bc,bl⟩,⟨zA,zn,zc,zl⟩,⟨oA,on,oc,ol⟩⟩:=⟨_,rfl⟩
 rw [← hU] at HS HLE ⊢
 clear hb hsz ks hr hz hs hS0 hU hbn
 go_enter Tryz.func76,Tryz.ntmps76
 have kk:=hKs.out W1 hW0.out
 have e2:=kk.cell 2
 simp only [zF,zD,zE] at e2
 clear kk
 go_upto_region 2 with (rw [← hW1];clear hW1)
 go_wp2_with fail
 clear e2
 go_loopw [3,4] (fun a j wr=>∃ k:Nat,k≤zn∧a=.int .i64 (S0+sumB zl k)∧j=.int .i64 (k:Int)∧Hid (Below W1.heap.size W1 wr)) (fun _ j _=>zn-(intOf j).toNat)
 case atStart=>exact ⟨0,Nat.zero_le _,by rw [sumB_zero,Int.add_zero],rfl,hW0.out⟩
 case round =>
  obtain ⟨k,hk,rfl,rfl,hbw⟩:=hrel
  have kk:=hKs.out wr hbw.out
  have e3:=kk.cell 3
  simp only [zF,zD,zE] at e3
  clear kk
  by_cases hlt:k<zn
  ·have hki:(k:Int)<(zn:Int):=tZ1
   have hk0:(0:Int)≤(k:Int):=tZ1
   have hkl:k<zl.length:=tZ175
   obtain ⟨ad,hsa,-,-,-,r2,-,-⟩:=snap_at (hrd.out wr hbw.out) HZN.out hlt
   subst hsa
   have hsz:=(HZ.out.each _ (List.getElem_mem hkl)).body
   have hss:=sumB_succ zl k hkl
   obtain ⟨y,hy⟩:∃ y,y=zl[k]'hkl:=⟨_,rfl⟩
   rw [← hy] at r2 hsz hss
   clear hy
   have hbd:=HM.out k
   have hbd2:=HM.out (k+1)
   have h1:=HS.out
   have h2:=HLE.out
   have h3:=HS0.out
   obtain ⟨S1,hS1⟩:∃ S:Int,S=S0+sumB zl k:=⟨_,rfl⟩
   obtain ⟨S2,hS2⟩:∃ S:Int,S=S1+1:=⟨_,rfl⟩
   obtain ⟨S3,hS3⟩:∃ S:Int,S=S2+(y.body.n:Int):=⟨_,rfl⟩
   have hwa:IntKind.i64.wrap (S1+1)=S2:=tZ22
   have hwb:IntKind.i64.wrap (S2+(y.body.n:Int))=S3:=tZ22
   rw [← hS1]
   have HN:Hid (S3=S0+sumB zl (k+1)):=by show _=_;omega
   obtain ⟨ynm,ygd,⟨yb1,ybn,yb3,ybl⟩,⟨yt1,ytn,yt3,ytl⟩,⟨yo1,yon,yo3,yol⟩⟩:=y
   simp only at r2 hwb
   clear hsz hss hbd hbd2 h1 h2 h3 hS1 hS2 hS3
   exact mZ211
  ·have hkn:k=zn:=tZ1
   have HU:Hid (S0+sumB zl k=U):=by show _=_;rw [hkn,HZN.out,HS.out,HS0.out];omega
   exact mZ210
set_option maxRecDepth 100000 in
set_option maxHeartbeats 4000000 in
theorem rcharge_any (t:TenR) (w:World) (B:Nat) (hB:B≤w.heap.size) (hr:t.rd w B) (hz:t.sz) (hs:tenSum t≤4000000000000000000) :
  Calls Tryz.prog 22 #[t.val] w fun e w'=>e=.returned (.int .i64 (tenSum t))∧Below w.heap.size w w':=by
 obtain ⟨nm,qu,nx,⟨s1,sn,s3,sl⟩,⟨u1,un,u3,ul⟩,⟨t1,tn,t3,tl⟩,⟨l1,ln,l3,ll⟩⟩:=t
 show Calls Tryz.prog 22 #[.agg #[.string ⟨nm.toArray⟩,.int .i64 qu,.int .i64 nx,.slice s1 sn s3,.slice u1 un u3,.slice t1 tn t3,.slice l1 ln l3]] w _
 have hb:=((Below.refl w.heap.size w).alloc (Nat.le_refl _) (.cells #[.string ⟨nm.toArray⟩,.int .i64 qu,.int .i64 nx,.slice s1 sn s3,.slice u1 un u3,.slice t1 tn t3,.slice l1 ln l3] 27))
 have kt:=Blk.new w 27 #[.string ⟨nm.toArray⟩,.int .i64 qu,.int .i64 nx,.slice s1 sn s3,.slice u1 un u3,.slice t1 tn t3,.slice l1 ln l3]
 have hsz:(w.alloc (.cells #[.string ⟨nm.toArray⟩,.int .i64 qu,.int .i64 nx,.slice s1 sn s3,.slice u1 un u3,.slice t1 tn t3,.slice l1 ln l3] 27)).heap.size=w.heap.size+1:=tZ3
 obtain ⟨W1,hW1⟩:∃ W,W=(w.alloc (.cells #[.string ⟨nm.toArray⟩,.int .i64 qu,.int .i64 nx,.slice s1 sn s3,.slice u1 un u3,.slice t1 tn t3,.slice l1 ln l3] 27)):=⟨_,rfl⟩
 rw [← hW1] at hb hsz kt
 have hKt:Hid (∀ W,Below W1.heap.size W1 W→Blk W w.heap.size 27 #[.string ⟨nm.toArray⟩,.int .i64 qu,.int .i64 nx,.slice s1 sn s3,.slice u1 un u3,.slice t1 tn t3,.slice l1 ln l3]):=fun W h=>kt.below h tZ1
 have hBW:Hid (∀ W,Below W1.heap.size W1 W→Below w.heap.size w W):=fun W h=>hb.trans (h.mono tZ1)
 have hSZ:Hid (∀ W,Below W1.heap.size W1 W→w.heap.size+1≤W.heap.size):=fun W h=>by have:=h.size;omega
 have hW0:Hid (Below W1.heap.size W1 W1):=Below.refl _ _
 have hrw:Hid (∀ W,Below W1.heap.size W1 W→TenR.rd W B ⟨nm,qu,nx,⟨s1,sn,s3,sl⟩,⟨u1,un,u3,ul⟩,⟨t1,tn,t3,tl⟩,⟨l1,ln,l3,ll⟩⟩∧B≤W.heap.size):=fun W h =>
  ⟨TenR.rd.below hr ((hBW.out W h).mono hB),by have:=hSZ.out W h;omega⟩
 have HSN:=Lib.hid (show sn=sl.length from hr.sets.1)
 have HTN:=Lib.hid (show tn=tl.length from hr.stages.1)
 have HZ:=Lib.hid hz
 have HM:=Lib.hid (sumS_mono sl)
 have HG:=Lib.hid (sumG_mono tl)
 have HS:Hid (tenSum ⟨nm,qu,nx,⟨s1,sn,s3,sl⟩,⟨u1,un,u3,ul⟩,⟨t1,tn,t3,tl⟩,⟨l1,ln,l3,ll⟩⟩=sumS sl sl.length+sumG tl tl.length):=rfl
 have HLE:=Lib.hid hs
 have hsn:sn≤1000000000000:=hz.sets
 have htn:tn≤1000000000000:=hz.stages
 obtain ⟨U,hU⟩:∃ U,U=tenSum ⟨nm,qu,nx,⟨s1,sn,s3,sl⟩,⟨u1,un,u3,ul⟩,⟨t1,tn,t3,tl⟩,⟨l1,ln,l3,ll⟩⟩:=⟨_,rfl⟩
 rw [← hU] at HS HLE ⊢
 clear hb hsz kt hr hz hs hU
 go_enter Tryz.func22,Tryz.ntmps22
 go_upto_region 2 with (rw [← hW1];clear hW1)
 go_wp2_with fail
 go_loopw [3,4] (fun a j wr=>∃ k:Nat,k≤sn∧a=.int .i64 (sumS sl k)∧j=.int .i64 (k:Int)∧Hid (Below W1.heap.size W1 wr)) (fun _ j _=>sn-(intOf j).toNat)
 case atStart=>exact ⟨0,Nat.zero_le _,by simp [sumS],rfl,by first | exact hW0.out | (rw [← hW1];exact hW0.out)⟩
 case round =>
  obtain ⟨k,hk,rfl,rfl,hbw⟩:=hrel
  have kk:=hKt.out wr hbw.out
  have e3:=kk.cell 3
  have e5:=kk.cell 5
  simp only [zF,zD,zE] at e3 e5
  clear kk
  by_cases hlt:k<sn
  ·have hki:(k:Int)<(sn:Int):=tZ1
   have hk0:(0:Int)≤(k:Int):=tZ1
   have hkl:k<sl.length:=tZ113
   obtain ⟨ad,hsa,-,q0,q1,q2,q3,q4⟩:=set_at (hrw.out wr hbw.out).1.sets.2.2 HSN.out hlt
   simp only at hsa
   have hss:=sumS_succ sl k hkl
   have hbd:=HM.out k
   have hbd2:=HM.out (k+1)
   have hbg:=HG.out tl.length
   have h1:=HS.out
   have h2:=HLE.out
   have hx:=(hrw.out wr hbw.out).1.eachS _ (List.getElem_mem hkl)
   have hzx:=HZ.out.eachS _ (List.getElem_mem hkl)
   have hnn:0≤sumS sl (k+1)-sumS sl k:=by
    have:=sumB_mono (sl[k]'hkl).snaps.l (sl[k]'hkl).snaps.l.length
    rw [hss]
    unfold setSum
    omega
   obtain ⟨x,hxx⟩:∃ x,x=sl[k]'hkl:=⟨_,rfl⟩
   simp only [← hxx] at q0 q1 q2 q3 q4 hx hzx hss
   have hc:=rset14c_any x wr B (hrw.out wr hbw.out).2 hx hzx tZ1
   obtain ⟨S1,hS1⟩:∃ S:Int,S=sumS sl k:=⟨_,rfl⟩
   obtain ⟨X1,hX1⟩:∃ S:Int,S=setSum x:=⟨_,rfl⟩
   obtain ⟨S3,hS3⟩:∃ S:Int,S=S1+X1:=⟨_,rfl⟩
   have hwa:IntKind.i64.wrap (S1+X1)=S3:=tZ22
   have HN:Hid (S3=sumS sl (k+1)):=by show _=_;omega
   rw [← hS1]
   rw [← hX1] at hc
   obtain ⟨pa,og,⟨bA,bn,bc,bl⟩,⟨zA,zn,zc,zl⟩,⟨oA,on,oc,ol⟩⟩:=x
   simp only at q0 q1 q2 q3 q4
   have hc:Calls Tryz.prog 76 #[.agg #[.string ⟨pa.toArray⟩,.string ⟨og.toArray⟩,.slice bA bn bc,.slice zA zn zc,.slice oA on oc]] wr _:=hc
   subst hsa
   clear hss hbd hbd2 hbg h1 h2 hS1 hS3 hX1 hx hzx hxx hnn e5
   go_wp2_with fail
   refine hc.mono ?_
   clear hc q0 q1 q2 q3 q4 e3
   rintro e w3 ⟨rfl,hb⟩
   have HW3:=Lib.hid (hbw.out.trans (hb.mono hbw.out.size))
   clear hb
   go_wp2_with fail
   go_roundw
   case rel=>exact ⟨k+1,by omega,by rw [HN.out],by go_num,HW3⟩
   case measure=>simp [intOf];omega
  ·have hkn:k=sn:=tZ1
   have HU:Hid (sumS sl k=sumS sl sl.length):=by show _=_;rw [hkn,HSN.out]
   rw [HU.out]
   clear hkn
   obtain ⟨S0,hS0⟩:∃ S:Int,S=sumS sl sl.length:=⟨_,rfl⟩
   rw [← hS0]
   have HS0:=Lib.hid hS0
   have h00:=HM.out sl.length
   have HS00:Hid (0≤S0):=by show 0≤S0;omega
   have HW0:=hbw
   obtain ⟨wo,hwo⟩:∃ W,W=wr:=⟨_,rfl⟩
   subst hwo
   clear hS0 h00 hk HU hbw
   go_wp2_with fail
   go_loopw [3,5] (fun a j wr=>∃ k:Nat,k≤tn∧a=.int .i64 (S0+sumG tl k)∧j=.int .i64 (k:Int)∧Hid (Below W1.heap.size W1 wr)) (fun _ j _=>tn-(intOf j).toNat)
   case atStart=>exact ⟨0,Nat.zero_le _,by simp [sumG],rfl,HW0⟩
   case round =>
    clear e3 e5
    obtain ⟨k,hk,rfl,rfl,hbw⟩:=hrel
    have kk:=hKt.out wr hbw.out
    have e5:=kk.cell 5
    simp only [zF,zD,zE] at e5
    clear kk
    by_cases hlt:k<tn
    ·have hki:(k:Int)<(tn:Int):=tZ1
     have hk0:(0:Int)≤(k:Int):=tZ1
     have hkl:k<tl.length:=tZ112
     obtain ⟨ad,hsa,_,hel⟩:=Reads.elK (k:=21) (enc:=encStage) (fun _=>rfl) (hrw.out wr hbw.out).1.stages.2.2 HTN.out hlt
     simp only at hsa
     subst hsa
     have hsz:=(HZ.out.eachT _ (List.getElem_mem hkl)).body
     have q13:wr.cell? ⟨(ad.add (k*21)).block,(ad.add (k*21)).off+13,none⟩=some (.slice (tl[k]'hkl).body.A (tl[k]'hkl).body.n (tl[k]'hkl).body.c):=by
      have h:=hel 13 tZ4
      rw [addr_add_succ] at h
      exact h
     have hss:=sumG_succ tl k hkl
     have hbd:=HG.out k
     have hbd2:=HG.out (k+1)
     have h1:=HS.out
     have h2:=HLE.out
     have h3:=HS0.out
     have h4:=HS00.out
     obtain ⟨y,hy⟩:∃ y,y=tl[k]'hkl:=⟨_,rfl⟩
     simp only [← hy] at q13 hsz hss
     obtain ⟨b1,hb1⟩:∃ b,b=y.body.A:=⟨_,rfl⟩
     obtain ⟨bn,hbn⟩:∃ b,b=y.body.n:=⟨_,rfl⟩
     obtain ⟨b3,hb3⟩:∃ b,b=y.body.c:=⟨_,rfl⟩
     rw [← hb1,← hbn,← hb3] at q13
     rw [← hbn] at hsz hss
     obtain ⟨S1,hS1⟩:∃ S:Int,S=S0+sumG tl k:=⟨_,rfl⟩
     obtain ⟨S2,hS2⟩:∃ S:Int,S=S1+1:=⟨_,rfl⟩
     obtain ⟨S3,hS3⟩:∃ S:Int,S=S2+(bn:Int):=⟨_,rfl⟩
     have hwa:IntKind.i64.wrap (S1+1)=S2:=tZ22
     have hwb:IntKind.i64.wrap (S2+(bn:Int))=S3:=tZ22
     rw [← hS1]
     have HN:Hid (S3=S0+sumG tl (k+1)):=by show _=_;omega
     clear hsz hss hbd hbd2 h1 h2 h3 h4 hS1 hS2 hS3 hy hb1 hbn hb3 hel
     exact mZ211
    ·have hkn:k=tn:=tZ1
     have HU:Hid (S0+sumG tl k=U):=by show _=_;rw [hkn,HTN.out,HS.out,HS0.out]
     exact mZ210
end Go.Proofs.YtcgclpcocdappaaGreatDoor
namespace Go.Proofs.YtcgclpcocdappaaGreatDoor
open Go.RowKit
theorem posF_map {α β:Type} (f:α→β) (cf:β→Int) (l:List α):posF cf (l.map f)=posF (fun x=>cf (f x)) l:=by
 unfold posF
 rw [List.takeWhile_map,List.length_map]
 rfl
/-- the content with a set more, in its place -/
def TenC.withS (c:TenC) (s:SetC):TenC:=⟨c.nm,c.quota,c.next,c.sets.take (posF (fun x:SetC=>cmpS x.path s.path) c.sets)++[s]++c.sets.drop (posF (fun x:SetC=>cmpS x.path s.path) c.sets),c.grants,c.stages,c.log⟩
theorem asc_eqv (l l':List SetR) (p:BS) (h:l.map (·.path)=l'.map (·.path)) (ha:SignAsc (fun x:SetR=>cmpS x.path p) l):SignAsc (fun x:SetR=>cmpS x.path p) l':=by
 have hp:∀ (i:Nat) (x:SetR),l'[i]?=some x→∃ y,l[i]?=some y∧y.path=x.path:=by
  intro i x hx
  have h1:=congrArg (fun m:List BS=>m[i]?) h
  simp only [List.getElem?_map,hx,Option.map_some] at h1
  cases hl:l[i]? with
  | none=>rw [hl] at h1;cases h1
  | some y=>rw [hl] at h1;exact ⟨y,rfl,by simpa using h1⟩
 intro i j a b hij hai hbj hlt
 obtain ⟨a',ha',e1⟩:=hp i a hai
 obtain ⟨b',hb',e2⟩:=hp j b hbj
 have:=ha i j a' b' hij ha' hb' (by simp only [e2];exact hlt)
 simp only [e1] at this
 exact this
theorem con_withS (y:TenR) (s:SetR) (A:Option Addr) (n c:Nat):TenR.con ⟨y.nm,y.quota,y.next,⟨A,n,c,y.sets.l.take (posF (fun x:SetR=>cmpS x.path s.path) y.sets.l)++[s]++y.sets.l.drop (posF (fun x:SetR=>cmpS x.path s.path) y.sets.l)⟩,y.grants,y.stages,y.log⟩=y.con.withS s.con:=by
 show TenC.mk _ _ _ _ _ _ _=TenC.mk _ _ _ _ _ _ _
 have e:posF (fun x:SetC=>cmpS x.path s.con.path) y.con.sets=posF (fun x:SetR=>cmpS x.path s.path) y.sets.l:=posF_map SetR.con (fun x:SetC=>cmpS x.path s.path) y.sets.l
 rw [e]
 simp only [List.map_append,List.map_take,List.map_drop,List.map_cons,List.map_nil]
 rfl
end Go.Proofs.YtcgclpcocdappaaGreatDoor
namespace Go.Proofs.YtcgclpcocdappaaGreatDoor
open Go.RowKit
theorem own14_any (t:TenR) (w:World) (B:Nat) (hB:B≤w.heap.size) (hr:t.rd w B) (hz:t.sz) (hst:t.stages.n≤500000000000) :
  Calls Tryz.prog 49 #[t.val] w fun e w'=>∃ y:TenR,e=.returned y.val∧TenO w' w.heap.size y∧t.eqv y∧Below w.heap.size w w':=by
 obtain ⟨nm,qu,nx,⟨s1,sn,s3,sl⟩,⟨g1,gn,g3,gl⟩,⟨t1,tn,t3,tl⟩,⟨l1,ln,l3,ll⟩⟩:=t
 exact own14T_any nm qu nx s1 sn s3 sl g1 gn g3 gl t1 tn t3 tl l1 ln l3 ll w B hB hr hz hst
end Go.Proofs.YtcgclpcocdappaaGreatDoor
namespace Go.Proofs.YtcgclpcocdappaaGreatDoor
open Go.RowKit
/-! ### sizes, by content -/
structure SnapC.sz (x:SnapC):Prop where
 nm:x.nm.length≤4000000000
 body:x.body.length≤1000000000000
 tags:x.tags.length≤1000000000000
 each:∀ t∈x.tags,t.length≤4000000000
 own:x.own.length≤1000000000000
 props:∀ p∈x.own,p.1.length≤4000000000∧p.2.length≤4000000000
structure SetC.sz (x:SetC):Prop where
 path:x.path.length≤4000000000
 org:x.org.length≤4000000000
 body:x.body.length≤1000000000000
 snaps:x.snaps.length≤1000000000000
 each:∀ y∈x.snaps,y.sz
 own:x.own.length≤1000000000000
 props:∀ p∈x.own,p.1.length≤4000000000∧p.2.length≤4000000000
structure StageC.sz (x:StageC):Prop where
 into:x.into.length≤4000000000
 nm:x.nm.length≤4000000000
 dt:x.dt.length≤4000000000
 own:x.own.length≤1000000000000
 props:∀ p∈x.own,p.1.length≤4000000000∧p.2.length≤4000000000
 body:x.body.length≤1000000000000
structure TenC.sz (t:TenC):Prop where
 nm:t.nm.length≤4000000000
 sets:t.sets.length≤1000000000000
 eachS:∀ y∈t.sets,y.sz
 grants:t.grants.length≤1000000000000
 eachG:∀ g∈t.grants,g.1.length≤4000000000∧g.2.1.length≤4000000000
 stages:t.stages.length≤1000000000000
 eachT:∀ y∈t.stages,y.sz
 log:t.log.length≤1000000000000
 eachL:∀ y∈t.log,y.sz
section
variable {w:World} {B:Nat}
theorem SnapR.sz_of {x:SnapR} (h:x.rd w B) (hc:x.con.sz):x.sz:=⟨hc.nm,by rw [h.body.1];exact hc.body,by rw [h.tags.1];exact hc.tags,hc.each,by rw [h.own.1];exact hc.own,hc.props⟩
theorem SnapC.sz_of {x:SnapR} (h:x.rd w B) (hc:x.sz):x.con.sz:=⟨hc.nm,by have:=hc.body;rw [h.body.1] at this;exact this,by have:=hc.tags;rw [h.tags.1] at this;exact this,hc.each,by have:=hc.own;rw [h.own.1] at this;exact this,hc.props⟩
theorem SetR.sz_of {x:SetR} (h:x.rd w B) (hc:x.con.sz):x.sz :=
 ⟨hc.path,hc.org,by rw [h.body.1];exact hc.body,by rw [h.snaps.1];have:=hc.snaps;rwa [show x.con.snaps.length=x.snaps.l.length from List.length_map ..] at this,fun y hy=>SnapR.sz_of (h.each y hy) (hc.each _ (List.mem_map_of_mem hy)),by rw [h.own.1];exact hc.own,hc.props⟩
theorem SetC.sz_of {x:SetR} (h:x.rd w B) (hc:x.sz):x.con.sz:=by
 refine ⟨hc.path,hc.org,by have:=hc.body;rw [h.body.1] at this;exact this,?_,fun y hy=>?_,by have:=hc.own;rw [h.own.1] at this;exact this,hc.props⟩
 ·have:=hc.snaps
  rw [h.snaps.1] at this
  rwa [show x.con.snaps.length=x.snaps.l.length from List.length_map ..]
 ·obtain ⟨z,hz,rfl⟩:=List.mem_map.1 hy
  exact SnapC.sz_of (h.each z hz) (hc.each z hz)
theorem StageR.sz_of {x:StageR} (h:x.rd w B) (hc:x.con.sz):x.sz:=⟨hc.into,hc.nm,hc.dt,by rw [h.own.1];exact hc.own,hc.props,by rw [h.body.1];exact hc.body⟩
theorem StageC.sz_of {x:StageR} (h:x.rd w B) (hc:x.sz):x.con.sz:=⟨hc.into,hc.nm,hc.dt,by have:=hc.own;rw [h.own.1] at this;exact this,hc.props,by have:=hc.body;rw [h.body.1] at this;exact this⟩
theorem TenR.sz_of {t:TenR} (h:t.rd w B) (hc:t.con.sz):t.sz :=
 ⟨hc.nm,by rw [h.sets.1];have:=hc.sets;rwa [show t.con.sets.length=t.sets.l.length from List.length_map ..] at this,fun y hy=>SetR.sz_of (h.eachS y hy) (hc.eachS _ (List.mem_map_of_mem hy)),by rw [h.grants.1];exact hc.grants,hc.eachG,by rw [h.stages.1];have:=hc.stages;rwa [show t.con.stages.length=t.stages.l.length from List.length_map ..] at this,fun y hy=>StageR.sz_of (h.eachG y hy) (hc.eachT _ (List.mem_map_of_mem hy)),by rw [h.log.1];exact hc.log,hc.eachL⟩
theorem TenC.sz_of {t:TenR} (h:t.rd w B) (hc:t.sz):t.con.sz:=by
 refine ⟨hc.nm,?_,fun y hy=>?_,by have:=hc.grants;rw [h.grants.1] at this;exact this,hc.eachG,?_,fun y hy=>?_,by have:=hc.log;rw [h.log.1] at this;exact this,hc.eachL⟩
 ·have:=hc.sets
  rw [h.sets.1] at this
  rwa [show t.con.sets.length=t.sets.l.length from List.length_map ..]
 ·obtain ⟨z,hz,rfl⟩:=List.mem_map.1 hy
  exact SetC.sz_of (h.eachS z hz) (hc.eachS z hz)
 ·have:=hc.stages
  rw [h.stages.1] at this
  rwa [show t.con.stages.length=t.stages.l.length from List.length_map ..]
 ·obtain ⟨z,hz,rfl⟩:=List.mem_map.1 hy
  exact StageC.sz_of (h.eachG z hz) (hc.eachT z hz)
end
theorem TenC.sz.withS {c:TenC} {s:SetC} (h:c.sz) (hs:s.sz) (hl:c.sets.length≤100000000000):(c.withS s).sz:=by
 refine ⟨h.nm,?_,fun y hy=>?_,h.grants,h.eachG,h.stages,h.eachT,h.log,h.eachL⟩
 ·unfold TenC.withS
  exact mZ212
 ·have hy:y∈c.sets.take _++[s]++c.sets.drop _:=hy
  simp only [List.mem_append,List.mem_cons,List.not_mem_nil,or_false] at hy
  rcases hy with (hy | rfl) | hy
  ·exact h.eachS y (List.mem_of_mem_take hy)
  ·exact hs
  ·exact h.eachS y (List.mem_of_mem_drop hy)
theorem TenC.sz.putS {c:TenC} {i:Nat} {s:SetC} (h:c.sz) (hs:s.sz):(c.putS i s).sz:=by
 refine ⟨h.nm,?_,fun y hy=>?_,h.grants,h.eachG,h.stages,h.eachT,h.log,h.eachL⟩
 ·show (c.sets.set i s).length≤_
  rw [List.length_set]
  exact h.sets
 ·rcases List.mem_or_eq_of_mem_set (show y∈c.sets.set i s from hy) with hy | rfl
  ·exact h.eachS y hy
  ·exact hs
def set0C (p:BS):SetC:=⟨p,[],[],[],[]⟩
theorem set0C_sz (p:BS) (hp:p.length≤4000000000):(set0C p).sz:=⟨hp,by simp [set0C],by simp [set0C],by simp [set0C],by simp [set0C],by simp [set0C],by simp [set0C]⟩
/-- a box of results: the cells stored, and loaded again -/
theorem res7 {zs:List Value} (cs:List Value) {W w:World} {g:Nat} (hk:Blk W g 27 zs.toArray) (hb:Below w.heap.size w W) (hg:w.heap.size≤g) (hz:zs.length=7:=by rfl) (hc:cs.length=7:=by rfl) :
  ∃ WR,WR=W.setCells g 0 cs.toArray.toList∧Hid (W.there g 0 7)∧Hid ((loadVar 27 ⟨g,0,none⟩).run Tryz.prog WR=.ok (.agg cs.toArray) WR)∧Hid (Below w.heap.size w WR)∧W.grownBy WR (some g):=by
 have k4:=Blk.setCells (g:=g) cs W [] zs (by rw [hz,hc]) hk
 simp only [List.length_nil,List.nil_append] at k4
 refine ⟨_,rfl,hk.there 7 (by simp [hz]),?_,below_setCells hg cs W 0 hb,grown_cellsS g cs W 0⟩
 exact run_loadVar_at _ ⟨g,0,none⟩ 27 cs _ (fun j v hv=>by rw [addr_add0,k4.cell j,zF];exact hv) Tryz.underlying27 rfl (by rw [hc];kernel_rfl)
/-! ### what is told -/
/-- a tenant and an error: the error's tenant is the zero one; else it lies in memory of its own -/
def TenPost (w:World) (c:Int×TenC) (e:Ending) (w':World):Prop:=∃ v,e=.returned (.tuple #[v,.int .i64 c.1])∧Below w.heap.size w w' ∧
 ((c.1≠0∧v=ZEROT)∨(c.1=0∧∃ y:TenR,v=y.val∧TenO w' w.heap.size y∧y.con=c.2))
theorem tenPost_err {w w':World} {c:Int×TenC} {E:Int} {c':TenC} (hc:c=(E,c')) (hE:E≠0) (hb:Below w.heap.size w w'):TenPost w c (.returned (.tuple #[ZEROT,.int .i64 E])) w':=by
 subst hc
 exact ⟨_,rfl,hb,.inl ⟨hE,rfl⟩⟩
theorem tenPost_ok {w w':World} {c:Int×TenC} {c':TenC} (hc:c=(0,c')) (hb:Below w.heap.size w w') (y:TenR) (ho:TenO w' w.heap.size y) (hy:y.con=c'):TenPost w c (.returned (.tuple #[y.val,.int .i64 0])) w':=by
 subst hc
 exact ⟨_,rfl,hb,.inr ⟨rfl,y,rfl,ho,hy⟩⟩
def TenC.find (c:TenC) (p:BS):Int:=firstI (fun s:SetC=>s.path == p) c.sets
theorem findS_con (t:TenR) (p:BS):findS t.sets.l p=t.con.find p:=by
 unfold findS TenC.find
 exact (firstI_map SetR.con (fun s:SetC=>s.path == p) t.sets.l).symm
def TenC.ask (c:TenC) (p:BS):Int:=if c.E=9 then 9 else if pathB p=false then 31 else 0
theorem askP_con (t:TenR) (p:BS):askP t p=t.con.ask p:=by
 unfold askP TenC.ask
 rw [tenE_con]
/-- what is settled -/
def TenC.settle (c:TenC):Int×TenC:=if c.E=9 then (9,c) else if c.quota<(c.charge:Int) then (42,c) else (0,c)
theorem settleT_any (t:TenR) (w:World) (B:Nat) (hB:B≤w.heap.size) (hr:t.rd w B) (hz:t.sz) (hmx:HasMax w) :
  Calls Tryz.prog 47 #[t.val] w (TenPost w t.con.settle):=by
 refine (settle_any t w B hB hr hz hmx).mono ?_
 rintro e w' ⟨v,E,rfl,hb,h⟩
 rw [tenE_con,tenSum_con t w B hr] at h
 unfold TenPost TenC.settle
 rcases h with ⟨h1,h2,h3⟩ | ⟨h1,h2,h3,h4⟩ | ⟨h1,h2,h3,y,h4,h5,h6⟩
 ·rw [if_pos h1]
  exact ⟨v,by rw [h2],hb,.inl ⟨(by decide:(9:Int)≠0),h3⟩⟩
 ·rw [if_neg (by rw [h1];decide),if_pos (show t.con.quota<_ from h2)]
  exact ⟨v,by rw [h3],hb,.inl ⟨(by decide:(42:Int)≠0),h4⟩⟩
 ·rw [if_neg (by rw [h1];decide),if_neg (show ¬ t.con.quota<_ from by show ¬ t.quota<_;omega)]
  exact ⟨v,by rw [h3],hb,.inr ⟨rfl,y,h4,h5,((TenR.eqv_iff _ _).1 h6).symm⟩⟩
/-- a set is made -/
def TenC.create (c:TenC) (p:BS):Int×TenC:=if c.ask p≠0 then (c.ask p,c) else if 0≤c.find p then (6,c) else if c.find (upL p)<0 then (71,c) else if c.sets.length=32 then (3,c) else (c.withS (set0C p)).settle
/-! ### what stands under a set, its clones, what is held -/
end Go.Proofs.YtcgclpcocdappaaGreatDoor
