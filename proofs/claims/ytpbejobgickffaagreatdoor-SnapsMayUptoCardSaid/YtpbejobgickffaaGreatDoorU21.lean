/-
  shape.Settle: a changed tenant, if it may be and if it fits. What a tenant's content tells: whether it may be, and what it is charged for. A tenant of one's own of which the snapshots of one set are changed, when no two sets have one row of snapshots. What is done to a block of another element type keeps a tenant of one's own. snaps.asked, snaps.found: a set's place, and its snapshot's. Contents with a set more, with another set at a place, with a set less. What a function tells that answers by a tenant and an error; sizes by content.
-/
import Derived.Test.YtpbejobgickffaaGreatDoorU0
import Derived.Test.YtpbejobgickffaaGreatDoorU20
import Derived.Test.YtpbejobgickffaaGreatDoorU19
import Derived.Test.YtpbejobgickffaaGreatDoorU10
import Derived.Test.YtpbejobgickffaaGreatDoorU6
import Derived.Test.YtpbejobgickffaaGreatDoorU17
namespace Go.Proofs.YtpbejobgickffaaGreatDoor
open Go.RowKit
theorem results_cell_tmp {P:Program} {fn:Func} {tmps:Array Value} {a b:Tmp} {t:TypeId} {ad:Addr} {v u:Value} {w:World} (hr:fn.results=#[.cell a t,.tmp b]) (ha:tmps[a]?.getD undef=.pointer (some ad)) (hl:(loadVar t ad).run P w=.ok v w) (hu:tmps[b]?.getD undef=u:=by rfl):(results fn tmps).run P w=.ok (.tuple #[v,u]) w:=by
 simp [results,hr,ha,hl,hu,asAddr]
theorem grown_cellsS (g:Nat) (cs:List Value):∀ (W:World) (o:Nat),W.grownBy (W.setCells g o cs) (some g):=by
 induction cs with
 | nil=>intro W o;exact ⟨rfl,rfl,rfl,Nat.le_refl _,fun _ _ _=>rfl⟩
 | cons u r ih=>intro W o;exact grown_tr (grown_box W g o u) (ih _ _)
theorem sum_le_len {α:Type} (f:α→Int) (c:Int) (l:List α) (h:∀ x∈l,f x≤c):(l.map f).sum≤l.length*c:=by
 induction l with
 | nil=>simp
 | cons x r ih =>
  have h1:=h x List.mem_cons_self
  have h2:=ih (fun y hy=>h y (List.mem_cons_of_mem _ hy))
  simp only [List.map_cons,List.sum_cons,List.length_cons,Int.natCast_add,Int.add_mul,Int.natCast_one,Int.one_mul]
  omega
theorem setSum_small (x:SetR) (hz:x.sz) (h:x.snaps.l.length≤16):setSum x≤20000000000000:=by
 unfold setSum sumB
 rw [List.take_length]
 have h1:=hz.body
 have h2:=sum_le_len (fun y:SnapR=>(y.body.n:Int)+1) 1000000000001 x.snaps.l (fun y hy=>by have:=(hz.each y hy).body;omega)
 omega
/-- what may be is not much -/
theorem tenSum_small (t:TenR) (hz:t.sz) (h:tenE t=0):tenSum t≤4000000000000000000:=by
 unfold tenE at h
 split at h
 ·rename_i hb
  unfold tenB at hb
  simp only [Bool.and_eq_true] at hb
  have hS:=hb.1.1.1.2
  have hG:=hb.1.2
  unfold setsB at hS
  unfold stagesB at hG
  simp only [Bool.and_eq_true,decide_eq_true_eq] at hS hG
  have hx:=((setsFrom_iff _ _ _).1 hS.2).1
  have h1:=sum_le_len setSum 20000000000000 t.sets.l (fun x hm=>by
   have h3:=hx x hm
   unfold setB at h3
   simp only [Bool.and_eq_true] at h3
   have h4:=h3.1.2
   unfold snapsB at h4
   simp only [Bool.and_eq_true,decide_eq_true_eq] at h4
   exact setSum_small x (hz.eachS x hm) h4.1.1)
  have h2:=sum_le_len (fun x:StageR=>(x.body.n:Int)+1) 1000000000001 t.stages.l (fun y hy=>by have:=(hz.eachT y hy).body;omega)
  unfold tenSum sumS sumG
  rw [List.take_length,List.take_length]
  have h5:=hS.1.1
  have h6:=hG.1
  omega
 ·cases h
def ZEROT:Value:=.agg #[.string ⟨#[]⟩,.int .i64 0,.int .i64 0,.slice none 0 0,.slice none 0 0,.slice none 0 0,.slice none 0 0]
def SettlePost (t:TenR) (w:World) (e:Ending) (w':World):Prop:=∃ v E,e=.returned (.tuple #[v,.int .i64 E])∧Below w.heap.size w w' ∧
 ((tenE t=9∧E=9∧v=ZEROT)∨(tenE t=0∧t.quota<tenSum t∧E=42∧v=ZEROT)∨(tenE t=0∧tenSum t≤t.quota∧E=0∧∃ y:TenR,v=y.val∧TenO w' w.heap.size y∧t.eqv y))
theorem tenE_09 (t:TenR):tenE t=0∨tenE t=9:=by unfold tenE;split <;> simp
set_option maxRecDepth 100000 in
set_option maxHeartbeats 4000000 in
theorem settle_any (t:TenR) (w:World) (B:Nat) (hB:B≤w.heap.size) (hr:t.rd w B) (hz:t.sz) (hmx:HasMax w) :
  Calls Tryz.prog 22 #[t.val] w (SettlePost t w):=by
 have h2:=tenE_09 t
 have hsm:=tenSum_small t hz
 obtain ⟨nm,qu,nx,⟨s1,sn,s3,sl⟩,⟨g1,gn,g3,gl⟩,⟨t1,tn,t3,tl⟩,⟨l1,ln,l3,ll⟩⟩:=t
 show Calls Tryz.prog 22 #[.agg #[.string ⟨nm.toArray⟩,.int .i64 qu,.int .i64 nx,.slice s1 sn s3,.slice g1 gn g3,.slice t1 tn t3,.slice l1 ln l3]] w _
 have hb2:=((Below.refl w.heap.size w).alloc (Nat.le_refl _) (.cells #[.string ⟨nm.toArray⟩,.int .i64 qu,.int .i64 nx,.slice s1 sn s3,.slice g1 gn g3,.slice t1 tn t3,.slice l1 ln l3] 27)).alloc (by simp) (.cells #[.string ⟨#[]⟩,.int .i64 0,.int .i64 0,.slice none 0 0,.slice none 0 0,.slice none 0 0,.slice none 0 0] 27)
 have kT:=(Blk.new w 27 #[.string ⟨nm.toArray⟩,.int .i64 qu,.int .i64 nx,.slice s1 sn s3,.slice g1 gn g3,.slice t1 tn t3,.slice l1 ln l3]).alloc (.cells #[.string ⟨#[]⟩,.int .i64 0,.int .i64 0,.slice none 0 0,.slice none 0 0,.slice none 0 0,.slice none 0 0] 27)
 have kZ:=Blk.new (w.alloc (.cells #[.string ⟨nm.toArray⟩,.int .i64 qu,.int .i64 nx,.slice s1 sn s3,.slice g1 gn g3,.slice t1 tn t3,.slice l1 ln l3] 27)) 27 #[.string ⟨#[]⟩,.int .i64 0,.int .i64 0,.slice none 0 0,.slice none 0 0,.slice none 0 0,.slice none 0 0]
 rw [show (w.alloc (.cells #[.string ⟨nm.toArray⟩,.int .i64 qu,.int .i64 nx,.slice s1 sn s3,.slice g1 gn g3,.slice t1 tn t3,.slice l1 ln l3] 27)).heap.size=w.heap.size+1 by simp] at kZ
 obtain ⟨W2,hW2⟩:∃ W,W=(w.alloc (.cells #[.string ⟨nm.toArray⟩,.int .i64 qu,.int .i64 nx,.slice s1 sn s3,.slice g1 gn g3,.slice t1 tn t3,.slice l1 ln l3] 27)).alloc (.cells #[.string ⟨#[]⟩,.int .i64 0,.int .i64 0,.slice none 0 0,.slice none 0 0,.slice none 0 0,.slice none 0 0] 27):=⟨_,rfl⟩
 have hsz:W2.heap.size=w.heap.size+2:=by rw [hW2];simp
 rw [← hW2] at hb2 kT kZ
 have hrw:Hid (∀ W,Below W2.heap.size W2 W→TenR.rd W B ⟨nm,qu,nx,⟨s1,sn,s3,sl⟩,⟨g1,gn,g3,gl⟩,⟨t1,tn,t3,tl⟩,⟨l1,ln,l3,ll⟩⟩∧w.heap.size+2≤W.heap.size∧HasMax W∧Below w.heap.size w W):=by
  show ∀ W,_→_
  intro W h
  have h1:=hb2.trans (h.mono (by omega))
  exact ⟨TenR.rd.below hr (h1.mono hB),by have:=h.size;omega,hmx.below h1,h1⟩
 have hTC:Hid (∀ W,Below W2.heap.size W2 W→Calls Tryz.prog 73 #[.agg #[.string ⟨nm.toArray⟩,.int .i64 qu,.int .i64 nx,.slice s1 sn s3,.slice g1 gn g3,.slice t1 tn t3,.slice l1 ln l3]] W fun e w'=>e=.returned (.int .i64 (tenE ⟨nm,qu,nx,⟨s1,sn,s3,sl⟩,⟨g1,gn,g3,gl⟩,⟨t1,tn,t3,tl⟩,⟨l1,ln,l3,ll⟩⟩))∧Below W.heap.size W w'):=fun W hb =>
  tcheck_any ⟨nm,qu,nx,⟨s1,sn,s3,sl⟩,⟨g1,gn,g3,gl⟩,⟨t1,tn,t3,tl⟩,⟨l1,ln,l3,ll⟩⟩ W B (hrw.out W hb).1 (by have:=(hrw.out W hb).2.1;omega) hz (hrw.out W hb).2.2.1
 have hFT:Hid (tenE ⟨nm,qu,nx,⟨s1,sn,s3,sl⟩,⟨g1,gn,g3,gl⟩,⟨t1,tn,t3,tl⟩,⟨l1,ln,l3,ll⟩⟩=0→∀ W,Below W2.heap.size W2 W→Calls Tryz.prog 74 #[.agg #[.string ⟨nm.toArray⟩,.int .i64 qu,.int .i64 nx,.slice s1 sn s3,.slice g1 gn g3,.slice t1 tn t3,.slice l1 ln l3]] W fun e w'=>e=.returned (.bool (decide (tenSum ⟨nm,qu,nx,⟨s1,sn,s3,sl⟩,⟨g1,gn,g3,gl⟩,⟨t1,tn,t3,tl⟩,⟨l1,ln,l3,ll⟩⟩≤qu)))∧Below W.heap.size W w'):=fun h0 W hb =>
  fits_any ⟨nm,qu,nx,⟨s1,sn,s3,sl⟩,⟨g1,gn,g3,gl⟩,⟨t1,tn,t3,tl⟩,⟨l1,ln,l3,ll⟩⟩ W B (by have:=(hrw.out W hb).2.1;omega) (hrw.out W hb).1 hz (hsm h0)
 have hCP:Hid (∀ W,Below W2.heap.size W2 W→Calls Tryz.prog 47 #[.agg #[.string ⟨nm.toArray⟩,.int .i64 qu,.int .i64 nx,.slice s1 sn s3,.slice g1 gn g3,.slice t1 tn t3,.slice l1 ln l3]] W fun e w'=>∃ y:TenR,e=.returned y.val∧TenO w' W.heap.size y∧TenR.eqv ⟨nm,qu,nx,⟨s1,sn,s3,sl⟩,⟨g1,gn,g3,gl⟩,⟨t1,tn,t3,tl⟩,⟨l1,ln,l3,ll⟩⟩ y∧Below W.heap.size W w'):=fun W hb =>
  tcopy_any ⟨nm,qu,nx,⟨s1,sn,s3,sl⟩,⟨g1,gn,g3,gl⟩,⟨t1,tn,t3,tl⟩,⟨l1,ln,l3,ll⟩⟩ W B (by have:=(hrw.out W hb).2.1;omega) (hrw.out W hb).1 hz
 obtain ⟨E,hE⟩:∃ E,E=tenE ⟨nm,qu,nx,⟨s1,sn,s3,sl⟩,⟨g1,gn,g3,gl⟩,⟨t1,tn,t3,tl⟩,⟨l1,ln,l3,ll⟩⟩:=⟨_,rfl⟩
 obtain ⟨U,hU⟩:∃ U,U=tenSum ⟨nm,qu,nx,⟨s1,sn,s3,sl⟩,⟨g1,gn,g3,gl⟩,⟨t1,tn,t3,tl⟩,⟨l1,ln,l3,ll⟩⟩:=⟨_,rfl⟩
 rw [← hE] at h2 hTC hFT
 rw [← hU] at hFT
 have HE:=Lib.hid hE
 have HU:=Lib.hid hU
 have HSZ:=Lib.hid hsz
 have KT2:=Lib.hid kT
 have KZ2:=Lib.hid kZ
 have hc:=hTC.out W2 (Below.refl _ _)
 obtain ⟨c0,c1,c2,c3,c4,c5,c6⟩:=(⟨kT.cell 0,kT.cell 1,kT.cell 2,kT.cell 3,kT.cell 4,kT.cell 5,kT.cell 6⟩:_∧_∧_∧_∧_∧_∧_)
 simp only [zF,zD,zE] at c0 c1 c2 c3 c4 c5 c6
 clear hb2 kT kZ hr hz hsm hE hU hsz hmx hTC
 go_enter Tryz.func22,Tryz.ntmps22
 go_wp2_with fail
 rw [← hW2]
 clear hW2
 refine hc.mono ?_
 clear hc c0 c1 c2 c3 c4 c5 c6
 rintro e w3 ⟨rfl,hb3⟩
 have HW3:=Lib.hid hb3
 have HB3:=Lib.hid (hrw.out w3 hb3).2.2.2
 have KZ:=Lib.hid (KZ2.out.below hb3 KZ2.out.lt)
 have KT:=Lib.hid (KT2.out.below hb3 KT2.out.lt)
 clear hb3 KZ2 KT2
 rcases h2 with rfl | rfl
 ·have hc:=hFT.out rfl w3 HW3.out
  obtain ⟨c0,c1,c2,c3,c4,c5,c6⟩:=(⟨KT.out.cell 0,KT.out.cell 1,KT.out.cell 2,KT.out.cell 3,KT.out.cell 4,KT.out.cell 5,KT.out.cell 6⟩:_∧_∧_∧_∧_∧_∧_)
  simp only [zF,zD,zE] at c0 c1 c2 c3 c4 c5 c6
  clear hFT
  go_wp2_with fail
  refine hc.mono ?_
  clear hc c0 c1 c2 c3 c4 c5 c6
  rintro e w4 ⟨rfl,hb4⟩
  have HW4:=Lib.hid (HW3.out.trans (hb4.mono HW3.out.size))
  have HB4:=Lib.hid (HB3.out.trans (hb4.mono HB3.out.size))
  have KZ:=Lib.hid (KZ.out.below hb4 KZ.out.lt)
  have KT:=Lib.hid (KT.out.below hb4 KT.out.lt)
  clear hb4 HB3 HW3
  by_cases hq:U≤qu
  ·rw [decide_eq_true hq]
   have HQ:=Lib.hid hq
   have hc:=hCP.out w4 HW4.out
   obtain ⟨c0,c1,c2,c3,c4,c5,c6⟩:=(⟨KT.out.cell 0,KT.out.cell 1,KT.out.cell 2,KT.out.cell 3,KT.out.cell 4,KT.out.cell 5,KT.out.cell 6⟩:_∧_∧_∧_∧_∧_∧_)
   simp only [zF,zD,zE] at c0 c1 c2 c3 c4 c5 c6
   clear hCP hq
   go_wp2_with fail
   refine hc.mono ?_
   clear hc c0 c1 c2 c3 c4 c5 c6
   rintro e w5 ⟨y,rfl,ho5,he5,hb5⟩
   have HE5:=Lib.hid he5
   have HO5:=Lib.hid (ho5.mono (hrw.out w4 HW4.out).2.1)
   have HB5:=Lib.hid (HB4.out.trans (hb5.mono HB4.out.size))
   have KZ:=Lib.hid (KZ.out.below hb5 KZ.out.lt)
   clear he5 ho5 hb5 HB4 KT HW4 hrw
   obtain ⟨mm,mq,mx,⟨m1,m2,m3,ml⟩,⟨n1,n2,n3,nl⟩,⟨p1,p2,p3,pl⟩,⟨q1,q2,q3,ql⟩⟩:=y
   simp only [TenR.val,TenR.cells,FS.val,strV]
   have hth:=Lib.hid (KZ.out.there 7 (by decide))
   have k4:=Blk.setCells (g:=(w.heap.size+1)) [.string ⟨mm.toArray⟩,.int .i64 mq,.int .i64 mx,.slice m1 m2 m3,.slice n1 n2 n3,.slice p1 p2 p3,.slice q1 q2 q3] w5 [] [.string ⟨#[]⟩,.int .i64 0,.int .i64 0,.slice none 0 0,.slice none 0 0,.slice none 0 0,.slice none 0 0] rfl KZ.out
   simp only [List.length_nil,List.nil_append] at k4
   have hbw:=below_setCells (g:=(w.heap.size+1)) (by omega) [.string ⟨mm.toArray⟩,.int .i64 mq,.int .i64 mx,.slice m1 m2 m3,.slice n1 n2 n3,.slice p1 p2 p3,.slice q1 q2 q3] w5 0 HB5.out
   have hoo:=TenO.kept HO5.out (grown_cellsS (w.heap.size+1) [.string ⟨mm.toArray⟩,.int .i64 mq,.int .i64 mx,.slice m1 m2 m3,.slice n1 n2 n3,.slice p1 p2 p3,.slice q1 q2 q3] w5 0) (by omega)
   obtain ⟨W4,hW4⟩:∃ W,W=w5.setCells (w.heap.size+1) 0 (#[.string ⟨mm.toArray⟩,.int .i64 mq,.int .i64 mx,.slice m1 m2 m3,.slice n1 n2 n3,.slice p1 p2 p3,.slice q1 q2 q3]:Array Value).toList:=⟨_,rfl⟩
   rw [show ([.string ⟨mm.toArray⟩,.int .i64 mq,.int .i64 mx,.slice m1 m2 m3,.slice n1 n2 n3,.slice p1 p2 p3,.slice q1 q2 q3]:List Value)=(#[.string ⟨mm.toArray⟩,.int .i64 mq,.int .i64 mx,.slice m1 m2 m3,.slice n1 n2 n3,.slice p1 p2 p3,.slice q1 q2 q3]:Array Value).toList from rfl,← hW4] at k4 hbw hoo
   have HL:Hid ((loadVar 27 ⟨(w.heap.size+1),0,none⟩).run Tryz.prog W4=.ok (.agg #[.string ⟨mm.toArray⟩,.int .i64 mq,.int .i64 mx,.slice m1 m2 m3,.slice n1 n2 n3,.slice p1 p2 p3,.slice q1 q2 q3]) W4):=run_loadVar_at W4 ⟨(w.heap.size+1),0,none⟩ 27 [.string ⟨mm.toArray⟩,.int .i64 mq,.int .i64 mx,.slice m1 m2 m3,.slice n1 n2 n3,.slice p1 p2 p3,.slice q1 q2 q3] _ (fun j v hv=>by rw [addr_add0,k4.cell j,zF];exact hv) Tryz.underlying27 rfl (by kernel_rfl)
   have HBW:=Lib.hid hbw
   have HOO:=Lib.hid (hoo.mono (base':=w.heap.size) (by omega))
   clear k4 hbw hoo HO5 HB5 KZ
   go_wp2_with (refine wpList_store_mid rfl 27 (.tmp 2) (.tmp 16) rfl (w.heap.size+1) 0 #[.string ⟨mm.toArray⟩,.int .i64 mq,.int .i64 mx,.slice m1 m2 m3,.slice n1 n2 n3,.slice p1 p2 p3,.slice q1 q2 q3] rfl rfl hth.out (by kernel_rfl) (by simp [Value.oneCell']) ?_;rw [← hW4];clear hW4)
   exact bodyPost_ret (v:=.tuple #[.agg #[.string ⟨mm.toArray⟩,.int .i64 mq,.int .i64 mx,.slice m1 m2 m3,.slice n1 n2 n3,.slice p1 p2 p3,.slice q1 q2 q3],.int .i64 0]) (results_cell_tmp rfl rfl HL.out) rfl ⟨_,_,rfl,HBW.out,.inr (.inr ⟨HE.out.symm,by rw [← HU.out];exact HQ.out,rfl,⟨mm,mq,mx,⟨m1,m2,m3,ml⟩,⟨n1,n2,n3,nl⟩,⟨p1,p2,p3,pl⟩,⟨q1,q2,q3,ql⟩⟩,rfl,HOO.out,HE5.out⟩)⟩
  ·rw [decide_eq_false hq]
   have HQ:=Lib.hid (show qu<U by omega)
   clear hCP hq
   have hth:=Lib.hid (KZ.out.there 7 (by decide))
   have k4:=Blk.setCells (g:=(w.heap.size+1)) [.string ⟨#[]⟩,.int .i64 0,.int .i64 0,.slice none 0 0,.slice none 0 0,.slice none 0 0,.slice none 0 0] w4 [] [.string ⟨#[]⟩,.int .i64 0,.int .i64 0,.slice none 0 0,.slice none 0 0,.slice none 0 0,.slice none 0 0] rfl KZ.out
   simp only [List.length_nil,List.nil_append] at k4
   have hbw:=below_setCells (g:=(w.heap.size+1)) (by omega) [.string ⟨#[]⟩,.int .i64 0,.int .i64 0,.slice none 0 0,.slice none 0 0,.slice none 0 0,.slice none 0 0] w4 0 HB4.out
   obtain ⟨W4,hW4⟩:∃ W,W=w4.setCells (w.heap.size+1) 0 (#[.string ⟨#[]⟩,.int .i64 0,.int .i64 0,.slice none 0 0,.slice none 0 0,.slice none 0 0,.slice none 0 0]:Array Value).toList:=⟨_,rfl⟩
   rw [show ([.string ⟨#[]⟩,.int .i64 0,.int .i64 0,.slice none 0 0,.slice none 0 0,.slice none 0 0,.slice none 0 0]:List Value)=(#[.string ⟨#[]⟩,.int .i64 0,.int .i64 0,.slice none 0 0,.slice none 0 0,.slice none 0 0,.slice none 0 0]:Array Value).toList from rfl,← hW4] at k4 hbw
   have HL:Hid ((loadVar 27 ⟨(w.heap.size+1),0,none⟩).run Tryz.prog W4=.ok (.agg #[.string ⟨#[]⟩,.int .i64 0,.int .i64 0,.slice none 0 0,.slice none 0 0,.slice none 0 0,.slice none 0 0]) W4):=run_loadVar_at W4 ⟨(w.heap.size+1),0,none⟩ 27 [.string ⟨#[]⟩,.int .i64 0,.int .i64 0,.slice none 0 0,.slice none 0 0,.slice none 0 0,.slice none 0 0] _ (fun j v hv=>by rw [addr_add0,k4.cell j,zF];exact hv) Tryz.underlying27 rfl (by kernel_rfl)
   have HBW:=Lib.hid hbw
   clear k4 hbw HW4 KT
   go_wp2_with (refine wpList_store_mid rfl 27 (.tmp 2) (.tmp 14) rfl (w.heap.size+1) 0 #[.string ⟨#[]⟩,.int .i64 0,.int .i64 0,.slice none 0 0,.slice none 0 0,.slice none 0 0,.slice none 0 0] rfl rfl hth.out (by kernel_rfl) (by simp [Value.oneCell']) ?_;rw [← hW4];clear hW4)
   exact bodyPost_ret (v:=.tuple #[.agg #[.string ⟨#[]⟩,.int .i64 0,.int .i64 0,.slice none 0 0,.slice none 0 0,.slice none 0 0,.slice none 0 0],.int .i64 42]) (results_cell_tmp rfl rfl HL.out) rfl ⟨_,_,rfl,HBW.out,.inr (.inl ⟨HE.out.symm,by rw [← HU.out];exact HQ.out,rfl,rfl⟩)⟩
 ·clear hFT hCP
  have hth:=Lib.hid (KZ.out.there 7 (by decide))
  have k4:=Blk.setCells (g:=(w.heap.size+1)) [.string ⟨#[]⟩,.int .i64 0,.int .i64 0,.slice none 0 0,.slice none 0 0,.slice none 0 0,.slice none 0 0] w3 [] [.string ⟨#[]⟩,.int .i64 0,.int .i64 0,.slice none 0 0,.slice none 0 0,.slice none 0 0,.slice none 0 0] rfl KZ.out
  simp only [List.length_nil,List.nil_append] at k4
  have hbw:=below_setCells (g:=(w.heap.size+1)) (by omega) [.string ⟨#[]⟩,.int .i64 0,.int .i64 0,.slice none 0 0,.slice none 0 0,.slice none 0 0,.slice none 0 0] w3 0 HB3.out
  obtain ⟨W4,hW4⟩:∃ W,W=w3.setCells (w.heap.size+1) 0 (#[.string ⟨#[]⟩,.int .i64 0,.int .i64 0,.slice none 0 0,.slice none 0 0,.slice none 0 0,.slice none 0 0]:Array Value).toList:=⟨_,rfl⟩
  rw [show ([.string ⟨#[]⟩,.int .i64 0,.int .i64 0,.slice none 0 0,.slice none 0 0,.slice none 0 0,.slice none 0 0]:List Value)=(#[.string ⟨#[]⟩,.int .i64 0,.int .i64 0,.slice none 0 0,.slice none 0 0,.slice none 0 0,.slice none 0 0]:Array Value).toList from rfl,← hW4] at k4 hbw
  have HL:Hid ((loadVar 27 ⟨(w.heap.size+1),0,none⟩).run Tryz.prog W4=.ok (.agg #[.string ⟨#[]⟩,.int .i64 0,.int .i64 0,.slice none 0 0,.slice none 0 0,.slice none 0 0,.slice none 0 0]) W4):=run_loadVar_at W4 ⟨(w.heap.size+1),0,none⟩ 27 [.string ⟨#[]⟩,.int .i64 0,.int .i64 0,.slice none 0 0,.slice none 0 0,.slice none 0 0,.slice none 0 0] _ (fun j v hv=>by rw [addr_add0,k4.cell j,zF];exact hv) Tryz.underlying27 rfl (by kernel_rfl)
  have HBW:=Lib.hid hbw
  clear k4 hbw HW3 KT
  go_wp2_with (refine wpList_store_mid rfl 27 (.tmp 2) (.tmp 9) rfl (w.heap.size+1) 0 #[.string ⟨#[]⟩,.int .i64 0,.int .i64 0,.slice none 0 0,.slice none 0 0,.slice none 0 0,.slice none 0 0] rfl rfl hth.out (by kernel_rfl) (by simp [Value.oneCell']) ?_;rw [← hW4];clear hW4)
  exact bodyPost_ret (v:=.tuple #[.agg #[.string ⟨#[]⟩,.int .i64 0,.int .i64 0,.slice none 0 0,.slice none 0 0,.slice none 0 0,.slice none 0 0],.int .i64 9]) (results_cell_tmp rfl rfl HL.out) rfl ⟨_,_,rfl,HBW.out,.inl ⟨HE.out.symm,rfl,rfl⟩⟩
end Go.Proofs.YtpbejobgickffaaGreatDoor
namespace Go.Proofs.YtpbejobgickffaaGreatDoor
open Go.RowKit
/-! ### a content as a tenant of its own -/
def mkF {α:Type} (l:List α):FS α:=⟨none,l.length,l.length,l⟩
def SnapC.r (x:SnapC):SnapR:=⟨x.nm,x.gd,mkF x.body,mkF x.tags,mkF x.own⟩
def SetC.r (x:SetC):SetR:=⟨x.path,x.org,mkF x.body,mkF (x.snaps.map SnapC.r),mkF x.own⟩
def StageC.r (x:StageC):StageR:=⟨x.into,x.kind,x.nm,x.frm,x.gd,mkF x.own,x.ix,x.ct,x.dt,x.sm,mkF x.body,x.at_,x.nx,x.sum,x.done⟩
def TenC.r (x:TenC):TenR:=⟨x.nm,x.quota,x.next,mkF (x.sets.map SetC.r),mkF x.grants,mkF (x.stages.map StageC.r),mkF x.log⟩
theorem firstI_map {α β:Type} (f:α→β) (p:β→Bool) (l:List α):firstI p (l.map f)=firstI (fun x=>p (f x)) l:=by
 have h:firstP p (l.map f)=firstP (fun x=>p (f x)) l:=by
  unfold firstP
  induction l with
  | nil=>rfl
  | cons x r ih =>
   rw [List.map_cons]
   cases hp:p (f x) with
   | true=>rw [List.takeWhile_cons_of_neg (by simp [hp]),List.takeWhile_cons_of_neg (by simp [hp])];rfl
   | false=>rw [List.takeWhile_cons_of_pos (by simp [hp]),List.takeWhile_cons_of_pos (by simp [hp]),List.length_cons,List.length_cons,ih]
 unfold firstI
 rw [h,List.length_map]
theorem snapsFrom_n (p:Option Int) (l:List SnapR):snapsFrom p (l.map fun x=>x.con.r)=snapsFrom p l:=by
 induction l generalizing p with
 | nil=>cases p <;> rfl
 | cons x l ih =>
  rw [List.map_cons,snapsFrom_cons,snapsFrom_cons,ih]
  rfl
theorem snapsB_n (l:List SnapR):snapsB (l.map fun x=>x.con.r)=snapsB l:=by
 unfold snapsB
 rw [snapsFrom_n,List.length_map,List.map_map]
 rfl
theorem setC_r (x:SetR):x.con.r=⟨x.path,x.org,mkF x.body.l,mkF (x.snaps.l.map fun y=>y.con.r),mkF x.own.l⟩:=by
 show SetR.mk _ _ _ _ _=_
 rw [show (x.con.snaps.map SnapC.r)=(x.snaps.l.map fun y=>y.con.r) from List.map_map]
 rfl
theorem find_map {α β:Type} (f:α→β) (p:β→Bool) (l:List α):(l.map f).find? p=(l.find? fun x=>p (f x)).map f:=by
 induction l with
 | nil=>rfl
 | cons x r ih =>
  rw [List.map_cons,List.find?_cons,List.find?_cons]
  cases p (f x) with
  | true=>rfl
  | false=>exact ih
theorem originB_n (all:List SetR) (s:SetR):originB (all.map fun x=>x.con.r) s.con.r=originB all s:=by
 unfold originB
 show (s.org == [] || match splitL s.org with
  | none=>false
  | some (p,n)=>!(p == s.path) && match (all.map fun x=>x.con.r).find? (fun x=>x.path == p) with
   | none=>false
   | some x=>x.snaps.l.any fun y=>y.nm == n)=_
 cases splitL s.org with
 | none=>rfl
 | some v =>
  obtain ⟨p,n⟩:=v
  simp only []
  rw [find_map]
  have e:(all.find? fun x:SetR=>x.con.r.path == p)=all.find? fun x=>x.path == p:=rfl
  rw [e]
  cases all.find? (fun x=>x.path == p) with
  | none=>rfl
  | some x =>
   simp only [Option.map_some]
   rw [setC_r x]
   show (s.org == [] || !(p == s.path) && (x.snaps.l.map fun y=>y.con.r).any fun y=>y.nm == n)=_
   rw [List.any_map]
   rfl
theorem setB_n (all:List SetR) (s:SetR):setB (all.map fun x=>x.con.r) s.con.r=setB all s:=by
 unfold setB
 rw [originB_n,setC_r s]
 show ((pathB s.path && match parB s.path with
  | none=>true
  | some u=>(all.map fun x=>x.con.r).any fun x=>x.path == u) && propsB s.own.l && okL s.body.l && snapsB (s.snaps.l.map fun y=>y.con.r) && originB all s)=_
 rw [snapsB_n]
 cases parB s.path with
 | none=>rfl
 | some u =>
  simp only []
  rw [List.any_map]
  rfl
theorem setsFrom_n (all:List SetR) (p:Option BS) (l:List SetR):setsFrom (all.map fun x=>x.con.r) p (l.map fun x=>x.con.r)=setsFrom all p l:=by
 induction l generalizing p with
 | nil=>cases p <;> rfl
 | cons x l ih =>
  have e:∀ (a:List SetR) (y:SetR) (r:List SetR),setsFrom a p (y :: r)=(setB a y && (match p with | none=>true | some q=>Op.bytesLess q y.path) && setsFrom a (some y.path) r):=by
   intro a y r
   cases p <;> rfl
  rw [List.map_cons,e,e,setB_n,show x.con.r.path=x.path from rfl,ih]
theorem setsB_n (l:List SetR):setsB (l.map fun x=>x.con.r)=setsB l:=by
 unfold setsB
 rw [setsFrom_n,List.length_map,List.any_map]
 rfl
theorem stagesFrom_n (p:Option BS) (l:List StageR):stagesFrom p (l.map fun x=>x.con.r)=stagesFrom p l:=by
 induction l generalizing p with
 | nil=>cases p <;> rfl
 | cons x l ih =>
  have e:∀ (y:StageR) (r:List StageR),stagesFrom p (y :: r)=(stageB y && (match p with | none=>true | some q=>Op.bytesLess q y.into) && stagesFrom (some y.into) r):=by
   intro y r
   cases p <;> rfl
  rw [List.map_cons,e,e,show x.con.r.into=x.into from rfl,ih]
  rfl
theorem stagesB_n (l:List StageR):stagesB (l.map fun x=>x.con.r)=stagesB l:=by
 unfold stagesB
 rw [stagesFrom_n,List.length_map]
theorem tenC_r (t:TenR):t.con.r=⟨t.nm,t.quota,t.next,mkF (t.sets.l.map fun x=>x.con.r),mkF t.grants.l,mkF (t.stages.l.map fun x=>x.con.r),mkF t.log.l⟩:=by
 show TenR.mk _ _ _ _ _ _ _=_
 rw [show (t.con.sets.map SetC.r)=(t.sets.l.map fun y=>y.con.r) from List.map_map,show (t.con.stages.map StageC.r)=(t.stages.l.map fun y=>y.con.r) from List.map_map]
 rfl
/-- whether a tenant may be hangs on its content alone -/
def TenC.E (c:TenC):Int:=tenE c.r
theorem tenE_con (t:TenR):tenE t=t.con.E:=by
 unfold TenC.E tenE
 have:tenB t.con.r=tenB t:=by
  rw [tenC_r]
  show (nameB t.nm && amt t.quota 0 && amt t.next 1 && setsB (t.sets.l.map fun x=>x.con.r) && grantsB t.grants.l && stagesB (t.stages.l.map fun x=>x.con.r) && logB t.log.l)=_
  rw [setsB_n,stagesB_n]
  rfl
 rw [this]
theorem TenC.E_two (c:TenC):c.E=0∨c.E=9:=by unfold TenC.E tenE;split <;> simp
/-! ### what it is charged for -/
theorem cast_sum {α:Type} (f:α→Nat) (g:α→Int) (l:List α) (h:∀ x∈l,g x=(f x:Int)):(l.map g).sum=((l.map f).sum:Nat):=by
 induction l with
 | nil=>rfl
 | cons x r ih =>
  rw [List.map_cons,List.map_cons,List.sum_cons,List.sum_cons,Int.natCast_add,h x List.mem_cons_self,ih fun y hy=>h y (List.mem_cons_of_mem _ hy)]
theorem setSum_con (x:SetR) (w:World) (B:Nat) (h:x.rd w B):setSum x=(x.con.charge:Nat):=by
 unfold setSum sumB SetC.charge
 rw [List.take_length,cast_sum (fun y:SnapR=>1+y.body.l.length) _ _ (fun y hy=>by rw [(h.each y hy).body.1];omega)]
 rw [h.body.1]
 show _=((1+x.body.l.length+((x.snaps.l.map SnapR.con).map fun y=>1+y.body.length).sum:Nat):Int)
 rw [List.map_map]
 show _=((1+x.body.l.length+(x.snaps.l.map fun y=>1+y.body.l.length).sum:Nat):Int)
 omega
theorem tenSum_con (t:TenR) (w:World) (B:Nat) (h:t.rd w B):tenSum t=(t.con.charge:Nat):=by
 unfold tenSum sumS sumG TenC.charge
 rw [List.take_length,List.take_length,cast_sum (fun y:SetR=>y.con.charge) _ _ (fun y hy=>setSum_con y w B (h.eachS y hy)),cast_sum (fun y:StageR=>1+y.body.l.length) _ _ (fun y hy=>by rw [(h.eachG y hy).body.1];omega)]
 show _=((((t.sets.l.map SetR.con).map SetC.charge).sum+((t.stages.l.map StageR.con).map fun s=>1+s.body.length).sum:Nat):Int)
 rw [List.map_map,List.map_map]
 rfl
end Go.Proofs.YtpbejobgickffaaGreatDoor
namespace Go.Proofs.YtpbejobgickffaaGreatDoor
open Go.RowKit
def SetR.withSn (x:SetR) (s:FS SnapR):SetR:=⟨x.path,x.org,x.body,s,x.own⟩
def SetC.withSn (x:SetC) (l:List SnapC):SetC:=⟨x.path,x.org,x.body,l,x.own⟩
section
variable {w w1:World} {base:Nat}
theorem own_aside {T:TypeId} {k n:Nat} {v:Value} {xs:List Value} {s:FS SnapR} (hs:s.own w base 64 5 encSnap) (hg:w.grownBy w1 s.val.ownBlock) (hT:T≠64) (hr:w.ownsRow base T k v n xs):w1.ownsRow base T k v n xs:=by
 cases he:s.val.ownBlock with
 | none=>rw [he] at hg;exact hr.kept hg (by cases v.ownBlock <;> simp)
 | some g =>
  rw [he] at hg
  refine hr.kept hg (.inr ?_)
  rcases hs.2 with h0
  rcases h0.2 with ⟨e,_⟩ | ⟨g',cap,cur,e,_,hh,_⟩
  ·rw [e] at he;simp [Value.ownBlock] at he
  ·rw [e] at he
   have he:g'=g:=by simpa [Value.ownBlock] using he
   subst he
   exact own_blk_ne hr (show Blk w g' 64 cur from hh) hT
/-- what stays when only the row of one set's snapshots is changed -/
structure Aside (w1:World) (base:Nat) (t:TenR) (k:Nat) (hk:k<t.sets.l.length):Prop where
 sets:t.sets.own w1 base 42 5 encSet
 others:∀ j (hj:j<t.sets.l.length),j≠k→SetO w1 base (t.sets.l[j]'hj)
 body:(t.sets.l[k]'hk).body.own w1 base 77 2 encB
 own:(t.sets.l[k]'hk).own.own w1 base 80 2 encP
 olds:∀ y∈(t.sets.l[k]'hk).snaps.l,SnapO w1 base y
 grants:t.grants.own w1 base 116 3 encG
 stages:t.stages.own w1 base 101 21 encStage
 eachG:∀ y∈t.stages.l,StageO w1 base y
 log:t.log.own w1 base 118 4 encEntry
theorem TenO.aside {t:TenR} (h:TenO w base t) (hp:t.sets.l.Pairwise ApartS) (k:Nat) (hk:k<t.sets.l.length) (hg:w.grownBy w1 (t.sets.l[k]'hk).snaps.val.ownBlock):Aside w1 base t k hk:=by
 have hS:=(h.eachS _ (List.getElem_mem hk)).snaps
 have a:∀ {T:TypeId} {k n:Nat} {v:Value} {xs:List Value},T≠64→w.ownsRow base T k v n xs→w1.ownsRow base T k v n xs:=fun hT hr=>own_aside hS hg hT hr
 have aS:∀ y,SnapO w base y→SnapO w1 base y:=fun y hy=>⟨⟨hy.body.1,a (by decide) hy.body.2⟩,⟨hy.tags.1,a (by decide) hy.tags.2⟩,⟨hy.own.1,a (by decide) hy.own.2⟩⟩
 have hx:=h.eachS _ (List.getElem_mem hk)
 refine ⟨⟨h.sets.1,a (by decide) h.sets.2⟩,fun j hj hne=>?_,⟨hx.body.1,a (by decide) hx.body.2⟩,⟨hx.own.1,a (by decide) hx.own.2⟩,fun y hy=>aS y (hx.each y hy),⟨h.grants.1,a (by decide) h.grants.2⟩,⟨h.stages.1,a (by decide) h.stages.2⟩,fun y hy=>⟨⟨(h.eachG y hy).own.1,a (by decide) (h.eachG y hy).own.2⟩,⟨(h.eachG y hy).body.1,a (by decide) (h.eachG y hy).body.2⟩⟩,⟨h.log.1,a (by decide) h.log.2⟩⟩
 have hy:=h.eachS _ (List.getElem_mem hj)
 refine ⟨⟨hy.body.1,a (by decide) hy.body.2⟩,⟨hy.snaps.1,?_⟩,fun z hz=>aS z (hy.each z hz),⟨hy.own.1,a (by decide) hy.own.2⟩⟩
 cases he:(t.sets.l[k]'hk).snaps.val.ownBlock with
 | none=>rw [he] at hg;exact hy.snaps.2.kept hg (by cases (t.sets.l[j]'hj).snaps.val.ownBlock <;> simp)
 | some g =>
  rw [he] at hg
  refine hy.snaps.2.kept hg (.inr fun e=>?_)
  rcases Nat.lt_or_gt_of_ne hne with h1 | h1
  ·exact List.pairwise_iff_getElem.1 hp j k hj hk h1 g e he
  ·exact List.pairwise_iff_getElem.1 hp k j hk hj h1 g he e
theorem mem_set_at {α:Type} {l:List α} {k:Nat} {x y:α} (h:y∈l.set k x):y=x∨∃ j,∃ hj:j<l.length,j≠k∧y=l[j]'hj:=by
 obtain ⟨j,hj,rfl⟩:=List.mem_iff_getElem.1 h
 rw [List.length_set] at hj
 by_cases hjk:k=j
 ·subst hjk
  exact .inl (List.getElem_set_self ..)
 ·exact .inr ⟨j,hj,fun e=>hjk e.symm,List.getElem_set_ne hjk ..⟩
/-- the row is another one, and its address is stored -/
theorem Aside.store {t:TenR} {k:Nat} {hk:k<t.sets.l.length} (h:Aside w1 base t k hk) (s':FS SnapR) (hs:s'.own w1 base 64 5 encSnap) (hm:∀ y∈s'.l,SnapO w1 base y) {gS:Nat} (hA:t.sets.A=some ⟨gS,0,none⟩) :
  TenO (w1.setCell ⟨gS,k*5+3,none⟩ s'.val) base (t.putS k ((t.sets.l[k]'hk).withSn s'))∧w1.grownBy (w1.setCell ⟨gS,k*5+3,none⟩ s'.val) (some gS):=by
 obtain ⟨g,cs,hA2,_,hbk⟩:=h.sets.blk (by have:=h.sets.1;omega)
 rw [hA] at hA2
 injection hA2 with hA2
 injection hA2 with hA2
 subst hA2
 obtain ⟨h1,h2⟩:=h.sets.field (fun _=>rfl) hA k 3 (by decide) ((t.sets.l[k]'hk).withSn s') s'.val (fun z hz=>by rw [List.getElem?_eq_getElem hk] at hz;cases hz;rfl)
 have hx:SetO w1 base ((t.sets.l[k]'hk).withSn s'):=⟨h.body,hs,hm,h.own⟩
 refine ⟨⟨h1,fun y hy=>?_,h.grants.keptT h2 hbk (by decide),h.stages.keptT h2 hbk (by decide),fun y hy=>(h.eachG y hy).keptS h2 hbk,h.log.keptT h2 hbk (by decide)⟩,h2⟩
 rcases mem_set_at (show y∈t.sets.l.set k _ from hy) with rfl | ⟨j,hj,hne,rfl⟩
 ·exact hx.keptS h2 hbk
 ·exact (h.others j hj hne).keptS h2 hbk
/-- the row is changed where it lies -/
theorem Aside.place {t:TenR} {k:Nat} {hk:k<t.sets.l.length} (h:Aside w1 base t k hk) (s':FS SnapR) (hs:s'.own w1 base 64 5 encSnap) (hm:∀ y∈s'.l,SnapO w1 base y) (hv:s'.val=(t.sets.l[k]'hk).snaps.val) :
  TenO w1 base (t.putS k ((t.sets.l[k]'hk).withSn s')):=by
 have he:cellsK encSet (t.sets.l.set k ((t.sets.l[k]'hk).withSn s'))=cellsK encSet t.sets.l:=by
  unfold cellsK
  rw [List.flatMap_def,List.flatMap_def,List.map_set]
  congr 1
  have:encSet ((t.sets.l[k]'hk).withSn s')=(t.sets.l.map encSet)[k]'(by rw [List.length_map];exact hk):=by
   rw [List.getElem_map]
   show [strV (t.sets.l[k]'hk).path,strV (t.sets.l[k]'hk).org,(t.sets.l[k]'hk).body.val,s'.val,(t.sets.l[k]'hk).own.val]=_
   rw [hv]
   rfl
  rw [this,List.set_getElem_self]
 refine ⟨⟨?_,?_⟩,fun y hy=>?_,h.grants,h.stages,h.eachG,h.log⟩
 ·show t.sets.n=(t.sets.l.set k _).length
  rw [List.length_set]
  exact h.sets.1
 ·show w1.ownsRow _ _ _ _ _ (cellsK encSet (t.sets.l.set k _))
  rw [he]
  exact h.sets.2
 ·rcases mem_set_at (show y∈t.sets.l.set k _ from hy) with rfl | ⟨j,hj,hne,rfl⟩
  ·exact ⟨h.body,hs,hm,h.own⟩
  ·exact h.others j hj hne
end
end Go.Proofs.YtpbejobgickffaaGreatDoor
namespace Go.Proofs.YtpbejobgickffaaGreatDoor
open Go.RowKit
/-- none of a tenant's rows is of this type -/
def offT (T:TypeId):Prop:=77≠T∧9≠T∧80≠T∧64≠T∧42≠T∧116≠T∧101≠T∧118≠T
theorem offT_ten:offT 27:=by unfold offT;decide
section
variable {w w':World} {base g:Nat} {cs:Array Value} {T:TypeId}
theorem SnapO.keptT {x:SnapR} (h:SnapO w base x) (hg:w.grownBy w' (some g)) (hb:Blk w g T cs) (hT:offT T):SnapO w' base x :=
 ⟨h.body.keptT hg hb hT.1,h.tags.keptT hg hb hT.2.1,h.own.keptT hg hb hT.2.2.1⟩
theorem SetO.keptT {x:SetR} (h:SetO w base x) (hg:w.grownBy w' (some g)) (hb:Blk w g T cs) (hT:offT T):SetO w' base x :=
 ⟨h.body.keptT hg hb hT.1,h.snaps.keptT hg hb hT.2.2.2.1,fun y hy=>(h.each y hy).keptT hg hb hT,h.own.keptT hg hb hT.2.2.1⟩
theorem StageO.keptT {x:StageR} (h:StageO w base x) (hg:w.grownBy w' (some g)) (hb:Blk w g T cs) (hT:offT T):StageO w' base x :=
 ⟨h.own.keptT hg hb hT.2.2.1,h.body.keptT hg hb hT.1⟩
theorem TenO.keptT {t:TenR} (h:TenO w base t) (hg:w.grownBy w' (some g)) (hb:Blk w g T cs) (hT:offT T):TenO w' base t :=
 ⟨h.sets.keptT hg hb hT.2.2.2.2.1,fun y hy=>(h.eachS y hy).keptT hg hb hT,h.grants.keptT hg hb hT.2.2.2.2.2.1,h.stages.keptT hg hb hT.2.2.2.2.2.2.1,fun y hy=>(h.eachG y hy).keptT hg hb hT,h.log.keptT hg hb hT.2.2.2.2.2.2.2⟩
end
end Go.Proofs.YtpbejobgickffaaGreatDoor
namespace Go.Proofs.YtpbejobgickffaaGreatDoor
open Go.RowKit
set_option maxRecDepth 100000 in
set_option maxHeartbeats 1000000 in
theorem indexF_any (l:List Bool) (x:Bool) (n:Nat) (hnl:n=l.length) (A:Option Addr) (c:Nat) (w:World) (B:Nat) (hr:Reads w B 1 A n (cellsK (fun b:Bool=>[Value.bool b]) l)) (hn:n≤5000000000000) :
  Calls Tryz.prog 161 #[.slice A n c,.bool x] w fun e w'=>e=.returned (.int .i64 (firstI (fun y=>y == x) l))∧w'=w:=by
 have HN:=Lib.hid hnl
 clear hnl
 go_enter Tryz.func161,Tryz.ntmps161
 go_wp2_with fail
 go_loopw [8] (fun j wr=>∃ k:Nat,k≤n∧j=.int .i64 (k:Int)∧Hid (∀ y∈l.take k,(y == x)=false)∧wr=w) (fun j _=>n-(intOf j).toNat)
 case atStart=>exact ⟨0,Nat.zero_le _,rfl,(show ∀ y∈_,_ by simp),rfl⟩
 case round =>
  obtain ⟨k,hk,rfl,hno,hww⟩:=hrel
  have hww:=hww.symm
  subst hww
  by_cases hlt:k<n
  ·have hki:(k:Int)<(n:Int):=by omega
   have hkl:k<l.length:=by have:=HN.out;omega
   obtain ⟨ad,rfl,_,hel⟩:=Reads.elAll (enc:=fun b:Bool=>[Value.bool b]) (k:=1) (fun _=>rfl) hr HN.out hlt
   have hcell:=hel 0 _ rfl
   rw [Nat.mul_one] at hcell
   have hcell:w.cell? (ad.add k)=some (.bool (l[k]'hkl)):=hcell
   clear hel
   obtain ⟨y,hy⟩:∃ y,y=l[k]'hkl:=⟨_,rfl⟩
   rw [← hy] at hcell
   have htk:=List.take_succ_eq_append_getElem hkl
   rw [← hy] at htk
   have HTK:=Lib.hid htk
   have HX:=Lib.hid (show l[k]?=some y by rw [hy];exact List.getElem?_eq_getElem _)
   clear hy htk hr
   by_cases hxy:x=y
   ·subst hxy
    go_wp2_with fail
    go_ret
    have hf:=firstP_eq (fun y=>y == x) l k x hno.out HX.out (by simp)
    exact ⟨by unfold firstI;rw [hf,if_pos hkl];rfl,rfl⟩
   ·have hd:(x == y)=false:=by simpa using hxy
    have HD:Hid ((y == x)=false):=by show _=_;simpa using fun e=>hxy e.symm
    clear hxy
    go_wp2_with fail
    go_roundw
    case rel =>
     refine ⟨k+1,by omega,by go_num,?_,trivial⟩
     show ∀ z∈l.take (k+1),(z == x)=false
     intro z hz
     rw [HTK.out] at hz
     rcases List.mem_append.1 hz with hz | hz
     ·exact hno.out z hz
     ·simp at hz;subst hz;exact HD.out
    case measure=>simp [intOf];omega
  ·have hkn:k=n:=by omega
   have HF:Hid (firstI (fun y=>y == x) l=-1):=by
    show _=_
    unfold firstI
    rw [firstP_none _ l (fun y hy=>hno.out y (by rw [List.take_of_length_le (by rw [hkn,HN.out];exact Nat.le_refl _)];exact hy)),if_neg (Nat.lt_irrefl _)]
   clear hr hkn
   go_wp2_with fail
   go_ret
   exact ⟨by rw [HF.out];rfl,rfl⟩
theorem any_containsB (l:List Bool) (x:Bool):l.any (fun y=>y == x)=l.contains x:=by
 rw [Bool.eq_iff_iff,List.any_eq_true,List.contains_iff_mem]
 exact ⟨fun ⟨y,hy,e⟩=>by rw [← (by simpa using e:y=x)];exact hy,fun h=>⟨x,h,by simp⟩⟩
set_option maxRecDepth 100000 in
theorem containsF_any (l:List Bool) (x:Bool) (n:Nat) (hnl:n=l.length) (A:Option Addr) (c:Nat) (w:World) (B:Nat) (hr:Reads w B 1 A n (cellsK (fun b:Bool=>[Value.bool b]) l)) (hn:n≤5000000000000) :
  Calls Tryz.prog 102 #[.slice A n c,.bool x] w fun e w'=>e=.returned (.bool (l.contains x))∧w'=w:=by
 have hc:=Lib.hid (indexF_any l x n hnl A c w B hr hn)
 have HA:=Lib.hid ((firstI_any (fun y=>y == x) l).trans (any_containsB l x))
 clear hnl hr
 go_enter Tryz.func102,Tryz.ntmps102
 go_wp2_with fail
 refine hc.out.mono ?_
 rintro e w1 ⟨rfl,rfl⟩
 go_wp2_with fail
 go_ret
 exact ⟨by rw [← HA.out];rfl,rfl⟩
/-- what is asked of a set and a snapshot: places and an error -/
def askI (t:TenR) (p n:BS) (bad:Bool):Int×Int×Int :=
 if tenE t=9 then (0,0,9) else if pathB p=false∨nameB n=false∨bad=true then (0,0,31) else
  match t.sets.l.find? (fun s=>s.path == p) with
  | none=>(0,0,71)
  | some s=>(findS t.sets.l p,findN s.snaps.l n,0)
def askV (x:Int×Int×Int):Value:=.tuple #[.int .i64 x.1,.int .i64 x.2.1,.int .i64 x.2.2]
set_option maxRecDepth 100000 in
set_option maxHeartbeats 4000000 in
theorem asked_any (t:TenR) (p n:BS) (ms:List Bool) (mA:Option Addr) (mn mc:Nat) (w:World) (B:Nat) (hB:B≤w.heap.size) (hr:t.rd w B) (hz:t.sz) (hp:p.length≤4000000000) (hmx:HasMax w) (hmn:mn=ms.length) (hm5:mn≤5) (hms:Reads w B 1 mA mn (cellsK (fun b:Bool=>[Value.bool b]) ms)) :
  Calls Tryz.prog 45 #[t.val,.string ⟨p.toArray⟩,.string ⟨n.toArray⟩,.slice mA mn mc] w fun e w'=>e=.returned (askV (askI t p n (ms.contains false)))∧Below w.heap.size w w':=by
 have h2:=tenE_09 t
 obtain ⟨nm,qu,nx,⟨s1,sn,s3,sl⟩,⟨g1,gn,g3,gl⟩,⟨t1,tn,t3,tl⟩,⟨l1,ln,l3,ll⟩⟩:=t
 show Calls Tryz.prog 45 #[.agg #[.string ⟨nm.toArray⟩,.int .i64 qu,.int .i64 nx,.slice s1 sn s3,.slice g1 gn g3,.slice t1 tn t3,.slice l1 ln l3],.string ⟨p.toArray⟩,.string ⟨n.toArray⟩,.slice mA mn mc] w _
 have hb1:=(Below.refl w.heap.size w).alloc (Nat.le_refl _) (.cells #[.string ⟨nm.toArray⟩,.int .i64 qu,.int .i64 nx,.slice s1 sn s3,.slice g1 gn g3,.slice t1 tn t3,.slice l1 ln l3] 27)
 have kT:=Blk.new w 27 #[.string ⟨nm.toArray⟩,.int .i64 qu,.int .i64 nx,.slice s1 sn s3,.slice g1 gn g3,.slice t1 tn t3,.slice l1 ln l3]
 obtain ⟨W1,hW1⟩:∃ W,W=w.alloc (.cells #[.string ⟨nm.toArray⟩,.int .i64 qu,.int .i64 nx,.slice s1 sn s3,.slice g1 gn g3,.slice t1 tn t3,.slice l1 ln l3] 27):=⟨_,rfl⟩
 have hsz1:W1.heap.size=w.heap.size+1:=by rw [hW1];simp
 rw [← hW1] at hb1 kT
 have hT:=Lib.hid (fun (W':World) (hB':Below W1.heap.size W1 W')=>(⟨(kT.below hB' (by omega)).cell 0,(kT.below hB' (by omega)).cell 1,(kT.below hB' (by omega)).cell 2,(kT.below hB' (by omega)).cell 3,(kT.below hB' (by omega)).cell 4,(kT.below hB' (by omega)).cell 5,(kT.below hB' (by omega)).cell 6⟩:W'.cell? ⟨w.heap.size,0,none⟩=some (.string ⟨nm.toArray⟩)∧W'.cell? ⟨w.heap.size,1,none⟩=some (.int .i64 qu)∧W'.cell? ⟨w.heap.size,2,none⟩=some (.int .i64 nx)∧W'.cell? ⟨w.heap.size,3,none⟩=some (.slice s1 sn s3)∧W'.cell? ⟨w.heap.size,4,none⟩=some (.slice g1 gn g3)∧W'.cell? ⟨w.heap.size,5,none⟩=some (.slice t1 tn t3)∧W'.cell? ⟨w.heap.size,6,none⟩=some (.slice l1 ln l3)))
 have hrw:Hid (∀ W,Below W1.heap.size W1 W→TenR.rd W B ⟨nm,qu,nx,⟨s1,sn,s3,sl⟩,⟨g1,gn,g3,gl⟩,⟨t1,tn,t3,tl⟩,⟨l1,ln,l3,ll⟩⟩∧w.heap.size<W.heap.size∧HasMax W∧Below w.heap.size w W):=by
  show ∀ W,_→_
  intro W h
  have h1:=hb1.trans (h.mono (by omega))
  exact ⟨TenR.rd.below hr (h1.mono hB),by have:=h.size;omega,hmx.below h1,h1⟩
 have HZ:=Lib.hid hz
 have HSN:=Lib.hid (show sn=sl.length from hr.sets.1)
 have hTC:Hid (∀ W,Below W1.heap.size W1 W→Calls Tryz.prog 73 #[.agg #[.string ⟨nm.toArray⟩,.int .i64 qu,.int .i64 nx,.slice s1 sn s3,.slice g1 gn g3,.slice t1 tn t3,.slice l1 ln l3]] W fun e w'=>e=.returned (.int .i64 (tenE ⟨nm,qu,nx,⟨s1,sn,s3,sl⟩,⟨g1,gn,g3,gl⟩,⟨t1,tn,t3,tl⟩,⟨l1,ln,l3,ll⟩⟩))∧Below W.heap.size W w'):=fun W hb =>
  tcheck_any ⟨nm,qu,nx,⟨s1,sn,s3,sl⟩,⟨g1,gn,g3,gl⟩,⟨t1,tn,t3,tl⟩,⟨l1,ln,l3,ll⟩⟩ W B (hrw.out W hb).1 (by have:=(hrw.out W hb).2.1;omega) hz (hrw.out W hb).2.2.1
 have hPA:Hid (∀ W,Below W1.heap.size W1 W→Calls Tryz.prog 80 #[.string ⟨p.toArray⟩] W fun e w'=>e=.returned (.bool (pathB p))∧Below W.heap.size W w'):=fun W hb=>path_any ⟨p.toArray⟩ W (by simpa [ByteArray.size] using hp) (hrw.out W hb).2.2.1
 have hNA:Hid (∀ W,Calls Tryz.prog 84 #[.string ⟨n.toArray⟩] W fun e w'=>e=.returned (.bool (nameB n))∧Below W.heap.size W w'):=fun W=>name_any ⟨n.toArray⟩ W
 have hCN:Hid (∀ W,Below W1.heap.size W1 W→Calls Tryz.prog 102 #[.slice mA mn mc,.bool false] W fun e w'=>e=.returned (.bool (ms.contains false))∧w'=W):=fun W hb=>containsF_any ms false mn hmn mA mc W B (hms.below ((hrw.out W hb).2.2.2.mono hB)) (by omega)
 have hFD:Hid (∀ W,Below W1.heap.size W1 W→Calls Tryz.prog 60 #[.agg #[.string ⟨nm.toArray⟩,.int .i64 qu,.int .i64 nx,.slice s1 sn s3,.slice g1 gn g3,.slice t1 tn t3,.slice l1 ln l3],.string ⟨p.toArray⟩] W fun e w'=>e=.returned (.int .i64 (findS sl p))∧Below W.heap.size W w'):=fun W hb =>
  find_any _ _ _ _ _ _ sl sn HSN.out s1 s3 p W B (hrw.out W hb).1.sets.2.2 (by have:=(hrw.out W hb).2.1;omega) (by have:=hz.sets;simp only at this;omega)
 obtain ⟨E,hE⟩:∃ E,E=tenE ⟨nm,qu,nx,⟨s1,sn,s3,sl⟩,⟨g1,gn,g3,gl⟩,⟨t1,tn,t3,tl⟩,⟨l1,ln,l3,ll⟩⟩:=⟨_,rfl⟩
 rw [← hE] at h2 hTC
 have HE:=Lib.hid hE
 obtain ⟨bad,hbad⟩:∃ b,b=ms.contains false:=⟨_,rfl⟩
 rw [← hbad] at hCN ⊢
 obtain ⟨bp,hbp⟩:∃ b,b=pathB p:=⟨_,rfl⟩
 rw [← hbp] at hPA
 obtain ⟨bn,hbn⟩:∃ b,b=nameB n:=⟨_,rfl⟩
 rw [← hbn] at hNA
 have HBP:=Lib.hid hbp
 have HBN:=Lib.hid hbn
 have HB1:=Lib.hid hb1
 have HSZ1:=Lib.hid hsz1
 have hc:=hTC.out W1 (Below.refl _ _)
 obtain ⟨c0,c1,c2,c3,c4,c5,c6⟩:=hT.out _ (Below.refl _ _)
 clear hb1 kT hr hz hsz1 hmx hTC hE hbad hbp hbn hms hmn
 go_enter Tryz.func45,Tryz.ntmps45
 go_wp2_with fail
 rw [← hW1]
 clear hW1
 refine hc.mono ?_
 clear hc c0 c1 c2 c3 c4 c5 c6
 rintro e w2 ⟨rfl,hb2⟩
 have HW2:=Lib.hid hb2
 clear hb2
 rcases h2 with rfl | rfl
 ·have hc:=hPA.out w2 HW2.out
  clear hPA
  go_wp2_with fail
  refine hc.mono ?_
  clear hc
  rintro e w3 ⟨rfl,hb3⟩
  have HW3:=Lib.hid (HW2.out.trans (hb3.mono HW2.out.size))
  clear hb3 HW2
  cases bp with
  | false =>
   go_wp2_with fail
   refine bodyPost_ret (v:=.tuple #[.int .i64 0,.int .i64 0,.int .i64 31]) (by simp [results,Tryz.results45,go_sem]) rfl ⟨?_,HB1.out.trans (HW3.out.mono (by have:=HSZ1.out;omega))⟩
   unfold askI
   rw [if_neg (by rw [← HE.out];decide),if_pos (.inl HBP.out.symm)]
   rfl
  | true =>
   have hc:=hNA.out w3
   clear hNA
   go_wp2_with fail
   refine hc.mono ?_
   clear hc
   rintro e w4 ⟨rfl,hb4⟩
   have HW4:=Lib.hid (HW3.out.trans (hb4.mono HW3.out.size))
   clear hb4 HW3
   cases bn with
   | false =>
    go_wp2_with fail
    refine bodyPost_ret (v:=.tuple #[.int .i64 0,.int .i64 0,.int .i64 31]) (by simp [results,Tryz.results45,go_sem]) rfl ⟨?_,HB1.out.trans (HW4.out.mono (by have:=HSZ1.out;omega))⟩
    unfold askI
    rw [if_neg (by rw [← HE.out];decide),if_pos (.inr (.inl HBN.out.symm))]
    rfl
   | true =>
    have hc:=hCN.out w4 HW4.out
    clear hCN
    go_wp2_with fail
    refine hc.mono ?_
    clear hc
    rintro e w4' ⟨rfl,hw⟩
    rw [hw]
    clear hw w4'
    cases bad with
    | true =>
     go_wp2_with fail
     refine bodyPost_ret (v:=.tuple #[.int .i64 0,.int .i64 0,.int .i64 31]) (by simp [results,Tryz.results45,go_sem]) rfl ⟨?_,HB1.out.trans (HW4.out.mono (by have:=HSZ1.out;omega))⟩
     unfold askI
     rw [if_neg (by rw [← HE.out];decide),if_pos (.inr (.inr rfl))]
     rfl
    | false =>
     have hnb:¬ (pathB p=false∨nameB n=false∨false=true):=by rw [← HBP.out,← HBN.out];simp
     have HNB:=Lib.hid hnb
     have hc:=hFD.out w4 HW4.out
     obtain ⟨c0,c1,c2,c3,c4,c5,c6⟩:=hT.out _ HW4.out
     clear hFD hnb
     go_wp2_with fail
     refine hc.mono ?_
     clear hc c0 c1 c2 c3 c4 c5 c6
     rintro e w5 ⟨rfl,hb5⟩
     have HW5:=Lib.hid (HW4.out.trans (hb5.mono HW4.out.size))
     clear hb5 HW4
     rcases firstI_cases (fun s:SetR=>s.path == p) sl with ⟨h1,h2⟩ | ⟨k,hkl,h1,h2⟩
     ·have h1:findS sl p=-1:=h1
      rw [h1]
      go_wp2_with fail
      refine bodyPost_ret (v:=.tuple #[.int .i64 0,.int .i64 0,.int .i64 71]) (by simp [results,Tryz.results45,go_sem]) rfl ⟨?_,HB1.out.trans (HW5.out.mono (by have:=HSZ1.out;omega))⟩
      unfold askI
      rw [if_neg (by rw [← HE.out];decide),if_neg HNB.out]
      simp only [h2]
      rfl
     ·have h1:findS sl p=(k:Int):=h1
      rw [h1]
      have hk0:¬ (k:Int)<0:=by omega
      have hk00:(0:Int)≤(k:Int):=by omega
      have hks:k<sn:=by have:=HSN.out;omega
      have hki:(k:Int)<(sn:Int):=by omega
      obtain ⟨ad,hsa,-,q0,q1,q2,q3,q4⟩:=set_at (hrw.out w5 HW5.out).1.sets.2.2 HSN.out hks
      simp only at hsa
      subst hsa
      have hx:=(hrw.out w5 HW5.out).1.eachS _ (List.getElem_mem hkl)
      have hzx:=HZ.out.eachS _ (List.getElem_mem hkl)
      have HV:Hid (askI ⟨nm,qu,nx,⟨some ad,sn,s3,sl⟩,⟨g1,gn,g3,gl⟩,⟨t1,tn,t3,tl⟩,⟨l1,ln,l3,ll⟩⟩ p n false=((k:Int),findN (sl[k]'hkl).snaps.l n,0)):=by
       show _=_
       unfold askI
       rw [if_neg (by rw [← HE.out];decide),if_neg HNB.out]
       simp only [h2,h1]
      obtain ⟨x,hxx⟩:∃ x,x=sl[k]'hkl:=⟨_,rfl⟩
      rw [← hxx] at q0 q1 q2 q3 q4 hx hzx HV
      clear hxx h1 h2
      have hc:=snapAt_any (.string ⟨x.path.toArray⟩) (.string ⟨x.org.toArray⟩) (.slice x.body.A x.body.n x.body.c) (.slice x.own.A x.own.n x.own.c) x.snaps.l x.snaps.n hx.snaps.1 x.snaps.A x.snaps.c n w5 B hx.snaps.2.2 (by have:=(hrw.out w5 HW5.out).2.1;omega) (by have:=hzx.snaps;omega)
      obtain ⟨pa,og,⟨bA,bnn,bc,bl⟩,⟨zA,zn,zc,zl⟩,⟨oA,on,oc,ol⟩⟩:=x
      simp only at q0 q1 q2 q3 q4 hc HV
      obtain ⟨c0,c1,c2,c3,c4,c5,c6⟩:=hT.out _ HW5.out
      clear hx hzx hrw
      go_wp2_with fail
      refine hc.mono ?_
      clear hc c0 c1 c2 c3 c4 c5 c6 q0 q1 q2 q3 q4
      rintro e w6 ⟨rfl,hb6⟩
      go_wp2_with fail
      refine bodyPost_ret (v:=.tuple #[.int .i64 (k:Int),.int .i64 (findN zl n),.int .i64 0]) (by simp [results,Tryz.results45,go_sem]) rfl ⟨?_,HB1.out.trans ((HW5.out.trans (hb6.mono HW5.out.size)).mono (by have:=HSZ1.out;omega))⟩
      rw [HV.out]
      rfl
 ·go_wp2_with fail
  refine bodyPost_ret (v:=.tuple #[.int .i64 0,.int .i64 0,.int .i64 9]) (by simp [results,Tryz.results45,go_sem]) rfl ⟨?_,HB1.out.trans (HW2.out.mono (by have:=HSZ1.out;omega))⟩
  unfold askI
  rw [if_pos HE.out.symm]
  rfl
end Go.Proofs.YtpbejobgickffaaGreatDoor
namespace Go.Proofs.YtpbejobgickffaaGreatDoor
open Go.RowKit
theorem posF_map {α β:Type} (f:α→β) (cf:β→Int) (l:List α):posF cf (l.map f)=posF (fun x=>cf (f x)) l:=by
 unfold posF
 rw [List.takeWhile_map,List.length_map]
 rfl
/-- the content with a set more, in its place -/
def TenC.withS (c:TenC) (s:SetC):TenC:=⟨c.nm,c.quota,c.next,c.sets.take (posF (fun x:SetC=>cmpS x.path s.path) c.sets)++[s]++c.sets.drop (posF (fun x:SetC=>cmpS x.path s.path) c.sets),c.grants,c.stages,c.log⟩
theorem asc_eqv (l l':List SetR) (p:BS) (h:l.map (·.path)=l'.map (·.path)) (ha:SignAsc (fun x:SetR=>cmpS x.path p) l):SignAsc (fun x:SetR=>cmpS x.path p) l':=by
 have hp:∀ (i:Nat) (x:SetR),l'[i]?=some x→∃ y,l[i]?=some y∧y.path=x.path:=by
  intro i x hx
  have h1:=congrArg (fun m:List BS=>m[i]?) h
  simp only [List.getElem?_map,hx,Option.map_some] at h1
  cases hl:l[i]? with
  | none=>rw [hl] at h1;cases h1
  | some y=>rw [hl] at h1;exact ⟨y,rfl,by simpa using h1⟩
 intro i j a b hij hai hbj hlt
 obtain ⟨a',ha',e1⟩:=hp i a hai
 obtain ⟨b',hb',e2⟩:=hp j b hbj
 have:=ha i j a' b' hij ha' hb' (by simp only [e2];exact hlt)
 simp only [e1] at this
 exact this
theorem con_withS (y:TenR) (s:SetR) (A:Option Addr) (n c:Nat):TenR.con ⟨y.nm,y.quota,y.next,⟨A,n,c,y.sets.l.take (posF (fun x:SetR=>cmpS x.path s.path) y.sets.l)++[s]++y.sets.l.drop (posF (fun x:SetR=>cmpS x.path s.path) y.sets.l)⟩,y.grants,y.stages,y.log⟩=y.con.withS s.con:=by
 show TenC.mk _ _ _ _ _ _ _=TenC.mk _ _ _ _ _ _ _
 have e:posF (fun x:SetC=>cmpS x.path s.con.path) y.con.sets=posF (fun x:SetR=>cmpS x.path s.path) y.sets.l:=posF_map SetR.con (fun x:SetC=>cmpS x.path s.path) y.sets.l
 rw [e]
 simp only [List.map_append,List.map_take,List.map_drop,List.map_cons,List.map_nil]
 rfl
end Go.Proofs.YtpbejobgickffaaGreatDoor
namespace Go.Proofs.YtpbejobgickffaaGreatDoor
open Go.RowKit
/-! ### sizes, by content -/
structure SnapC.sz (x:SnapC):Prop where
 nm:x.nm.length≤4000000000
 body:x.body.length≤1000000000000
 tags:x.tags.length≤1000000000000
 each:∀ t∈x.tags,t.length≤4000000000
 own:x.own.length≤1000000000000
 props:∀ p∈x.own,p.1.length≤4000000000∧p.2.length≤4000000000
structure SetC.sz (x:SetC):Prop where
 path:x.path.length≤4000000000
 org:x.org.length≤4000000000
 body:x.body.length≤1000000000000
 snaps:x.snaps.length≤1000000000000
 each:∀ y∈x.snaps,y.sz
 own:x.own.length≤1000000000000
 props:∀ p∈x.own,p.1.length≤4000000000∧p.2.length≤4000000000
structure StageC.sz (x:StageC):Prop where
 into:x.into.length≤4000000000
 nm:x.nm.length≤4000000000
 dt:x.dt.length≤4000000000
 own:x.own.length≤1000000000000
 props:∀ p∈x.own,p.1.length≤4000000000∧p.2.length≤4000000000
 body:x.body.length≤1000000000000
structure TenC.sz (t:TenC):Prop where
 nm:t.nm.length≤4000000000
 sets:t.sets.length≤1000000000000
 eachS:∀ y∈t.sets,y.sz
 grants:t.grants.length≤1000000000000
 eachG:∀ g∈t.grants,g.1.length≤4000000000∧g.2.1.length≤4000000000
 stages:t.stages.length≤1000000000000
 eachT:∀ y∈t.stages,y.sz
 log:t.log.length≤1000000000000
 eachL:∀ y∈t.log,y.sz
section
variable {w:World} {B:Nat}
theorem SnapR.sz_of {x:SnapR} (h:x.rd w B) (hc:x.con.sz):x.sz:=⟨hc.nm,by rw [h.body.1];exact hc.body,by rw [h.tags.1];exact hc.tags,hc.each,by rw [h.own.1];exact hc.own,hc.props⟩
theorem SnapC.sz_of {x:SnapR} (h:x.rd w B) (hc:x.sz):x.con.sz:=⟨hc.nm,by have:=hc.body;rw [h.body.1] at this;exact this,by have:=hc.tags;rw [h.tags.1] at this;exact this,hc.each,by have:=hc.own;rw [h.own.1] at this;exact this,hc.props⟩
theorem SetR.sz_of {x:SetR} (h:x.rd w B) (hc:x.con.sz):x.sz :=
 ⟨hc.path,hc.org,by rw [h.body.1];exact hc.body,by rw [h.snaps.1];have:=hc.snaps;rwa [show x.con.snaps.length=x.snaps.l.length from List.length_map ..] at this,fun y hy=>SnapR.sz_of (h.each y hy) (hc.each _ (List.mem_map_of_mem hy)),by rw [h.own.1];exact hc.own,hc.props⟩
theorem SetC.sz_of {x:SetR} (h:x.rd w B) (hc:x.sz):x.con.sz:=by
 refine ⟨hc.path,hc.org,by have:=hc.body;rw [h.body.1] at this;exact this,?_,fun y hy=>?_,by have:=hc.own;rw [h.own.1] at this;exact this,hc.props⟩
 ·have:=hc.snaps
  rw [h.snaps.1] at this
  rwa [show x.con.snaps.length=x.snaps.l.length from List.length_map ..]
 ·obtain ⟨z,hz,rfl⟩:=List.mem_map.1 hy
  exact SnapC.sz_of (h.each z hz) (hc.each z hz)
theorem StageR.sz_of {x:StageR} (h:x.rd w B) (hc:x.con.sz):x.sz:=⟨hc.into,hc.nm,hc.dt,by rw [h.own.1];exact hc.own,hc.props,by rw [h.body.1];exact hc.body⟩
theorem StageC.sz_of {x:StageR} (h:x.rd w B) (hc:x.sz):x.con.sz:=⟨hc.into,hc.nm,hc.dt,by have:=hc.own;rw [h.own.1] at this;exact this,hc.props,by have:=hc.body;rw [h.body.1] at this;exact this⟩
theorem TenR.sz_of {t:TenR} (h:t.rd w B) (hc:t.con.sz):t.sz :=
 ⟨hc.nm,by rw [h.sets.1];have:=hc.sets;rwa [show t.con.sets.length=t.sets.l.length from List.length_map ..] at this,fun y hy=>SetR.sz_of (h.eachS y hy) (hc.eachS _ (List.mem_map_of_mem hy)),by rw [h.grants.1];exact hc.grants,hc.eachG,by rw [h.stages.1];have:=hc.stages;rwa [show t.con.stages.length=t.stages.l.length from List.length_map ..] at this,fun y hy=>StageR.sz_of (h.eachG y hy) (hc.eachT _ (List.mem_map_of_mem hy)),by rw [h.log.1];exact hc.log,hc.eachL⟩
theorem TenC.sz_of {t:TenR} (h:t.rd w B) (hc:t.sz):t.con.sz:=by
 refine ⟨hc.nm,?_,fun y hy=>?_,by have:=hc.grants;rw [h.grants.1] at this;exact this,hc.eachG,?_,fun y hy=>?_,by have:=hc.log;rw [h.log.1] at this;exact this,hc.eachL⟩
 ·have:=hc.sets
  rw [h.sets.1] at this
  rwa [show t.con.sets.length=t.sets.l.length from List.length_map ..]
 ·obtain ⟨z,hz,rfl⟩:=List.mem_map.1 hy
  exact SetC.sz_of (h.eachS z hz) (hc.eachS z hz)
 ·have:=hc.stages
  rw [h.stages.1] at this
  rwa [show t.con.stages.length=t.stages.l.length from List.length_map ..]
 ·obtain ⟨z,hz,rfl⟩:=List.mem_map.1 hy
  exact StageC.sz_of (h.eachG z hz) (hc.eachT z hz)
end
theorem TenC.sz.withS {c:TenC} {s:SetC} (h:c.sz) (hs:s.sz) (hl:c.sets.length≤100000000000):(c.withS s).sz:=by
 refine ⟨h.nm,?_,fun y hy=>?_,h.grants,h.eachG,h.stages,h.eachT,h.log,h.eachL⟩
 ·unfold TenC.withS
  simp only [List.length_append,List.length_take,List.length_drop,List.length_cons,List.length_nil]
  omega
 ·have hy:y∈c.sets.take _++[s]++c.sets.drop _:=hy
  simp only [List.mem_append,List.mem_cons,List.not_mem_nil,or_false] at hy
  rcases hy with (hy | rfl) | hy
  ·exact h.eachS y (List.mem_of_mem_take hy)
  ·exact hs
  ·exact h.eachS y (List.mem_of_mem_drop hy)
theorem TenC.sz.putS {c:TenC} {i:Nat} {s:SetC} (h:c.sz) (hs:s.sz):(c.putS i s).sz:=by
 refine ⟨h.nm,?_,fun y hy=>?_,h.grants,h.eachG,h.stages,h.eachT,h.log,h.eachL⟩
 ·show (c.sets.set i s).length≤_
  rw [List.length_set]
  exact h.sets
 ·rcases List.mem_or_eq_of_mem_set (show y∈c.sets.set i s from hy) with hy | rfl
  ·exact h.eachS y hy
  ·exact hs
def set0C (p:BS):SetC:=⟨p,[],[],[],[]⟩
theorem set0C_sz (p:BS) (hp:p.length≤4000000000):(set0C p).sz:=⟨hp,by simp [set0C],by simp [set0C],by simp [set0C],by simp [set0C],by simp [set0C],by simp [set0C]⟩
/-- a box of results: the cells stored, and loaded again -/
theorem res7 {zs:List Value} (cs:List Value) {W w:World} {g:Nat} (hk:Blk W g 27 zs.toArray) (hb:Below w.heap.size w W) (hg:w.heap.size≤g) (hz:zs.length=7:=by rfl) (hc:cs.length=7:=by rfl) :
  ∃ WR,WR=W.setCells g 0 cs.toArray.toList∧Hid (W.there g 0 7)∧Hid ((loadVar 27 ⟨g,0,none⟩).run Tryz.prog WR=.ok (.agg cs.toArray) WR)∧Hid (Below w.heap.size w WR)∧W.grownBy WR (some g):=by
 have k4:=Blk.setCells (g:=g) cs W [] zs (by rw [hz,hc]) hk
 simp only [List.length_nil,List.nil_append] at k4
 refine ⟨_,rfl,hk.there 7 (by simp [hz]),?_,below_setCells hg cs W 0 hb,grown_cellsS g cs W 0⟩
 exact run_loadVar_at _ ⟨g,0,none⟩ 27 cs _ (fun j v hv=>by rw [addr_add0,k4.cell j,zF];exact hv) Tryz.underlying27 rfl (by rw [hc];kernel_rfl)
/-! ### what is told -/
/-- a tenant and an error: the error's tenant is the zero one; else it lies in memory of its own -/
def TenPost (w:World) (c:Int×TenC) (e:Ending) (w':World):Prop:=∃ v,e=.returned (.tuple #[v,.int .i64 c.1])∧Below w.heap.size w w' ∧
 ((c.1≠0∧v=ZEROT)∨(c.1=0∧∃ y:TenR,v=y.val∧TenO w' w.heap.size y∧y.con=c.2))
theorem tenPost_err {w w':World} {c:Int×TenC} {E:Int} {c':TenC} (hc:c=(E,c')) (hE:E≠0) (hb:Below w.heap.size w w'):TenPost w c (.returned (.tuple #[ZEROT,.int .i64 E])) w':=by
 subst hc
 exact ⟨_,rfl,hb,.inl ⟨hE,rfl⟩⟩
theorem tenPost_ok {w w':World} {c:Int×TenC} {c':TenC} (hc:c=(0,c')) (hb:Below w.heap.size w w') (y:TenR) (ho:TenO w' w.heap.size y) (hy:y.con=c'):TenPost w c (.returned (.tuple #[y.val,.int .i64 0])) w':=by
 subst hc
 exact ⟨_,rfl,hb,.inr ⟨rfl,y,rfl,ho,hy⟩⟩
def TenC.find (c:TenC) (p:BS):Int:=firstI (fun s:SetC=>s.path == p) c.sets
theorem findS_con (t:TenR) (p:BS):findS t.sets.l p=t.con.find p:=by
 unfold findS TenC.find
 exact (firstI_map SetR.con (fun s:SetC=>s.path == p) t.sets.l).symm
/-- what is settled -/
def TenC.settle (c:TenC):Int×TenC:=if c.E=9 then (9,c) else if c.quota<(c.charge:Int) then (42,c) else (0,c)
theorem settleT_any (t:TenR) (w:World) (B:Nat) (hB:B≤w.heap.size) (hr:t.rd w B) (hz:t.sz) (hmx:HasMax w) :
  Calls Tryz.prog 22 #[t.val] w (TenPost w t.con.settle):=by
 refine (settle_any t w B hB hr hz hmx).mono ?_
 rintro e w' ⟨v,E,rfl,hb,h⟩
 rw [tenE_con,tenSum_con t w B hr] at h
 unfold TenPost TenC.settle
 rcases h with ⟨h1,h2,h3⟩ | ⟨h1,h2,h3,h4⟩ | ⟨h1,h2,h3,y,h4,h5,h6⟩
 ·rw [if_pos h1]
  exact ⟨v,by rw [h2],hb,.inl ⟨(by decide:(9:Int)≠0),h3⟩⟩
 ·rw [if_neg (by rw [h1];decide),if_pos (show t.con.quota<_ from h2)]
  exact ⟨v,by rw [h3],hb,.inl ⟨(by decide:(42:Int)≠0),h4⟩⟩
 ·rw [if_neg (by rw [h1];decide),if_neg (show ¬ t.con.quota<_ from by show ¬ t.quota<_;omega)]
  exact ⟨v,by rw [h3],hb,.inr ⟨rfl,y,h4,h5,((TenR.eqv_iff _ _).1 h6).symm⟩⟩
/-! ### what stands under a set, its clones, what is held -/
/-- what is told, in one form: a tenant (the zero one beside an error) -/
theorem TenPost.one {w w':World} {c:Int×TenC} {e:Ending} (h:TenPost w c e w'):∃ y:TenR,e=.returned (.tuple #[y.val,.int .i64 c.1])∧Below w.heap.size w w'∧(c.1=0→TenO w' w.heap.size y∧y.con=c.2):=by
 obtain ⟨v,rfl,hb,h⟩:=h
 rcases h with ⟨h1,rfl⟩ | ⟨h1,y,rfl,h2,h3⟩
 ·exact ⟨⟨[],0,0,⟨none,0,0,[]⟩,⟨none,0,0,[]⟩,⟨none,0,0,[]⟩,⟨none,0,0,[]⟩⟩,rfl,hb,fun h=>absurd h h1⟩
 ·exact ⟨y,rfl,hb,fun _=>⟨h2,h3⟩⟩
theorem settle_ok (c c2:TenC) (h:(0,c2)=c.settle):c2=c∧c.E=0∧(c.charge:Int)≤c.quota:=by
 unfold TenC.settle at h
 by_cases h5:c.E=9
 ·rw [if_pos h5] at h
  injection h with h _
  cases h
 rw [if_neg h5] at h
 split at h
 ·injection h with h _
  cases h
 ·injection h with _ h
  refine ⟨h,?_,by omega⟩
  rcases c.E_two with h6 | h6
  ·exact h6
  ·exact absurd h6 h5
end Go.Proofs.YtpbejobgickffaaGreatDoor
