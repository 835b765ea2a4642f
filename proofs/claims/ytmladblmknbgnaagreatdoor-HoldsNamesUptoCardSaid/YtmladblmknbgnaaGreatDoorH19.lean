/-
  shape.Settle: a changed tenant, if it may be and if it fits. What a tenant's content tells: whether it may be, and what it is charged for. A tenant of one's own of which the snapshots of one set are changed, when no two sets have one row of snapshots. What is done to a block of another element type keeps a tenant of one's own. snaps.asked, snaps.found: a set's place, and its snapshot's. holds.found: a snapshot's places.
-/
import Derived.Test.YtmladblmknbgnaaGreatDoorH0
import Derived.Test.YtmladblmknbgnaaGreatDoorH18
import Derived.Test.YtmladblmknbgnaaGreatDoorH17
import Derived.Test.YtmladblmknbgnaaGreatDoorH9
import Derived.Test.YtmladblmknbgnaaGreatDoorH4
namespace Go.Proofs.YtmladblmknbgnaaGreatDoor
open Go.RowKit
theorem results_cell_tmp {P:Program} {fn:Func} {tmps:Array Value} {a b:Tmp} {t:TypeId} {ad:Addr} {v u:Value} {w:World} (hr:fn.results=#[.cell a t,.tmp b]) (ha:tmps[a]?.getD undef=.pointer (some ad)) (hl:(loadVar t ad).run P w=.ok v w) (hu:tmps[b]?.getD undef=u:=by rfl):(results fn tmps).run P w=.ok (.tuple #[v,u]) w:=by
 simp [results,hr,ha,hl,hu,asAddr]
theorem grown_cellsS (g:Nat) (cs:List Value):∀ (W:World) (o:Nat),W.grownBy (W.setCells g o cs) (some g):=by
 induction cs with
 | nil=>intro W o;exact ⟨rfl,rfl,rfl,Nat.le_refl _,fun _ _ _=>rfl⟩
 | cons u r ih=>intro W o;exact grown_tr (grown_box W g o u) (ih _ _)
theorem sum_le_len {α:Type} (f:α→Int) (c:Int) (l:List α) (h:∀ x∈l,f x≤c):(l.map f).sum≤l.length*c:=by
 induction l with
 | nil=>simp
 | cons x r ih =>
  have h1:=h x List.mem_cons_self
  have h2:=ih (fun y hy=>h y (List.mem_cons_of_mem _ hy))
  simp only [List.map_cons,List.sum_cons,List.length_cons,Int.natCast_add,Int.add_mul,Int.natCast_one,Int.one_mul]
  omega
theorem setSum_small (x:SetR) (hz:x.sz) (h:x.snaps.l.length≤16):setSum x≤20000000000000:=by
 unfold setSum sumB
 rw [List.take_length]
 have h1:=hz.body
 have h2:=sum_le_len (fun y:SnapR=>(y.body.n:Int)+1) 1000000000001 x.snaps.l (fun y hy=>by have:=(hz.each y hy).body;omega)
 omega
/-- what may be is not much -/
theorem tenSum_small (t:TenR) (hz:t.sz) (h:tenE t=0):tenSum t≤4000000000000000000:=by
 unfold tenE at h
 split at h
 ·rename_i hb
  unfold tenB at hb
  simp only [Bool.and_eq_true] at hb
  have hS:=hb.1.1.1.2
  have hG:=hb.1.2
  unfold setsB at hS
  unfold stagesB at hG
  simp only [Bool.and_eq_true,decide_eq_true_eq] at hS hG
  have hx:=((setsFrom_iff _ _ _).1 hS.2).1
  have h1:=sum_le_len setSum 20000000000000 t.sets.l (fun x hm=>by
   have h3:=hx x hm
   unfold setB at h3
   simp only [Bool.and_eq_true] at h3
   have h4:=h3.1.2
   unfold snapsB at h4
   simp only [Bool.and_eq_true,decide_eq_true_eq] at h4
   exact setSum_small x (hz.eachS x hm) h4.1.1)
  have h2:=sum_le_len (fun x:StageR=>(x.body.n:Int)+1) 1000000000001 t.stages.l (fun y hy=>by have:=(hz.eachT y hy).body;omega)
  unfold tenSum sumS sumG
  rw [List.take_length,List.take_length]
  have h5:=hS.1.1
  have h6:=hG.1
  omega
 ·cases h
def ZEROT:Value:=.agg #[.string ⟨#[]⟩,.int .i64 0,.int .i64 0,.slice none 0 0,.slice none 0 0,.slice none 0 0,.slice none 0 0]
def SettlePost (t:TenR) (w:World) (e:Ending) (w':World):Prop:=∃ v E,e=.returned (.tuple #[v,.int .i64 E])∧Below w.heap.size w w' ∧
 ((tenE t=9∧E=9∧v=ZEROT)∨(tenE t=0∧t.quota<tenSum t∧E=42∧v=ZEROT)∨(tenE t=0∧tenSum t≤t.quota∧E=0∧∃ y:TenR,v=y.val∧TenO w' w.heap.size y∧t.eqv y))
theorem tenE_09 (t:TenR):tenE t=0∨tenE t=9:=by unfold tenE;split <;> simp
set_option maxRecDepth 100000 in
set_option maxHeartbeats 4000000 in
theorem settle_any (t:TenR) (w:World) (B:Nat) (hB:B≤w.heap.size) (hr:t.rd w B) (hz:t.sz) (hmx:HasMax w) :
  Calls Tryz.prog 35 #[t.val] w (SettlePost t w):=by
 have h2:=tenE_09 t
 have hsm:=tenSum_small t hz
 obtain ⟨nm,qu,nx,⟨s1,sn,s3,sl⟩,⟨g1,gn,g3,gl⟩,⟨t1,tn,t3,tl⟩,⟨l1,ln,l3,ll⟩⟩:=t
 show Calls Tryz.prog 35 #[.agg #[.string ⟨nm.toArray⟩,.int .i64 qu,.int .i64 nx,.slice s1 sn s3,.slice g1 gn g3,.slice t1 tn t3,.slice l1 ln l3]] w _
 have hb2:=((Below.refl w.heap.size w).alloc (Nat.le_refl _) (.cells #[.string ⟨nm.toArray⟩,.int .i64 qu,.int .i64 nx,.slice s1 sn s3,.slice g1 gn g3,.slice t1 tn t3,.slice l1 ln l3] 27)).alloc (by simp) (.cells #[.string ⟨#[]⟩,.int .i64 0,.int .i64 0,.slice none 0 0,.slice none 0 0,.slice none 0 0,.slice none 0 0] 27)
 have kT:=(Blk.new w 27 #[.string ⟨nm.toArray⟩,.int .i64 qu,.int .i64 nx,.slice s1 sn s3,.slice g1 gn g3,.slice t1 tn t3,.slice l1 ln l3]).alloc (.cells #[.string ⟨#[]⟩,.int .i64 0,.int .i64 0,.slice none 0 0,.slice none 0 0,.slice none 0 0,.slice none 0 0] 27)
 have kZ:=Blk.new (w.alloc (.cells #[.string ⟨nm.toArray⟩,.int .i64 qu,.int .i64 nx,.slice s1 sn s3,.slice g1 gn g3,.slice t1 tn t3,.slice l1 ln l3] 27)) 27 #[.string ⟨#[]⟩,.int .i64 0,.int .i64 0,.slice none 0 0,.slice none 0 0,.slice none 0 0,.slice none 0 0]
 rw [show (w.alloc (.cells #[.string ⟨nm.toArray⟩,.int .i64 qu,.int .i64 nx,.slice s1 sn s3,.slice g1 gn g3,.slice t1 tn t3,.slice l1 ln l3] 27)).heap.size=w.heap.size+1 by simp] at kZ
 obtain ⟨W2,hW2⟩:∃ W,W=(w.alloc (.cells #[.string ⟨nm.toArray⟩,.int .i64 qu,.int .i64 nx,.slice s1 sn s3,.slice g1 gn g3,.slice t1 tn t3,.slice l1 ln l3] 27)).alloc (.cells #[.string ⟨#[]⟩,.int .i64 0,.int .i64 0,.slice none 0 0,.slice none 0 0,.slice none 0 0,.slice none 0 0] 27):=⟨_,rfl⟩
 have hsz:W2.heap.size=w.heap.size+2:=by rw [hW2];simp
 rw [← hW2] at hb2 kT kZ
 have hrw:Hid (∀ W,Below W2.heap.size W2 W→TenR.rd W B ⟨nm,qu,nx,⟨s1,sn,s3,sl⟩,⟨g1,gn,g3,gl⟩,⟨t1,tn,t3,tl⟩,⟨l1,ln,l3,ll⟩⟩∧w.heap.size+2≤W.heap.size∧HasMax W∧Below w.heap.size w W):=by
  show ∀ W,_→_
  intro W h
  have h1:=hb2.trans (h.mono (by omega))
  exact ⟨TenR.rd.below hr (h1.mono hB),by have:=h.size;omega,hmx.below h1,h1⟩
 have hTC:Hid (∀ W,Below W2.heap.size W2 W→Calls Tryz.prog 76 #[.agg #[.string ⟨nm.toArray⟩,.int .i64 qu,.int .i64 nx,.slice s1 sn s3,.slice g1 gn g3,.slice t1 tn t3,.slice l1 ln l3]] W fun e w'=>e=.returned (.int .i64 (tenE ⟨nm,qu,nx,⟨s1,sn,s3,sl⟩,⟨g1,gn,g3,gl⟩,⟨t1,tn,t3,tl⟩,⟨l1,ln,l3,ll⟩⟩))∧Below W.heap.size W w'):=fun W hb =>
  tcheck_any ⟨nm,qu,nx,⟨s1,sn,s3,sl⟩,⟨g1,gn,g3,gl⟩,⟨t1,tn,t3,tl⟩,⟨l1,ln,l3,ll⟩⟩ W B (hrw.out W hb).1 (by have:=(hrw.out W hb).2.1;omega) hz (hrw.out W hb).2.2.1
 have hFT:Hid (tenE ⟨nm,qu,nx,⟨s1,sn,s3,sl⟩,⟨g1,gn,g3,gl⟩,⟨t1,tn,t3,tl⟩,⟨l1,ln,l3,ll⟩⟩=0→∀ W,Below W2.heap.size W2 W→Calls Tryz.prog 110 #[.agg #[.string ⟨nm.toArray⟩,.int .i64 qu,.int .i64 nx,.slice s1 sn s3,.slice g1 gn g3,.slice t1 tn t3,.slice l1 ln l3]] W fun e w'=>e=.returned (.bool (decide (tenSum ⟨nm,qu,nx,⟨s1,sn,s3,sl⟩,⟨g1,gn,g3,gl⟩,⟨t1,tn,t3,tl⟩,⟨l1,ln,l3,ll⟩⟩≤qu)))∧Below W.heap.size W w'):=fun h0 W hb =>
  fits_any ⟨nm,qu,nx,⟨s1,sn,s3,sl⟩,⟨g1,gn,g3,gl⟩,⟨t1,tn,t3,tl⟩,⟨l1,ln,l3,ll⟩⟩ W B (by have:=(hrw.out W hb).2.1;omega) (hrw.out W hb).1 hz (hsm h0)
 have hCP:Hid (∀ W,Below W2.heap.size W2 W→Calls Tryz.prog 64 #[.agg #[.string ⟨nm.toArray⟩,.int .i64 qu,.int .i64 nx,.slice s1 sn s3,.slice g1 gn g3,.slice t1 tn t3,.slice l1 ln l3]] W fun e w'=>∃ y:TenR,e=.returned y.val∧TenO w' W.heap.size y∧TenR.eqv ⟨nm,qu,nx,⟨s1,sn,s3,sl⟩,⟨g1,gn,g3,gl⟩,⟨t1,tn,t3,tl⟩,⟨l1,ln,l3,ll⟩⟩ y∧Below W.heap.size W w'):=fun W hb =>
  tcopy_any ⟨nm,qu,nx,⟨s1,sn,s3,sl⟩,⟨g1,gn,g3,gl⟩,⟨t1,tn,t3,tl⟩,⟨l1,ln,l3,ll⟩⟩ W B (by have:=(hrw.out W hb).2.1;omega) (hrw.out W hb).1 hz
 obtain ⟨E,hE⟩:∃ E,E=tenE ⟨nm,qu,nx,⟨s1,sn,s3,sl⟩,⟨g1,gn,g3,gl⟩,⟨t1,tn,t3,tl⟩,⟨l1,ln,l3,ll⟩⟩:=⟨_,rfl⟩
 obtain ⟨U,hU⟩:∃ U,U=tenSum ⟨nm,qu,nx,⟨s1,sn,s3,sl⟩,⟨g1,gn,g3,gl⟩,⟨t1,tn,t3,tl⟩,⟨l1,ln,l3,ll⟩⟩:=⟨_,rfl⟩
 rw [← hE] at h2 hTC hFT
 rw [← hU] at hFT
 have HE:=Lib.hid hE
 have HU:=Lib.hid hU
 have HSZ:=Lib.hid hsz
 have KT2:=Lib.hid kT
 have KZ2:=Lib.hid kZ
 have hc:=hTC.out W2 (Below.refl _ _)
 obtain ⟨c0,c1,c2,c3,c4,c5,c6⟩:=(⟨kT.cell 0,kT.cell 1,kT.cell 2,kT.cell 3,kT.cell 4,kT.cell 5,kT.cell 6⟩:_∧_∧_∧_∧_∧_∧_)
 simp only [zF,zD,zE] at c0 c1 c2 c3 c4 c5 c6
 clear hb2 kT kZ hr hz hsm hE hU hsz hmx hTC
 go_enter Tryz.func35,Tryz.ntmps35
 go_wp2_with fail
 rw [← hW2]
 clear hW2
 refine hc.mono ?_
 clear hc c0 c1 c2 c3 c4 c5 c6
 rintro e w3 ⟨rfl,hb3⟩
 have HW3:=Lib.hid hb3
 have HB3:=Lib.hid (hrw.out w3 hb3).2.2.2
 have KZ:=Lib.hid (KZ2.out.below hb3 KZ2.out.lt)
 have KT:=Lib.hid (KT2.out.below hb3 KT2.out.lt)
 clear hb3 KZ2 KT2
 rcases h2 with rfl | rfl
 ·have hc:=hFT.out rfl w3 HW3.out
  obtain ⟨c0,c1,c2,c3,c4,c5,c6⟩:=(⟨KT.out.cell 0,KT.out.cell 1,KT.out.cell 2,KT.out.cell 3,KT.out.cell 4,KT.out.cell 5,KT.out.cell 6⟩:_∧_∧_∧_∧_∧_∧_)
  simp only [zF,zD,zE] at c0 c1 c2 c3 c4 c5 c6
  clear hFT
  go_wp2_with fail
  refine hc.mono ?_
  clear hc c0 c1 c2 c3 c4 c5 c6
  rintro e w4 ⟨rfl,hb4⟩
  have HW4:=Lib.hid (HW3.out.trans (hb4.mono HW3.out.size))
  have HB4:=Lib.hid (HB3.out.trans (hb4.mono HB3.out.size))
  have KZ:=Lib.hid (KZ.out.below hb4 KZ.out.lt)
  have KT:=Lib.hid (KT.out.below hb4 KT.out.lt)
  clear hb4 HB3 HW3
  by_cases hq:U≤qu
  ·rw [decide_eq_true hq]
   have HQ:=Lib.hid hq
   have hc:=hCP.out w4 HW4.out
   obtain ⟨c0,c1,c2,c3,c4,c5,c6⟩:=(⟨KT.out.cell 0,KT.out.cell 1,KT.out.cell 2,KT.out.cell 3,KT.out.cell 4,KT.out.cell 5,KT.out.cell 6⟩:_∧_∧_∧_∧_∧_∧_)
   simp only [zF,zD,zE] at c0 c1 c2 c3 c4 c5 c6
   clear hCP hq
   go_wp2_with fail
   refine hc.mono ?_
   clear hc c0 c1 c2 c3 c4 c5 c6
   rintro e w5 ⟨y,rfl,ho5,he5,hb5⟩
   have HE5:=Lib.hid he5
   have HO5:=Lib.hid (ho5.mono (hrw.out w4 HW4.out).2.1)
   have HB5:=Lib.hid (HB4.out.trans (hb5.mono HB4.out.size))
   have KZ:=Lib.hid (KZ.out.below hb5 KZ.out.lt)
   clear he5 ho5 hb5 HB4 KT HW4 hrw
   obtain ⟨mm,mq,mx,⟨m1,m2,m3,ml⟩,⟨n1,n2,n3,nl⟩,⟨p1,p2,p3,pl⟩,⟨q1,q2,q3,ql⟩⟩:=y
   simp only [TenR.val,TenR.cells,FS.val,strV]
   have hth:=Lib.hid (KZ.out.there 7 (by decide))
   have k4:=Blk.setCells (g:=(w.heap.size+1)) [.string ⟨mm.toArray⟩,.int .i64 mq,.int .i64 mx,.slice m1 m2 m3,.slice n1 n2 n3,.slice p1 p2 p3,.slice q1 q2 q3] w5 [] [.string ⟨#[]⟩,.int .i64 0,.int .i64 0,.slice none 0 0,.slice none 0 0,.slice none 0 0,.slice none 0 0] rfl KZ.out
   simp only [List.length_nil,List.nil_append] at k4
   have hbw:=below_setCells (g:=(w.heap.size+1)) (by omega) [.string ⟨mm.toArray⟩,.int .i64 mq,.int .i64 mx,.slice m1 m2 m3,.slice n1 n2 n3,.slice p1 p2 p3,.slice q1 q2 q3] w5 0 HB5.out
   have hoo:=TenO.kept HO5.out (grown_cellsS (w.heap.size+1) [.string ⟨mm.toArray⟩,.int .i64 mq,.int .i64 mx,.slice m1 m2 m3,.slice n1 n2 n3,.slice p1 p2 p3,.slice q1 q2 q3] w5 0) (by omega)
   obtain ⟨W4,hW4⟩:∃ W,W=w5.setCells (w.heap.size+1) 0 (#[.string ⟨mm.toArray⟩,.int .i64 mq,.int .i64 mx,.slice m1 m2 m3,.slice n1 n2 n3,.slice p1 p2 p3,.slice q1 q2 q3]:Array Value).toList:=⟨_,rfl⟩
   rw [show ([.string ⟨mm.toArray⟩,.int .i64 mq,.int .i64 mx,.slice m1 m2 m3,.slice n1 n2 n3,.slice p1 p2 p3,.slice q1 q2 q3]:List Value)=(#[.string ⟨mm.toArray⟩,.int .i64 mq,.int .i64 mx,.slice m1 m2 m3,.slice n1 n2 n3,.slice p1 p2 p3,.slice q1 q2 q3]:Array Value).toList from rfl,← hW4] at k4 hbw hoo
   have HL:Hid ((loadVar 27 ⟨(w.heap.size+1),0,none⟩).run Tryz.prog W4=.ok (.agg #[.string ⟨mm.toArray⟩,.int .i64 mq,.int .i64 mx,.slice m1 m2 m3,.slice n1 n2 n3,.slice p1 p2 p3,.slice q1 q2 q3]) W4):=run_loadVar_at W4 ⟨(w.heap.size+1),0,none⟩ 27 [.string ⟨mm.toArray⟩,.int .i64 mq,.int .i64 mx,.slice m1 m2 m3,.slice n1 n2 n3,.slice p1 p2 p3,.slice q1 q2 q3] _ (fun j v hv=>by rw [addr_add0,k4.cell j,zF];exact hv) Tryz.underlying27 rfl (by kernel_rfl)
   have HBW:=Lib.hid hbw
   have HOO:=Lib.hid (hoo.mono (base':=w.heap.size) (by omega))
   clear k4 hbw hoo HO5 HB5 KZ
   go_wp2_with (refine wpList_store_mid rfl 27 (.tmp 2) (.tmp 16) rfl (w.heap.size+1) 0 #[.string ⟨mm.toArray⟩,.int .i64 mq,.int .i64 mx,.slice m1 m2 m3,.slice n1 n2 n3,.slice p1 p2 p3,.slice q1 q2 q3] rfl rfl hth.out (by kernel_rfl) (by simp [Value.oneCell']) ?_;rw [← hW4];clear hW4)
   exact bodyPost_ret (v:=.tuple #[.agg #[.string ⟨mm.toArray⟩,.int .i64 mq,.int .i64 mx,.slice m1 m2 m3,.slice n1 n2 n3,.slice p1 p2 p3,.slice q1 q2 q3],.int .i64 0]) (results_cell_tmp rfl rfl HL.out) rfl ⟨_,_,rfl,HBW.out,.inr (.inr ⟨HE.out.symm,by rw [← HU.out];exact HQ.out,rfl,⟨mm,mq,mx,⟨m1,m2,m3,ml⟩,⟨n1,n2,n3,nl⟩,⟨p1,p2,p3,pl⟩,⟨q1,q2,q3,ql⟩⟩,rfl,HOO.out,HE5.out⟩)⟩
  ·rw [decide_eq_false hq]
   have HQ:=Lib.hid (show qu<U by omega)
   clear hCP hq
   have hth:=Lib.hid (KZ.out.there 7 (by decide))
   have k4:=Blk.setCells (g:=(w.heap.size+1)) [.string ⟨#[]⟩,.int .i64 0,.int .i64 0,.slice none 0 0,.slice none 0 0,.slice none 0 0,.slice none 0 0] w4 [] [.string ⟨#[]⟩,.int .i64 0,.int .i64 0,.slice none 0 0,.slice none 0 0,.slice none 0 0,.slice none 0 0] rfl KZ.out
   simp only [List.length_nil,List.nil_append] at k4
   have hbw:=below_setCells (g:=(w.heap.size+1)) (by omega) [.string ⟨#[]⟩,.int .i64 0,.int .i64 0,.slice none 0 0,.slice none 0 0,.slice none 0 0,.slice none 0 0] w4 0 HB4.out
   obtain ⟨W4,hW4⟩:∃ W,W=w4.setCells (w.heap.size+1) 0 (#[.string ⟨#[]⟩,.int .i64 0,.int .i64 0,.slice none 0 0,.slice none 0 0,.slice none 0 0,.slice none 0 0]:Array Value).toList:=⟨_,rfl⟩
   rw [show ([.string ⟨#[]⟩,.int .i64 0,.int .i64 0,.slice none 0 0,.slice none 0 0,.slice none 0 0,.slice none 0 0]:List Value)=(#[.string ⟨#[]⟩,.int .i64 0,.int .i64 0,.slice none 0 0,.slice none 0 0,.slice none 0 0,.slice none 0 0]:Array Value).toList from rfl,← hW4] at k4 hbw
   have HL:Hid ((loadVar 27 ⟨(w.heap.size+1),0,none⟩).run Tryz.prog W4=.ok (.agg #[.string ⟨#[]⟩,.int .i64 0,.int .i64 0,.slice none 0 0,.slice none 0 0,.slice none 0 0,.slice none 0 0]) W4):=run_loadVar_at W4 ⟨(w.heap.size+1),0,none⟩ 27 [.string ⟨#[]⟩,.int .i64 0,.int .i64 0,.slice none 0 0,.slice none 0 0,.slice none 0 0,.slice none 0 0] _ (fun j v hv=>by rw [addr_add0,k4.cell j,zF];exact hv) Tryz.underlying27 rfl (by kernel_rfl)
   have HBW:=Lib.hid hbw
   clear k4 hbw HW4 KT
   go_wp2_with (refine wpList_store_mid rfl 27 (.tmp 2) (.tmp 14) rfl (w.heap.size+1) 0 #[.string ⟨#[]⟩,.int .i64 0,.int .i64 0,.slice none 0 0,.slice none 0 0,.slice none 0 0,.slice none 0 0] rfl rfl hth.out (by kernel_rfl) (by simp [Value.oneCell']) ?_;rw [← hW4];clear hW4)
   exact bodyPost_ret (v:=.tuple #[.agg #[.string ⟨#[]⟩,.int .i64 0,.int .i64 0,.slice none 0 0,.slice none 0 0,.slice none 0 0,.slice none 0 0],.int .i64 42]) (results_cell_tmp rfl rfl HL.out) rfl ⟨_,_,rfl,HBW.out,.inr (.inl ⟨HE.out.symm,by rw [← HU.out];exact HQ.out,rfl,rfl⟩)⟩
 ·clear hFT hCP
  have hth:=Lib.hid (KZ.out.there 7 (by decide))
  have k4:=Blk.setCells (g:=(w.heap.size+1)) [.string ⟨#[]⟩,.int .i64 0,.int .i64 0,.slice none 0 0,.slice none 0 0,.slice none 0 0,.slice none 0 0] w3 [] [.string ⟨#[]⟩,.int .i64 0,.int .i64 0,.slice none 0 0,.slice none 0 0,.slice none 0 0,.slice none 0 0] rfl KZ.out
  simp only [List.length_nil,List.nil_append] at k4
  have hbw:=below_setCells (g:=(w.heap.size+1)) (by omega) [.string ⟨#[]⟩,.int .i64 0,.int .i64 0,.slice none 0 0,.slice none 0 0,.slice none 0 0,.slice none 0 0] w3 0 HB3.out
  obtain ⟨W4,hW4⟩:∃ W,W=w3.setCells (w.heap.size+1) 0 (#[.string ⟨#[]⟩,.int .i64 0,.int .i64 0,.slice none 0 0,.slice none 0 0,.slice none 0 0,.slice none 0 0]:Array Value).toList:=⟨_,rfl⟩
  rw [show ([.string ⟨#[]⟩,.int .i64 0,.int .i64 0,.slice none 0 0,.slice none 0 0,.slice none 0 0,.slice none 0 0]:List Value)=(#[.string ⟨#[]⟩,.int .i64 0,.int .i64 0,.slice none 0 0,.slice none 0 0,.slice none 0 0,.slice none 0 0]:Array Value).toList from rfl,← hW4] at k4 hbw
  have HL:Hid ((loadVar 27 ⟨(w.heap.size+1),0,none⟩).run Tryz.prog W4=.ok (.agg #[.string ⟨#[]⟩,.int .i64 0,.int .i64 0,.slice none 0 0,.slice none 0 0,.slice none 0 0,.slice none 0 0]) W4):=run_loadVar_at W4 ⟨(w.heap.size+1),0,none⟩ 27 [.string ⟨#[]⟩,.int .i64 0,.int .i64 0,.slice none 0 0,.slice none 0 0,.slice none 0 0,.slice none 0 0] _ (fun j v hv=>by rw [addr_add0,k4.cell j,zF];exact hv) Tryz.underlying27 rfl (by kernel_rfl)
  have HBW:=Lib.hid hbw
  clear k4 hbw HW3 KT
  go_wp2_with (refine wpList_store_mid rfl 27 (.tmp 2) (.tmp 9) rfl (w.heap.size+1) 0 #[.string ⟨#[]⟩,.int .i64 0,.int .i64 0,.slice none 0 0,.slice none 0 0,.slice none 0 0,.slice none 0 0] rfl rfl hth.out (by kernel_rfl) (by simp [Value.oneCell']) ?_;rw [← hW4];clear hW4)
  exact bodyPost_ret (v:=.tuple #[.agg #[.string ⟨#[]⟩,.int .i64 0,.int .i64 0,.slice none 0 0,.slice none 0 0,.slice none 0 0,.slice none 0 0],.int .i64 9]) (results_cell_tmp rfl rfl HL.out) rfl ⟨_,_,rfl,HBW.out,.inl ⟨HE.out.symm,rfl,rfl⟩⟩
end Go.Proofs.YtmladblmknbgnaaGreatDoor
namespace Go.Proofs.YtmladblmknbgnaaGreatDoor
open Go.RowKit
/-! ### a content as a tenant of its own -/
def mkF {α:Type} (l:List α):FS α:=⟨none,l.length,l.length,l⟩
def SnapC.r (x:SnapC):SnapR:=⟨x.nm,x.gd,mkF x.body,mkF x.tags,mkF x.own⟩
def SetC.r (x:SetC):SetR:=⟨x.path,x.org,mkF x.body,mkF (x.snaps.map SnapC.r),mkF x.own⟩
def StageC.r (x:StageC):StageR:=⟨x.into,x.kind,x.nm,x.frm,x.gd,mkF x.own,x.ix,x.ct,x.dt,x.sm,mkF x.body,x.at_,x.nx,x.sum,x.done⟩
def TenC.r (x:TenC):TenR:=⟨x.nm,x.quota,x.next,mkF (x.sets.map SetC.r),mkF x.grants,mkF (x.stages.map StageC.r),mkF x.log⟩
theorem firstI_map {α β:Type} (f:α→β) (p:β→Bool) (l:List α):firstI p (l.map f)=firstI (fun x=>p (f x)) l:=by
 have h:firstP p (l.map f)=firstP (fun x=>p (f x)) l:=by
  unfold firstP
  induction l with
  | nil=>rfl
  | cons x r ih =>
   rw [List.map_cons]
   cases hp:p (f x) with
   | true=>rw [List.takeWhile_cons_of_neg (by simp [hp]),List.takeWhile_cons_of_neg (by simp [hp])];rfl
   | false=>rw [List.takeWhile_cons_of_pos (by simp [hp]),List.takeWhile_cons_of_pos (by simp [hp]),List.length_cons,List.length_cons,ih]
 unfold firstI
 rw [h,List.length_map]
theorem snapsFrom_n (p:Option Int) (l:List SnapR):snapsFrom p (l.map fun x=>x.con.r)=snapsFrom p l:=by
 induction l generalizing p with
 | nil=>cases p <;> rfl
 | cons x l ih =>
  rw [List.map_cons,snapsFrom_cons,snapsFrom_cons,ih]
  rfl
theorem snapsB_n (l:List SnapR):snapsB (l.map fun x=>x.con.r)=snapsB l:=by
 unfold snapsB
 rw [snapsFrom_n,List.length_map,List.map_map]
 rfl
theorem setC_r (x:SetR):x.con.r=⟨x.path,x.org,mkF x.body.l,mkF (x.snaps.l.map fun y=>y.con.r),mkF x.own.l⟩:=by
 show SetR.mk _ _ _ _ _=_
 rw [show (x.con.snaps.map SnapC.r)=(x.snaps.l.map fun y=>y.con.r) from List.map_map]
 rfl
theorem find_map {α β:Type} (f:α→β) (p:β→Bool) (l:List α):(l.map f).find? p=(l.find? fun x=>p (f x)).map f:=by
 induction l with
 | nil=>rfl
 | cons x r ih =>
  rw [List.map_cons,List.find?_cons,List.find?_cons]
  cases p (f x) with
  | true=>rfl
  | false=>exact ih
theorem originB_n (all:List SetR) (s:SetR):originB (all.map fun x=>x.con.r) s.con.r=originB all s:=by
 unfold originB
 show (s.org == [] || match splitL s.org with
  | none=>false
  | some (p,n)=>!(p == s.path) && match (all.map fun x=>x.con.r).find? (fun x=>x.path == p) with
   | none=>false
   | some x=>x.snaps.l.any fun y=>y.nm == n)=_
 cases splitL s.org with
 | none=>rfl
 | some v =>
  obtain ⟨p,n⟩:=v
  simp only []
  rw [find_map]
  have e:(all.find? fun x:SetR=>x.con.r.path == p)=all.find? fun x=>x.path == p:=rfl
  rw [e]
  cases all.find? (fun x=>x.path == p) with
  | none=>rfl
  | some x =>
   simp only [Option.map_some]
   rw [setC_r x]
   show (s.org == [] || !(p == s.path) && (x.snaps.l.map fun y=>y.con.r).any fun y=>y.nm == n)=_
   rw [List.any_map]
   rfl
theorem setB_n (all:List SetR) (s:SetR):setB (all.map fun x=>x.con.r) s.con.r=setB all s:=by
 unfold setB
 rw [originB_n,setC_r s]
 show ((pathB s.path && match parB s.path with
  | none=>true
  | some u=>(all.map fun x=>x.con.r).any fun x=>x.path == u) && propsB s.own.l && okL s.body.l && snapsB (s.snaps.l.map fun y=>y.con.r) && originB all s)=_
 rw [snapsB_n]
 cases parB s.path with
 | none=>rfl
 | some u =>
  simp only []
  rw [List.any_map]
  rfl
theorem setsFrom_n (all:List SetR) (p:Option BS) (l:List SetR):setsFrom (all.map fun x=>x.con.r) p (l.map fun x=>x.con.r)=setsFrom all p l:=by
 induction l generalizing p with
 | nil=>cases p <;> rfl
 | cons x l ih =>
  have e:∀ (a:List SetR) (y:SetR) (r:List SetR),setsFrom a p (y :: r)=(setB a y && (match p with | none=>true | some q=>Op.bytesLess q y.path) && setsFrom a (some y.path) r):=by
   intro a y r
   cases p <;> rfl
  rw [List.map_cons,e,e,setB_n,show x.con.r.path=x.path from rfl,ih]
theorem setsB_n (l:List SetR):setsB (l.map fun x=>x.con.r)=setsB l:=by
 unfold setsB
 rw [setsFrom_n,List.length_map,List.any_map]
 rfl
theorem stagesFrom_n (p:Option BS) (l:List StageR):stagesFrom p (l.map fun x=>x.con.r)=stagesFrom p l:=by
 induction l generalizing p with
 | nil=>cases p <;> rfl
 | cons x l ih =>
  have e:∀ (y:StageR) (r:List StageR),stagesFrom p (y :: r)=(stageB y && (match p with | none=>true | some q=>Op.bytesLess q y.into) && stagesFrom (some y.into) r):=by
   intro y r
   cases p <;> rfl
  rw [List.map_cons,e,e,show x.con.r.into=x.into from rfl,ih]
  rfl
theorem stagesB_n (l:List StageR):stagesB (l.map fun x=>x.con.r)=stagesB l:=by
 unfold stagesB
 rw [stagesFrom_n,List.length_map]
theorem tenC_r (t:TenR):t.con.r=⟨t.nm,t.quota,t.next,mkF (t.sets.l.map fun x=>x.con.r),mkF t.grants.l,mkF (t.stages.l.map fun x=>x.con.r),mkF t.log.l⟩:=by
 show TenR.mk _ _ _ _ _ _ _=_
 rw [show (t.con.sets.map SetC.r)=(t.sets.l.map fun y=>y.con.r) from List.map_map,show (t.con.stages.map StageC.r)=(t.stages.l.map fun y=>y.con.r) from List.map_map]
 rfl
/-- whether a tenant may be hangs on its content alone -/
def TenC.E (c:TenC):Int:=tenE c.r
theorem tenE_con (t:TenR):tenE t=t.con.E:=by
 unfold TenC.E tenE
 have:tenB t.con.r=tenB t:=by
  rw [tenC_r]
  show (nameB t.nm && amt t.quota 0 && amt t.next 1 && setsB (t.sets.l.map fun x=>x.con.r) && grantsB t.grants.l && stagesB (t.stages.l.map fun x=>x.con.r) && logB t.log.l)=_
  rw [setsB_n,stagesB_n]
  rfl
 rw [this]
theorem TenC.E_two (c:TenC):c.E=0∨c.E=9:=by unfold TenC.E tenE;split <;> simp
/-! ### what it is charged for -/
theorem cast_sum {α:Type} (f:α→Nat) (g:α→Int) (l:List α) (h:∀ x∈l,g x=(f x:Int)):(l.map g).sum=((l.map f).sum:Nat):=by
 induction l with
 | nil=>rfl
 | cons x r ih =>
  rw [List.map_cons,List.map_cons,List.sum_cons,List.sum_cons,Int.natCast_add,h x List.mem_cons_self,ih fun y hy=>h y (List.mem_cons_of_mem _ hy)]
theorem setSum_con (x:SetR) (w:World) (B:Nat) (h:x.rd w B):setSum x=(x.con.charge:Nat):=by
 unfold setSum sumB SetC.charge
 rw [List.take_length,cast_sum (fun y:SnapR=>1+y.body.l.length) _ _ (fun y hy=>by rw [(h.each y hy).body.1];omega)]
 rw [h.body.1]
 show _=((1+x.body.l.length+((x.snaps.l.map SnapR.con).map fun y=>1+y.body.length).sum:Nat):Int)
 rw [List.map_map]
 show _=((1+x.body.l.length+(x.snaps.l.map fun y=>1+y.body.l.length).sum:Nat):Int)
 omega
theorem tenSum_con (t:TenR) (w:World) (B:Nat) (h:t.rd w B):tenSum t=(t.con.charge:Nat):=by
 unfold tenSum sumS sumG TenC.charge
 rw [List.take_length,List.take_length,cast_sum (fun y:SetR=>y.con.charge) _ _ (fun y hy=>setSum_con y w B (h.eachS y hy)),cast_sum (fun y:StageR=>1+y.body.l.length) _ _ (fun y hy=>by rw [(h.eachG y hy).body.1];omega)]
 show _=((((t.sets.l.map SetR.con).map SetC.charge).sum+((t.stages.l.map StageR.con).map fun s=>1+s.body.length).sum:Nat):Int)
 rw [List.map_map,List.map_map]
 rfl
end Go.Proofs.YtmladblmknbgnaaGreatDoor
namespace Go.Proofs.YtmladblmknbgnaaGreatDoor
open Go.RowKit
def SetR.withSn (x:SetR) (s:FS SnapR):SetR:=⟨x.path,x.org,x.body,s,x.own⟩
def SetC.withSn (x:SetC) (l:List SnapC):SetC:=⟨x.path,x.org,x.body,l,x.own⟩
section
variable {w w1:World} {base:Nat}
theorem own_aside {T:TypeId} {k n:Nat} {v:Value} {xs:List Value} {s:FS SnapR} (hs:s.own w base 70 5 encSnap) (hg:w.grownBy w1 s.val.ownBlock) (hT:T≠70) (hr:w.ownsRow base T k v n xs):w1.ownsRow base T k v n xs:=by
 cases he:s.val.ownBlock with
 | none=>rw [he] at hg;exact hr.kept hg (by cases v.ownBlock <;> simp)
 | some g =>
  rw [he] at hg
  refine hr.kept hg (.inr ?_)
  rcases hs.2 with h0
  rcases h0.2 with ⟨e,_⟩ | ⟨g',cap,cur,e,_,hh,_⟩
  ·rw [e] at he;simp [Value.ownBlock] at he
  ·rw [e] at he
   have he:g'=g:=by simpa [Value.ownBlock] using he
   subst he
   exact own_blk_ne hr (show Blk w g' 70 cur from hh) hT
/-- what stays when only the row of one set's snapshots is changed -/
structure Aside (w1:World) (base:Nat) (t:TenR) (k:Nat) (hk:k<t.sets.l.length):Prop where
 sets:t.sets.own w1 base 42 5 encSet
 others:∀ j (hj:j<t.sets.l.length),j≠k→SetO w1 base (t.sets.l[j]'hj)
 body:(t.sets.l[k]'hk).body.own w1 base 88 2 encB
 own:(t.sets.l[k]'hk).own.own w1 base 91 2 encP
 olds:∀ y∈(t.sets.l[k]'hk).snaps.l,SnapO w1 base y
 grants:t.grants.own w1 base 139 3 encG
 stages:t.stages.own w1 base 114 21 encStage
 eachG:∀ y∈t.stages.l,StageO w1 base y
 log:t.log.own w1 base 117 4 encEntry
theorem TenO.aside {t:TenR} (h:TenO w base t) (hp:t.sets.l.Pairwise ApartS) (k:Nat) (hk:k<t.sets.l.length) (hg:w.grownBy w1 (t.sets.l[k]'hk).snaps.val.ownBlock):Aside w1 base t k hk:=by
 have hS:=(h.eachS _ (List.getElem_mem hk)).snaps
 have a:∀ {T:TypeId} {k n:Nat} {v:Value} {xs:List Value},T≠70→w.ownsRow base T k v n xs→w1.ownsRow base T k v n xs:=fun hT hr=>own_aside hS hg hT hr
 have aS:∀ y,SnapO w base y→SnapO w1 base y:=fun y hy=>⟨⟨hy.body.1,a (by decide) hy.body.2⟩,⟨hy.tags.1,a (by decide) hy.tags.2⟩,⟨hy.own.1,a (by decide) hy.own.2⟩⟩
 have hx:=h.eachS _ (List.getElem_mem hk)
 refine ⟨⟨h.sets.1,a (by decide) h.sets.2⟩,fun j hj hne=>?_,⟨hx.body.1,a (by decide) hx.body.2⟩,⟨hx.own.1,a (by decide) hx.own.2⟩,fun y hy=>aS y (hx.each y hy),⟨h.grants.1,a (by decide) h.grants.2⟩,⟨h.stages.1,a (by decide) h.stages.2⟩,fun y hy=>⟨⟨(h.eachG y hy).own.1,a (by decide) (h.eachG y hy).own.2⟩,⟨(h.eachG y hy).body.1,a (by decide) (h.eachG y hy).body.2⟩⟩,⟨h.log.1,a (by decide) h.log.2⟩⟩
 have hy:=h.eachS _ (List.getElem_mem hj)
 refine ⟨⟨hy.body.1,a (by decide) hy.body.2⟩,⟨hy.snaps.1,?_⟩,fun z hz=>aS z (hy.each z hz),⟨hy.own.1,a (by decide) hy.own.2⟩⟩
 cases he:(t.sets.l[k]'hk).snaps.val.ownBlock with
 | none=>rw [he] at hg;exact hy.snaps.2.kept hg (by cases (t.sets.l[j]'hj).snaps.val.ownBlock <;> simp)
 | some g =>
  rw [he] at hg
  refine hy.snaps.2.kept hg (.inr fun e=>?_)
  rcases Nat.lt_or_gt_of_ne hne with h1 | h1
  ·exact List.pairwise_iff_getElem.1 hp j k hj hk h1 g e he
  ·exact List.pairwise_iff_getElem.1 hp k j hk hj h1 g he e
theorem mem_set_at {α:Type} {l:List α} {k:Nat} {x y:α} (h:y∈l.set k x):y=x∨∃ j,∃ hj:j<l.length,j≠k∧y=l[j]'hj:=by
 obtain ⟨j,hj,rfl⟩:=List.mem_iff_getElem.1 h
 rw [List.length_set] at hj
 by_cases hjk:k=j
 ·subst hjk
  exact .inl (List.getElem_set_self ..)
 ·exact .inr ⟨j,hj,fun e=>hjk e.symm,List.getElem_set_ne hjk ..⟩
/-- the row is another one, and its address is stored -/
theorem Aside.store {t:TenR} {k:Nat} {hk:k<t.sets.l.length} (h:Aside w1 base t k hk) (s':FS SnapR) (hs:s'.own w1 base 70 5 encSnap) (hm:∀ y∈s'.l,SnapO w1 base y) {gS:Nat} (hA:t.sets.A=some ⟨gS,0,none⟩) :
  TenO (w1.setCell ⟨gS,k*5+3,none⟩ s'.val) base (t.putS k ((t.sets.l[k]'hk).withSn s'))∧w1.grownBy (w1.setCell ⟨gS,k*5+3,none⟩ s'.val) (some gS):=by
 obtain ⟨g,cs,hA2,_,hbk⟩:=h.sets.blk (by have:=h.sets.1;omega)
 rw [hA] at hA2
 injection hA2 with hA2
 injection hA2 with hA2
 subst hA2
 obtain ⟨h1,h2⟩:=h.sets.field (fun _=>rfl) hA k 3 (by decide) ((t.sets.l[k]'hk).withSn s') s'.val (fun z hz=>by rw [List.getElem?_eq_getElem hk] at hz;cases hz;rfl)
 have hx:SetO w1 base ((t.sets.l[k]'hk).withSn s'):=⟨h.body,hs,hm,h.own⟩
 refine ⟨⟨h1,fun y hy=>?_,h.grants.keptT h2 hbk (by decide),h.stages.keptT h2 hbk (by decide),fun y hy=>(h.eachG y hy).keptS h2 hbk,h.log.keptT h2 hbk (by decide)⟩,h2⟩
 rcases mem_set_at (show y∈t.sets.l.set k _ from hy) with rfl | ⟨j,hj,hne,rfl⟩
 ·exact hx.keptS h2 hbk
 ·exact (h.others j hj hne).keptS h2 hbk
/-- the row is changed where it lies -/
theorem Aside.place {t:TenR} {k:Nat} {hk:k<t.sets.l.length} (h:Aside w1 base t k hk) (s':FS SnapR) (hs:s'.own w1 base 70 5 encSnap) (hm:∀ y∈s'.l,SnapO w1 base y) (hv:s'.val=(t.sets.l[k]'hk).snaps.val) :
  TenO w1 base (t.putS k ((t.sets.l[k]'hk).withSn s')):=by
 have he:cellsK encSet (t.sets.l.set k ((t.sets.l[k]'hk).withSn s'))=cellsK encSet t.sets.l:=by
  unfold cellsK
  rw [List.flatMap_def,List.flatMap_def,List.map_set]
  congr 1
  have:encSet ((t.sets.l[k]'hk).withSn s')=(t.sets.l.map encSet)[k]'(by rw [List.length_map];exact hk):=by
   rw [List.getElem_map]
   show [strV (t.sets.l[k]'hk).path,strV (t.sets.l[k]'hk).org,(t.sets.l[k]'hk).body.val,s'.val,(t.sets.l[k]'hk).own.val]=_
   rw [hv]
   rfl
  rw [this,List.set_getElem_self]
 refine ⟨⟨?_,?_⟩,fun y hy=>?_,h.grants,h.stages,h.eachG,h.log⟩
 ·show t.sets.n=(t.sets.l.set k _).length
  rw [List.length_set]
  exact h.sets.1
 ·show w1.ownsRow _ _ _ _ _ (cellsK encSet (t.sets.l.set k _))
  rw [he]
  exact h.sets.2
 ·rcases mem_set_at (show y∈t.sets.l.set k _ from hy) with rfl | ⟨j,hj,hne,rfl⟩
  ·exact ⟨h.body,hs,hm,h.own⟩
  ·exact h.others j hj hne
end
end Go.Proofs.YtmladblmknbgnaaGreatDoor
namespace Go.Proofs.YtmladblmknbgnaaGreatDoor
open Go.RowKit
/-- none of a tenant's rows is of this type -/
def offT (T:TypeId):Prop:=88≠T∧9≠T∧91≠T∧70≠T∧42≠T∧139≠T∧114≠T∧117≠T
theorem offT_ten:offT 27:=by unfold offT;decide
section
variable {w w':World} {base g:Nat} {cs:Array Value} {T:TypeId}
theorem SnapO.keptT {x:SnapR} (h:SnapO w base x) (hg:w.grownBy w' (some g)) (hb:Blk w g T cs) (hT:offT T):SnapO w' base x :=
 ⟨h.body.keptT hg hb hT.1,h.tags.keptT hg hb hT.2.1,h.own.keptT hg hb hT.2.2.1⟩
theorem SetO.keptT {x:SetR} (h:SetO w base x) (hg:w.grownBy w' (some g)) (hb:Blk w g T cs) (hT:offT T):SetO w' base x :=
 ⟨h.body.keptT hg hb hT.1,h.snaps.keptT hg hb hT.2.2.2.1,fun y hy=>(h.each y hy).keptT hg hb hT,h.own.keptT hg hb hT.2.2.1⟩
theorem StageO.keptT {x:StageR} (h:StageO w base x) (hg:w.grownBy w' (some g)) (hb:Blk w g T cs) (hT:offT T):StageO w' base x :=
 ⟨h.own.keptT hg hb hT.2.2.1,h.body.keptT hg hb hT.1⟩
theorem TenO.keptT {t:TenR} (h:TenO w base t) (hg:w.grownBy w' (some g)) (hb:Blk w g T cs) (hT:offT T):TenO w' base t :=
 ⟨h.sets.keptT hg hb hT.2.2.2.2.1,fun y hy=>(h.eachS y hy).keptT hg hb hT,h.grants.keptT hg hb hT.2.2.2.2.2.1,h.stages.keptT hg hb hT.2.2.2.2.2.2.1,fun y hy=>(h.eachG y hy).keptT hg hb hT,h.log.keptT hg hb hT.2.2.2.2.2.2.2⟩
end
end Go.Proofs.YtmladblmknbgnaaGreatDoor
namespace Go.Proofs.YtmladblmknbgnaaGreatDoor
open Go.RowKit
set_option maxRecDepth 100000 in
set_option maxHeartbeats 1000000 in
theorem indexF_any (l:List Bool) (x:Bool) (n:Nat) (hnl:n=l.length) (A:Option Addr) (c:Nat) (w:World) (B:Nat) (hr:Reads w B 1 A n (cellsK (fun b:Bool=>[Value.bool b]) l)) (hn:n≤5000000000000) :
  Calls Tryz.prog 194 #[.slice A n c,.bool x] w fun e w'=>e=.returned (.int .i64 (firstI (fun y=>y == x) l))∧w'=w:=by
 have HN:=Lib.hid hnl
 clear hnl
 go_enter Tryz.func194,Tryz.ntmps194
 go_wp2_with fail
 go_loopw [8] (fun j wr=>∃ k:Nat,k≤n∧j=.int .i64 (k:Int)∧Hid (∀ y∈l.take k,(y == x)=false)∧wr=w) (fun j _=>n-(intOf j).toNat)
 case atStart=>exact ⟨0,Nat.zero_le _,rfl,(show ∀ y∈_,_ by simp),rfl⟩
 case round =>
  obtain ⟨k,hk,rfl,hno,hww⟩:=hrel
  have hww:=hww.symm
  subst hww
  by_cases hlt:k<n
  ·have hki:(k:Int)<(n:Int):=by omega
   have hkl:k<l.length:=by have:=HN.out;omega
   obtain ⟨ad,rfl,_,hel⟩:=Reads.elAll (enc:=fun b:Bool=>[Value.bool b]) (k:=1) (fun _=>rfl) hr HN.out hlt
   have hcell:=hel 0 _ rfl
   rw [Nat.mul_one] at hcell
   have hcell:w.cell? (ad.add k)=some (.bool (l[k]'hkl)):=hcell
   clear hel
   obtain ⟨y,hy⟩:∃ y,y=l[k]'hkl:=⟨_,rfl⟩
   rw [← hy] at hcell
   have htk:=List.take_succ_eq_append_getElem hkl
   rw [← hy] at htk
   have HTK:=Lib.hid htk
   have HX:=Lib.hid (show l[k]?=some y by rw [hy];exact List.getElem?_eq_getElem _)
   clear hy htk hr
   by_cases hxy:x=y
   ·subst hxy
    go_wp2_with fail
    go_ret
    have hf:=firstP_eq (fun y=>y == x) l k x hno.out HX.out (by simp)
    exact ⟨by unfold firstI;rw [hf,if_pos hkl];rfl,rfl⟩
   ·have hd:(x == y)=false:=by simpa using hxy
    have HD:Hid ((y == x)=false):=by show _=_;simpa using fun e=>hxy e.symm
    clear hxy
    go_wp2_with fail
    go_roundw
    case rel =>
     refine ⟨k+1,by omega,by go_num,?_,trivial⟩
     show ∀ z∈l.take (k+1),(z == x)=false
     intro z hz
     rw [HTK.out] at hz
     rcases List.mem_append.1 hz with hz | hz
     ·exact hno.out z hz
     ·simp at hz;subst hz;exact HD.out
    case measure=>simp [intOf];omega
  ·have hkn:k=n:=by omega
   have HF:Hid (firstI (fun y=>y == x) l=-1):=by
    show _=_
    unfold firstI
    rw [firstP_none _ l (fun y hy=>hno.out y (by rw [List.take_of_length_le (by rw [hkn,HN.out];exact Nat.le_refl _)];exact hy)),if_neg (Nat.lt_irrefl _)]
   clear hr hkn
   go_wp2_with fail
   go_ret
   exact ⟨by rw [HF.out];rfl,rfl⟩
theorem any_containsB (l:List Bool) (x:Bool):l.any (fun y=>y == x)=l.contains x:=by
 rw [Bool.eq_iff_iff,List.any_eq_true,List.contains_iff_mem]
 exact ⟨fun ⟨y,hy,e⟩=>by rw [← (by simpa using e:y=x)];exact hy,fun h=>⟨x,h,by simp⟩⟩
set_option maxRecDepth 100000 in
theorem containsF_any (l:List Bool) (x:Bool) (n:Nat) (hnl:n=l.length) (A:Option Addr) (c:Nat) (w:World) (B:Nat) (hr:Reads w B 1 A n (cellsK (fun b:Bool=>[Value.bool b]) l)) (hn:n≤5000000000000) :
  Calls Tryz.prog 131 #[.slice A n c,.bool x] w fun e w'=>e=.returned (.bool (l.contains x))∧w'=w:=by
 have hc:=Lib.hid (indexF_any l x n hnl A c w B hr hn)
 have HA:=Lib.hid ((firstI_any (fun y=>y == x) l).trans (any_containsB l x))
 clear hnl hr
 go_enter Tryz.func131,Tryz.ntmps131
 go_wp2_with fail
 refine hc.out.mono ?_
 rintro e w1 ⟨rfl,rfl⟩
 go_wp2_with fail
 go_ret
 exact ⟨by rw [← HA.out];rfl,rfl⟩
/-- what is asked of a set and a snapshot: places and an error -/
def askI (t:TenR) (p n:BS) (bad:Bool):Int×Int×Int :=
 if tenE t=9 then (0,0,9) else if pathB p=false∨nameB n=false∨bad=true then (0,0,31) else
  match t.sets.l.find? (fun s=>s.path == p) with
  | none=>(0,0,71)
  | some s=>(findS t.sets.l p,findN s.snaps.l n,0)
def askV (x:Int×Int×Int):Value:=.tuple #[.int .i64 x.1,.int .i64 x.2.1,.int .i64 x.2.2]
set_option maxRecDepth 100000 in
set_option maxHeartbeats 4000000 in
theorem asked_any (t:TenR) (p n:BS) (ms:List Bool) (mA:Option Addr) (mn mc:Nat) (w:World) (B:Nat) (hB:B≤w.heap.size) (hr:t.rd w B) (hz:t.sz) (hp:p.length≤4000000000) (hmx:HasMax w) (hmn:mn=ms.length) (hm5:mn≤5) (hms:Reads w B 1 mA mn (cellsK (fun b:Bool=>[Value.bool b]) ms)) :
  Calls Tryz.prog 62 #[t.val,.string ⟨p.toArray⟩,.string ⟨n.toArray⟩,.slice mA mn mc] w fun e w'=>e=.returned (askV (askI t p n (ms.contains false)))∧Below w.heap.size w w':=by
 have h2:=tenE_09 t
 obtain ⟨nm,qu,nx,⟨s1,sn,s3,sl⟩,⟨g1,gn,g3,gl⟩,⟨t1,tn,t3,tl⟩,⟨l1,ln,l3,ll⟩⟩:=t
 show Calls Tryz.prog 62 #[.agg #[.string ⟨nm.toArray⟩,.int .i64 qu,.int .i64 nx,.slice s1 sn s3,.slice g1 gn g3,.slice t1 tn t3,.slice l1 ln l3],.string ⟨p.toArray⟩,.string ⟨n.toArray⟩,.slice mA mn mc] w _
 have hb1:=(Below.refl w.heap.size w).alloc (Nat.le_refl _) (.cells #[.string ⟨nm.toArray⟩,.int .i64 qu,.int .i64 nx,.slice s1 sn s3,.slice g1 gn g3,.slice t1 tn t3,.slice l1 ln l3] 27)
 have kT:=Blk.new w 27 #[.string ⟨nm.toArray⟩,.int .i64 qu,.int .i64 nx,.slice s1 sn s3,.slice g1 gn g3,.slice t1 tn t3,.slice l1 ln l3]
 obtain ⟨W1,hW1⟩:∃ W,W=w.alloc (.cells #[.string ⟨nm.toArray⟩,.int .i64 qu,.int .i64 nx,.slice s1 sn s3,.slice g1 gn g3,.slice t1 tn t3,.slice l1 ln l3] 27):=⟨_,rfl⟩
 have hsz1:W1.heap.size=w.heap.size+1:=by rw [hW1];simp
 rw [← hW1] at hb1 kT
 have hT:=Lib.hid (fun (W':World) (hB':Below W1.heap.size W1 W')=>(⟨(kT.below hB' (by omega)).cell 0,(kT.below hB' (by omega)).cell 1,(kT.below hB' (by omega)).cell 2,(kT.below hB' (by omega)).cell 3,(kT.below hB' (by omega)).cell 4,(kT.below hB' (by omega)).cell 5,(kT.below hB' (by omega)).cell 6⟩:W'.cell? ⟨w.heap.size,0,none⟩=some (.string ⟨nm.toArray⟩)∧W'.cell? ⟨w.heap.size,1,none⟩=some (.int .i64 qu)∧W'.cell? ⟨w.heap.size,2,none⟩=some (.int .i64 nx)∧W'.cell? ⟨w.heap.size,3,none⟩=some (.slice s1 sn s3)∧W'.cell? ⟨w.heap.size,4,none⟩=some (.slice g1 gn g3)∧W'.cell? ⟨w.heap.size,5,none⟩=some (.slice t1 tn t3)∧W'.cell? ⟨w.heap.size,6,none⟩=some (.slice l1 ln l3)))
 have hrw:Hid (∀ W,Below W1.heap.size W1 W→TenR.rd W B ⟨nm,qu,nx,⟨s1,sn,s3,sl⟩,⟨g1,gn,g3,gl⟩,⟨t1,tn,t3,tl⟩,⟨l1,ln,l3,ll⟩⟩∧w.heap.size<W.heap.size∧HasMax W∧Below w.heap.size w W):=by
  show ∀ W,_→_
  intro W h
  have h1:=hb1.trans (h.mono (by omega))
  exact ⟨TenR.rd.below hr (h1.mono hB),by have:=h.size;omega,hmx.below h1,h1⟩
 have HZ:=Lib.hid hz
 have HSN:=Lib.hid (show sn=sl.length from hr.sets.1)
 have hTC:Hid (∀ W,Below W1.heap.size W1 W→Calls Tryz.prog 76 #[.agg #[.string ⟨nm.toArray⟩,.int .i64 qu,.int .i64 nx,.slice s1 sn s3,.slice g1 gn g3,.slice t1 tn t3,.slice l1 ln l3]] W fun e w'=>e=.returned (.int .i64 (tenE ⟨nm,qu,nx,⟨s1,sn,s3,sl⟩,⟨g1,gn,g3,gl⟩,⟨t1,tn,t3,tl⟩,⟨l1,ln,l3,ll⟩⟩))∧Below W.heap.size W w'):=fun W hb =>
  tcheck_any ⟨nm,qu,nx,⟨s1,sn,s3,sl⟩,⟨g1,gn,g3,gl⟩,⟨t1,tn,t3,tl⟩,⟨l1,ln,l3,ll⟩⟩ W B (hrw.out W hb).1 (by have:=(hrw.out W hb).2.1;omega) hz (hrw.out W hb).2.2.1
 have hPA:Hid (∀ W,Below W1.heap.size W1 W→Calls Tryz.prog 112 #[.string ⟨p.toArray⟩] W fun e w'=>e=.returned (.bool (pathB p))∧Below W.heap.size W w'):=fun W hb=>path_any ⟨p.toArray⟩ W (by simpa [ByteArray.size] using hp) (hrw.out W hb).2.2.1
 have hNA:Hid (∀ W,Calls Tryz.prog 115 #[.string ⟨n.toArray⟩] W fun e w'=>e=.returned (.bool (nameB n))∧Below W.heap.size W w'):=fun W=>name_any ⟨n.toArray⟩ W
 have hCN:Hid (∀ W,Below W1.heap.size W1 W→Calls Tryz.prog 131 #[.slice mA mn mc,.bool false] W fun e w'=>e=.returned (.bool (ms.contains false))∧w'=W):=fun W hb=>containsF_any ms false mn hmn mA mc W B (hms.below ((hrw.out W hb).2.2.2.mono hB)) (by omega)
 have hFD:Hid (∀ W,Below W1.heap.size W1 W→Calls Tryz.prog 75 #[.agg #[.string ⟨nm.toArray⟩,.int .i64 qu,.int .i64 nx,.slice s1 sn s3,.slice g1 gn g3,.slice t1 tn t3,.slice l1 ln l3],.string ⟨p.toArray⟩] W fun e w'=>e=.returned (.int .i64 (findS sl p))∧Below W.heap.size W w'):=fun W hb =>
  find_any _ _ _ _ _ _ sl sn HSN.out s1 s3 p W B (hrw.out W hb).1.sets.2.2 (by have:=(hrw.out W hb).2.1;omega) (by have:=hz.sets;simp only at this;omega)
 obtain ⟨E,hE⟩:∃ E,E=tenE ⟨nm,qu,nx,⟨s1,sn,s3,sl⟩,⟨g1,gn,g3,gl⟩,⟨t1,tn,t3,tl⟩,⟨l1,ln,l3,ll⟩⟩:=⟨_,rfl⟩
 rw [← hE] at h2 hTC
 have HE:=Lib.hid hE
 obtain ⟨bad,hbad⟩:∃ b,b=ms.contains false:=⟨_,rfl⟩
 rw [← hbad] at hCN ⊢
 obtain ⟨bp,hbp⟩:∃ b,b=pathB p:=⟨_,rfl⟩
 rw [← hbp] at hPA
 obtain ⟨bn,hbn⟩:∃ b,b=nameB n:=⟨_,rfl⟩
 rw [← hbn] at hNA
 have HBP:=Lib.hid hbp
 have HBN:=Lib.hid hbn
 have HB1:=Lib.hid hb1
 have HSZ1:=Lib.hid hsz1
 have hc:=hTC.out W1 (Below.refl _ _)
 obtain ⟨c0,c1,c2,c3,c4,c5,c6⟩:=hT.out _ (Below.refl _ _)
 clear hb1 kT hr hz hsz1 hmx hTC hE hbad hbp hbn hms hmn
 go_enter Tryz.func62,Tryz.ntmps62
 go_wp2_with fail
 rw [← hW1]
 clear hW1
 refine hc.mono ?_
 clear hc c0 c1 c2 c3 c4 c5 c6
 rintro e w2 ⟨rfl,hb2⟩
 have HW2:=Lib.hid hb2
 clear hb2
 rcases h2 with rfl | rfl
 ·have hc:=hPA.out w2 HW2.out
  clear hPA
  go_wp2_with fail
  refine hc.mono ?_
  clear hc
  rintro e w3 ⟨rfl,hb3⟩
  have HW3:=Lib.hid (HW2.out.trans (hb3.mono HW2.out.size))
  clear hb3 HW2
  cases bp with
  | false =>
   go_wp2_with fail
   refine bodyPost_ret (v:=.tuple #[.int .i64 0,.int .i64 0,.int .i64 31]) (by simp [results,Tryz.results62,go_sem]) rfl ⟨?_,HB1.out.trans (HW3.out.mono (by have:=HSZ1.out;omega))⟩
   unfold askI
   rw [if_neg (by rw [← HE.out];decide),if_pos (.inl HBP.out.symm)]
   rfl
  | true =>
   have hc:=hNA.out w3
   clear hNA
   go_wp2_with fail
   refine hc.mono ?_
   clear hc
   rintro e w4 ⟨rfl,hb4⟩
   have HW4:=Lib.hid (HW3.out.trans (hb4.mono HW3.out.size))
   clear hb4 HW3
   cases bn with
   | false =>
    go_wp2_with fail
    refine bodyPost_ret (v:=.tuple #[.int .i64 0,.int .i64 0,.int .i64 31]) (by simp [results,Tryz.results62,go_sem]) rfl ⟨?_,HB1.out.trans (HW4.out.mono (by have:=HSZ1.out;omega))⟩
    unfold askI
    rw [if_neg (by rw [← HE.out];decide),if_pos (.inr (.inl HBN.out.symm))]
    rfl
   | true =>
    have hc:=hCN.out w4 HW4.out
    clear hCN
    go_wp2_with fail
    refine hc.mono ?_
    clear hc
    rintro e w4' ⟨rfl,hw⟩
    rw [hw]
    clear hw w4'
    cases bad with
    | true =>
     go_wp2_with fail
     refine bodyPost_ret (v:=.tuple #[.int .i64 0,.int .i64 0,.int .i64 31]) (by simp [results,Tryz.results62,go_sem]) rfl ⟨?_,HB1.out.trans (HW4.out.mono (by have:=HSZ1.out;omega))⟩
     unfold askI
     rw [if_neg (by rw [← HE.out];decide),if_pos (.inr (.inr rfl))]
     rfl
    | false =>
     have hnb:¬ (pathB p=false∨nameB n=false∨false=true):=by rw [← HBP.out,← HBN.out];simp
     have HNB:=Lib.hid hnb
     have hc:=hFD.out w4 HW4.out
     obtain ⟨c0,c1,c2,c3,c4,c5,c6⟩:=hT.out _ HW4.out
     clear hFD hnb
     go_wp2_with fail
     refine hc.mono ?_
     clear hc c0 c1 c2 c3 c4 c5 c6
     rintro e w5 ⟨rfl,hb5⟩
     have HW5:=Lib.hid (HW4.out.trans (hb5.mono HW4.out.size))
     clear hb5 HW4
     rcases firstI_cases (fun s:SetR=>s.path == p) sl with ⟨h1,h2⟩ | ⟨k,hkl,h1,h2⟩
     ·have h1:findS sl p=-1:=h1
      rw [h1]
      go_wp2_with fail
      refine bodyPost_ret (v:=.tuple #[.int .i64 0,.int .i64 0,.int .i64 71]) (by simp [results,Tryz.results62,go_sem]) rfl ⟨?_,HB1.out.trans (HW5.out.mono (by have:=HSZ1.out;omega))⟩
      unfold askI
      rw [if_neg (by rw [← HE.out];decide),if_neg HNB.out]
      simp only [h2]
      rfl
     ·have h1:findS sl p=(k:Int):=h1
      rw [h1]
      have hk0:¬ (k:Int)<0:=by omega
      have hk00:(0:Int)≤(k:Int):=by omega
      have hks:k<sn:=by have:=HSN.out;omega
      have hki:(k:Int)<(sn:Int):=by omega
      obtain ⟨ad,hsa,-,q0,q1,q2,q3,q4⟩:=set_at (hrw.out w5 HW5.out).1.sets.2.2 HSN.out hks
      simp only at hsa
      subst hsa
      have hx:=(hrw.out w5 HW5.out).1.eachS _ (List.getElem_mem hkl)
      have hzx:=HZ.out.eachS _ (List.getElem_mem hkl)
      have HV:Hid (askI ⟨nm,qu,nx,⟨some ad,sn,s3,sl⟩,⟨g1,gn,g3,gl⟩,⟨t1,tn,t3,tl⟩,⟨l1,ln,l3,ll⟩⟩ p n false=((k:Int),findN (sl[k]'hkl).snaps.l n,0)):=by
       show _=_
       unfold askI
       rw [if_neg (by rw [← HE.out];decide),if_neg HNB.out]
       simp only [h2,h1]
      obtain ⟨x,hxx⟩:∃ x,x=sl[k]'hkl:=⟨_,rfl⟩
      rw [← hxx] at q0 q1 q2 q3 q4 hx hzx HV
      clear hxx h1 h2
      have hc:=snapAt_any (.string ⟨x.path.toArray⟩) (.string ⟨x.org.toArray⟩) (.slice x.body.A x.body.n x.body.c) (.slice x.own.A x.own.n x.own.c) x.snaps.l x.snaps.n hx.snaps.1 x.snaps.A x.snaps.c n w5 B hx.snaps.2.2 (by have:=(hrw.out w5 HW5.out).2.1;omega) (by have:=hzx.snaps;omega)
      obtain ⟨pa,og,⟨bA,bnn,bc,bl⟩,⟨zA,zn,zc,zl⟩,⟨oA,on,oc,ol⟩⟩:=x
      simp only at q0 q1 q2 q3 q4 hc HV
      obtain ⟨c0,c1,c2,c3,c4,c5,c6⟩:=hT.out _ HW5.out
      clear hx hzx hrw
      go_wp2_with fail
      refine hc.mono ?_
      clear hc c0 c1 c2 c3 c4 c5 c6 q0 q1 q2 q3 q4
      rintro e w6 ⟨rfl,hb6⟩
      go_wp2_with fail
      refine bodyPost_ret (v:=.tuple #[.int .i64 (k:Int),.int .i64 (findN zl n),.int .i64 0]) (by simp [results,Tryz.results62,go_sem]) rfl ⟨?_,HB1.out.trans ((HW5.out.trans (hb6.mono HW5.out.size)).mono (by have:=HSZ1.out;omega))⟩
      rw [HV.out]
      rfl
 ·go_wp2_with fail
  refine bodyPost_ret (v:=.tuple #[.int .i64 0,.int .i64 0,.int .i64 9]) (by simp [results,Tryz.results62,go_sem]) rfl ⟨?_,HB1.out.trans (HW2.out.mono (by have:=HSZ1.out;omega))⟩
  unfold askI
  rw [if_pos HE.out.symm]
  rfl
end Go.Proofs.YtmladblmknbgnaaGreatDoor
namespace Go.Proofs.YtmladblmknbgnaaGreatDoor
open Go.RowKit
/-- what holds.found tells: places and an error -/
def holdI (t:TenR) (p n g:BS):Int×Int×Int :=
 if tenE t=9 then (0,0,9) else if pathB p=false∨nameB n=false∨nameB g=false then (0,0,31) else
  match t.sets.l.find? (fun s=>s.path == p) with
  | none=>(0,0,71)
  | some s=>if findN s.snaps.l n<0 then (0,0,71) else (findS t.sets.l p,findN s.snaps.l n,0)
set_option maxRecDepth 100000 in
set_option maxHeartbeats 4000000 in
theorem hfound_any (t:TenR) (p n g:BS) (w:World) (B:Nat) (hB:B≤w.heap.size) (hr:t.rd w B) (hz:t.sz) (hp:p.length≤4000000000) (hmx:HasMax w) :
  Calls Tryz.prog 117 #[t.val,.string ⟨p.toArray⟩,.string ⟨n.toArray⟩,.string ⟨g.toArray⟩] w fun e w'=>e=.returned (askV (holdI t p n g))∧Below w.heap.size w w':=by
 have h2:=tenE_09 t
 obtain ⟨nm,qu,nx,⟨s1,sn,s3,sl⟩,⟨g1,gn,g3,gl⟩,⟨t1,tn,t3,tl⟩,⟨l1,ln,l3,ll⟩⟩:=t
 show Calls Tryz.prog 117 #[.agg #[.string ⟨nm.toArray⟩,.int .i64 qu,.int .i64 nx,.slice s1 sn s3,.slice g1 gn g3,.slice t1 tn t3,.slice l1 ln l3],.string ⟨p.toArray⟩,.string ⟨n.toArray⟩,.string ⟨g.toArray⟩] w _
 have hb1:=(Below.refl w.heap.size w).alloc (Nat.le_refl _) (.cells #[.string ⟨nm.toArray⟩,.int .i64 qu,.int .i64 nx,.slice s1 sn s3,.slice g1 gn g3,.slice t1 tn t3,.slice l1 ln l3] 27)
 have kT:=Blk.new w 27 #[.string ⟨nm.toArray⟩,.int .i64 qu,.int .i64 nx,.slice s1 sn s3,.slice g1 gn g3,.slice t1 tn t3,.slice l1 ln l3]
 obtain ⟨W1,hW1⟩:∃ W,W=w.alloc (.cells #[.string ⟨nm.toArray⟩,.int .i64 qu,.int .i64 nx,.slice s1 sn s3,.slice g1 gn g3,.slice t1 tn t3,.slice l1 ln l3] 27):=⟨_,rfl⟩
 have hsz1:W1.heap.size=w.heap.size+1:=by rw [hW1];simp
 rw [← hW1] at hb1 kT
 have hT:=Lib.hid (fun (W':World) (hB':Below W1.heap.size W1 W')=>(⟨(kT.below hB' (by omega)).cell 0,(kT.below hB' (by omega)).cell 1,(kT.below hB' (by omega)).cell 2,(kT.below hB' (by omega)).cell 3,(kT.below hB' (by omega)).cell 4,(kT.below hB' (by omega)).cell 5,(kT.below hB' (by omega)).cell 6⟩:W'.cell? ⟨w.heap.size,0,none⟩=some (.string ⟨nm.toArray⟩)∧W'.cell? ⟨w.heap.size,1,none⟩=some (.int .i64 qu)∧W'.cell? ⟨w.heap.size,2,none⟩=some (.int .i64 nx)∧W'.cell? ⟨w.heap.size,3,none⟩=some (.slice s1 sn s3)∧W'.cell? ⟨w.heap.size,4,none⟩=some (.slice g1 gn g3)∧W'.cell? ⟨w.heap.size,5,none⟩=some (.slice t1 tn t3)∧W'.cell? ⟨w.heap.size,6,none⟩=some (.slice l1 ln l3)))
 have hrw:Hid (∀ W,Below W1.heap.size W1 W→TenR.rd W B ⟨nm,qu,nx,⟨s1,sn,s3,sl⟩,⟨g1,gn,g3,gl⟩,⟨t1,tn,t3,tl⟩,⟨l1,ln,l3,ll⟩⟩∧w.heap.size<W.heap.size∧HasMax W∧Below w.heap.size w W):=by
  show ∀ W,_→_
  intro W h
  have h1:=hb1.trans (h.mono (by omega))
  exact ⟨TenR.rd.below hr (h1.mono hB),by have:=h.size;omega,hmx.below h1,h1⟩
 have HZ:=Lib.hid hz
 have HSN:=Lib.hid (show sn=sl.length from hr.sets.1)
 have hTC:Hid (∀ W,Below W1.heap.size W1 W→Calls Tryz.prog 76 #[.agg #[.string ⟨nm.toArray⟩,.int .i64 qu,.int .i64 nx,.slice s1 sn s3,.slice g1 gn g3,.slice t1 tn t3,.slice l1 ln l3]] W fun e w'=>e=.returned (.int .i64 (tenE ⟨nm,qu,nx,⟨s1,sn,s3,sl⟩,⟨g1,gn,g3,gl⟩,⟨t1,tn,t3,tl⟩,⟨l1,ln,l3,ll⟩⟩))∧Below W.heap.size W w'):=fun W hb =>
  tcheck_any ⟨nm,qu,nx,⟨s1,sn,s3,sl⟩,⟨g1,gn,g3,gl⟩,⟨t1,tn,t3,tl⟩,⟨l1,ln,l3,ll⟩⟩ W B (hrw.out W hb).1 (by have:=(hrw.out W hb).2.1;omega) hz (hrw.out W hb).2.2.1
 have hPA:Hid (∀ W,Below W1.heap.size W1 W→Calls Tryz.prog 112 #[.string ⟨p.toArray⟩] W fun e w'=>e=.returned (.bool (pathB p))∧Below W.heap.size W w'):=fun W hb=>path_any ⟨p.toArray⟩ W (by simpa [ByteArray.size] using hp) (hrw.out W hb).2.2.1
 have hNA:Hid (∀ W,Calls Tryz.prog 115 #[.string ⟨n.toArray⟩] W fun e w'=>e=.returned (.bool (nameB n))∧Below W.heap.size W w'):=fun W=>name_any ⟨n.toArray⟩ W
 have hCN:Hid (∀ W,Calls Tryz.prog 115 #[.string ⟨g.toArray⟩] W fun e w'=>e=.returned (.bool (nameB g))∧Below W.heap.size W w'):=fun W=>name_any ⟨g.toArray⟩ W
 have hFD:Hid (∀ W,Below W1.heap.size W1 W→Calls Tryz.prog 75 #[.agg #[.string ⟨nm.toArray⟩,.int .i64 qu,.int .i64 nx,.slice s1 sn s3,.slice g1 gn g3,.slice t1 tn t3,.slice l1 ln l3],.string ⟨p.toArray⟩] W fun e w'=>e=.returned (.int .i64 (findS sl p))∧Below W.heap.size W w'):=fun W hb =>
  find_any _ _ _ _ _ _ sl sn HSN.out s1 s3 p W B (hrw.out W hb).1.sets.2.2 (by have:=(hrw.out W hb).2.1;omega) (by have:=hz.sets;simp only at this;omega)
 obtain ⟨E,hE⟩:∃ E,E=tenE ⟨nm,qu,nx,⟨s1,sn,s3,sl⟩,⟨g1,gn,g3,gl⟩,⟨t1,tn,t3,tl⟩,⟨l1,ln,l3,ll⟩⟩:=⟨_,rfl⟩
 rw [← hE] at h2 hTC
 have HE:=Lib.hid hE
 obtain ⟨bad,hbad⟩:∃ b,b=nameB g:=⟨_,rfl⟩
 rw [← hbad] at hCN
 have HBG:=Lib.hid hbad
 obtain ⟨bp,hbp⟩:∃ b,b=pathB p:=⟨_,rfl⟩
 rw [← hbp] at hPA
 obtain ⟨bn,hbn⟩:∃ b,b=nameB n:=⟨_,rfl⟩
 rw [← hbn] at hNA
 have HBP:=Lib.hid hbp
 have HBN:=Lib.hid hbn
 have HB1:=Lib.hid hb1
 have HSZ1:=Lib.hid hsz1
 have hc:=hTC.out W1 (Below.refl _ _)
 obtain ⟨c0,c1,c2,c3,c4,c5,c6⟩:=hT.out _ (Below.refl _ _)
 clear hb1 kT hr hz hsz1 hmx hTC hE hbad hbp hbn
 go_enter Tryz.func117,Tryz.ntmps117
 go_wp2_with fail
 rw [← hW1]
 clear hW1
 refine hc.mono ?_
 clear hc c0 c1 c2 c3 c4 c5 c6
 rintro e w2 ⟨rfl,hb2⟩
 have HW2:=Lib.hid hb2
 clear hb2
 rcases h2 with rfl | rfl
 ·have hc:=hPA.out w2 HW2.out
  clear hPA
  go_wp2_with fail
  refine hc.mono ?_
  clear hc
  rintro e w3 ⟨rfl,hb3⟩
  have HW3:=Lib.hid (HW2.out.trans (hb3.mono HW2.out.size))
  clear hb3 HW2
  cases bp with
  | false =>
   go_wp2_with fail
   refine bodyPost_ret (v:=.tuple #[.int .i64 0,.int .i64 0,.int .i64 31]) (by simp [results,Tryz.results117,go_sem]) rfl ⟨?_,HB1.out.trans (HW3.out.mono (by have:=HSZ1.out;omega))⟩
   unfold holdI
   rw [if_neg (by rw [← HE.out];decide),if_pos (.inl HBP.out.symm)]
   rfl
  | true =>
   have hc:=hNA.out w3
   clear hNA
   go_wp2_with fail
   refine hc.mono ?_
   clear hc
   rintro e w4 ⟨rfl,hb4⟩
   have HW4:=Lib.hid (HW3.out.trans (hb4.mono HW3.out.size))
   clear hb4 HW3
   cases bn with
   | false =>
    go_wp2_with fail
    refine bodyPost_ret (v:=.tuple #[.int .i64 0,.int .i64 0,.int .i64 31]) (by simp [results,Tryz.results117,go_sem]) rfl ⟨?_,HB1.out.trans (HW4.out.mono (by have:=HSZ1.out;omega))⟩
    unfold holdI
    rw [if_neg (by rw [← HE.out];decide),if_pos (.inr (.inl HBN.out.symm))]
    rfl
   | true =>
    have hc:=hCN.out w4
    clear hCN
    go_wp2_with fail
    refine hc.mono ?_
    clear hc
    rintro e w4' ⟨rfl,hb4'⟩
    have HW4:=Lib.hid (HW4.out.trans (hb4'.mono HW4.out.size))
    clear hb4'
    cases bad with
    | false =>
     go_wp2_with fail
     refine bodyPost_ret (v:=.tuple #[.int .i64 0,.int .i64 0,.int .i64 31]) (by simp [results,Tryz.results117,go_sem]) rfl ⟨?_,HB1.out.trans (HW4.out.mono (by have:=HSZ1.out;omega))⟩
     unfold holdI
     rw [if_neg (by rw [← HE.out];decide),if_pos (.inr (.inr HBG.out.symm))]
     rfl
    | true =>
     have hnb:¬ (pathB p=false∨nameB n=false∨nameB g=false):=by rw [← HBP.out,← HBN.out,← HBG.out];simp
     have HNB:=Lib.hid hnb
     have hc:=hFD.out w4' HW4.out
     obtain ⟨c0,c1,c2,c3,c4,c5,c6⟩:=hT.out _ HW4.out
     clear hFD hnb
     go_wp2_with fail
     refine hc.mono ?_
     clear hc c0 c1 c2 c3 c4 c5 c6
     rintro e w5 ⟨rfl,hb5⟩
     have HW5:=Lib.hid (HW4.out.trans (hb5.mono HW4.out.size))
     clear hb5 HW4
     rcases firstI_cases (fun s:SetR=>s.path == p) sl with ⟨h1,h2⟩ | ⟨k,hkl,h1,h2⟩
     ·have h1:findS sl p=-1:=h1
      rw [h1]
      go_wp2_with fail
      refine bodyPost_ret (v:=.tuple #[.int .i64 0,.int .i64 0,.int .i64 71]) (by simp [results,Tryz.results117,go_sem]) rfl ⟨?_,HB1.out.trans (HW5.out.mono (by have:=HSZ1.out;omega))⟩
      unfold holdI
      rw [if_neg (by rw [← HE.out];decide),if_neg HNB.out]
      simp only [h2]
      rfl
     ·have h1:findS sl p=(k:Int):=h1
      rw [h1]
      have hk0:¬ (k:Int)<0:=by omega
      have hk00:(0:Int)≤(k:Int):=by omega
      have hks:k<sn:=by have:=HSN.out;omega
      have hki:(k:Int)<(sn:Int):=by omega
      obtain ⟨ad,hsa,-,q0,q1,q2,q3,q4⟩:=set_at (hrw.out w5 HW5.out).1.sets.2.2 HSN.out hks
      simp only at hsa
      subst hsa
      have hx:=(hrw.out w5 HW5.out).1.eachS _ (List.getElem_mem hkl)
      have hzx:=HZ.out.eachS _ (List.getElem_mem hkl)
      have HV:Hid (holdI ⟨nm,qu,nx,⟨some ad,sn,s3,sl⟩,⟨g1,gn,g3,gl⟩,⟨t1,tn,t3,tl⟩,⟨l1,ln,l3,ll⟩⟩ p n g=if findN (sl[k]'hkl).snaps.l n<0 then (0,0,71) else ((k:Int),findN (sl[k]'hkl).snaps.l n,0)):=by
       show _=_
       unfold holdI
       rw [if_neg (by rw [← HE.out];decide),if_neg HNB.out]
       simp only [h2,h1]
      obtain ⟨x,hxx⟩:∃ x,x=sl[k]'hkl:=⟨_,rfl⟩
      rw [← hxx] at q0 q1 q2 q3 q4 hx hzx HV
      clear hxx h1 h2
      have hc:=snapAt_any (.string ⟨x.path.toArray⟩) (.string ⟨x.org.toArray⟩) (.slice x.body.A x.body.n x.body.c) (.slice x.own.A x.own.n x.own.c) x.snaps.l x.snaps.n hx.snaps.1 x.snaps.A x.snaps.c n w5 B hx.snaps.2.2 (by have:=(hrw.out w5 HW5.out).2.1;omega) (by have:=hzx.snaps;omega)
      obtain ⟨pa,og,⟨bA,bnn,bc,bl⟩,⟨zA,zn,zc,zl⟩,⟨oA,on,oc,ol⟩⟩:=x
      simp only at q0 q1 q2 q3 q4 hc HV
      obtain ⟨c0,c1,c2,c3,c4,c5,c6⟩:=hT.out _ HW5.out
      clear hx hzx hrw
      go_wp2_with fail
      refine hc.mono ?_
      clear hc c0 c1 c2 c3 c4 c5 c6 q0 q1 q2 q3 q4
      rintro e w6 ⟨rfl,hb6⟩
      obtain ⟨fv,hfv⟩:∃ v,v=findN zl n:=⟨_,rfl⟩
      rw [← hfv] at HV ⊢
      clear hfv
      by_cases hf:fv<0
      ·have HV1:=Lib.hid (HV.out.trans (if_pos hf))
       clear HV
       go_wp2_with fail
       refine bodyPost_ret (v:=.tuple #[.int .i64 0,.int .i64 0,.int .i64 71]) (by simp [results,Tryz.results117,go_sem]) rfl ⟨?_,HB1.out.trans ((HW5.out.trans (hb6.mono HW5.out.size)).mono (by have:=HSZ1.out;omega))⟩
       rw [HV1.out]
       rfl
      ·have HV1:=Lib.hid (HV.out.trans (if_neg hf))
       clear HV
       go_wp2_with fail
       refine bodyPost_ret (v:=.tuple #[.int .i64 (k:Int),.int .i64 fv,.int .i64 0]) (by simp [results,Tryz.results117,go_sem]) rfl ⟨?_,HB1.out.trans ((HW5.out.trans (hb6.mono HW5.out.size)).mono (by have:=HSZ1.out;omega))⟩
       rw [HV1.out]
       rfl
 ·go_wp2_with fail
  refine bodyPost_ret (v:=.tuple #[.int .i64 0,.int .i64 0,.int .i64 9]) (by simp [results,Tryz.results117,go_sem]) rfl ⟨?_,HB1.out.trans (HW2.out.mono (by have:=HSZ1.out;omega))⟩
  unfold holdI
  rw [if_pos HE.out.symm]
  rfl
end Go.Proofs.YtmladblmknbgnaaGreatDoor
