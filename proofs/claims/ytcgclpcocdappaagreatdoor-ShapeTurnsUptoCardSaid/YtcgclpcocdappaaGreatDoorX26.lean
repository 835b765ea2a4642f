/-
  shape.With: a tenant with a set more. The closures of shape.Write, Free, Set and Unset: one field of a set is turned. The page's New: the root alone. What is told of tenants, laid side by side: two of one content are the same. shape.Create: an empty set more.
-/
import Derived.Test.YtcgclpcocdappaaGreatDoorXM1
import Derived.Test.YtcgclpcocdappaaGreatDoorX0
import Derived.Test.YtcgclpcocdappaaGreatDoorX25
import Derived.Test.YtcgclpcocdappaaGreatDoorX4
import Derived.Test.YtcgclpcocdappaaGreatDoorX23
import Derived.Test.YtcgclpcocdappaaGreatDoorX7
import Derived.Test.YtcgclpcocdappaaGreatDoorX11
import Derived.Test.YtcgclpcocdappaaGreatDoorX16
import Derived.Test.YtcgclpcocdappaaGreatDoorX3
import Derived.Test.YtcgclpcocdappaaGreatDoorX20
import Derived.Test.YtcgclpcocdappaaGreatDoorX22
import Derived.Test.YtcgclpcocdappaaGreatDoorX8
namespace Go.Proofs.YtcgclpcocdappaaGreatDoor
open Go.RowKit
theorem encSet_one (x:SetR):∀ u∈encSet x,u.oneCell'=true:=by intro u hu;simp [encSet,strV,FS.val] at hu;rcases hu with rfl | rfl | rfl | rfl | rfl <;> rfl
set_option maxRecDepth 100000 in
set_option maxHeartbeats 4000000 in
theorem with_any (t:TenR) (s:SetR) (w:World) (B base:Nat) (hB:B≤w.heap.size) (hr:t.rd w B) (hz:t.sz) (hs:SetO w base s) (hbs:base≤w.heap.size) (hlt:t.sets.n≤1000000000) (hasc:SignAsc (fun x:SetR=>cmpS x.path s.path) t.sets.l) :
  Calls Tryz.prog 82 #[t.val,.agg (encSet s).toArray] w fun e w'=>∃ y:TenR,e=.returned y.val∧TenO w' base y∧y.con=t.con.withS s.con∧Below w.heap.size w w':=by
 obtain ⟨nm,qu,nx,⟨s1,sn,s3,sl⟩,⟨u1,un,u3,ul⟩,⟨t1,tn,t3,tl⟩,⟨l1,ln,l3,ll⟩⟩:=t
 obtain ⟨pa,og,⟨bA,bn,bc,bl⟩,⟨zA,zn,zc,zl⟩,⟨oA,on,oc,ol⟩⟩:=s
 show Calls Tryz.prog 82 #[.agg #[.string ⟨nm.toArray⟩,.int .i64 qu,.int .i64 nx,.slice s1 sn s3,.slice u1 un u3,.slice t1 tn t3,.slice l1 ln l3],.agg #[.string ⟨pa.toArray⟩,.string ⟨og.toArray⟩,.slice bA bn bc,.slice zA zn zc,.slice oA on oc]] w _
 have hb3:=((((Below.refl w.heap.size w).alloc (Nat.le_refl _) (.cells #[.string ⟨nm.toArray⟩,.int .i64 qu,.int .i64 nx,.slice s1 sn s3,.slice u1 un u3,.slice t1 tn t3,.slice l1 ln l3] 27)).alloc tZ3 (.cells #[.string ⟨pa.toArray⟩,.string ⟨og.toArray⟩,.slice bA bn bc,.slice zA zn zc,.slice oA on oc] 42)).alloc tZ6 (.cells #[.string ⟨#[]⟩,.int .i64 0,.int .i64 0,.slice none 0 0,.slice none 0 0,.slice none 0 0,.slice none 0 0] 27))
 have kT:=((Blk.new w 27 #[.string ⟨nm.toArray⟩,.int .i64 qu,.int .i64 nx,.slice s1 sn s3,.slice u1 un u3,.slice t1 tn t3,.slice l1 ln l3]).alloc (.cells #[.string ⟨pa.toArray⟩,.string ⟨og.toArray⟩,.slice bA bn bc,.slice zA zn zc,.slice oA on oc] 42)).alloc (.cells #[.string ⟨#[]⟩,.int .i64 0,.int .i64 0,.slice none 0 0,.slice none 0 0,.slice none 0 0,.slice none 0 0] 27)
 have kS:=(Blk.new (w.alloc (.cells #[.string ⟨nm.toArray⟩,.int .i64 qu,.int .i64 nx,.slice s1 sn s3,.slice u1 un u3,.slice t1 tn t3,.slice l1 ln l3] 27)) 42 #[.string ⟨pa.toArray⟩,.string ⟨og.toArray⟩,.slice bA bn bc,.slice zA zn zc,.slice oA on oc]).alloc (.cells #[.string ⟨#[]⟩,.int .i64 0,.int .i64 0,.slice none 0 0,.slice none 0 0,.slice none 0 0,.slice none 0 0] 27)
 have kZ:=Blk.new ((w.alloc (.cells #[.string ⟨nm.toArray⟩,.int .i64 qu,.int .i64 nx,.slice s1 sn s3,.slice u1 un u3,.slice t1 tn t3,.slice l1 ln l3] 27)).alloc (.cells #[.string ⟨pa.toArray⟩,.string ⟨og.toArray⟩,.slice bA bn bc,.slice zA zn zc,.slice oA on oc] 42)) 27 #[.string ⟨#[]⟩,.int .i64 0,.int .i64 0,.slice none 0 0,.slice none 0 0,.slice none 0 0,.slice none 0 0]
 rw [show (w.alloc (.cells #[.string ⟨nm.toArray⟩,.int .i64 qu,.int .i64 nx,.slice s1 sn s3,.slice u1 un u3,.slice t1 tn t3,.slice l1 ln l3] 27)).heap.size=w.heap.size+1 by simp] at kS
 rw [show ((w.alloc (.cells #[.string ⟨nm.toArray⟩,.int .i64 qu,.int .i64 nx,.slice s1 sn s3,.slice u1 un u3,.slice t1 tn t3,.slice l1 ln l3] 27)).alloc (.cells #[.string ⟨pa.toArray⟩,.string ⟨og.toArray⟩,.slice bA bn bc,.slice zA zn zc,.slice oA on oc] 42)).heap.size=w.heap.size+2 by simp] at kZ
 have hsz3:(((w.alloc (.cells #[.string ⟨nm.toArray⟩,.int .i64 qu,.int .i64 nx,.slice s1 sn s3,.slice u1 un u3,.slice t1 tn t3,.slice l1 ln l3] 27)).alloc (.cells #[.string ⟨pa.toArray⟩,.string ⟨og.toArray⟩,.slice bA bn bc,.slice zA zn zc,.slice oA on oc] 42)).alloc (.cells #[.string ⟨#[]⟩,.int .i64 0,.int .i64 0,.slice none 0 0,.slice none 0 0,.slice none 0 0,.slice none 0 0] 27)).heap.size=w.heap.size+3:=tZ3
 obtain ⟨W3,hW3⟩:∃ W,W=(((w.alloc (.cells #[.string ⟨nm.toArray⟩,.int .i64 qu,.int .i64 nx,.slice s1 sn s3,.slice u1 un u3,.slice t1 tn t3,.slice l1 ln l3] 27)).alloc (.cells #[.string ⟨pa.toArray⟩,.string ⟨og.toArray⟩,.slice bA bn bc,.slice zA zn zc,.slice oA on oc] 42)).alloc (.cells #[.string ⟨#[]⟩,.int .i64 0,.int .i64 0,.slice none 0 0,.slice none 0 0,.slice none 0 0,.slice none 0 0] 27)):=⟨_,rfl⟩
 rw [← hW3] at hb3 kT kS kZ hsz3
 have hCP:Hid (Calls Tryz.prog 44 #[.agg #[.string ⟨nm.toArray⟩,.int .i64 qu,.int .i64 nx,.slice s1 sn s3,.slice u1 un u3,.slice t1 tn t3,.slice l1 ln l3]] W3 fun e w'=>∃ y:TenR,e=.returned y.val∧TenO w' W3.heap.size y∧TenR.eqv ⟨nm,qu,nx,⟨s1,sn,s3,sl⟩,⟨u1,un,u3,ul⟩,⟨t1,tn,t3,tl⟩,⟨l1,ln,l3,ll⟩⟩ y∧Below W3.heap.size W3 w') :=
  tcopy_any ⟨nm,qu,nx,⟨s1,sn,s3,sl⟩,⟨u1,un,u3,ul⟩,⟨t1,tn,t3,tl⟩,⟨l1,ln,l3,ll⟩⟩ W3 B tZ1 (TenR.rd.below hr (hb3.mono hB)) hz
 have HSN:=Lib.hid (show sl.length≤1000000000 by have h:=hr.sets.1;simp only at h hlt;omega)
 have HASC:=Lib.hid hasc
 have HSO3:=Lib.hid (hs.below (hb3.mono (Nat.le_refl _)))
 have HB3:=Lib.hid hb3
 have KS3:=Lib.hid kS
 have KZ3:=Lib.hid kZ
 have HSZ3:=Lib.hid hsz3
 have HBS:=Lib.hid hbs
 obtain ⟨c0,c1,c2,c3,c4,c5,c6⟩:=(⟨kT.cell 0,kT.cell 1,kT.cell 2,kT.cell 3,kT.cell 4,kT.cell 5,kT.cell 6⟩:_∧_∧_∧_∧_∧_∧_)
 simp only [zF,zD,zE] at c0 c1 c2 c3 c4 c5 c6
 clear hb3 kS kZ hr hz hs hlt hasc hsz3 kT hbs
 go_enter Tryz.func82,Tryz.ntmps82
 go_wp2_with fail
 rw [← hW3]
 clear hW3
 refine hCP.out.mono ?_
 clear hCP c0 c1 c2 c3 c4 c5 c6
 rintro e w4 ⟨y,rfl,ho4,he4,hb4⟩
 have HCON:=Lib.hid ((TenR.eqv_iff _ _).1 he4)
 have HE4:=Lib.hid he4
 have hY2:y.sets.n≤1000000000:=by
  have h1:=he4.lenS
  have h2:=ho4.sets.1
  simp only at h1
  have:=HSN.out
  omega
 have hYA:SignAsc (fun x:SetR=>cmpS x.path pa) y.sets.l:=by
  refine asc_eqv _ _ pa ?_ HASC.out
  have h:=congrArg (fun c:TenC=>c.sets.map SetC.path) HCON.out
  simpa [TenR.con,List.map_map,SetR.con,Function.comp_def] using h
 have HYA:=Lib.hid hYA
 obtain ⟨mm,mq,mx,⟨m1,m2,m3,ml⟩,⟨n1,n2,n3,nl⟩,⟨p1,p2,p3,pl⟩,⟨q1,q2,q3,ql⟩⟩:=y
 simp only [TenR.val,TenR.cells,FS.val,strV]
 have hszb:=HSZ3.out
 have hsz4:=hb4.size
 have kz4:=KZ3.out.below hb4 KZ3.out.lt
 have ks4:=KS3.out.below hb4 KS3.out.lt
 have hbw4:=HB3.out.trans (hb4.mono tZ1)
 have hso4:=HSO3.out.below hb4
 have ho5:=ho4.below ((Below.refl w4.heap.size w4).alloc (Nat.le_refl _) (.cells #[.string ⟨mm.toArray⟩,.int .i64 mq,.int .i64 mx,.slice m1 m2 m3,.slice n1 n2 n3,.slice p1 p2 p3,.slice q1 q2 q3] 27))
 have k5:=Blk.new w4 27 #[.string ⟨mm.toArray⟩,.int .i64 mq,.int .i64 mx,.slice m1 m2 m3,.slice n1 n2 n3,.slice p1 p2 p3,.slice q1 q2 q3]
 have kz5:=kz4.alloc (.cells #[.string ⟨mm.toArray⟩,.int .i64 mq,.int .i64 mx,.slice m1 m2 m3,.slice n1 n2 n3,.slice p1 p2 p3,.slice q1 q2 q3] 27)
 have ks5:=ks4.alloc (.cells #[.string ⟨mm.toArray⟩,.int .i64 mq,.int .i64 mx,.slice m1 m2 m3,.slice n1 n2 n3,.slice p1 p2 p3,.slice q1 q2 q3] 27)
 have hbw5:=hbw4.alloc tZ1 (.cells #[.string ⟨mm.toArray⟩,.int .i64 mq,.int .i64 mx,.slice m1 m2 m3,.slice n1 n2 n3,.slice p1 p2 p3,.slice q1 q2 q3] 27)
 have hso5:=hso4.below ((Below.refl w4.heap.size w4).alloc (Nat.le_refl _) (.cells #[.string ⟨mm.toArray⟩,.int .i64 mq,.int .i64 mx,.slice m1 m2 m3,.slice n1 n2 n3,.slice p1 p2 p3,.slice q1 q2 q3] 27))
 have hsz5:(w4.alloc (.cells #[.string ⟨mm.toArray⟩,.int .i64 mq,.int .i64 mx,.slice m1 m2 m3,.slice n1 n2 n3,.slice p1 p2 p3,.slice q1 q2 q3] 27)).heap.size=w4.heap.size+1:=tZ3
 have hset:∀ g,(FS.val (⟨m1,m2,m3,ml⟩:FS SetR)).ownBlock=some g→w.heap.size+3≤g∧g<w4.heap.size:=fun g e=>by
  have:=ho4.sets.2.lt _ e
  omega
 have HSET:=Lib.hid hset
 have HSZ4:=Lib.hid (show w.heap.size+3≤w4.heap.size by omega)
 obtain ⟨g5,hg5⟩:∃ g,g=w4.heap.size:=⟨_,rfl⟩
 go_wp2_with (refine wpList_store_new w4 rfl 27 (.tmp 5) (.tmp 9) rfl 27 [.string ⟨#[]⟩,.int .i64 0,.int .i64 0,.slice none 0 0,.slice none 0 0,.slice none 0 0,.slice none 0 0] [.string ⟨mm.toArray⟩,.int .i64 mq,.int .i64 mx,.slice m1 m2 m3,.slice n1 n2 n3,.slice p1 p2 p3,.slice q1 q2 q3] rfl rfl rfl tZ2 tZ5 ?_;obtain ⟨W5,hW5⟩:∃ W,W=w4.alloc (.cells #[.string ⟨mm.toArray⟩,.int .i64 mq,.int .i64 mx,.slice m1 m2 m3,.slice n1 n2 n3,.slice p1 p2 p3,.slice q1 q2 q3] 27):=⟨_,rfl⟩;rw [show ([.string ⟨mm.toArray⟩,.int .i64 mq,.int .i64 mx,.slice m1 m2 m3,.slice n1 n2 n3,.slice p1 p2 p3,.slice q1 q2 q3]:List Value).toArray=#[.string ⟨mm.toArray⟩,.int .i64 mq,.int .i64 mx,.slice m1 m2 m3,.slice n1 n2 n3,.slice p1 p2 p3,.slice q1 q2 q3] from rfl,← hW5];rw [← hW5] at ho5 k5 kz5 ks5 hbw5 hso5 hsz5;have HO5:=Lib.hid ho5;have K5:=Lib.hid k5;have KZ5:=Lib.hid kz5;have KS5:=Lib.hid ks5;have HB5:=Lib.hid hbw5;have HSO5:=Lib.hid hso5;have HSZ5:=Lib.hid hsz5;have HG5:=Lib.hid hg5;have d3:=k5.cell 3;have e0:=ks5.cell 0;simp only [zF,zD,zE] at d3 e0;rw [← hg5] at d3 ⊢;have hcS:=Lib.hid (searchSets_any ml pa HYA.out m2 ho5.sets.1 m1 m3 W5 W5.heap.size ho5.rd.sets.2.2 (Nat.le_refl _) (by have h:=hY2;simp only at h;omega));clear hW5 hb4 ho4 ho5 k5 kz5 ks5 hbw5 hso5 hsz5 kz4 ks4 hbw4 hso4 hset HSO3 KZ3 KS3 HB3 hg5)
 refine hcS.out.mono ?_
 clear hcS
 rintro e w6 ⟨rfl,hb6⟩
 obtain ⟨i,hi⟩:∃ i,i=posF (fun s:SetR=>cmpS s.path pa) ml:=⟨_,rfl⟩
 rw [← hi]
 have hil:i≤m2:=by have h:=HO5.out.sets.1;simp only at h;rw [hi];have:=posF_le (fun s:SetR=>cmpS s.path pa) ml;omega
 have HI:=Lib.hid hi
 have HIL:=Lib.hid hil
 have hsz5:=HSZ5.out
 have hsz6:=hb6.size
 have HSZ6:=Lib.hid (show w.heap.size+3≤w6.heap.size∧g5<w6.heap.size by have:=HG5.out;omega)
 have ho6:=HO5.out.below hb6
 have k6:=K5.out.below hb6 K5.out.lt
 have kz6:=KZ5.out.below hb6 KZ5.out.lt
 have ks6:=KS5.out.below hb6 KS5.out.lt
 have hbw6:=HB5.out.trans (hb6.mono tZ1)
 have hso6:=HSO5.out.below hb6
 have ho7:=ho6.below ((Below.refl w6.heap.size w6).alloc (Nat.le_refl _) (.cells #[.string ⟨pa.toArray⟩,.string ⟨og.toArray⟩,.slice bA bn bc,.slice zA zn zc,.slice oA on oc] 42))
 have kn7:=Blk.new w6 42 #[.string ⟨pa.toArray⟩,.string ⟨og.toArray⟩,.slice bA bn bc,.slice zA zn zc,.slice oA on oc]
 have k7:=k6.alloc (.cells #[.string ⟨pa.toArray⟩,.string ⟨og.toArray⟩,.slice bA bn bc,.slice zA zn zc,.slice oA on oc] 42)
 have kz7:=kz6.alloc (.cells #[.string ⟨pa.toArray⟩,.string ⟨og.toArray⟩,.slice bA bn bc,.slice zA zn zc,.slice oA on oc] 42)
 have hbw7:=hbw6.alloc tZ1 (.cells #[.string ⟨pa.toArray⟩,.string ⟨og.toArray⟩,.slice bA bn bc,.slice zA zn zc,.slice oA on oc] 42)
 have hso7:=hso6.below ((Below.refl w6.heap.size w6).alloc (Nat.le_refl _) (.cells #[.string ⟨pa.toArray⟩,.string ⟨og.toArray⟩,.slice bA bn bc,.slice zA zn zc,.slice oA on oc] 42))
 have hsz7:(w6.alloc (.cells #[.string ⟨pa.toArray⟩,.string ⟨og.toArray⟩,.slice bA bn bc,.slice zA zn zc,.slice oA on oc] 42)).heap.size=w6.heap.size+1:=tZ3
 have d3:=k6.cell 3
 obtain ⟨e0,e1,e2,e3,e4⟩:=(⟨ks6.cell 0,ks6.cell 1,ks6.cell 2,ks6.cell 3,ks6.cell 4⟩:_∧_∧_∧_∧_)
 simp only [zF,zD,zE] at e0 e1 e2 e3 e4
 simp only [zF,zD,zE] at d3
 rw [← HG5.out] at d3
 have hbs:=HBS.out
 have hsz3:=HSZ3.out
 have hcI:Hid (Calls Tryz.prog 148 #[.slice m1 m2 m3,.int .i64 (i:Int),.slice (some ⟨w6.heap.size,0,none⟩) 1 1] (w6.alloc (.cells #[.string ⟨pa.toArray⟩,.string ⟨og.toArray⟩,.slice bA bn bc,.slice zA zn zc,.slice oA on oc] 42)) fun e w' =>
    ∃ v,e=.returned v∧w'.ownsRow base 42 5 v (m2+1) ((cellsK encSet ml).take (i*5)++(encSet ⟨pa,og,⟨bA,bn,bc,bl⟩,⟨zA,zn,zc,zl⟩,⟨oA,on,oc,ol⟩⟩)++(cellsK encSet ml).drop (i*5))∧(w6.alloc (.cells #[.string ⟨pa.toArray⟩,.string ⟨og.toArray⟩,.slice bA bn bc,.slice zA zn zc,.slice oA on oc] 42)).grownBy w' (Value.slice m1 m2 m3).ownBlock) :=
  insSet_any (news:=#[.string ⟨pa.toArray⟩,.string ⟨og.toArray⟩,.slice bA bn bc,.slice zA zn zc,.slice oA on oc]) rfl tZ5 (cellsK encSet ml) (cells_one encSet_one ml) w6.heap.size 42 base m2 i m1 m3 _ hil (own_mono ho7.sets.2 tZ1) tZ1 (by have h:=hY2;omega) kn7 (fun e=>by have:=(ho6.sets.2.lt _ e).2;omega)
 clear hb6 hbs hsz3 hi hil hsz5 hsz6 HO5 K5 KZ5 KS5 HB5 HSO5 HSZ5 HYA ho6 k6 kz6 ks6 hbw6 hso6
 obtain ⟨W7,hW7⟩:∃ W,W=w6.alloc (.cells #[.string ⟨pa.toArray⟩,.string ⟨og.toArray⟩,.slice bA bn bc,.slice zA zn zc,.slice oA on oc] 42):=⟨_,rfl⟩
 rw [← hW7] at ho7 k7 kz7 hbw7 hso7 hsz7 hcI kn7
 have HO7:=Lib.hid ho7
 have K7:=Lib.hid k7
 have KZ7:=Lib.hid kz7
 have HB7:=Lib.hid hbw7
 have HSO7:=Lib.hid hso7
 have HSZ7:=Lib.hid hsz7
 clear ho7 k7 kz7 hbw7 hso7 hsz7 kn7
 go_wp2_with fail
 rw [← hW7]
 clear hW7
 refine hcI.out.mono ?_
 clear hcI
 rintro e w8 ⟨v,rfl,hv8,hg8⟩
 obtain ⟨v1,v3,rfl,_⟩:=own_form hv8
 obtain ⟨W9,hW9⟩:∃ W,W=w8.setCell ⟨g5,3,none⟩ (.slice v1 (m2+1) v3):=⟨_,rfl⟩
 have hne5:some g5≠(Value.slice m1 m2 m3).ownBlock:=fun e=>by have:=(HSET.out g5 e.symm).2;have:=HG5.out;omega
 have hneZ:some (w.heap.size+2)≠(Value.slice m1 m2 m3).ownBlock:=fun e=>by have:=(HSET.out _ e.symm).1;omega
 have k8:Blk w8 g5 27 #[.string ⟨mm.toArray⟩,.int .i64 mq,.int .i64 mx,.slice m1 m2 m3,.slice n1 n2 n3,.slice p1 p2 p3,.slice q1 q2 q3]:=by have:=K7.out;rw [← HG5.out] at this;exact this.grown hg8 hne5
 have kz8:=KZ7.out.grown hg8 hneZ
 have hb8:Below w.heap.size w w8:=HB7.out.grown hg8 (by have:=HSZ7.out;have:=HSZ6.out;omega) (fun k hk=>by have:=(HSET.out k hk).1;omega)
 have hsz8:=hg8.size
 have hY:Hid (∃ y:TenR,y.val=.agg #[.string ⟨mm.toArray⟩,.int .i64 mq,.int .i64 mx,.slice v1 (m2+1) v3,.slice n1 n2 n3,.slice p1 p2 p3,.slice q1 q2 q3]∧TenO w8 base y∧y.con=TenC.withS (TenR.con ⟨nm,qu,nx,⟨s1,sn,s3,sl⟩,⟨u1,un,u3,ul⟩,⟨t1,tn,t3,tl⟩,⟨l1,ln,l3,ll⟩⟩) (SetR.con ⟨pa,og,⟨bA,bn,bc,bl⟩,⟨zA,zn,zc,zl⟩,⟨oA,on,oc,ol⟩⟩)):=by
  have hms:m2=ml.length:=HO7.out.sets.1
  have hrow:cellsK encSet (ml.take i++[⟨pa,og,⟨bA,bn,bc,bl⟩,⟨zA,zn,zc,zl⟩,⟨oA,on,oc,ol⟩⟩]++ml.drop i)=(cellsK encSet ml).take (i*5)++(encSet ⟨pa,og,⟨bA,bn,bc,bl⟩,⟨zA,zn,zc,zl⟩,⟨oA,on,oc,ol⟩⟩)++(cellsK encSet ml).drop (i*5):=by
   rw [cellsK_append,cellsK_append,cellsK_take (enc:=encSet) (k:=5) (fun _=>rfl),cellsK_drop (enc:=encSet) (k:=5) (fun _=>rfl),cellsK_one]
  have hlen:(ml.take i++[(⟨pa,og,⟨bA,bn,bc,bl⟩,⟨zA,zn,zc,zl⟩,⟨oA,on,oc,ol⟩⟩:SetR)]++ml.drop i).length=m2+1:=by
   have:=HIL.out
   exact mZ212
  have hk:∀ z:SetR,SetO W7 base z→SetO w8 base z:=fun z hz=>by
   cases he:(Value.slice m1 m2 m3).ownBlock with
   | none=>rw [he] at hg8;exact hz.below ⟨hg8.os,hg8.tape,hg8.output,hg8.size,fun k hk=>hg8.block k hk tZ3⟩
   | some g =>
    rw [he] at hg8
    obtain ⟨h1,h2⟩:=HSET.out g he
    rcases HO7.out.sets.2.2 with ⟨e,_⟩ | ⟨g',cap,cur,e,_,hh,_⟩
    ·rw [show (Value.slice m1 m2 m3)=.slice none 0 0 from e] at he;simp [Value.ownBlock] at he
    ·rw [show (Value.slice m1 m2 m3)=.slice (some ⟨g',0,none⟩) m2 cap from e] at he
     have he:g'=g:=tZ124
     subst he
     exact hz.keptS hg8 (show Blk W7 g' 42 cur from hh)
  refine ⟨⟨mm,mq,mx,⟨v1,m2+1,v3,ml.take i++[⟨pa,og,⟨bA,bn,bc,bl⟩,⟨zA,zn,zc,zl⟩,⟨oA,on,oc,ol⟩⟩]++ml.drop i⟩,⟨n1,n2,n3,nl⟩,⟨p1,p2,p3,pl⟩,⟨q1,q2,q3,ql⟩⟩,rfl,?_,?_⟩
  ·refine TenO.setsO (HO7.out.mono (base':=base) tZ111) ⟨v1,m2+1,v3,ml.take i++[⟨pa,og,⟨bA,bn,bc,bl⟩,⟨zA,zn,zc,zl⟩,⟨oA,on,oc,ol⟩⟩]++ml.drop i⟩ hg8 ⟨hlen.symm,?_⟩ ?_
   ·show World.ownsRow _ _ _ _ _ _ (cellsK encSet (ml.take i++[⟨pa,og,⟨bA,bn,bc,bl⟩,⟨zA,zn,zc,zl⟩,⟨oA,on,oc,ol⟩⟩]++ml.drop i))
    rw [hrow]
    exact hv8
   ·intro z hz
    simp only [List.mem_append,List.mem_cons,List.not_mem_nil,or_false] at hz
    rcases hz with (hz | rfl) | hz
    ·exact hk z ((HO7.out.eachS z (List.mem_of_mem_take hz)).mono tZ111)
    ·exact hk _ HSO7.out
    ·exact hk z ((HO7.out.eachS z (List.mem_of_mem_drop hz)).mono tZ111)
  ·rw [HCON.out,HI.out]
   exact con_withS ⟨mm,mq,mx,⟨m1,m2,m3,ml⟩,⟨n1,n2,n3,nl⟩,⟨p1,p2,p3,pl⟩,⟨q1,q2,q3,ql⟩⟩ ⟨pa,og,⟨bA,bn,bc,bl⟩,⟨zA,zn,zc,zl⟩,⟨oA,on,oc,ol⟩⟩ v1 (m2+1) v3
 obtain ⟨y,hyv,hyo,hyc⟩:=hY.out
 have hb9:=hb8.setCell (p:=⟨g5,3,none⟩) (by have:=HSZ6.out;have:=HG5.out;have:=HSZ4.out;simp only;omega) (.slice v1 (m2+1) v3)
 have k9:=k8.set_ 3 (.slice v1 (m2+1) v3)
 have kz9:=kz8.far (p:=⟨g5,3,none⟩) (by have:=HG5.out;have:=HSZ4.out;simp only;omega) (.slice v1 (m2+1) v3)
 have hyo9:=hyo.keptT (grown_box w8 g5 3 (.slice v1 (m2+1) v3)) k8 offT_ten
 simp only [List.setIfInBounds_toArray,zC,zB] at k9
 obtain ⟨W9,hW9⟩:∃ W,W=w8.setCell ⟨g5,3,none⟩ (.slice v1 (m2+1) v3):=⟨_,rfl⟩
 rw [← hW9] at hb9 k9 kz9 hyo9
 have HB9:=Lib.hid hb9
 have KZ9:=Lib.hid kz9
 have HYO9:=Lib.hid hyo9
 have HYV:=Lib.hid hyv
 have HYC:=Lib.hid hyc
 obtain ⟨d0,d1,d2,d3,d4,d5,d6⟩:=(⟨k9.cell 0,k9.cell 1,k9.cell 2,k9.cell 3,k9.cell 4,k9.cell 5,k9.cell 6⟩:_∧_∧_∧_∧_∧_∧_)
 simp only [zF,zD,zE] at d0 d1 d2 d3 d4 d5 d6
 have hth8:=k8.cell 3
 have hfz8:=k8.frozen 3
 simp only [zF,zD,zE] at hth8
 clear hb8 k8 kz8 hv8 hg8 hY hyo hyc hyv hb9 kz9 hyo9 hne5 hneZ hsz8 K7 KZ7 HB7 HSO7 HO7 HSET k9
 go_upto_region 4 with (fail)
 rw [← hW9]
 clear hW9 hth8 hfz8
 obtain ⟨WR,hW4,hth,HL,HBW,hgw⟩:=res7 (g:=(w.heap.size+2)) [.string ⟨mm.toArray⟩,.int .i64 mq,.int .i64 mx,.slice v1 (m2+1) v3,.slice n1 n2 n3,.slice p1 p2 p3,.slice q1 q2 q3] KZ9.out HB9.out tZ1
 have HOO:=Lib.hid (TenO.keptT HYO9.out hgw KZ9.out offT_ten)
 clear hgw
 go_wp2_with (refine wpList_store_mid rfl 27 (.tmp 4) (.tmp 25) rfl ((w.heap.size+2)) 0 #[.string ⟨mm.toArray⟩,.int .i64 mq,.int .i64 mx,.slice v1 (m2+1) v3,.slice n1 n2 n3,.slice p1 p2 p3,.slice q1 q2 q3] rfl rfl hth.out tZ2 tZ5 ?_;rw [← hW4];clear hW4)
 exact bodyPost_ret (v:=.agg #[.string ⟨mm.toArray⟩,.int .i64 mq,.int .i64 mx,.slice v1 (m2+1) v3,.slice n1 n2 n3,.slice p1 p2 p3,.slice q1 q2 q3]) (results_cell rfl rfl HL.out) rfl ⟨y,by rw [HYV.out],HOO.out,HYC.out,HBW.out⟩
end Go.Proofs.YtcgclpcocdappaaGreatDoor
namespace Go.Proofs.YtcgclpcocdappaaGreatDoor
open Go.RowKit
set_option maxRecDepth 100000 in
set_option maxHeartbeats 4000000 in
theorem writeC_any (g o:Nat) (A:Option Addr) (n c:Nat) (l:List BlkT) (i:Int) (d:BS) (p1 p2:Addr) (w:World) (B:Nat) (hc:w.cell? ⟨g,o+2,none⟩=some (.slice A n c)) (hf:w.frozen? ⟨g,o+2,none⟩=false) (hg:g<w.heap.size)
  (hr:Reads w B 2 A n (cellsK encB l)) (hnl:n=l.length) (hB:B≤w.heap.size) (hn:n≤1000000000000) (h1:w.cell? p1=some (.int .i64 i)) (h2:w.cell? p2=some (.string ⟨d.toArray⟩)) :
  Calls Tryz.prog 86 #[.pointer (some ⟨g,o,none⟩),.pointer (some p1),.pointer (some p2)] w fun e w'=>∃ W v,e=.returned (.int .i64 (putE l i d))∧w'=W.setCell ⟨g,o+2,none⟩ v∧Below w.heap.size w W∧(putE l i d=0→W.ownsRow w.heap.size 75 2 v (putL11 l i d).length (cellsK encB (putL11 l i d))):=by
 have hcl:Hid (Calls Tryz.prog 87 #[.slice A n c,.int .i64 i,.string ⟨d.toArray⟩] w.drew fun e w'=>∃ A1 n1 c1,e=.returned (.tuple #[.slice A1 n1 c1,.int .i64 (putE l i d)])∧Below w.heap.size w w'∧(putE l i d=0→w'.ownsRow w.heap.size 75 2 (.slice A1 n1 c1) (putL11 l i d).length (cellsK encB (putL11 l i d)))):=by
  refine (bkPut_any l n hnl A c i d w.drew B (hr.below ((Below.refl _ w).drew)) hB tZ1).mono ?_
  exact mZ215
 obtain ⟨E,hE⟩:∃ E,E=putE l i d:=⟨_,rfl⟩
 rw [← hE] at hcl ⊢
 clear hE hr hnl hn
 go_enter Tryz.func86,Tryz.ntmps86
 exact mZ213
set_option maxRecDepth 100000 in
set_option maxHeartbeats 4000000 in
theorem freeC_any (g o:Nat) (A:Option Addr) (n c:Nat) (l:List BlkT) (i ct:Int) (p1 p2:Addr) (w:World) (B:Nat) (hc:w.cell? ⟨g,o+2,none⟩=some (.slice A n c)) (hf:w.frozen? ⟨g,o+2,none⟩=false) (hg:g<w.heap.size)
  (hr:Reads w B 2 A n (cellsK encB l)) (hnl:n=l.length) (hB:B≤w.heap.size) (hn:n≤1000000000000) (h1:w.cell? p1=some (.int .i64 i)) (h2:w.cell? p2=some (.int .i64 ct)) :
  Calls Tryz.prog 88 #[.pointer (some ⟨g,o,none⟩),.pointer (some p1),.pointer (some p2)] w fun e w'=>∃ W v,e=.returned (.int .i64 (freeE l i ct))∧w'=W.setCell ⟨g,o+2,none⟩ v∧Below w.heap.size w W∧(freeE l i ct=0→W.ownsRow w.heap.size 75 2 v (freeL l i ct).length (cellsK encB (freeL l i ct))):=by
 have hcl:Hid (Calls Tryz.prog 89 #[.slice A n c,.int .i64 i,.int .i64 ct] w.drew fun e w'=>∃ A1 n1 c1,e=.returned (.tuple #[.slice A1 n1 c1,.int .i64 (freeE l i ct)])∧Below w.heap.size w w'∧(freeE l i ct=0→w'.ownsRow w.heap.size 75 2 (.slice A1 n1 c1) (freeL l i ct).length (cellsK encB (freeL l i ct)))):=by
  refine (bkFree_any l n hnl A c i ct w.drew B (hr.below ((Below.refl _ w).drew)) hB tZ1).mono ?_
  rintro e w' ⟨v,rfl,h1,h2⟩
  obtain ⟨A1,c1,rfl,_⟩:=own_form h1
  exact ⟨A1,_,c1,rfl,⟨h2.os,h2.tape,h2.output,h2.size,h2.block⟩,fun h=>by unfold freeR at h1 ⊢;rw [if_pos h] at h1 ⊢;exact h1⟩
 obtain ⟨E,hE⟩:∃ E,E=freeE l i ct:=⟨_,rfl⟩
 rw [← hE] at hcl ⊢
 clear hE hr hnl hn
 go_enter Tryz.func88,Tryz.ntmps88
 exact mZ213
set_option maxRecDepth 100000 in
set_option maxHeartbeats 4000000 in
theorem setC_any (g o:Nat) (A:Option Addr) (n c:Nat) (l:List (BS×BS)) (nm tx:BS) (p1 p2:Addr) (w:World) (B:Nat) (hc:w.cell? ⟨g,o+4,none⟩=some (.slice A n c)) (hf:w.frozen? ⟨g,o+4,none⟩=false) (hg:g<w.heap.size)
  (hr:Reads w B 2 A n (cellsK encP l)) (hnl:n=l.length) (hB:B≤w.heap.size) (hn:n≤1000000000000) (hv:∀ x∈l,x.2.length≤140737488351232) (htx:tx.length≤140737488351232) (h1:w.cell? p1=some (.string ⟨nm.toArray⟩)) (h2:w.cell? p2=some (.string ⟨tx.toArray⟩)) :
  Calls Tryz.prog 90 #[.pointer (some ⟨g,o,none⟩),.pointer (some p1),.pointer (some p2)] w fun e w'=>∃ W v,e=.returned (.int .i64 (setE l nm tx))∧w'=W.setCell ⟨g,o+4,none⟩ v∧Below w.heap.size w W∧(setE l nm tx=0→W.ownsRow w.heap.size 78 2 v (putP (nm,tx) l).length (cellsK encP (putP (nm,tx) l))):=by
 have hcl:Hid (Calls Tryz.prog 91 #[.slice A n c,.string ⟨nm.toArray⟩,.string ⟨tx.toArray⟩] w.drew fun e w'=>∃ A1 n1 c1,e=.returned (.tuple #[.slice A1 n1 c1,.int .i64 (setE l nm tx)])∧Below w.heap.size w w'∧(setE l nm tx=0→w'.ownsRow w.heap.size 78 2 (.slice A1 n1 c1) (putP (nm,tx) l).length (cellsK encP (putP (nm,tx) l)))):=by
  refine (set_any l n hnl A c nm tx w.drew B (hr.below ((Below.refl _ w).drew)) hB tZ1 hv htx).mono ?_
  exact mZ215
 obtain ⟨E,hE⟩:∃ E,E=setE l nm tx:=⟨_,rfl⟩
 rw [← hE] at hcl ⊢
 clear hE hr hnl hn hv htx
 go_enter Tryz.func90,Tryz.ntmps90
 exact mZ216
set_option maxRecDepth 100000 in
set_option maxHeartbeats 4000000 in
theorem unsetC_any (g o:Nat) (A:Option Addr) (n c:Nat) (l:List (BS×BS)) (nm:BS) (p1:Addr) (w:World) (B:Nat) (hc:w.cell? ⟨g,o+4,none⟩=some (.slice A n c)) (hf:w.frozen? ⟨g,o+4,none⟩=false) (hg:g<w.heap.size)
  (hr:Reads w B 2 A n (cellsK encP l)) (hnl:n=l.length) (hB:B≤w.heap.size) (hn:n≤1000000000000) (hv:∀ x∈l,x.2.length≤140737488351232) (h1:w.cell? p1=some (.string ⟨nm.toArray⟩)) :
  Calls Tryz.prog 92 #[.pointer (some ⟨g,o,none⟩),.pointer (some p1)] w fun e w'=>∃ W v,e=.returned (.int .i64 (unsetE l nm))∧w'=W.setCell ⟨g,o+4,none⟩ v∧Below w.heap.size w W∧(unsetE l nm=0→W.ownsRow w.heap.size 78 2 v (dropP nm l).length (cellsK encP (dropP nm l))):=by
 have hcl:Hid (Calls Tryz.prog 93 #[.slice A n c,.string ⟨nm.toArray⟩] w.drew fun e w'=>∃ A1 n1 c1,e=.returned (.tuple #[.slice A1 n1 c1,.int .i64 (unsetE l nm)])∧Below w.heap.size w w'∧(unsetE l nm=0→w'.ownsRow w.heap.size 78 2 (.slice A1 n1 c1) (dropP nm l).length (cellsK encP (dropP nm l)))):=by
  refine (unset_any l n hnl A c nm w.drew B (hr.below ((Below.refl _ w).drew)) hB tZ1 hv).mono ?_
  exact mZ215
 obtain ⟨E,hE⟩:∃ E,E=unsetE l nm:=⟨_,rfl⟩
 rw [← hE] at hcl ⊢
 clear hE hr hnl hn hv
 go_enter Tryz.func92,Tryz.ntmps92
 exact mZ216
end Go.Proofs.YtcgclpcocdappaaGreatDoor
namespace Go.Proofs.YtcgclpcocdappaaGreatDoor
open Go.RowKit
def new0C (q:Int):TenC:=⟨[116],q,1,[set0C []],[],[],[]⟩
set_option maxRecDepth 100000 in
set_option maxHeartbeats 2000000 in
theorem rnew_any (q:Int) (h0:0<q) (h1:q≤1099511627776) (w:World) :
  Calls Tryz.prog 40 #[.string ⟨#[116]⟩,.int .i64 q] w fun e w'=>∃ y:TenR,e=.returned (.tuple #[y.val,.int .i64 0])∧TenO w' w.heap.size y∧y.con=new0C q∧Below w.heap.size w w':=by
 have hb:=((Below.refl w.heap.size w).alloc (Nat.le_refl _) (.cells #[.string ⟨#[]⟩,.int .i64 0,.int .i64 0,.slice none 0 0,.slice none 0 0,.slice none 0 0,.slice none 0 0] 27))
 have kz:=Blk.new w 27 #[.string ⟨#[]⟩,.int .i64 0,.int .i64 0,.slice none 0 0,.slice none 0 0,.slice none 0 0,.slice none 0 0]
 have hsz:(w.alloc (.cells #[.string ⟨#[]⟩,.int .i64 0,.int .i64 0,.slice none 0 0,.slice none 0 0,.slice none 0 0,.slice none 0 0] 27)).heap.size=w.heap.size+1:=tZ3
 obtain ⟨W1,hW1⟩:∃ W,W=(w.alloc (.cells #[.string ⟨#[]⟩,.int .i64 0,.int .i64 0,.slice none 0 0,.slice none 0 0,.slice none 0 0,.slice none 0 0] 27)):=⟨_,rfl⟩
 rw [← hW1] at hb hsz kz
 have hKz:Hid (∀ W,Below W1.heap.size W1 W→Blk W w.heap.size 27 #[.string ⟨#[]⟩,.int .i64 0,.int .i64 0,.slice none 0 0,.slice none 0 0,.slice none 0 0,.slice none 0 0]):=fun W h=>kz.below h tZ1
 have hBW:Hid (∀ W,Below W1.heap.size W1 W→Below w.heap.size w W):=fun W h=>hb.trans (h.mono tZ1)
 have hSZ:Hid (∀ W,Below W1.heap.size W1 W→w.heap.size+1≤W.heap.size):=fun W h=>by have:=h.size;omega
 have hW0:Hid (Below W1.heap.size W1 W1):=Below.refl _ _
 have hNM:Hid (∀ W,Below W1.heap.size W1 W→Calls Tryz.prog 63 #[.string ⟨#[116]⟩] W fun e w'=>e=.returned (.bool true)∧Below W.heap.size W w'):=fun W _=>by
  have h:=refNameB_any [116] W tZ4
  rw [show nameB [116]=true by decide +kernel] at h
  exact h
 have hAM:Hid (∀ W,Below W1.heap.size W1 W→Calls Tryz.prog 64 #[.int .i64 q,.int .i64 0] W fun e w'=>e=.returned (.bool true)∧Below W.heap.size W w'):=fun W _=>by
  have h:=refAmountB_any q 0 W
  rw [show amt q 0=true by unfold amt;simp;omega] at h
  exact h
 have hq0:¬ q=0:=tZ1
 clear hb hsz kz
 go_enter Tryz.func40,Tryz.ntmps40
 have hc:=hNM.out  W1 hW0.out
 go_wp2_with fail
 rw [← hW1]
 clear hW1
 refine hc.mono ?_
 clear hc
 rintro e w2 ⟨rfl,hb⟩
 have HW2:=Lib.hid (hW0.out.trans (hb.mono hW0.out.size))
 clear hb
 have hc:=hAM.out  w2 HW2.out
 go_wp2_with fail
 refine hc.mono ?_
 clear hc
 rintro e w3 ⟨rfl,hb⟩
 have HW3:=Lib.hid (HW2.out.trans (hb.mono HW2.out.size))
 clear hb
 have kz:=(hKz.out w3 HW3.out).alloc (.cells #[.string ⟨#[]⟩,.string ⟨#[]⟩,.slice none 0 0,.slice none 0 0,.slice none 0 0] 42)
 have kr:=Blk.new w3 42 #[.string ⟨#[]⟩,.string ⟨#[]⟩,.slice none 0 0,.slice none 0 0,.slice none 0 0]
 have hb:=(hBW.out w3 HW3.out).alloc tZ169 (.cells #[.string ⟨#[]⟩,.string ⟨#[]⟩,.slice none 0 0,.slice none 0 0,.slice none 0 0] 42)
 have hszr:(w3.alloc (.cells #[.string ⟨#[]⟩,.string ⟨#[]⟩,.slice none 0 0,.slice none 0 0,.slice none 0 0] 42)).heap.size=w3.heap.size+1:=tZ3
 obtain ⟨W4,hW4'⟩:∃ W,W=w3.alloc (.cells #[.string ⟨#[]⟩,.string ⟨#[]⟩,.slice none 0 0,.slice none 0 0,.slice none 0 0] 42):=⟨_,rfl⟩
 rw [← hW4'] at kz kr hb hszr
 have KZ:=Lib.hid kz
 have HB:=Lib.hid hb
 have HSZ3:=Lib.hid (show w.heap.size+1≤w3.heap.size∧W4.heap.size=w3.heap.size+1 by have:=hSZ.out w3 HW3.out;omega)
 have HO:Hid (TenO W4 w.heap.size ⟨[116],q,1,⟨some ⟨w3.heap.size,0,none⟩,1,1,[⟨[],[],⟨none,0,0,[]⟩,⟨none,0,0,[]⟩,⟨none,0,0,[]⟩⟩]⟩,⟨none,0,0,[]⟩,⟨none,0,0,[]⟩,⟨none,0,0,[]⟩⟩):=by
  show TenO _ _ _
  refine ⟨⟨rfl,own_of_row (cap:=1) (cur:=[.string ⟨#[]⟩,.string ⟨#[]⟩,.slice none 0 0,.slice none 0 0,.slice none 0 0]) kr (by have:=HSZ3.out;omega) (Nat.le_refl _) tZ4 rfl rfl⟩,fun y hy=>?_,⟨rfl,rfl,.inl ⟨rfl,rfl⟩⟩,⟨rfl,rfl,.inl ⟨rfl,rfl⟩⟩,fun y hy=>absurd hy tZ3,⟨rfl,rfl,.inl ⟨rfl,rfl⟩⟩⟩
  rw [List.mem_singleton] at hy
  subst hy
  exact ⟨⟨rfl,rfl,.inl ⟨rfl,rfl⟩⟩,⟨rfl,rfl,.inl ⟨rfl,rfl⟩⟩,fun y hy=>absurd hy tZ3,⟨rfl,rfl,.inl ⟨rfl,rfl⟩⟩⟩
 clear kz kr hb hszr
 go_upto_region 7 with (fail)
 obtain ⟨WR,hW4,hth,HL,HBW,hgw⟩:=res7 (g:=w.heap.size) [.string ⟨#[116]⟩,.int .i64 q,.int .i64 1,.slice (some ⟨w3.heap.size,0,none⟩) 1 1,.slice none 0 0,.slice none 0 0,.slice none 0 0] KZ.out HB.out tZ1
 have HOO:=Lib.hid (TenO.keptT HO.out hgw KZ.out offT_ten)
 clear hgw
 go_wp2_with ((try rw [← hW4']);refine wpList_store_mid rfl 27 (.tmp 4) (.tmp 24) rfl (w.heap.size) 0 #[.string ⟨#[116]⟩,.int .i64 q,.int .i64 1,.slice (some ⟨w3.heap.size,0,none⟩) 1 1,.slice none 0 0,.slice none 0 0,.slice none 0 0] rfl rfl hth.out tZ2 tZ5 ?_;rw [← hW4];clear hW4)
 exact bodyPost_ret (v:=.tuple #[.agg #[.string ⟨#[116]⟩,.int .i64 q,.int .i64 1,.slice (some ⟨w3.heap.size,0,none⟩) 1 1,.slice none 0 0,.slice none 0 0,.slice none 0 0],.int .i64 0]) (results_cell_tmp rfl rfl HL.out) rfl ⟨⟨[116],q,1,⟨some ⟨w3.heap.size,0,none⟩,1,1,[⟨[],[],⟨none,0,0,[]⟩,⟨none,0,0,[]⟩,⟨none,0,0,[]⟩⟩]⟩,⟨none,0,0,[]⟩,⟨none,0,0,[]⟩,⟨none,0,0,[]⟩⟩,rfl,HOO.out,rfl,HBW.out⟩
end Go.Proofs.YtcgclpcocdappaaGreatDoor
namespace Go.Proofs.YtcgclpcocdappaaGreatDoor
open Go.RowKit
def ten0C:TenC:=⟨[],0,0,[],[],[],[]⟩
theorem ten0C_sz:ten0C.sz:=⟨by simp [ten0C],by simp [ten0C],by simp [ten0C],by simp [ten0C],by simp [ten0C],by simp [ten0C],by simp [ten0C],by simp [ten0C],by simp [ten0C]⟩
def ten0R:TenR:=⟨[],0,0,⟨none,0,0,[]⟩,⟨none,0,0,[]⟩,⟨none,0,0,[]⟩,⟨none,0,0,[]⟩⟩
theorem rd_nil {α:Type} {w:World} {B k:Nat} {enc:α→List Value}:FS.rd w B k enc ⟨none,0,0,[]⟩:=⟨rfl,Nat.le_refl _,Reads.none_⟩
/-- the content of what is told: an error's is the zero one -/
def tenOr (r:Int×TenC):TenC:=if r.1=0 then r.2 else ten0C
theorem tenOr_sz {r:Int×TenC} (h:r.1=0→r.2.sz):(tenOr r).sz:=by
 unfold tenOr
 split
 ·exact h (by assumption)
 ·exact ten0C_sz
theorem TenPost.all {w w':World} {c:Int×TenC} {e:Ending} (h:TenPost w c e w'):∃ y:TenR,e=.returned (.tuple #[y.val,.int .i64 c.1])∧Below w.heap.size w w'∧y.rd w' w'.heap.size∧y.con=tenOr c:=by
 obtain ⟨v,rfl,hb,h⟩:=h
 unfold tenOr
 rcases h with ⟨h1,rfl⟩ | ⟨h1,y,rfl,h2,h3⟩
 ·exact ⟨ten0R,rfl,hb,⟨rd_nil,fun y hy=>(by cases hy),rd_nil,rd_nil,fun y hy=>(by cases hy),rd_nil⟩,by rw [if_neg h1];rfl⟩
 ·exact ⟨y,rfl,hb,h2.rd,by rw [if_pos h1];exact h3⟩
/-- a value is a tenant of this content, in this world and in all that keep what it holds -/
def SaysT (a:Value) (W0:World) (c:TenC):Prop:=∃ y:TenR,a=y.val∧y.con=c∧∀ W,Below W0.heap.size W0 W→y.rd W W0.heap.size
theorem same_said {a b:Value} {W0 W1 W:World} {c:TenC} (ha:SaysT a W0 c) (hb:SaysT b W1 c) (hz:c.sz) (h0:Below W0.heap.size W0 W) (h1:Below W1.heap.size W1 W) :
  Calls Tryz.prog 21 #[a,b] W fun e w'=>e=.returned (.bool true)∧Below W.heap.size W w':=by
 obtain ⟨x,rfl,hx,hxr⟩:=ha
 obtain ⟨y,rfl,hy,hyr⟩:=hb
 have h2:=(hxr W h0).more h0.size
 have h3:=(hyr W h1).more h1.size
 exact same14_any x y ((TenR.eqv_iff _ _).2 (hx.trans hy.symm)) W W.heap.size (Nat.le_refl _) h2 h3 (TenR.sz_of h2 (by rw [hx];exact hz))
end Go.Proofs.YtcgclpcocdappaaGreatDoor
namespace Go.Proofs.YtcgclpcocdappaaGreatDoor
open Go.RowKit
theorem set0R_o (w:World) (base:Nat) (p:BS):SetO w base ⟨p,[],⟨none,0,0,[]⟩,⟨none,0,0,[]⟩,⟨none,0,0,[]⟩⟩ :=
 ⟨⟨rfl,rfl,.inl ⟨rfl,rfl⟩⟩,⟨rfl,rfl,.inl ⟨rfl,rfl⟩⟩,fun y hy=>absurd hy tZ3,⟨rfl,rfl,.inl ⟨rfl,rfl⟩⟩⟩
set_option maxRecDepth 100000 in
set_option maxHeartbeats 4000000 in
theorem create_any (t:TenR) (p:BS) (w:World) (B:Nat) (hB:B≤w.heap.size) (hr:t.rd w B) (hz:t.sz) (hp:p.length≤4000000000) (hmx:HasMax w) :
  Calls Tryz.prog 94 #[t.val,.string ⟨p.toArray⟩] w (TenPost w (t.con.create p)):=by
 have h3:t.con.ask p=0∨t.con.ask p=9∨t.con.ask p=31:=tZ42
 obtain ⟨V,hV⟩:∃ V,V=t.con.create p:=⟨_,rfl⟩
 have hVe:V=if t.con.ask p≠0 then (t.con.ask p,t.con) else if 0≤findS t.sets.l p then (6,t.con) else if findS t.sets.l (upL p)<0 then (71,t.con) else if t.sets.l.length=32 then (3,t.con) else (t.con.withS (set0C p)).settle:=by
  rw [hV,findS_con,findS_con]
  unfold TenC.create
  rw [show t.con.sets.length=t.sets.l.length from List.length_map ..]
 rw [← hV]
 have hask:=askP_con t p
 have hord:t.con.ask p=0→t.sets.l.length≤32∧SignAsc (fun s:SetR=>cmpS s.path p) t.sets.l∧pathB p=true:=fun h=>by
  have h0:tenE t=0:=by
   rcases tenE_09 t with h1 | h1
   ·exact h1
   ·rw [← hask] at h
    unfold askP at h
    rw [if_pos h1] at h
    cases h
  have h1:=tenE_ord t h0
  refine ⟨h1.1,pairs_asc _ h1.2 p,?_⟩
  rw [← hask] at h
  unfold askP at h
  rw [if_neg (by rw [h0];decide)] at h
  cases hpb:pathB p with
  | true=>rfl
  | false=>rw [if_pos hpb] at h;cases h
 have hcz:=TenC.sz_of hr hz
 obtain ⟨nm,qu,nx,⟨s1,sn,s3,sl⟩,⟨u1,un,u3,ul⟩,⟨t1,tn,t3,tl⟩,⟨l1,ln,l3,ll⟩⟩:=t
 show Calls Tryz.prog 94 #[.agg #[.string ⟨nm.toArray⟩,.int .i64 qu,.int .i64 nx,.slice s1 sn s3,.slice u1 un u3,.slice t1 tn t3,.slice l1 ln l3],.string ⟨p.toArray⟩] w _
 have hb:=(((Below.refl w.heap.size w).alloc (Nat.le_refl _) (.cells #[.string ⟨nm.toArray⟩,.int .i64 qu,.int .i64 nx,.slice s1 sn s3,.slice u1 un u3,.slice t1 tn t3,.slice l1 ln l3] 27)).alloc tZ3 (.cells #[.string ⟨#[]⟩,.int .i64 0,.int .i64 0,.slice none 0 0,.slice none 0 0,.slice none 0 0,.slice none 0 0] 27))
 have kt:=Blk.new w 27 #[.string ⟨nm.toArray⟩,.int .i64 qu,.int .i64 nx,.slice s1 sn s3,.slice u1 un u3,.slice t1 tn t3,.slice l1 ln l3]
 replace kt:=kt.alloc (.cells #[.string ⟨#[]⟩,.int .i64 0,.int .i64 0,.slice none 0 0,.slice none 0 0,.slice none 0 0,.slice none 0 0] 27)
 have kz:=Blk.new (w.alloc (.cells #[.string ⟨nm.toArray⟩,.int .i64 qu,.int .i64 nx,.slice s1 sn s3,.slice u1 un u3,.slice t1 tn t3,.slice l1 ln l3] 27)) 27 #[.string ⟨#[]⟩,.int .i64 0,.int .i64 0,.slice none 0 0,.slice none 0 0,.slice none 0 0,.slice none 0 0]
 rw [show (w.alloc (.cells #[.string ⟨nm.toArray⟩,.int .i64 qu,.int .i64 nx,.slice s1 sn s3,.slice u1 un u3,.slice t1 tn t3,.slice l1 ln l3] 27)).heap.size=w.heap.size+1 by simp] at kz
 have hsz:((w.alloc (.cells #[.string ⟨nm.toArray⟩,.int .i64 qu,.int .i64 nx,.slice s1 sn s3,.slice u1 un u3,.slice t1 tn t3,.slice l1 ln l3] 27)).alloc (.cells #[.string ⟨#[]⟩,.int .i64 0,.int .i64 0,.slice none 0 0,.slice none 0 0,.slice none 0 0,.slice none 0 0] 27)).heap.size=w.heap.size+2:=tZ3
 obtain ⟨W1,hW1⟩:∃ W,W=((w.alloc (.cells #[.string ⟨nm.toArray⟩,.int .i64 qu,.int .i64 nx,.slice s1 sn s3,.slice u1 un u3,.slice t1 tn t3,.slice l1 ln l3] 27)).alloc (.cells #[.string ⟨#[]⟩,.int .i64 0,.int .i64 0,.slice none 0 0,.slice none 0 0,.slice none 0 0,.slice none 0 0] 27)):=⟨_,rfl⟩
 rw [← hW1] at hb hsz kt kz
 have hKt:Hid (∀ W,Below W1.heap.size W1 W→Blk W w.heap.size 27 #[.string ⟨nm.toArray⟩,.int .i64 qu,.int .i64 nx,.slice s1 sn s3,.slice u1 un u3,.slice t1 tn t3,.slice l1 ln l3]):=fun W h=>kt.below h tZ1
 have hKz:Hid (∀ W,Below W1.heap.size W1 W→Blk W (w.heap.size+1) 27 #[.string ⟨#[]⟩,.int .i64 0,.int .i64 0,.slice none 0 0,.slice none 0 0,.slice none 0 0,.slice none 0 0]):=fun W h=>kz.below h tZ1
 have hBW:Hid (∀ W,Below W1.heap.size W1 W→Below w.heap.size w W):=fun W h=>hb.trans (h.mono tZ1)
 have hSZ:Hid (∀ W,Below W1.heap.size W1 W→w.heap.size+2≤W.heap.size):=fun W h=>by have:=h.size;omega
 have hW0:Hid (Below W1.heap.size W1 W1):=Below.refl _ _
 have hrw:Hid (∀ W,Below W1.heap.size W1 W→TenR.rd W B ⟨nm,qu,nx,⟨s1,sn,s3,sl⟩,⟨u1,un,u3,ul⟩,⟨t1,tn,t3,tl⟩,⟨l1,ln,l3,ll⟩⟩∧B≤W.heap.size∧HasMax W):=fun W h =>
  ⟨TenR.rd.below hr ((hBW.out W h).mono hB),by have:=hSZ.out W h;omega,hmx.below (hBW.out W h)⟩
 obtain ⟨C,hC⟩:∃ C,C=TenR.con ⟨nm,qu,nx,⟨s1,sn,s3,sl⟩,⟨u1,un,u3,ul⟩,⟨t1,tn,t3,tl⟩,⟨l1,ln,l3,ll⟩⟩:=⟨_,rfl⟩
 have hHC:=Lib.hid hC
 rw [← hC] at h3 hVe hask hord hcz
 have hAS:Hid (∀ W,Below W1.heap.size W1 W→Calls Tryz.prog 164 #[.agg #[.string ⟨nm.toArray⟩,.int .i64 qu,.int .i64 nx,.slice s1 sn s3,.slice u1 un u3,.slice t1 tn t3,.slice l1 ln l3],.string ⟨p.toArray⟩] W fun e w'=>e=.returned (.int .i64 (C.ask p))∧Below W.heap.size W w'):=fun W h=>by
  rw [← hask]
  exact shAsked_any ⟨nm,qu,nx,⟨s1,sn,s3,sl⟩,⟨u1,un,u3,ul⟩,⟨t1,tn,t3,tl⟩,⟨l1,ln,l3,ll⟩⟩ p W B (hrw.out W h).2.1 (hrw.out W h).1 hz hp (hrw.out W h).2.2
 have hPA:Hid (C.ask p=0→∀ W,Below W1.heap.size W1 W→Calls Tryz.prog 81 #[.string ⟨p.toArray⟩] W fun e w'=>(∃ b,e=.returned (.tuple #[.string ⟨(upL p).toArray⟩,.bool b]))∧Below W.heap.size W w'):=fun h0 W h =>
  (parent_any ⟨p.toArray⟩ W tZ123 (hrw.out W h).2.2).mono (by
   rintro e w' ⟨h1,⟨h2,rfl⟩ | ⟨h2,h3,rfl⟩⟩
   ·rcases h2 with h2 | h2
    ·have h2:p=[]:=h2
     subst h2
     exact ⟨⟨false,rfl⟩,h1⟩
    ·have h2:pathB p=false:=h2
     rw [(hord h0).2.2] at h2
     cases h2
   ·exact ⟨⟨true,rfl⟩,h1⟩)
 have hFD:Hid (∀ q:BS,∀ W,Below W1.heap.size W1 W→Calls Tryz.prog 57 #[.agg #[.string ⟨nm.toArray⟩,.int .i64 qu,.int .i64 nx,.slice s1 sn s3,.slice u1 un u3,.slice t1 tn t3,.slice l1 ln l3],.string ⟨q.toArray⟩] W fun e w'=>e=.returned (.int .i64 (findS sl q))∧Below W.heap.size W w'):=fun q W h =>
  find_any _ _ _ _ _ _ sl sn hr.sets.1 s1 s3 q W B (hrw.out W h).1.sets.2.2 (hrw.out W h).2.1 tZ61
 have hWI:Hid (C.ask p=0→∀ W,Below W1.heap.size W1 W→Calls Tryz.prog 82 #[.agg #[.string ⟨nm.toArray⟩,.int .i64 qu,.int .i64 nx,.slice s1 sn s3,.slice u1 un u3,.slice t1 tn t3,.slice l1 ln l3],.agg #[.string ⟨p.toArray⟩,.string ⟨#[]⟩,.slice none 0 0,.slice none 0 0,.slice none 0 0]] W fun e w'=>∃ y:TenR,e=.returned y.val∧TenO w' W.heap.size y∧y.con=C.withS (set0C p)∧Below W.heap.size W w'):=fun h0 W h=>by
  rw [hC]
  exact with_any ⟨nm,qu,nx,⟨s1,sn,s3,sl⟩,⟨u1,un,u3,ul⟩,⟨t1,tn,t3,tl⟩,⟨l1,ln,l3,ll⟩⟩ ⟨p,[],⟨none,0,0,[]⟩,⟨none,0,0,[]⟩,⟨none,0,0,[]⟩⟩ W B W.heap.size (hrw.out W h).2.1 (hrw.out W h).1 hz (set0R_o _ _ p) (Nat.le_refl _) (by have h1:=(hord h0).1;have h2:=hr.sets.1;simp only at h1 h2 ⊢;omega) (hord h0).2.1
 have hSE:Hid (C.ask p=0→∀ y:TenR,y.con=C.withS (set0C p)→∀ W,TenO W W1.heap.size y→Below W1.heap.size W1 W→Calls Tryz.prog 47 #[y.val] W (TenPost W (C.withS (set0C p)).settle)):=fun h0 y hy W ho h=>by
  rw [← hy]
  refine settleT_any y W W.heap.size (Nat.le_refl _) ho.rd (TenR.sz_of ho.rd ?_) (hrw.out W h).2.2
  rw [hy]
  exact hcz.withS (set0C_sz p hp) (by have h1:=(hord h0).1;rw [hC];show (List.map _ _).length≤_;rw [List.length_map];simp only at h1 ⊢;omega)
 have HSL:=Lib.hid (show (sn:Int)=(sl.length:Int) by have:=hr.sets.1;simp only at this;omega)
 obtain ⟨E0,hE0⟩:∃ E,E=C.ask p:=⟨_,rfl⟩
 have hE0':Hid (E0=0→C.ask p=0):=fun h=>by rw [← hE0];exact h
 rw [← hE0] at h3 hVe hAS
 have HV:=Lib.hid hVe
 clear hb hsz kt kz hr hz hp hmx hVe hV hask hord hcz hC hE0
 go_enter Tryz.func94,Tryz.ntmps94
 have hc:=hAS.out  W1 hW0.out
 have kk:=hKt.out W1 hW0.out
 obtain ⟨c0,c1,c2,c3,c4,c5,c6⟩:=(⟨kk.cell 0,kk.cell 1,kk.cell 2,kk.cell 3,kk.cell 4,kk.cell 5,kk.cell 6⟩:_∧_∧_∧_∧_∧_∧_)
 simp only [zF,zD,zE] at c0 c1 c2 c3 c4 c5 c6
 clear kk
 go_wp2_with fail
 rw [← hW1]
 clear hW1
 refine hc.mono ?_
 clear hc c0 c1 c2 c3 c4 c5 c6
 rintro e w2 ⟨rfl,hb⟩
 have HW2:=Lib.hid (hW0.out.trans (hb.mono hW0.out.size))
 clear hb
 rcases h3 with rfl | rfl | rfl
 ·have hA0:=hE0'.out rfl
  have HA0:=Lib.hid hA0
  clear hE0' hA0
  have HV:=Lib.hid (HV.out.trans (if_neg tZ4))
  have hc:=hPA.out HA0.out w2 HW2.out
  go_wp2_with fail
  refine hc.mono ?_
  clear hc
  rintro e w3 ⟨⟨b,rfl⟩,hb⟩
  have HW3:=Lib.hid (HW2.out.trans (hb.mono HW2.out.size))
  clear hb
  have hc:=hFD.out p w3 HW3.out
  have kk:=hKt.out w3 HW3.out
  obtain ⟨c0,c1,c2,c3,c4,c5,c6⟩:=(⟨kk.cell 0,kk.cell 1,kk.cell 2,kk.cell 3,kk.cell 4,kk.cell 5,kk.cell 6⟩:_∧_∧_∧_∧_∧_∧_)
  simp only [zF,zD,zE] at c0 c1 c2 c3 c4 c5 c6
  clear kk
  go_wp2_with fail
  refine hc.mono ?_
  clear hc c0 c1 c2 c3 c4 c5 c6
  rintro e w4 ⟨rfl,hb⟩
  have HW4:=Lib.hid (HW3.out.trans (hb.mono HW3.out.size))
  clear hb
  obtain ⟨F1,hF1⟩:∃ F,F=findS sl p:=⟨_,rfl⟩
  rw [← hF1] at HV ⊢
  clear hF1
  by_cases hf:0≤F1
  ·have HX:=Lib.hid (HV.out.trans (if_pos hf))
   clear HV
   have KZ:=Lib.hid (hKz.out w4 HW4.out)
   have HB:=Lib.hid (hBW.out w4 HW4.out)
   obtain ⟨WR,hW4,hth,HL,HBW,hgw⟩:=res7 (g:=(w.heap.size+1)) [.string ⟨#[]⟩,.int .i64 0,.int .i64 0,.slice none 0 0,.slice none 0 0,.slice none 0 0,.slice none 0 0] KZ.out HB.out tZ1
   clear hgw
   go_wp2_with (refine wpList_store_mid rfl 27 (.tmp 4) (.tmp 26) rfl ((w.heap.size+1)) 0 #[.string ⟨#[]⟩,.int .i64 0,.int .i64 0,.slice none 0 0,.slice none 0 0,.slice none 0 0,.slice none 0 0] rfl rfl hth.out tZ2 tZ5 ?_;rw [← hW4];clear hW4)
   exact bodyPost_ret (v:=.tuple #[.agg #[.string ⟨#[]⟩,.int .i64 0,.int .i64 0,.slice none 0 0,.slice none 0 0,.slice none 0 0,.slice none 0 0],.int .i64 6]) (results_cell_tmp rfl rfl HL.out) rfl (tenPost_err HX.out tZ4 HBW.out)
  ·have HV:=Lib.hid (HV.out.trans (if_neg hf))
   have hc:=hFD.out (upL p) w4 HW4.out
   have kk:=hKt.out w4 HW4.out
   obtain ⟨c0,c1,c2,c3,c4,c5,c6⟩:=(⟨kk.cell 0,kk.cell 1,kk.cell 2,kk.cell 3,kk.cell 4,kk.cell 5,kk.cell 6⟩:_∧_∧_∧_∧_∧_∧_)
   simp only [zF,zD,zE] at c0 c1 c2 c3 c4 c5 c6
   clear kk
   go_wp2_with fail
   refine hc.mono ?_
   clear hc c0 c1 c2 c3 c4 c5 c6
   rintro e w5 ⟨rfl,hb⟩
   have HW5:=Lib.hid (HW4.out.trans (hb.mono HW4.out.size))
   clear hb
   obtain ⟨F2,hF2⟩:∃ F,F=findS sl (upL p):=⟨_,rfl⟩
   rw [← hF2] at HV ⊢
   clear hF2 hf
   by_cases hf:F2<0
   ·have HX:=Lib.hid (HV.out.trans (if_pos hf))
    clear HV
    have KZ:=Lib.hid (hKz.out w5 HW5.out)
    have HB:=Lib.hid (hBW.out w5 HW5.out)
    obtain ⟨WR,hW4,hth,HL,HBW,hgw⟩:=res7 (g:=(w.heap.size+1)) [.string ⟨#[]⟩,.int .i64 0,.int .i64 0,.slice none 0 0,.slice none 0 0,.slice none 0 0,.slice none 0 0] KZ.out HB.out tZ1
    clear hgw
    go_wp2_with (refine wpList_store_mid rfl 27 (.tmp 4) (.tmp 32) rfl ((w.heap.size+1)) 0 #[.string ⟨#[]⟩,.int .i64 0,.int .i64 0,.slice none 0 0,.slice none 0 0,.slice none 0 0,.slice none 0 0] rfl rfl hth.out tZ2 tZ5 ?_;rw [← hW4];clear hW4)
    exact mZ220
   ·have HV:=Lib.hid (HV.out.trans (if_neg hf))
    by_cases hl:(sn:Int)=32
    ·have HX:=Lib.hid (HV.out.trans (if_pos (by have:=HSL.out;show sl.length=32;omega)))
     have hl1:((sn:Int) == 32)=true:=tZ137
     have kk:=hKt.out w5 HW5.out
     obtain ⟨c0,c1,c2,c3,c4,c5,c6⟩:=(⟨kk.cell 0,kk.cell 1,kk.cell 2,kk.cell 3,kk.cell 4,kk.cell 5,kk.cell 6⟩:_∧_∧_∧_∧_∧_∧_)
     simp only [zF,zD,zE] at c0 c1 c2 c3 c4 c5 c6
     clear kk
     clear HV
     have KZ:=Lib.hid (hKz.out w5 HW5.out)
     have HB:=Lib.hid (hBW.out w5 HW5.out)
     obtain ⟨WR,hW4,hth,HL,HBW,hgw⟩:=res7 (g:=(w.heap.size+1)) [.string ⟨#[]⟩,.int .i64 0,.int .i64 0,.slice none 0 0,.slice none 0 0,.slice none 0 0,.slice none 0 0] KZ.out HB.out tZ1
     clear hgw
     go_wp2_with (refine wpList_store_mid rfl 27 (.tmp 4) (.tmp 38) rfl ((w.heap.size+1)) 0 #[.string ⟨#[]⟩,.int .i64 0,.int .i64 0,.slice none 0 0,.slice none 0 0,.slice none 0 0,.slice none 0 0] rfl rfl hth.out tZ2 tZ5 ?_;rw [← hW4];clear hW4)
     exact bodyPost_ret (v:=.tuple #[.agg #[.string ⟨#[]⟩,.int .i64 0,.int .i64 0,.slice none 0 0,.slice none 0 0,.slice none 0 0,.slice none 0 0],.int .i64 3]) (results_cell_tmp rfl rfl HL.out) rfl (tenPost_err HX.out tZ4 HBW.out)
    ·have HV:=Lib.hid (HV.out.trans (if_neg (by have:=HSL.out;show ¬ sl.length=32;omega)))
     have hl1:((sn:Int) == 32)=false:=tZ137
     have hc:=hWI.out HA0.out w5 HW5.out
     have kk:=hKt.out w5 HW5.out
     obtain ⟨c0,c1,c2,c3,c4,c5,c6⟩:=(⟨kk.cell 0,kk.cell 1,kk.cell 2,kk.cell 3,kk.cell 4,kk.cell 5,kk.cell 6⟩:_∧_∧_∧_∧_∧_∧_)
     simp only [zF,zD,zE] at c0 c1 c2 c3 c4 c5 c6
     clear kk
     go_wp2_with fail
     refine hc.mono ?_
     clear hc c0 c1 c2 c3 c4 c5 c6
     rintro e w6 ⟨y,rfl,ho,hy,hb⟩
     have HW6:=Lib.hid (HW5.out.trans (hb.mono HW5.out.size))
     clear hb
     have ho6:=ho.mono HW5.out.size
     have hc:=hSE.out HA0.out y hy w6 ho6 HW6.out
     obtain ⟨⟨E,C2⟩,hV2⟩:∃ V2:Int×TenC,V2=(C.withS (set0C p)).settle:=⟨_,rfl⟩
     rw [← hV2] at hc
     have HX:=Lib.hid (HV.out.trans hV2.symm)
     clear ho hy ho6 hV2
     obtain ⟨yv,hyv⟩:∃ v,v=y.val:=⟨_,rfl⟩
     rw [← hyv] at hc ⊢
     clear hyv
     go_wp2_with fail
     refine hc.mono ?_
     clear hc
     rintro e w7 ⟨v,rfl,hb,hcs⟩
     have HW7:=Lib.hid (HW6.out.trans (hb.mono HW6.out.size))
     clear hb
     rcases hcs with ⟨h1,rfl⟩ | ⟨h1,z,rfl,ho,hy⟩
     ·simp only at h1
      have HE:=Lib.hid h1
      clear h1
      unfold ZEROT
      have KZ:=Lib.hid (hKz.out w7 HW7.out)
      have HB:=Lib.hid (hBW.out w7 HW7.out)
      obtain ⟨WR,hW4,hth,HL,HBW,hgw⟩:=res7 (g:=(w.heap.size+1)) [.string ⟨#[]⟩,.int .i64 0,.int .i64 0,.slice none 0 0,.slice none 0 0,.slice none 0 0,.slice none 0 0] KZ.out HB.out tZ1
      clear hgw
      go_wp2_with (refine wpList_store_mid rfl 27 (.tmp 4) (.tmp 44) rfl ((w.heap.size+1)) 0 #[.string ⟨#[]⟩,.int .i64 0,.int .i64 0,.slice none 0 0,.slice none 0 0,.slice none 0 0,.slice none 0 0] rfl rfl hth.out tZ2 tZ5 ?_;rw [← hW4];clear hW4)
      exact mZ219
     ·simp only at h1
      subst h1
      have HO:=Lib.hid (ho.mono (base':=w.heap.size) (by have:=hSZ.out w6 HW6.out;omega))
      have HY:=Lib.hid hy
      clear ho hy
      obtain ⟨mm,mq,mx,⟨m1,m2,m3,ml⟩,⟨n1,n2,n3,nl⟩,⟨p1,p2,p3,pl⟩,⟨q1,q2,q3,ql⟩⟩:=z
      simp only [TenR.val,TenR.cells,FS.val,strV]
      have KZ:=Lib.hid (hKz.out w7 HW7.out)
      have HB:=Lib.hid (hBW.out w7 HW7.out)
      obtain ⟨WR,hW4,hth,HL,HBW,hgw⟩:=res7 (g:=(w.heap.size+1)) [.string ⟨mm.toArray⟩,.int .i64 mq,.int .i64 mx,.slice m1 m2 m3,.slice n1 n2 n3,.slice p1 p2 p3,.slice q1 q2 q3] KZ.out HB.out tZ1
      have HOO:=Lib.hid (TenO.keptT HO.out hgw KZ.out offT_ten)
      clear hgw
      go_wp2_with (refine wpList_store_mid rfl 27 (.tmp 4) (.tmp 44) rfl ((w.heap.size+1)) 0 #[.string ⟨mm.toArray⟩,.int .i64 mq,.int .i64 mx,.slice m1 m2 m3,.slice n1 n2 n3,.slice p1 p2 p3,.slice q1 q2 q3] rfl rfl hth.out tZ2 tZ5 ?_;rw [← hW4];clear hW4)
      exact bodyPost_ret (v:=.tuple #[.agg #[.string ⟨mm.toArray⟩,.int .i64 mq,.int .i64 mx,.slice m1 m2 m3,.slice n1 n2 n3,.slice p1 p2 p3,.slice q1 q2 q3],.int .i64 0]) (results_cell_tmp rfl rfl HL.out) rfl (tenPost_ok HX.out HBW.out ⟨mm,mq,mx,⟨m1,m2,m3,ml⟩,⟨n1,n2,n3,nl⟩,⟨p1,p2,p3,pl⟩,⟨q1,q2,q3,ql⟩⟩ HOO.out HY.out)
 ·have HX:=Lib.hid (HV.out.trans (if_pos tZ4))
  clear HV hE0'
  have KZ:=Lib.hid (hKz.out w2 HW2.out)
  have HB:=Lib.hid (hBW.out w2 HW2.out)
  obtain ⟨WR,hW4,hth,HL,HBW,hgw⟩:=res7 (g:=(w.heap.size+1)) [.string ⟨#[]⟩,.int .i64 0,.int .i64 0,.slice none 0 0,.slice none 0 0,.slice none 0 0,.slice none 0 0] KZ.out HB.out tZ1
  clear hgw
  go_wp2_with (refine wpList_store_mid rfl 27 (.tmp 4) (.tmp 14) rfl ((w.heap.size+1)) 0 #[.string ⟨#[]⟩,.int .i64 0,.int .i64 0,.slice none 0 0,.slice none 0 0,.slice none 0 0,.slice none 0 0] rfl rfl hth.out tZ2 tZ5 ?_;rw [← hW4];clear hW4)
  exact mZ218
 ·have HX:=Lib.hid (HV.out.trans (if_pos tZ4))
  clear HV hE0'
  have KZ:=Lib.hid (hKz.out w2 HW2.out)
  have HB:=Lib.hid (hBW.out w2 HW2.out)
  obtain ⟨WR,hW4,hth,HL,HBW,hgw⟩:=res7 (g:=(w.heap.size+1)) [.string ⟨#[]⟩,.int .i64 0,.int .i64 0,.slice none 0 0,.slice none 0 0,.slice none 0 0,.slice none 0 0] KZ.out HB.out tZ1
  clear hgw
  go_wp2_with (refine wpList_store_mid rfl 27 (.tmp 4) (.tmp 14) rfl ((w.heap.size+1)) 0 #[.string ⟨#[]⟩,.int .i64 0,.int .i64 0,.slice none 0 0,.slice none 0 0,.slice none 0 0,.slice none 0 0] rfl rfl hth.out tZ2 tZ5 ?_;rw [← hW4];clear hW4)
  exact mZ217
end Go.Proofs.YtcgclpcocdappaaGreatDoor
