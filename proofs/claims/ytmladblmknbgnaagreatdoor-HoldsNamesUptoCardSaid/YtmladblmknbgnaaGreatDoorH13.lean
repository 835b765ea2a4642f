/-
  tree.copySnap, by its contract. The page's SameSnap, SameSet at equal contents: they answer true. tree.odd; slices.IndexFunc and ContainsFunc at entries: by their contracts.
-/
import Derived.Test.YtmladblmknbgnaaGreatDoorH0
import Derived.Test.YtmladblmknbgnaaGreatDoorH2
import Derived.Test.YtmladblmknbgnaaGreatDoorH10
import Derived.Test.YtmladblmknbgnaaGreatDoorH3
import Derived.Deep.DeepCutAuto
import Derived.Test.YtmladblmknbgnaaGreatDoorH8
import Derived.Test.YtmladblmknbgnaaGreatDoorH6
import Derived.Test.YtmladblmknbgnaaGreatDoorH9
import Derived.Test.YtmladblmknbgnaaGreatDoorH4
import Derived.Test.YtmladblmknbgnaaGreatDoorH11
namespace Go.Proofs.YtmladblmknbgnaaGreatDoor
open Go.RowKit
theorem own_setCells_below {base size n:Nat} {t:TypeId} {v:Value} {xs:List Value} {g:Nat} (hg:g<base) (cs:List Value):∀ (w:World) (o:Nat),w.ownsRow base t size v n xs→(w.setCells g o cs).ownsRow base t size v n xs:=by
 induction cs with
 | nil=>intro w o h;exact h
 | cons u cs ih=>intro w o h;exact ih _ _ (own_setCell_below (p:=⟨g,o,none⟩) h hg u)
set_option maxRecDepth 100000 in
set_option maxHeartbeats 8000000 in
theorem copySnap_any (nm:BS) (gd:Int) (b1:Option Addr) (bn b3:Nat) (t1:Option Addr) (tn t3:Nat) (o1:Option Addr) (on o3:Nat) (xb xt xo:List Value) (w:World) (B:Nat) (hB:B≤w.heap.size)
  (hb:Reads w B 2 b1 bn xb) (ht:Reads w B 1 t1 tn xt) (ho:Reads w B 2 o1 on xo) (h1:∀ u∈xb,u.oneCell'=true) (h2:∀ u∈xt,u.oneCell'=true) (h3:∀ u∈xo,u.oneCell'=true) (hbn:bn≤1000000000000) (htn:tn≤1000000000000) (hon:on≤1000000000000) :
  Calls Tryz.prog 196 #[.agg #[.string ⟨nm.toArray⟩,.int .i64 gd,.slice b1 bn b3,.slice t1 tn t3,.slice o1 on o3]] w fun e w'=>∃ Ab cb At ct Ao co,e=.returned (.agg #[.string ⟨nm.toArray⟩,.int .i64 gd,.slice Ab bn cb,.slice At tn ct,.slice Ao on co])∧w'.ownsRow w.heap.size 88 2 (.slice Ab bn cb) bn xb∧w'.ownsRow w.heap.size 9 1 (.slice At tn ct) tn xt∧w'.ownsRow w.heap.size 91 2 (.slice Ao on co) on xo∧Below w.heap.size w w':=by
 have hC1:Hid (∀ W,Below w.heap.size w W→Calls Tryz.prog 65 #[.slice b1 bn b3] W fun e w'=>∃ v,e=.returned v∧w'.ownsRow W.heap.size 88 2 v bn xb∧Below W.heap.size W w'):=fun W h=>cloneBl_any xb bn b1 b3 W B (hb.below (h.mono hB)) (by have:=h.size;omega) h1 (by omega)
 have hC2:Hid (∀ W,Below w.heap.size w W→Calls Tryz.prog 120 #[.slice t1 tn t3] W fun e w'=>∃ v,e=.returned v∧w'.ownsRow W.heap.size 9 1 v tn xt∧Below W.heap.size W w'):=fun W h=>cloneSt_any xt tn t1 t3 W B (ht.below (h.mono hB)) (by have:=h.size;omega) h2 (by omega)
 have hC3:Hid (∀ W,Below w.heap.size w W→Calls Tryz.prog 66 #[.slice o1 on o3] W fun e w'=>∃ v,e=.returned v∧w'.ownsRow W.heap.size 91 2 v on xo∧Below W.heap.size W w'):=fun W h=>clonePr_any xo on o1 o3 W B (ho.below (h.mono hB)) (by have:=h.size;omega) h3 (by omega)
 clear hb ht ho h1 h2 h3
 go_enter Tryz.func196,Tryz.ntmps196
 go_upto_region 1 with (fail)
 have kB:=(Blk.new w 70 #[.string ⟨nm.toArray⟩,.int .i64 gd,.slice b1 bn b3,.slice t1 tn t3,.slice o1 on o3]).alloc (.cells #[.string ⟨#[]⟩,.int .i64 0,.slice none 0 0,.slice none 0 0,.slice none 0 0] 70)
 have kZ:=Blk.new (w.alloc (.cells #[.string ⟨nm.toArray⟩,.int .i64 gd,.slice b1 bn b3,.slice t1 tn t3,.slice o1 on o3] 70)) 70 #[.string ⟨#[]⟩,.int .i64 0,.slice none 0 0,.slice none 0 0,.slice none 0 0]
 rw [show (w.alloc (.cells #[.string ⟨nm.toArray⟩,.int .i64 gd,.slice b1 bn b3,.slice t1 tn t3,.slice o1 on o3] 70)).heap.size=w.heap.size+1 by simp] at kZ
 have hb2:=((Below.refl w.heap.size w).alloc (Nat.le_refl _) (.cells #[.string ⟨nm.toArray⟩,.int .i64 gd,.slice b1 bn b3,.slice t1 tn t3,.slice o1 on o3] 70)).alloc (by simp) (.cells #[.string ⟨#[]⟩,.int .i64 0,.slice none 0 0,.slice none 0 0,.slice none 0 0] 70)
 obtain ⟨W2,hW2⟩:∃ W,W=(w.alloc (.cells #[.string ⟨nm.toArray⟩,.int .i64 gd,.slice b1 bn b3,.slice t1 tn t3,.slice o1 on o3] 70)).alloc (.cells #[.string ⟨#[]⟩,.int .i64 0,.slice none 0 0,.slice none 0 0,.slice none 0 0] 70):=⟨_,rfl⟩
 have hsz:W2.heap.size=w.heap.size+2:=by rw [hW2];simp
 rw [← hW2] at kB kZ hb2 ⊢
 have K:=Lib.hid kB.drew
 have K2:=Lib.hid kZ.drew
 have HB:=Lib.hid hb2.drew
 have HZ:=Lib.hid (show w.heap.size+2≤W2.drew.heap.size by show _≤W2.heap.size;omega)
 have c0:=kB.cell 0
 have c1:=kB.cell 1
 have c2:=kB.cell 2
 have c3:=kB.cell 3
 have c4:=kB.cell 4
 simp only [zF,zD,zE] at c0 c1 c2 c3 c4
 clear hW2 kB kZ hb2 hsz
 go_cut [1,2] from 0 to 14 (fun s1 s2 wx=>s1=.pointer (some ⟨w.heap.size,0,none⟩)∧s2=.pointer (some ⟨w.heap.size+1,0,none⟩)∧∃ Ab cb At ct Ao co,Blk wx w.heap.size 70 #[.string ⟨nm.toArray⟩,.int .i64 gd,.slice Ab bn cb,.slice At tn ct,.slice Ao on co]∧Blk wx (w.heap.size+1) 70 #[.string ⟨#[]⟩,.int .i64 0,.slice none 0 0,.slice none 0 0,.slice none 0 0]∧wx.ownsRow (w.heap.size+2) 88 2 (.slice Ab bn cb) bn xb∧wx.ownsRow (w.heap.size+2) 9 1 (.slice At tn ct) tn xt∧wx.ownsRow (w.heap.size+2) 91 2 (.slice Ao on co) on xo∧Below w.heap.size w wx)
 case first =>
  go_region_law (first | (go_simp;with_reducible refine (hC1.out _ HB.out).mono ?_;rintro e w2 ⟨v,rfl,ho,hb⟩;obtain ⟨Ab,cb,rfl,_,_,_⟩:=own_form ho;have HOb:=Lib.hid (own_mono ho HZ.out);(try have HOt:=Lib.hid (own_below HOt.out hb));(try have HOo:=Lib.hid (own_below HOo.out hb));have HZ:=Lib.hid (Nat.le_trans HZ.out hb.size);have HB:=Lib.hid (HB.out.trans (hb.mono HB.out.size));have K2:=Lib.hid (K2.out.below hb K2.out.lt);have K:=Lib.hid (K.out.below hb K.out.lt);obtain ⟨c0,c1,c2,c3,c4⟩:=(⟨K.out.cell 0,K.out.cell 1,K.out.cell 2,K.out.cell 3,K.out.cell 4⟩:_∧_∧_∧_∧_);simp only [zF,zD,zE] at c0 c1 c2 c3 c4;have f2:=K.out.frozen 2;have f3:=K.out.frozen 3;have f4:=K.out.frozen 4;clear ho hb) | (go_simp;with_reducible refine (hC2.out _ HB.out).mono ?_;rintro e w2 ⟨v,rfl,ho,hb⟩;obtain ⟨At,ct,rfl,_,_,_⟩:=own_form ho;have HOt:=Lib.hid (own_mono ho HZ.out);(try have HOb:=Lib.hid (own_below HOb.out hb));(try have HOo:=Lib.hid (own_below HOo.out hb));have HZ:=Lib.hid (Nat.le_trans HZ.out hb.size);have HB:=Lib.hid (HB.out.trans (hb.mono HB.out.size));have K2:=Lib.hid (K2.out.below hb K2.out.lt);have K:=Lib.hid (K.out.below hb K.out.lt);obtain ⟨c0,c1,c2,c3,c4⟩:=(⟨K.out.cell 0,K.out.cell 1,K.out.cell 2,K.out.cell 3,K.out.cell 4⟩:_∧_∧_∧_∧_);simp only [zF,zD,zE] at c0 c1 c2 c3 c4;have f2:=K.out.frozen 2;have f3:=K.out.frozen 3;have f4:=K.out.frozen 4;clear ho hb) | (go_simp;with_reducible refine (hC3.out _ HB.out).mono ?_;rintro e w2 ⟨v,rfl,ho,hb⟩;obtain ⟨Ao,co,rfl,_,_,_⟩:=own_form ho;have HOo:=Lib.hid (own_mono ho HZ.out);(try have HOb:=Lib.hid (own_below HOb.out hb));(try have HOt:=Lib.hid (own_below HOt.out hb));have HZ:=Lib.hid (Nat.le_trans HZ.out hb.size);have HB:=Lib.hid (HB.out.trans (hb.mono HB.out.size));have K2:=Lib.hid (K2.out.below hb K2.out.lt);have K:=Lib.hid (K.out.below hb K.out.lt);obtain ⟨c0,c1,c2,c3,c4⟩:=(⟨K.out.cell 0,K.out.cell 1,K.out.cell 2,K.out.cell 3,K.out.cell 4⟩:_∧_∧_∧_∧_);simp only [zF,zD,zE] at c0 c1 c2 c3 c4;have f2:=K.out.frozen 2;have f3:=K.out.frozen 3;have f4:=K.out.frozen 4;clear ho hb))
  all_goals
   have k3:=((K.out.set_ 2 (.slice Ab bn cb)).set_ 3 (.slice At tn ct)).set_ 4 (.slice Ao on co)
   have kz:=((K2.out.far (p:=⟨w.heap.size,2,none⟩) (by simp) (.slice Ab bn cb)).far (p:=⟨w.heap.size,3,none⟩) (by simp) (.slice At tn ct)).far (p:=⟨w.heap.size,4,none⟩) (by simp) (.slice Ao on co)
   have q1:=own_setCell_below (p:=⟨w.heap.size,4,none⟩) (own_setCell_below (p:=⟨w.heap.size,3,none⟩) (own_setCell_below (p:=⟨w.heap.size,2,none⟩) HOb.out (by show w.heap.size<_;omega) (.slice Ab bn cb)) (by show w.heap.size<_;omega) (.slice At tn ct)) (by show w.heap.size<_;omega) (.slice Ao on co)
   have q2:=own_setCell_below (p:=⟨w.heap.size,4,none⟩) (own_setCell_below (p:=⟨w.heap.size,3,none⟩) (own_setCell_below (p:=⟨w.heap.size,2,none⟩) HOt.out (by show w.heap.size<_;omega) (.slice Ab bn cb)) (by show w.heap.size<_;omega) (.slice At tn ct)) (by show w.heap.size<_;omega) (.slice Ao on co)
   have q3:=own_setCell_below (p:=⟨w.heap.size,4,none⟩) (own_setCell_below (p:=⟨w.heap.size,3,none⟩) (own_setCell_below (p:=⟨w.heap.size,2,none⟩) HOo.out (by show w.heap.size<_;omega) (.slice Ab bn cb)) (by show w.heap.size<_;omega) (.slice At tn ct)) (by show w.heap.size<_;omega) (.slice Ao on co)
   have hbw:=((HB.out.setCell (p:=⟨w.heap.size,2,none⟩) (Nat.le_refl _) (.slice Ab bn cb)).setCell (p:=⟨w.heap.size,3,none⟩) (Nat.le_refl _) (.slice At tn ct)).setCell (p:=⟨w.heap.size,4,none⟩) (Nat.le_refl _) (.slice Ao on co)
   have HH:=Lib.hid (show _∧_∧_∧_∧_∧_ from ⟨k3,kz,q1,q2,q3,hbw⟩)
   clear k3 kz q1 q2 q3 hbw c0 c1 c2 c3 c4 f2 f3 f4
   go_wp2_with fail
   go_meet
   exact ⟨rfl,rfl,Ab,cb,At,ct,Ao,co,HH.out.1,HH.out.2.1,HH.out.2.2.1,HH.out.2.2.2.1,HH.out.2.2.2.2.1,HH.out.2.2.2.2.2⟩
 case rest =>
 obtain ⟨rfl,rfl,Ab,cb,At,ct,Ao,co,k3,kz,q1,q2,q3,hbw⟩:=hcut
 clear K K2 HB HZ hC1 hC2 hC3 c0 c1 c2 c3 c4
 obtain ⟨c0,c1,c2,c3,c4⟩:=(⟨k3.cell 0,k3.cell 1,k3.cell 2,k3.cell 3,k3.cell 4⟩:_∧_∧_∧_∧_)
 simp at c0 c1 c2 c3 c4
 have hth:=Lib.hid (kz.there 5 (by decide))
 have k4:=Blk.setCells (g:=w.heap.size+1) [.string ⟨nm.toArray⟩,.int .i64 gd,.slice Ab bn cb,.slice At tn ct,.slice Ao on co] wc [] [.string ⟨#[]⟩,.int .i64 0,.slice none 0 0,.slice none 0 0,.slice none 0 0] rfl kz
 simp only [List.length_nil,List.nil_append] at k4
 have q1:=Lib.hid (own_setCells_below (g:=w.heap.size+1) (by omega) [.string ⟨nm.toArray⟩,.int .i64 gd,.slice Ab bn cb,.slice At tn ct,.slice Ao on co] wc 0 q1)
 have q2:=Lib.hid (own_setCells_below (g:=w.heap.size+1) (by omega) [.string ⟨nm.toArray⟩,.int .i64 gd,.slice Ab bn cb,.slice At tn ct,.slice Ao on co] wc 0 q2)
 have q3:=Lib.hid (own_setCells_below (g:=w.heap.size+1) (by omega) [.string ⟨nm.toArray⟩,.int .i64 gd,.slice Ab bn cb,.slice At tn ct,.slice Ao on co] wc 0 q3)
 have hbw:=Lib.hid (below_setCells (g:=w.heap.size+1) (by omega) [.string ⟨nm.toArray⟩,.int .i64 gd,.slice Ab bn cb,.slice At tn ct,.slice Ao on co] wc 0 hbw)
 obtain ⟨W4,hW4⟩:∃ W,W=wc.setCells (w.heap.size+1) 0 (#[.string ⟨nm.toArray⟩,.int .i64 gd,.slice Ab bn cb,.slice At tn ct,.slice Ao on co]:Array Value).toList:=⟨_,rfl⟩
 rw [show ([.string ⟨nm.toArray⟩,.int .i64 gd,.slice Ab bn cb,.slice At tn ct,.slice Ao on co]:List Value)=(#[.string ⟨nm.toArray⟩,.int .i64 gd,.slice Ab bn cb,.slice At tn ct,.slice Ao on co]:Array Value).toList from rfl,← hW4] at k4 q1 q2 q3 hbw
 obtain ⟨d0,d1,d2,d3,d4⟩:=(⟨k4.cell 0,k4.cell 1,k4.cell 2,k4.cell 3,k4.cell 4⟩:_∧_∧_∧_∧_)
 simp at d0 d1 d2 d3 d4
 have HD:=Lib.hid (show _∧_∧_∧_∧_ from ⟨d0,d1,d2,d3,d4⟩)
 clear k3 kz k4 d0 d1 d2 d3 d4
 go_wp2_with (refine wpList_store_mid rfl 70 (.tmp 2) (.tmp 15) rfl (w.heap.size+1) 0 #[.string ⟨nm.toArray⟩,.int .i64 gd,.slice Ab bn cb,.slice At tn ct,.slice Ao on co] rfl rfl hth.out (by kernel_rfl) (by simp [Value.oneCell']) ?_;rw [← hW4];clear hW4)
 obtain ⟨d0,d1,d2,d3,d4⟩:=HD.out
 refine bodyPost_ret (v:=.agg #[.string ⟨nm.toArray⟩,.int .i64 gd,.slice Ab bn cb,.slice At tn ct,.slice Ao on co]) (by simp [results,Tryz.results196,go_sem,d0,d1,d2,d3,d4]) rfl ⟨Ab,cb,At,ct,Ao,co,rfl,own_mono q1.out (by omega),own_mono q2.out (by omega),own_mono q3.out (by omega),hbw.out⟩
end Go.Proofs.YtmladblmknbgnaaGreatDoor
namespace Go.Proofs.YtmladblmknbgnaaGreatDoor
open Go.RowKit
/-- snapshots of one content -/
structure SnapR.eqv (x y:SnapR):Prop where
 nm:x.nm=y.nm
 gd:x.gd=y.gd
 body:x.body.l=y.body.l
 tags:x.tags.l=y.tags.l
 own:x.own.l=y.own.l
/-- sets of one content -/
structure SetR.eqv (x y:SetR):Prop where
 path:x.path=y.path
 org:x.org=y.org
 body:x.body.l=y.body.l
 len:x.snaps.l.length=y.snaps.l.length
 each:∀ i (h:i<x.snaps.l.length) (h':i<y.snaps.l.length),(x.snaps.l[i]'h).eqv (y.snaps.l[i]'h')
 own:x.own.l=y.own.l
end Go.Proofs.YtmladblmknbgnaaGreatDoor
namespace Go.Proofs.YtmladblmknbgnaaGreatDoor
open Go.RowKit
def entryP (us:BS) (kd:Int) (pa:BS) (er:Int):Bool:=(us == [] || nameB us) && pathB pa && amt kd 0 && amt er 0
theorem entryB_P (x:EntryR):entryB x=entryP x.user x.kind x.path x.err:=rfl
set_option maxRecDepth 100000 in
set_option maxHeartbeats 2000000 in
theorem odd14_any (us:BS) (kd:Int) (pa:BS) (er:Int) (w:World) (hpa:pa.length≤4000000000) (hmx:HasMax w) :
  Calls Tryz.prog 150 #[.agg #[.string ⟨us.toArray⟩,.int .i64 kd,.string ⟨pa.toArray⟩,.int .i64 er]] w fun e w'=>e=.returned (.bool (!(entryP us kd pa er)))∧Below w.heap.size w w':=by
 have hb1:=(Below.refl w.heap.size w).alloc (Nat.le_refl _) (.cells #[.string ⟨us.toArray⟩,.int .i64 kd,.string ⟨pa.toArray⟩,.int .i64 er] 117)
 have kT:=Blk.new w 117 #[.string ⟨us.toArray⟩,.int .i64 kd,.string ⟨pa.toArray⟩,.int .i64 er]
 obtain ⟨W1,hW1⟩:∃ W,W=w.alloc (.cells #[.string ⟨us.toArray⟩,.int .i64 kd,.string ⟨pa.toArray⟩,.int .i64 er] 117):=⟨_,rfl⟩
 have hsz1:W1.heap.size=w.heap.size+1:=by rw [hW1];simp
 rw [← hW1] at hb1 kT
 have hT:=Lib.hid (fun (W':World) (hB':Below W1.heap.size W1 W')=>(⟨(kT.below hB' (by omega)).cell 0,(kT.below hB' (by omega)).cell 1,(kT.below hB' (by omega)).cell 2,(kT.below hB' (by omega)).cell 3⟩:W'.cell? ⟨w.heap.size,0,none⟩=some (.string ⟨us.toArray⟩)∧W'.cell? ⟨w.heap.size,1,none⟩=some (.int .i64 kd)∧W'.cell? ⟨w.heap.size,2,none⟩=some (.string ⟨pa.toArray⟩)∧W'.cell? ⟨w.heap.size,3,none⟩=some (.int .i64 er)))
 have hN:Hid (∀ W,Below W1.heap.size W1 W→Calls Tryz.prog 115 #[.string ⟨us.toArray⟩] W fun e W'=>e=.returned (.bool (nameB us))∧Below W.heap.size W W'):=fun W _=>name_any ⟨us.toArray⟩ W
 have hP:Hid (∀ W,Below W1.heap.size W1 W→Calls Tryz.prog 112 #[.string ⟨pa.toArray⟩] W fun e W'=>e=.returned (.bool (pathB pa))∧Below W.heap.size W W'):=fun W hb=>path_any ⟨pa.toArray⟩ W (by show pa.length≤_;exact hpa) (hmx.below (hb1.trans (hb.mono (by omega))))
 have hA0:Hid (∀ W,Below W1.heap.size W1 W→Calls Tryz.prog 145 #[.int .i64 kd,.int .i64 0] W fun e W'=>e=.returned (.bool (amt kd 0))∧Below W.heap.size W W'):=fun W _=>amountB_any kd 0 W
 have hA1:Hid (∀ W,Below W1.heap.size W1 W→Calls Tryz.prog 145 #[.int .i64 er,.int .i64 0] W fun e W'=>e=.returned (.bool (amt er 0))∧Below W.heap.size W W'):=fun W _=>amountB_any er 0 W
 have HV:Hid ((!(entryP us kd pa er))=!((us == [] || nameB us) && (pathB pa && (amt kd 0 && amt er 0)))):=by
  show _=_
  unfold entryP
  simp only [Bool.and_assoc]
 obtain ⟨V,hV⟩:∃ V,V=(!(entryP us kd pa er)):=⟨_,rfl⟩
 obtain ⟨bN,hbN⟩:∃ V,V=nameB us:=⟨_,rfl⟩
 obtain ⟨bP,hbP⟩:∃ V,V=pathB pa:=⟨_,rfl⟩
 obtain ⟨bA,hbA⟩:∃ V,V=amt kd 0:=⟨_,rfl⟩
 obtain ⟨bX,hbX⟩:∃ V,V=amt er 0:=⟨_,rfl⟩
 rw [← hV] at HV ⊢
 rw [← hbN] at HV hN
 rw [← hbP] at HV hP
 rw [← hbA] at HV hA0
 rw [← hbX] at HV hA1
 have HB1:=Lib.hid hb1
 have HSZ1:=Lib.hid hsz1
 clear hV hbN hbA hbP hbX hb1 hsz1 kT
 have hW0:=Below.refl W1.heap.size W1
 by_cases hu:us=[]
 ·subst hu
  have HV:Hid (V=!(true && (bP && (bA && bX)))):=by show _=_;rw [HV.out];rfl
  go_enter Tryz.func150,Tryz.ntmps150
  have hc:=hP.out _ hW0
  cases bP with
  | false =>
   go_wp2_with fail
   rw [← hW1]
   refine hc.mono ?_
   clear hc
   rintro e w11 ⟨rfl,hbw11⟩
   have hWw11:=hW0.trans (hbw11.mono hW0.size)
   clear hbw11 
   obtain ⟨t0,t1,t2,t3⟩:=hT.out _ hWw11
   have HB:Hid (V=true):=by show _=_;rw [HV.out];rfl
   go_wp2_with fail
   go_ret
   exact ⟨by rw [HB.out];rfl,HB1.out.trans (hWw11.mono (by have:=HSZ1.out;omega))⟩
  | true =>
   go_wp2_with fail
   rw [← hW1]
   refine hc.mono ?_
   clear hc
   rintro e w11 ⟨rfl,hbw11⟩
   have hWw11:=hW0.trans (hbw11.mono hW0.size)
   clear hbw11 
   obtain ⟨t0,t1,t2,t3⟩:=hT.out _ hWw11
   have hc:=hA0.out _ hWw11
   cases bA with
   | false =>
    go_wp2_with fail
    refine hc.mono ?_
    clear hc
    rintro e w12 ⟨rfl,hbw12⟩
    have hWw12:=hWw11.trans (hbw12.mono hWw11.size)
    clear hbw12 
    obtain ⟨t0,t1,t2,t3⟩:=hT.out _ hWw12
    have HB:Hid (V=true):=by show _=_;rw [HV.out];rfl
    go_wp2_with fail
    go_ret
    exact ⟨by rw [HB.out];rfl,HB1.out.trans (hWw12.mono (by have:=HSZ1.out;omega))⟩
   | true =>
    go_wp2_with fail
    refine hc.mono ?_
    clear hc
    rintro e w12 ⟨rfl,hbw12⟩
    have hWw12:=hWw11.trans (hbw12.mono hWw11.size)
    clear hbw12 
    obtain ⟨t0,t1,t2,t3⟩:=hT.out _ hWw12
    have hc:=hA1.out _ hWw12
    cases bX with
    | false =>
     go_wp2_with fail
     refine hc.mono ?_
     clear hc
     rintro e w13 ⟨rfl,hbw13⟩
     have hWw13:=hWw12.trans (hbw13.mono hWw12.size)
     clear hbw13 
     obtain ⟨t0,t1,t2,t3⟩:=hT.out _ hWw13
     have HB:Hid (V=true):=by show _=_;rw [HV.out];rfl
     go_wp2_with fail
     go_ret
     exact ⟨by rw [HB.out];rfl,HB1.out.trans (hWw13.mono (by have:=HSZ1.out;omega))⟩
    | true =>
     go_wp2_with fail
     refine hc.mono ?_
     clear hc
     rintro e w13 ⟨rfl,hbw13⟩
     have hWw13:=hWw12.trans (hbw13.mono hWw12.size)
     clear hbw13 
     obtain ⟨t0,t1,t2,t3⟩:=hT.out _ hWw13
     have HB:Hid (V=false):=by show _=_;rw [HV.out];rfl
     go_wp2_with fail
     go_ret
     exact ⟨by rw [HB.out];rfl,HB1.out.trans (hWw13.mono (by have:=HSZ1.out;omega))⟩
 ·have hu1:(us == [])=false:=by simpa using hu
  have hu2:us.isEmpty=false:=by cases us <;> simp_all
  have HV:Hid (V=!(bN && (bP && (bA && bX)))):=by show _=_;rw [HV.out,hu1];rfl
  clear hu
  go_enter Tryz.func150,Tryz.ntmps150
  have hc:=hN.out _ hW0
  cases bN with
  | false =>
   go_wp2_with fail
   rw [← hW1]
   refine hc.mono ?_
   clear hc
   rintro e w11 ⟨rfl,hbw11⟩
   have hWw11:=hW0.trans (hbw11.mono hW0.size)
   clear hbw11 
   obtain ⟨t0,t1,t2,t3⟩:=hT.out _ hWw11
   have HB:Hid (V=true):=by show _=_;rw [HV.out];rfl
   go_wp2_with fail
   go_ret
   exact ⟨by rw [HB.out];rfl,HB1.out.trans (hWw11.mono (by have:=HSZ1.out;omega))⟩
  | true =>
   go_wp2_with fail
   rw [← hW1]
   refine hc.mono ?_
   clear hc
   rintro e w11 ⟨rfl,hbw11⟩
   have hWw11:=hW0.trans (hbw11.mono hW0.size)
   clear hbw11 
   obtain ⟨t0,t1,t2,t3⟩:=hT.out _ hWw11
   have hc:=hP.out _ hWw11
   cases bP with
   | false =>
    go_wp2_with fail
    refine hc.mono ?_
    clear hc
    rintro e w12 ⟨rfl,hbw12⟩
    have hWw12:=hWw11.trans (hbw12.mono hWw11.size)
    clear hbw12 
    obtain ⟨t0,t1,t2,t3⟩:=hT.out _ hWw12
    have HB:Hid (V=true):=by show _=_;rw [HV.out];rfl
    go_wp2_with fail
    go_ret
    exact ⟨by rw [HB.out];rfl,HB1.out.trans (hWw12.mono (by have:=HSZ1.out;omega))⟩
   | true =>
    go_wp2_with fail
    refine hc.mono ?_
    clear hc
    rintro e w12 ⟨rfl,hbw12⟩
    have hWw12:=hWw11.trans (hbw12.mono hWw11.size)
    clear hbw12 
    obtain ⟨t0,t1,t2,t3⟩:=hT.out _ hWw12
    have hc:=hA0.out _ hWw12
    cases bA with
    | false =>
     go_wp2_with fail
     refine hc.mono ?_
     clear hc
     rintro e w13 ⟨rfl,hbw13⟩
     have hWw13:=hWw12.trans (hbw13.mono hWw12.size)
     clear hbw13 
     obtain ⟨t0,t1,t2,t3⟩:=hT.out _ hWw13
     have HB:Hid (V=true):=by show _=_;rw [HV.out];rfl
     go_wp2_with fail
     go_ret
     exact ⟨by rw [HB.out];rfl,HB1.out.trans (hWw13.mono (by have:=HSZ1.out;omega))⟩
    | true =>
     go_wp2_with fail
     refine hc.mono ?_
     clear hc
     rintro e w13 ⟨rfl,hbw13⟩
     have hWw13:=hWw12.trans (hbw13.mono hWw12.size)
     clear hbw13 
     obtain ⟨t0,t1,t2,t3⟩:=hT.out _ hWw13
     have hc:=hA1.out _ hWw13
     cases bX with
     | false =>
      go_wp2_with fail
      refine hc.mono ?_
      clear hc
      rintro e w14 ⟨rfl,hbw14⟩
      have hWw14:=hWw13.trans (hbw14.mono hWw13.size)
      clear hbw14 
      obtain ⟨t0,t1,t2,t3⟩:=hT.out _ hWw14
      have HB:Hid (V=true):=by show _=_;rw [HV.out];rfl
      go_wp2_with fail
      go_ret
      exact ⟨by rw [HB.out];rfl,HB1.out.trans (hWw14.mono (by have:=HSZ1.out;omega))⟩
     | true =>
      go_wp2_with fail
      refine hc.mono ?_
      clear hc
      rintro e w14 ⟨rfl,hbw14⟩
      have hWw14:=hWw13.trans (hbw14.mono hWw13.size)
      clear hbw14 
      obtain ⟨t0,t1,t2,t3⟩:=hT.out _ hWw14
      have HB:Hid (V=false):=by show _=_;rw [HV.out];rfl
      go_wp2_with fail
      go_ret
      exact ⟨by rw [HB.out];rfl,HB1.out.trans (hWw14.mono (by have:=HSZ1.out;omega))⟩
set_option maxRecDepth 100000 in
set_option maxHeartbeats 1000000 in
theorem fiEnt_index {α:Type} (f0 f1 f2 f3:α→Value) (p:α→Bool) (l:List α) (n:Nat) (hnl:n=l.length) (A:Option Addr) (c:Nat) (Keep:World→Prop) (w:World) (B:Nat)
  (hr:Reads w B 4 A n (cellsK (fun x=>[f0 x,f1 x,f2 x,f3 x]) l)) (hB:B≤w.heap.size) (hn:n≤5000000000000) (hp:PredK Tryz.prog 150 #[] (fun x=>#[f0 x,f1 x,f2 x,f3 x]) (·∈l) p Keep) (hk0:Keep w) :
  Calls Tryz.prog 201 #[.slice A n c,.func (.func 150) #[] #[]] w fun e w'=>e=.returned (.int .i64 (firstI p l))∧Below w.heap.size w w':=by
 have HN:=Lib.hid hnl
 have HP:=Lib.hid hp
 clear hnl hp
 go_enter Tryz.func201,Tryz.ntmps201
 go_wp2_with fail
 go_loopw [8] (fun j wr=>∃ k:Nat,k≤n∧j=.int .i64 (k:Int)∧Hid (∀ y∈l.take k,p y=false)∧Below w.heap.size w wr∧Keep wr) (fun j _=>n-(intOf j).toNat)
 case atStart=>exact ⟨0,Nat.zero_le _,rfl,(show ∀ y∈_,_ by simp),Below.refl _ _,hk0⟩
 case round =>
  obtain ⟨k,hk,rfl,hno,hbw,hkw⟩:=hrel
  by_cases hlt:k<n
  ·have hki:(k:Int)<(n:Int):=by omega
   have hkl:k<l.length:=by have:=HN.out;omega
   obtain ⟨ad,rfl,_,c0,c1,c2,c3⟩:=(hr.below (hbw.mono hB)).el4 HN.out hlt
   obtain ⟨x,hx⟩:∃ x,x=l[k]'hkl:=⟨_,rfl⟩
   rw [← hx] at c0 c1 c2 c3
   have htk:=List.take_succ_eq_append_getElem hkl
   rw [← hx] at htk
   have HTK:=Lib.hid htk
   have HX:=Lib.hid (show l[k]?=some x by rw [hx];exact List.getElem?_eq_getElem _)
   have hc:=HP.out.call x wr (List.mem_of_getElem? HX.out) hkw
   obtain ⟨b,hb⟩:∃ b,b=p x:=⟨_,rfl⟩
   rw [← hb] at hc
   have HBX:=Lib.hid hb
   simp only [List.append_toArray,List.cons_append,List.nil_append] at hc
   clear hx htk hr hb
   go_wp2_with fail
   refine hc.mono ?_
   clear hc
   rintro e w1 ⟨rfl,hb1⟩
   have hkw1:=HP.out.below wr w1 hkw hb1
   have hbw1:=hbw.trans (hb1.mono hbw.size)
   cases b with
   | true =>
    go_wp2_with fail
    go_ret
    have hf:=firstP_eq p l k x hno.out HX.out HBX.out.symm
    exact ⟨by unfold firstI;rw [hf,if_pos hkl];rfl,hbw1⟩
   | false =>
    go_wp2_with fail
    go_roundw
    case rel =>
     refine ⟨k+1,by omega,by go_num,?_,hbw1,hkw1⟩
     show ∀ y∈l.take (k+1),p y=false
     intro y hy
     rw [HTK.out] at hy
     rcases List.mem_append.1 hy with hy | hy
     ·exact hno.out y hy
     ·simp at hy;subst hy;exact HBX.out.symm
    case measure=>simp [intOf];omega
  ·have hkn:k=n:=by omega
   have HF:Hid (firstI p l=-1):=by
    show _=_
    unfold firstI
    rw [firstP_none p l (fun y hy=>hno.out y (by rw [List.take_of_length_le (by rw [hkn,HN.out];exact Nat.le_refl _)];exact hy)),if_neg (Nat.lt_irrefl _)]
   clear hr hkn
   go_wp2_with fail
   go_ret
   exact ⟨by rw [HF.out];rfl,hbw⟩
set_option maxRecDepth 100000 in
theorem oddLog_any (l:List EntryR) (n:Nat) (hnl:n=l.length) (A:Option Addr) (c:Nat) (w:World) (B:Nat) (hr:Reads w B 4 A n (cellsK encEntry l)) (hB:B≤w.heap.size) (hn:n≤1000000000000) (hv:∀ y∈l,y.sz) (hmx:HasMax w) :
  Calls Tryz.prog 149 #[.slice A n c,.func (.func 150) #[] #[]] w fun e w'=>e=.returned (.bool (!(l.all entryB)))∧Below w.heap.size w w':=by
 have HC:=Lib.hid (fiEnt_index (fun x:EntryR=>.string ⟨x.user.toArray⟩) (fun x=>.int .i64 x.kind) (fun x=>.string ⟨x.path.toArray⟩) (fun x=>.int .i64 x.err) (fun x=>!(entryB x)) l n hnl A c HasMax w B hr hB (by omega)
  ⟨fun x W hx hm=>odd14_any x.user x.kind x.path x.err W (hv x hx).path hm,fun W W' hm hb=>hm.below hb⟩ hmx)
 have HA:Hid (decide ((0:Int)≤firstI (fun x=>!(entryB x)) l)=!(l.all entryB)):=by
  show _=_
  rw [firstI_any,List.all_eq_not_any_not,Bool.not_not]
 clear hnl hr hv
 go_enter Tryz.func149,Tryz.ntmps149
 go_wp2_with fail
 refine HC.out.mono ?_
 rintro e w1 ⟨rfl,hb⟩
 go_wp2_with fail
 go_ret
 exact ⟨by rw [← HA.out];rfl,hb⟩
end Go.Proofs.YtmladblmknbgnaaGreatDoor
