/-
  shape.Write, Free, Set, Unset: a set's body or its properties turned. What may be, by content: sets one by one; a set more, a set less, a set turned.
-/
import Derived.Test.YtcgclpcocdappaaGreatDoorXM1
import Derived.Test.YtcgclpcocdappaaGreatDoorX0
import Derived.Test.YtcgclpcocdappaaGreatDoorX28
import Derived.Test.YtcgclpcocdappaaGreatDoorX26
import Derived.Test.YtcgclpcocdappaaGreatDoorX27
namespace Go.Proofs.YtcgclpcocdappaaGreatDoor
open Go.RowKit
def bodyF (E:List BlkT→Int) (L:List BlkT→List BlkT) (s:SetC):Int×SetC:=(E s.body,⟨s.path,s.org,L s.body,s.snaps,s.own⟩)
def ownF (E:List (BS×BS)→Int) (L:List (BS×BS)→List (BS×BS)) (s:SetC):Int×SetC:=(E s.own,⟨s.path,s.org,s.body,s.snaps,L s.own⟩)
def writeF (i:Int) (d:BS):SetC→Int×SetC:=bodyF (fun l=>putE l i d) (fun l=>putL11 l i d)
def freeF (i ct:Int):SetC→Int×SetC:=bodyF (fun l=>freeE l i ct) (fun l=>freeL l i ct)
def setF (nm tx:BS):SetC→Int×SetC:=ownF (fun l=>setE l nm tx) (fun l=>putP (nm,tx) l)
def unsetF (nm:BS):SetC→Int×SetC:=ownF (fun l=>unsetE l nm) (fun l=>dropP nm l)
/-- the cells of a set in a row of one's own -/
theorem set_cells {W:World} {base:Nat} {y:TenR} {k gS:Nat} (ho:TenO W base y) (hk:k<y.sets.l.length) (hA:y.sets.A=some ⟨gS,0,none⟩) :
  gS<W.heap.size∧(∀ o,W.frozen? ⟨gS,o,none⟩=false)∧W.cell? ⟨gS,k*5+2,none⟩=some (.slice (y.sets.l[k]'hk).body.A (y.sets.l[k]'hk).body.n (y.sets.l[k]'hk).body.c)∧W.cell? ⟨gS,k*5+4,none⟩=some (.slice (y.sets.l[k]'hk).own.A (y.sets.l[k]'hk).own.n (y.sets.l[k]'hk).own.c):=by
 have hn:=ho.sets.1
 obtain ⟨g,cs,hA2,-,hb⟩:=ho.sets.blk tZ1
 rw [hA] at hA2
 injection hA2 with hA2
 injection hA2 with hA2
 subst hA2
 obtain ⟨ad,hsa,-,-,-,q2,-,q4⟩:=set_at ho.rd.sets.2.2 hn (i:=k) tZ1
 rw [hA] at hsa
 injection hsa with hsa
 subst hsa
 refine ⟨hb.lt,hb.frozen,?_,?_⟩
 ·rw [addr_add0] at q2
  exact q2
 ·rw [addr_add0] at q4
  exact q4
theorem writeF_turns (i:Int) (d:BS) (cp1 cp2:Addr) (w:World) (h1:w.cell? cp1=some (.int .i64 i)) (l1:cp1.block<w.heap.size) (h2:w.cell? cp2=some (.string ⟨d.toArray⟩)) (l2:cp2.block<w.heap.size):Turns 86 #[.pointer (some cp1),.pointer (some cp2)] (writeF i d) w:=by
 intro y k hk gS base W hb hwb ho hcs hA
 obtain ⟨hlt,hfz,hc2,hc4⟩:=set_cells ho hk hA
 have hSx:=ho.eachS _ (List.getElem_mem hk)
 have hsz:(y.sets.l[k]'hk).con.sz:=hcs.eachS _ (List.mem_map_of_mem (List.getElem_mem hk))
 have hba:base≤W.heap.size:=by
  exact mZ230
 obtain ⟨x,hx⟩:∃ x,x=y.sets.l[k]'hk:=⟨_,rfl⟩
 rw [← hx] at hSx hsz hc2 ⊢
 refine (writeC_any gS (k*5) x.body.A x.body.n x.body.c x.body.l i d cp1 cp2 W W.heap.size hc2 (hfz _) hlt hSx.body.rd.2.2 hSx.body.1 (Nat.le_refl _) tZ170  ((hb.cell l1).trans h1) ((hb.cell l2).trans h2)).mono ?_
 rintro e w' ⟨W2,v,rfl,rfl,hb2,ho2⟩
 refine ⟨rfl,grown_tr (grown_of_below hb2) (grown_box _ _ _ _),fun h=>?_⟩
 obtain ⟨A1,c1,hv,_⟩:=own_form (ho2 h)
 obtain ⟨L1,hL1⟩:∃ L,L=(writeF i d x.con).2.body:=⟨_,rfl⟩
 have ho2:(writeF i d x.con).1=0→W2.ownsRow W.heap.size 75 2 v L1.length (cellsK encB L1):=tZ144
 exact mZ229
theorem freeF_turns (i:Int) (ct:Int) (cp1 cp2:Addr) (w:World) (h1:w.cell? cp1=some (.int .i64 i)) (l1:cp1.block<w.heap.size) (h2:w.cell? cp2=some (.int .i64 ct)) (l2:cp2.block<w.heap.size):Turns 88 #[.pointer (some cp1),.pointer (some cp2)] (freeF i ct) w:=by
 intro y k hk gS base W hb hwb ho hcs hA
 obtain ⟨hlt,hfz,hc2,hc4⟩:=set_cells ho hk hA
 have hSx:=ho.eachS _ (List.getElem_mem hk)
 have hsz:(y.sets.l[k]'hk).con.sz:=hcs.eachS _ (List.mem_map_of_mem (List.getElem_mem hk))
 have hba:base≤W.heap.size:=by
  exact mZ230
 obtain ⟨x,hx⟩:∃ x,x=y.sets.l[k]'hk:=⟨_,rfl⟩
 rw [← hx] at hSx hsz hc2 ⊢
 refine (freeC_any gS (k*5) x.body.A x.body.n x.body.c x.body.l i ct cp1 cp2 W W.heap.size hc2 (hfz _) hlt hSx.body.rd.2.2 hSx.body.1 (Nat.le_refl _) tZ170  ((hb.cell l1).trans h1) ((hb.cell l2).trans h2)).mono ?_
 rintro e w' ⟨W2,v,rfl,rfl,hb2,ho2⟩
 refine ⟨rfl,grown_tr (grown_of_below hb2) (grown_box _ _ _ _),fun h=>?_⟩
 obtain ⟨A1,c1,hv,_⟩:=own_form (ho2 h)
 obtain ⟨L1,hL1⟩:∃ L,L=(freeF i ct x.con).2.body:=⟨_,rfl⟩
 have ho2:(freeF i ct x.con).1=0→W2.ownsRow W.heap.size 75 2 v L1.length (cellsK encB L1):=tZ144
 exact mZ229
theorem setF_turns (nm:BS) (tx:BS) (cp1 cp2:Addr) (w:World) (htx:tx.length≤140737488351232) (h1:w.cell? cp1=some (.string ⟨nm.toArray⟩)) (l1:cp1.block<w.heap.size) (h2:w.cell? cp2=some (.string ⟨tx.toArray⟩)) (l2:cp2.block<w.heap.size):Turns 90 #[.pointer (some cp1),.pointer (some cp2)] (setF nm tx) w:=by
 intro y k hk gS base W hb hwb ho hcs hA
 obtain ⟨hlt,hfz,hc2,hc4⟩:=set_cells ho hk hA
 have hSx:=ho.eachS _ (List.getElem_mem hk)
 have hsz:(y.sets.l[k]'hk).con.sz:=hcs.eachS _ (List.mem_map_of_mem (List.getElem_mem hk))
 have hba:base≤W.heap.size:=by
  exact mZ230
 obtain ⟨x,hx⟩:∃ x,x=y.sets.l[k]'hk:=⟨_,rfl⟩
 rw [← hx] at hSx hsz hc4 ⊢
 refine (setC_any gS (k*5) x.own.A x.own.n x.own.c x.own.l nm tx cp1 cp2 W W.heap.size hc4 (hfz _) hlt hSx.own.rd.2.2 hSx.own.1 (Nat.le_refl _) tZ178 (fun x hx=>by have:=(hsz.props x hx).2;show x.2.length≤_;omega) htx ((hb.cell l1).trans h1) ((hb.cell l2).trans h2)).mono ?_
 rintro e w' ⟨W2,v,rfl,rfl,hb2,ho2⟩
 refine ⟨rfl,grown_tr (grown_of_below hb2) (grown_box _ _ _ _),fun h=>?_⟩
 obtain ⟨A1,c1,hv,_⟩:=own_form (ho2 h)
 obtain ⟨L1,hL1⟩:∃ L,L=(setF nm tx x.con).2.own:=⟨_,rfl⟩
 have ho2:(setF nm tx x.con).1=0→W2.ownsRow W.heap.size 78 2 v L1.length (cellsK encP L1):=tZ144
 exact mZ231
theorem unsetF_turns (nm:BS) (cp1:Addr) (w:World) (h1:w.cell? cp1=some (.string ⟨nm.toArray⟩)) (l1:cp1.block<w.heap.size):Turns 92 #[.pointer (some cp1)] (unsetF nm) w:=by
 intro y k hk gS base W hb hwb ho hcs hA
 obtain ⟨hlt,hfz,hc2,hc4⟩:=set_cells ho hk hA
 have hSx:=ho.eachS _ (List.getElem_mem hk)
 have hsz:(y.sets.l[k]'hk).con.sz:=hcs.eachS _ (List.mem_map_of_mem (List.getElem_mem hk))
 have hba:base≤W.heap.size:=by
  exact mZ230
 obtain ⟨x,hx⟩:∃ x,x=y.sets.l[k]'hk:=⟨_,rfl⟩
 rw [← hx] at hSx hsz hc4 ⊢
 refine (unsetC_any gS (k*5) x.own.A x.own.n x.own.c x.own.l nm cp1 W W.heap.size hc4 (hfz _) hlt hSx.own.rd.2.2 hSx.own.1 (Nat.le_refl _) tZ178 (fun x hx=>by have:=(hsz.props x hx).2;show x.2.length≤_;omega) ((hb.cell l1).trans h1)).mono ?_
 rintro e w' ⟨W2,v,rfl,rfl,hb2,ho2⟩
 refine ⟨rfl,grown_tr (grown_of_below hb2) (grown_box _ _ _ _),fun h=>?_⟩
 obtain ⟨A1,c1,hv,_⟩:=own_form (ho2 h)
 obtain ⟨L1,hL1⟩:∃ L,L=(unsetF nm x.con).2.own:=⟨_,rfl⟩
 have ho2:(unsetF nm x.con).1=0→W2.ownsRow W.heap.size 78 2 v L1.length (cellsK encP L1):=tZ144
 exact mZ231
/-- what was turned, settled -/
def changeS (r:Int×TenC):Int×TenC:=if r.1≠0 then r else r.2.settle
theorem changed_sz {c c2:TenC} {p:BS} {F:SetC→Int×SetC} (hc:c.sz) (h:(0,c2)=c.changed p F) (hF:∀ s:SetC,s.sz→(F s).1=0→(F s).2.sz):c2.sz:=by
 unfold TenC.changed at h
 by_cases h1:c.ask p≠0
 ·rw [if_pos h1] at h
  injection h with h _
  exact absurd h.symm h1
 rw [if_neg h1] at h
 by_cases h2:c.find p<0
 ·rw [if_pos h2] at h
  injection h with h _
  cases h
 rw [if_neg h2] at h
 cases hs:c.sets[(c.find p).toNat]? with
 | none=>rw [hs] at h;injection h with h _;cases h
 | some s =>
  rw [hs] at h
  simp only at h
  by_cases h3:(F s).1≠0
  ·rw [if_pos h3] at h
   injection h with h _
   exact absurd h.symm h3
  rw [if_neg h3] at h
  injection h with _ h
  subst h
  exact hc.putS (hF s (hc.eachS s (List.mem_of_getElem? hs)) tZ1)
theorem bodyF_sz (E:List BlkT→Int) (L:List BlkT→List BlkT) (h:∀ l,(L l).length≤l.length+1∧(E l=0→l.length≤100000)):∀ s:SetC,s.sz→(bodyF E L s).1=0→(bodyF E L s).2.sz:=fun s hs h0 =>
 ⟨hs.path,hs.org,by have h1:=h s.body;have h2:=h1.2 h0;show (L s.body).length≤_;omega,hs.snaps,hs.each,hs.own,hs.props⟩
theorem writeF_sz (i:Int) (d:BS):∀ s:SetC,s.sz→(writeF i d s).1=0→(writeF i d s).2.sz:=bodyF_sz _ _ fun l=>⟨by
 unfold putL11
 simp only [List.length_append,List.length_take,List.length_drop,List.length_cons,List.length_nil]
 split <;> omega,fun h=>by
 unfold putE at h
 split at h
 ·rename_i h1;have:=okL_small l h1;omega
 ·cases h⟩
set_option maxRecDepth 100000 in
set_option maxHeartbeats 4000000 in
theorem writeT_any (t:TenR) (p:BS) (i:Int) (d:BS) (w:World) (B:Nat) (hB:B≤w.heap.size) (hr:t.rd w B) (hz:t.sz) (hp:p.length≤4000000000) (hmx:HasMax w) :
  Calls Tryz.prog 29 #[t.val,.string ⟨p.toArray⟩,.int .i64 i,.string ⟨d.toArray⟩] w (TenPost w (changeS (t.con.changed p (writeF i d)))):=by
 have hcz:=TenC.sz_of hr hz
 obtain ⟨nm,qu,nx,⟨s1,sn,s3,sl⟩,⟨u1,un,u3,ul⟩,⟨t1,tn,t3,tl⟩,⟨l1,ln,l3,ll⟩⟩:=t
 show Calls Tryz.prog 29 #[.agg #[.string ⟨nm.toArray⟩,.int .i64 qu,.int .i64 nx,.slice s1 sn s3,.slice u1 un u3,.slice t1 tn t3,.slice l1 ln l3],.string ⟨p.toArray⟩,.int .i64 i,.string ⟨d.toArray⟩] w _
 have hb:=(((((Below.refl w.heap.size w).alloc (Nat.le_refl _) (.cells #[.string ⟨nm.toArray⟩,.int .i64 qu,.int .i64 nx,.slice s1 sn s3,.slice u1 un u3,.slice t1 tn t3,.slice l1 ln l3] 27)).alloc tZ3 (.cells #[.int .i64 i] 3)).alloc tZ6 (.cells #[.string ⟨d.toArray⟩] 9)).alloc tZ6 (.cells #[.string ⟨#[]⟩,.int .i64 0,.int .i64 0,.slice none 0 0,.slice none 0 0,.slice none 0 0,.slice none 0 0] 27))
 have kt:=Blk.new w 27 #[.string ⟨nm.toArray⟩,.int .i64 qu,.int .i64 nx,.slice s1 sn s3,.slice u1 un u3,.slice t1 tn t3,.slice l1 ln l3]
 replace kt:=kt.alloc (.cells #[.int .i64 i] 3)
 replace kt:=kt.alloc (.cells #[.string ⟨d.toArray⟩] 9)
 replace kt:=kt.alloc (.cells #[.string ⟨#[]⟩,.int .i64 0,.int .i64 0,.slice none 0 0,.slice none 0 0,.slice none 0 0,.slice none 0 0] 27)
 have kx0:=Blk.new (w.alloc (.cells #[.string ⟨nm.toArray⟩,.int .i64 qu,.int .i64 nx,.slice s1 sn s3,.slice u1 un u3,.slice t1 tn t3,.slice l1 ln l3] 27)) 3 #[.int .i64 i]
 rw [show (w.alloc (.cells #[.string ⟨nm.toArray⟩,.int .i64 qu,.int .i64 nx,.slice s1 sn s3,.slice u1 un u3,.slice t1 tn t3,.slice l1 ln l3] 27)).heap.size=w.heap.size+1 by simp] at kx0
 replace kx0:=kx0.alloc (.cells #[.string ⟨d.toArray⟩] 9)
 replace kx0:=kx0.alloc (.cells #[.string ⟨#[]⟩,.int .i64 0,.int .i64 0,.slice none 0 0,.slice none 0 0,.slice none 0 0,.slice none 0 0] 27)
 have kx1:=Blk.new ((w.alloc (.cells #[.string ⟨nm.toArray⟩,.int .i64 qu,.int .i64 nx,.slice s1 sn s3,.slice u1 un u3,.slice t1 tn t3,.slice l1 ln l3] 27)).alloc (.cells #[.int .i64 i] 3)) 9 #[.string ⟨d.toArray⟩]
 rw [show ((w.alloc (.cells #[.string ⟨nm.toArray⟩,.int .i64 qu,.int .i64 nx,.slice s1 sn s3,.slice u1 un u3,.slice t1 tn t3,.slice l1 ln l3] 27)).alloc (.cells #[.int .i64 i] 3)).heap.size=w.heap.size+2 by simp] at kx1
 replace kx1:=kx1.alloc (.cells #[.string ⟨#[]⟩,.int .i64 0,.int .i64 0,.slice none 0 0,.slice none 0 0,.slice none 0 0,.slice none 0 0] 27)
 have kz:=Blk.new (((w.alloc (.cells #[.string ⟨nm.toArray⟩,.int .i64 qu,.int .i64 nx,.slice s1 sn s3,.slice u1 un u3,.slice t1 tn t3,.slice l1 ln l3] 27)).alloc (.cells #[.int .i64 i] 3)).alloc (.cells #[.string ⟨d.toArray⟩] 9)) 27 #[.string ⟨#[]⟩,.int .i64 0,.int .i64 0,.slice none 0 0,.slice none 0 0,.slice none 0 0,.slice none 0 0]
 rw [show (((w.alloc (.cells #[.string ⟨nm.toArray⟩,.int .i64 qu,.int .i64 nx,.slice s1 sn s3,.slice u1 un u3,.slice t1 tn t3,.slice l1 ln l3] 27)).alloc (.cells #[.int .i64 i] 3)).alloc (.cells #[.string ⟨d.toArray⟩] 9)).heap.size=w.heap.size+3 by simp] at kz
 have hsz:((((w.alloc (.cells #[.string ⟨nm.toArray⟩,.int .i64 qu,.int .i64 nx,.slice s1 sn s3,.slice u1 un u3,.slice t1 tn t3,.slice l1 ln l3] 27)).alloc (.cells #[.int .i64 i] 3)).alloc (.cells #[.string ⟨d.toArray⟩] 9)).alloc (.cells #[.string ⟨#[]⟩,.int .i64 0,.int .i64 0,.slice none 0 0,.slice none 0 0,.slice none 0 0,.slice none 0 0] 27)).heap.size=w.heap.size+4:=tZ3
 obtain ⟨W1,hW1⟩:∃ W,W=((((w.alloc (.cells #[.string ⟨nm.toArray⟩,.int .i64 qu,.int .i64 nx,.slice s1 sn s3,.slice u1 un u3,.slice t1 tn t3,.slice l1 ln l3] 27)).alloc (.cells #[.int .i64 i] 3)).alloc (.cells #[.string ⟨d.toArray⟩] 9)).alloc (.cells #[.string ⟨#[]⟩,.int .i64 0,.int .i64 0,.slice none 0 0,.slice none 0 0,.slice none 0 0,.slice none 0 0] 27)):=⟨_,rfl⟩
 rw [← hW1] at hb hsz kt kx0 kx1 kz
 have hKt:Hid (∀ W,Below W1.heap.size W1 W→Blk W w.heap.size 27 #[.string ⟨nm.toArray⟩,.int .i64 qu,.int .i64 nx,.slice s1 sn s3,.slice u1 un u3,.slice t1 tn t3,.slice l1 ln l3]):=fun W h=>kt.below h tZ1
 have hKx0:Hid (∀ W,Below W1.heap.size W1 W→Blk W (w.heap.size+1) 3 #[.int .i64 i]):=fun W h=>kx0.below h tZ1
 have hKx1:Hid (∀ W,Below W1.heap.size W1 W→Blk W (w.heap.size+2) 9 #[.string ⟨d.toArray⟩]):=fun W h=>kx1.below h tZ1
 have hKz:Hid (∀ W,Below W1.heap.size W1 W→Blk W (w.heap.size+3) 27 #[.string ⟨#[]⟩,.int .i64 0,.int .i64 0,.slice none 0 0,.slice none 0 0,.slice none 0 0,.slice none 0 0]):=fun W h=>kz.below h tZ1
 have hBW:Hid (∀ W,Below W1.heap.size W1 W→Below w.heap.size w W):=fun W h=>hb.trans (h.mono tZ1)
 have hSZ:Hid (∀ W,Below W1.heap.size W1 W→w.heap.size+4≤W.heap.size):=fun W h=>by have:=h.size;omega
 have hW0:Hid (Below W1.heap.size W1 W1):=Below.refl _ _
 have hrw:Hid (∀ W,Below W1.heap.size W1 W→TenR.rd W B ⟨nm,qu,nx,⟨s1,sn,s3,sl⟩,⟨u1,un,u3,ul⟩,⟨t1,tn,t3,tl⟩,⟨l1,ln,l3,ll⟩⟩∧B≤W.heap.size∧HasMax W):=fun W h =>
  ⟨TenR.rd.below hr ((hBW.out W h).mono hB),by have:=hSZ.out W h;omega,hmx.below (hBW.out W h)⟩
 obtain ⟨C,hC⟩:∃ C,C=TenR.con ⟨nm,qu,nx,⟨s1,sn,s3,sl⟩,⟨u1,un,u3,ul⟩,⟨t1,tn,t3,tl⟩,⟨l1,ln,l3,ll⟩⟩:=⟨_,rfl⟩
 rw [← hC] at hcz ⊢
 have hCH:Hid (∀ W,Below W1.heap.size W1 W→Calls Tryz.prog 85 #[.agg #[.string ⟨nm.toArray⟩,.int .i64 qu,.int .i64 nx,.slice s1 sn s3,.slice u1 un u3,.slice t1 tn t3,.slice l1 ln l3],.string ⟨p.toArray⟩,.func (.func 86) #[] #[.pointer (some ⟨w.heap.size+1,0,none⟩),.pointer (some ⟨w.heap.size+2,0,none⟩)]] W (TenPost W (C.changed p (writeF i d)))):=fun W h=>by
  rw [hC]
  exact changed2_any ⟨nm,qu,nx,⟨s1,sn,s3,sl⟩,⟨u1,un,u3,ul⟩,⟨t1,tn,t3,tl⟩,⟨l1,ln,l3,ll⟩⟩ p 86 ⟨w.heap.size+1,0,none⟩ ⟨w.heap.size+2,0,none⟩ (writeF i d) W B (hrw.out W h).2.1 (hrw.out W h).1 hz hp (hrw.out W h).2.2 (writeF_turns i d ⟨w.heap.size+1,0,none⟩ ⟨w.heap.size+2,0,none⟩ W ((hKx0.out W h).cell 0) tZ45 ((hKx1.out W h).cell 0) tZ45) (fun args W=>enterC Tryz.func86 tZ2 tZ2 args W)
 obtain ⟨⟨E,C2⟩,hV⟩:∃ V:Int×TenC,V=C.changed p (writeF i d):=⟨_,rfl⟩
 have HV:=Lib.hid hV
 rw [← hV] at hCH
 have HCZ:=Lib.hid hcz
 clear hb hsz kt kz kx0 kx1 hr hz hp hmx hV hC hcz
 go_enter Tryz.func29,Tryz.ntmps29
 have hc:=hCH.out W1 hW0.out
 have kk:=hKt.out W1 hW0.out
 obtain ⟨c0,c1,c2,c3,c4,c5,c6⟩:=(⟨kk.cell 0,kk.cell 1,kk.cell 2,kk.cell 3,kk.cell 4,kk.cell 5,kk.cell 6⟩:_∧_∧_∧_∧_∧_∧_)
 simp only [zF,zD,zE] at c0 c1 c2 c3 c4 c5 c6
 clear kk
 clear hCH
 go_wp2_with fail
 rw [← hW1]
 clear hW1
 refine hc.mono ?_
 clear hc c0 c1 c2 c3 c4 c5 c6
 rintro e w2 ⟨v,rfl,hb,hcs⟩
 have HW2:=Lib.hid (hW0.out.trans (hb.mono hW0.out.size))
 clear hb
 rcases hcs with ⟨h1,rfl⟩ | ⟨h1,z,rfl,ho,hy⟩
 ·simp only at h1
  have HE:=Lib.hid h1
  clear h1
  unfold ZEROT
  have HX:Hid (changeS (C.changed p (writeF i d))=(E,C2)):=by show _=_;rw [← HV.out];exact if_pos HE.out
  have hbn:=(HW2.out).alloc HW2.out.size (.cells #[.string ⟨#[]⟩,.int .i64 0,.int .i64 0,.slice none 0 0,.slice none 0 0,.slice none 0 0,.slice none 0 0] 27)
  have kbn:=Blk.new w2 27 #[.string ⟨#[]⟩,.int .i64 0,.int .i64 0,.slice none 0 0,.slice none 0 0,.slice none 0 0,.slice none 0 0]
  have hsn:(w2.alloc (.cells #[.string ⟨#[]⟩,.int .i64 0,.int .i64 0,.slice none 0 0,.slice none 0 0,.slice none 0 0,.slice none 0 0] 27)).heap.size=w2.heap.size+1:=tZ3
  obtain ⟨Ba,hBa⟩:∃ g,g=w2.heap.size:=⟨_,rfl⟩
  obtain ⟨w3,hWn⟩:∃ W,W=(w2.alloc (.cells #[.string ⟨#[]⟩,.int .i64 0,.int .i64 0,.slice none 0 0,.slice none 0 0,.slice none 0 0,.slice none 0 0] 27)):=⟨_,rfl⟩
  rw [← hWn] at hbn kbn hsn
  have HW3:=Lib.hid hbn
  rw [← hBa] at kbn
  have hKa:Hid (∀ W,Below w3.heap.size w3 W→Blk W Ba 27 #[.string ⟨#[]⟩,.int .i64 0,.int .i64 0,.slice none 0 0,.slice none 0 0,.slice none 0 0,.slice none 0 0]):=fun W h=>kbn.below h tZ1
  have HZa:=Lib.hid (show Ba=w2.heap.size∧w3.heap.size=w2.heap.size+1 from ⟨hBa,hsn⟩)
  clear hbn kbn hsn
  have hE:=HE.out
  go_upto_region 3 with (refine wpList_store_new w2 rfl 27 (.tmp 10) (.tmp 17) rfl 27 [.string ⟨#[]⟩,.int .i64 0,.int .i64 0,.slice none 0 0,.slice none 0 0,.slice none 0 0,.slice none 0 0] [.string ⟨#[]⟩,.int .i64 0,.int .i64 0,.slice none 0 0,.slice none 0 0,.slice none 0 0,.slice none 0 0] rfl rfl rfl tZ2 tZ5 ?_;rw [show ([.string ⟨#[]⟩,.int .i64 0,.int .i64 0,.slice none 0 0,.slice none 0 0,.slice none 0 0,.slice none 0 0]:List Value).toArray=#[.string ⟨#[]⟩,.int .i64 0,.int .i64 0,.slice none 0 0,.slice none 0 0,.slice none 0 0,.slice none 0 0] from rfl,← hWn,← hBa];clear hWn hBa)
  clear hE
  have KZ:=Lib.hid (hKz.out w3 HW3.out)
  have HB:=Lib.hid (hBW.out w3 HW3.out)
  obtain ⟨WR,hW4,hth,HL,HBW,hgw⟩:=res7 (g:=(w.heap.size+3)) [.string ⟨#[]⟩,.int .i64 0,.int .i64 0,.slice none 0 0,.slice none 0 0,.slice none 0 0,.slice none 0 0] KZ.out HB.out tZ1
  clear hgw
  go_wp2_with (refine wpList_store_mid rfl 27 (.tmp 8) (.tmp 21) rfl ((w.heap.size+3)) 0 #[.string ⟨#[]⟩,.int .i64 0,.int .i64 0,.slice none 0 0,.slice none 0 0,.slice none 0 0,.slice none 0 0] rfl rfl hth.out tZ2 tZ5 ?_;rw [← hW4];clear hW4)
  exact mZ219
 ·simp only at h1
  subst h1
  have HO:=Lib.hid (ho.mono (base':=w.heap.size) tZ128)
  have HY:=Lib.hid hy
  clear ho hy
  have HCS:=Lib.hid (changed_sz HCZ.out HV.out (writeF_sz i d))
  obtain ⟨mm,mq,mx,⟨m1,m2,m3,ml⟩,⟨n1,n2,n3,nl⟩,⟨p1,p2,p3,pl⟩,⟨q1,q2,q3,ql⟩⟩:=z
  simp only [TenR.val,TenR.cells,FS.val,strV]
  have hbn:=(HW2.out).alloc HW2.out.size (.cells #[.string ⟨mm.toArray⟩,.int .i64 mq,.int .i64 mx,.slice m1 m2 m3,.slice n1 n2 n3,.slice p1 p2 p3,.slice q1 q2 q3] 27)
  have kbn:=Blk.new w2 27 #[.string ⟨mm.toArray⟩,.int .i64 mq,.int .i64 mx,.slice m1 m2 m3,.slice n1 n2 n3,.slice p1 p2 p3,.slice q1 q2 q3]
  have hsn:(w2.alloc (.cells #[.string ⟨mm.toArray⟩,.int .i64 mq,.int .i64 mx,.slice m1 m2 m3,.slice n1 n2 n3,.slice p1 p2 p3,.slice q1 q2 q3] 27)).heap.size=w2.heap.size+1:=tZ3
  have HOn:=HO.out.below ((Below.refl w2.heap.size w2).alloc (Nat.le_refl _) (.cells #[.string ⟨mm.toArray⟩,.int .i64 mq,.int .i64 mx,.slice m1 m2 m3,.slice n1 n2 n3,.slice p1 p2 p3,.slice q1 q2 q3] 27))
  obtain ⟨Ba,hBa⟩:∃ g,g=w2.heap.size:=⟨_,rfl⟩
  obtain ⟨w3,hWn⟩:∃ W,W=(w2.alloc (.cells #[.string ⟨mm.toArray⟩,.int .i64 mq,.int .i64 mx,.slice m1 m2 m3,.slice n1 n2 n3,.slice p1 p2 p3,.slice q1 q2 q3] 27)):=⟨_,rfl⟩
  rw [← hWn] at hbn kbn hsn HOn
  have HW3:=Lib.hid hbn
  rw [← hBa] at kbn
  have hKa:Hid (∀ W,Below w3.heap.size w3 W→Blk W Ba 27 #[.string ⟨mm.toArray⟩,.int .i64 mq,.int .i64 mx,.slice m1 m2 m3,.slice n1 n2 n3,.slice p1 p2 p3,.slice q1 q2 q3]):=fun W h=>kbn.below h tZ1
  have HZa:=Lib.hid (show Ba=w2.heap.size∧w3.heap.size=w2.heap.size+1 from ⟨hBa,hsn⟩)
  have HO:=Lib.hid HOn
  clear hbn kbn hsn HOn
  have hSE:=settleT_any ⟨mm,mq,mx,⟨m1,m2,m3,ml⟩,⟨n1,n2,n3,nl⟩,⟨p1,p2,p3,pl⟩,⟨q1,q2,q3,ql⟩⟩ w3 w3.heap.size (Nat.le_refl _) HO.out.rd (TenR.sz_of HO.out.rd (by rw [HY.out];exact HCS.out)) (hrw.out w3 HW3.out).2.2
  rw [HY.out] at hSE
  obtain ⟨⟨E,C3⟩,hV3⟩:∃ V:Int×TenC,V=C2.settle:=⟨_,rfl⟩
  rw [← hV3] at hSE
  have HX:Hid (changeS (C.changed p (writeF i d))=(E,C3)):=by show _=_;rw [← HV.out,hV3];rfl
  have HSE:=Lib.hid hSE
  clear hSE hV3
  have kk:=hKa.out w3 (Below.refl _ _)
  obtain ⟨c0,c1,c2,c3,c4,c5,c6⟩:=(⟨kk.cell 0,kk.cell 1,kk.cell 2,kk.cell 3,kk.cell 4,kk.cell 5,kk.cell 6⟩:_∧_∧_∧_∧_∧_∧_)
  simp only [zF,zD,zE] at c0 c1 c2 c3 c4 c5 c6
  clear kk
  go_wp2_with (refine wpList_store_new w2 rfl 27 (.tmp 10) (.tmp 17) rfl 27 [.string ⟨#[]⟩,.int .i64 0,.int .i64 0,.slice none 0 0,.slice none 0 0,.slice none 0 0,.slice none 0 0] [.string ⟨mm.toArray⟩,.int .i64 mq,.int .i64 mx,.slice m1 m2 m3,.slice n1 n2 n3,.slice p1 p2 p3,.slice q1 q2 q3] rfl rfl rfl tZ2 tZ5 ?_;rw [show ([.string ⟨mm.toArray⟩,.int .i64 mq,.int .i64 mx,.slice m1 m2 m3,.slice n1 n2 n3,.slice p1 p2 p3,.slice q1 q2 q3]:List Value).toArray=#[.string ⟨mm.toArray⟩,.int .i64 mq,.int .i64 mx,.slice m1 m2 m3,.slice n1 n2 n3,.slice p1 p2 p3,.slice q1 q2 q3] from rfl,← hWn,← hBa];clear hWn hBa)
  refine HSE.out.mono ?_
  clear HSE c0 c1 c2 c3 c4 c5 c6
  rintro e w4 ⟨v,rfl,hb,hcs⟩
  have HW4:=Lib.hid (HW3.out.trans (hb.mono HW3.out.size))
  clear hb
  rcases hcs with ⟨h1,rfl⟩ | ⟨h1,z,rfl,ho,hy⟩
  ·simp only at h1
   have HE:=Lib.hid h1
   clear h1
   unfold ZEROT
   have KZ:=Lib.hid (hKz.out w4 HW4.out)
   have HB:=Lib.hid (hBW.out w4 HW4.out)
   obtain ⟨WR,hW4,hth,HL,HBW,hgw⟩:=res7 (g:=(w.heap.size+3)) [.string ⟨#[]⟩,.int .i64 0,.int .i64 0,.slice none 0 0,.slice none 0 0,.slice none 0 0,.slice none 0 0] KZ.out HB.out tZ1
   clear hgw
   go_wp2_with (refine wpList_store_mid rfl 27 (.tmp 8) (.tmp 25) rfl ((w.heap.size+3)) 0 #[.string ⟨#[]⟩,.int .i64 0,.int .i64 0,.slice none 0 0,.slice none 0 0,.slice none 0 0,.slice none 0 0] rfl rfl hth.out tZ2 tZ5 ?_;rw [← hW4];clear hW4)
   exact mZ219
  ·simp only at h1
   subst h1
   have HO:=Lib.hid (ho.mono (base':=w.heap.size) tZ169)
   have HY:=Lib.hid hy
   clear ho hy
   obtain ⟨am,aq,ax,⟨a1,a2,a3,al⟩,⟨f1,f2,f3,fl⟩,⟨i1,i2,i3,il⟩,⟨j1,j2,j3,jl⟩⟩:=z
   simp only [TenR.val,TenR.cells,FS.val,strV]
   have KZ:=Lib.hid (hKz.out w4 HW4.out)
   have HB:=Lib.hid (hBW.out w4 HW4.out)
   obtain ⟨WR,hW4,hth,HL,HBW,hgw⟩:=res7 (g:=(w.heap.size+3)) [.string ⟨am.toArray⟩,.int .i64 aq,.int .i64 ax,.slice a1 a2 a3,.slice f1 f2 f3,.slice i1 i2 i3,.slice j1 j2 j3] KZ.out HB.out tZ1
   have HOO:=Lib.hid (TenO.keptT HO.out hgw KZ.out offT_ten)
   clear hgw
   go_wp2_with (refine wpList_store_mid rfl 27 (.tmp 8) (.tmp 25) rfl ((w.heap.size+3)) 0 #[.string ⟨am.toArray⟩,.int .i64 aq,.int .i64 ax,.slice a1 a2 a3,.slice f1 f2 f3,.slice i1 i2 i3,.slice j1 j2 j3] rfl rfl hth.out tZ2 tZ5 ?_;rw [← hW4];clear hW4)
   exact bodyPost_ret (v:=.tuple #[.agg #[.string ⟨am.toArray⟩,.int .i64 aq,.int .i64 ax,.slice a1 a2 a3,.slice f1 f2 f3,.slice i1 i2 i3,.slice j1 j2 j3],.int .i64 0]) (results_cell_tmp rfl rfl HL.out) rfl (tenPost_ok HX.out HBW.out ⟨am,aq,ax,⟨a1,a2,a3,al⟩,⟨f1,f2,f3,fl⟩,⟨i1,i2,i3,il⟩,⟨j1,j2,j3,jl⟩⟩ HOO.out HY.out)
set_option maxRecDepth 100000 in
set_option maxHeartbeats 4000000 in
theorem freeT_any (t:TenR) (p:BS) (i:Int) (ct:Int) (w:World) (B:Nat) (hB:B≤w.heap.size) (hr:t.rd w B) (hz:t.sz) (hp:p.length≤4000000000) (hmx:HasMax w) :
  Calls Tryz.prog 30 #[t.val,.string ⟨p.toArray⟩,.int .i64 i,.int .i64 ct] w (TenPost w (t.con.changed p (freeF i ct))):=by
 have hcz:=TenC.sz_of hr hz
 obtain ⟨nm,qu,nx,⟨s1,sn,s3,sl⟩,⟨u1,un,u3,ul⟩,⟨t1,tn,t3,tl⟩,⟨l1,ln,l3,ll⟩⟩:=t
 show Calls Tryz.prog 30 #[.agg #[.string ⟨nm.toArray⟩,.int .i64 qu,.int .i64 nx,.slice s1 sn s3,.slice u1 un u3,.slice t1 tn t3,.slice l1 ln l3],.string ⟨p.toArray⟩,.int .i64 i,.int .i64 ct] w _
 have hb:=(((((Below.refl w.heap.size w).alloc (Nat.le_refl _) (.cells #[.string ⟨nm.toArray⟩,.int .i64 qu,.int .i64 nx,.slice s1 sn s3,.slice u1 un u3,.slice t1 tn t3,.slice l1 ln l3] 27)).alloc tZ3 (.cells #[.int .i64 i] 3)).alloc tZ6 (.cells #[.int .i64 ct] 3)).alloc tZ6 (.cells #[.string ⟨#[]⟩,.int .i64 0,.int .i64 0,.slice none 0 0,.slice none 0 0,.slice none 0 0,.slice none 0 0] 27))
 have kt:=Blk.new w 27 #[.string ⟨nm.toArray⟩,.int .i64 qu,.int .i64 nx,.slice s1 sn s3,.slice u1 un u3,.slice t1 tn t3,.slice l1 ln l3]
 replace kt:=kt.alloc (.cells #[.int .i64 i] 3)
 replace kt:=kt.alloc (.cells #[.int .i64 ct] 3)
 replace kt:=kt.alloc (.cells #[.string ⟨#[]⟩,.int .i64 0,.int .i64 0,.slice none 0 0,.slice none 0 0,.slice none 0 0,.slice none 0 0] 27)
 have kx0:=Blk.new (w.alloc (.cells #[.string ⟨nm.toArray⟩,.int .i64 qu,.int .i64 nx,.slice s1 sn s3,.slice u1 un u3,.slice t1 tn t3,.slice l1 ln l3] 27)) 3 #[.int .i64 i]
 rw [show (w.alloc (.cells #[.string ⟨nm.toArray⟩,.int .i64 qu,.int .i64 nx,.slice s1 sn s3,.slice u1 un u3,.slice t1 tn t3,.slice l1 ln l3] 27)).heap.size=w.heap.size+1 by simp] at kx0
 replace kx0:=kx0.alloc (.cells #[.int .i64 ct] 3)
 replace kx0:=kx0.alloc (.cells #[.string ⟨#[]⟩,.int .i64 0,.int .i64 0,.slice none 0 0,.slice none 0 0,.slice none 0 0,.slice none 0 0] 27)
 have kx1:=Blk.new ((w.alloc (.cells #[.string ⟨nm.toArray⟩,.int .i64 qu,.int .i64 nx,.slice s1 sn s3,.slice u1 un u3,.slice t1 tn t3,.slice l1 ln l3] 27)).alloc (.cells #[.int .i64 i] 3)) 3 #[.int .i64 ct]
 rw [show ((w.alloc (.cells #[.string ⟨nm.toArray⟩,.int .i64 qu,.int .i64 nx,.slice s1 sn s3,.slice u1 un u3,.slice t1 tn t3,.slice l1 ln l3] 27)).alloc (.cells #[.int .i64 i] 3)).heap.size=w.heap.size+2 by simp] at kx1
 replace kx1:=kx1.alloc (.cells #[.string ⟨#[]⟩,.int .i64 0,.int .i64 0,.slice none 0 0,.slice none 0 0,.slice none 0 0,.slice none 0 0] 27)
 have kz:=Blk.new (((w.alloc (.cells #[.string ⟨nm.toArray⟩,.int .i64 qu,.int .i64 nx,.slice s1 sn s3,.slice u1 un u3,.slice t1 tn t3,.slice l1 ln l3] 27)).alloc (.cells #[.int .i64 i] 3)).alloc (.cells #[.int .i64 ct] 3)) 27 #[.string ⟨#[]⟩,.int .i64 0,.int .i64 0,.slice none 0 0,.slice none 0 0,.slice none 0 0,.slice none 0 0]
 rw [show (((w.alloc (.cells #[.string ⟨nm.toArray⟩,.int .i64 qu,.int .i64 nx,.slice s1 sn s3,.slice u1 un u3,.slice t1 tn t3,.slice l1 ln l3] 27)).alloc (.cells #[.int .i64 i] 3)).alloc (.cells #[.int .i64 ct] 3)).heap.size=w.heap.size+3 by simp] at kz
 have hsz:((((w.alloc (.cells #[.string ⟨nm.toArray⟩,.int .i64 qu,.int .i64 nx,.slice s1 sn s3,.slice u1 un u3,.slice t1 tn t3,.slice l1 ln l3] 27)).alloc (.cells #[.int .i64 i] 3)).alloc (.cells #[.int .i64 ct] 3)).alloc (.cells #[.string ⟨#[]⟩,.int .i64 0,.int .i64 0,.slice none 0 0,.slice none 0 0,.slice none 0 0,.slice none 0 0] 27)).heap.size=w.heap.size+4:=tZ3
 obtain ⟨W1,hW1⟩:∃ W,W=((((w.alloc (.cells #[.string ⟨nm.toArray⟩,.int .i64 qu,.int .i64 nx,.slice s1 sn s3,.slice u1 un u3,.slice t1 tn t3,.slice l1 ln l3] 27)).alloc (.cells #[.int .i64 i] 3)).alloc (.cells #[.int .i64 ct] 3)).alloc (.cells #[.string ⟨#[]⟩,.int .i64 0,.int .i64 0,.slice none 0 0,.slice none 0 0,.slice none 0 0,.slice none 0 0] 27)):=⟨_,rfl⟩
 rw [← hW1] at hb hsz kt kx0 kx1 kz
 have hKt:Hid (∀ W,Below W1.heap.size W1 W→Blk W w.heap.size 27 #[.string ⟨nm.toArray⟩,.int .i64 qu,.int .i64 nx,.slice s1 sn s3,.slice u1 un u3,.slice t1 tn t3,.slice l1 ln l3]):=fun W h=>kt.below h tZ1
 have hKx0:Hid (∀ W,Below W1.heap.size W1 W→Blk W (w.heap.size+1) 3 #[.int .i64 i]):=fun W h=>kx0.below h tZ1
 have hKx1:Hid (∀ W,Below W1.heap.size W1 W→Blk W (w.heap.size+2) 3 #[.int .i64 ct]):=fun W h=>kx1.below h tZ1
 have hKz:Hid (∀ W,Below W1.heap.size W1 W→Blk W (w.heap.size+3) 27 #[.string ⟨#[]⟩,.int .i64 0,.int .i64 0,.slice none 0 0,.slice none 0 0,.slice none 0 0,.slice none 0 0]):=fun W h=>kz.below h tZ1
 have hBW:Hid (∀ W,Below W1.heap.size W1 W→Below w.heap.size w W):=fun W h=>hb.trans (h.mono tZ1)
 have hSZ:Hid (∀ W,Below W1.heap.size W1 W→w.heap.size+4≤W.heap.size):=fun W h=>by have:=h.size;omega
 have hW0:Hid (Below W1.heap.size W1 W1):=Below.refl _ _
 have hrw:Hid (∀ W,Below W1.heap.size W1 W→TenR.rd W B ⟨nm,qu,nx,⟨s1,sn,s3,sl⟩,⟨u1,un,u3,ul⟩,⟨t1,tn,t3,tl⟩,⟨l1,ln,l3,ll⟩⟩∧B≤W.heap.size∧HasMax W):=fun W h =>
  ⟨TenR.rd.below hr ((hBW.out W h).mono hB),by have:=hSZ.out W h;omega,hmx.below (hBW.out W h)⟩
 obtain ⟨C,hC⟩:∃ C,C=TenR.con ⟨nm,qu,nx,⟨s1,sn,s3,sl⟩,⟨u1,un,u3,ul⟩,⟨t1,tn,t3,tl⟩,⟨l1,ln,l3,ll⟩⟩:=⟨_,rfl⟩
 rw [← hC] at hcz ⊢
 have hCH:Hid (∀ W,Below W1.heap.size W1 W→Calls Tryz.prog 85 #[.agg #[.string ⟨nm.toArray⟩,.int .i64 qu,.int .i64 nx,.slice s1 sn s3,.slice u1 un u3,.slice t1 tn t3,.slice l1 ln l3],.string ⟨p.toArray⟩,.func (.func 88) #[] #[.pointer (some ⟨w.heap.size+1,0,none⟩),.pointer (some ⟨w.heap.size+2,0,none⟩)]] W (TenPost W (C.changed p (freeF i ct)))):=fun W h=>by
  rw [hC]
  exact changed2_any ⟨nm,qu,nx,⟨s1,sn,s3,sl⟩,⟨u1,un,u3,ul⟩,⟨t1,tn,t3,tl⟩,⟨l1,ln,l3,ll⟩⟩ p 88 ⟨w.heap.size+1,0,none⟩ ⟨w.heap.size+2,0,none⟩ (freeF i ct) W B (hrw.out W h).2.1 (hrw.out W h).1 hz hp (hrw.out W h).2.2 (freeF_turns i ct ⟨w.heap.size+1,0,none⟩ ⟨w.heap.size+2,0,none⟩ W ((hKx0.out W h).cell 0) tZ45 ((hKx1.out W h).cell 0) tZ45) (fun args W=>enterC Tryz.func88 tZ2 tZ2 args W)
 obtain ⟨⟨E,C2⟩,hV⟩:∃ V:Int×TenC,V=C.changed p (freeF i ct):=⟨_,rfl⟩
 have HV:=Lib.hid hV
 rw [← hV] at hCH ⊢
 clear hb hsz kt kz kx0 kx1 hr hz hp hmx hV hC hcz
 go_enter Tryz.func30,Tryz.ntmps30
 exact mZ234
end Go.Proofs.YtcgclpcocdappaaGreatDoor
namespace Go.Proofs.YtcgclpcocdappaaGreatDoor
open Go.RowKit
structure SetOk (l:List SetC) (s:SetC):Prop where
 path:pathB s.path=true
 par:∀ u,parB s.path=some u→∃ x∈l,x.path=u
 own:propsB s.own=true
 body:okL s.body=true
 snaps:snapsB (s.snaps.map SnapC.r)=true
 org:s.org=[]∨∃ a b,splitL s.org=some (a,b)∧a≠s.path∧∃ x,l.find? (fun x=>x.path == a)=some x∧∃ y∈x.snaps,y.nm=b
theorem setB_iff (l:List SetC) (s:SetC):setB (l.map SetC.r) s.r=true↔SetOk l s:=by
 have hpar:(match parB s.path with | none=>true | some u=>(l.map SetC.r).any fun x=>x.path == u)=true↔∀ u,parB s.path=some u→∃ x∈l,x.path=u:=by
  cases hp:parB s.path with
  | none=>exact ⟨fun _ u h=>by (cases h),fun _=>rfl⟩
  | some u =>
   simp only [List.any_map]
   constructor
   ·intro h v hv
    cases hv
    obtain ⟨x,hx,e⟩:=List.any_eq_true.1 h
    exact ⟨x,hx,by simpa [SetC.r] using e⟩
   ·intro h
    obtain ⟨x,hx,e⟩:=h u rfl
    exact List.any_eq_true.2 ⟨x,hx,by simpa [SetC.r] using e⟩
 have horg:originB (l.map SetC.r) s.r=true↔(s.org=[]∨∃ a b,splitL s.org=some (a,b)∧a≠s.path∧∃ x,l.find? (fun x=>x.path == a)=some x∧∃ y∈x.snaps,y.nm=b):=by
  unfold originB
  show (s.org == [] || match splitL s.org with
   | none=>false
   | some (p,n)=>!(p == s.path) && match (l.map SetC.r).find? (fun x=>x.path == p) with
    | none=>false
    | some x=>x.snaps.l.any fun y=>y.nm == n)=true↔_
  rw [Bool.or_eq_true]
  refine or_congr tZ3 ?_
  cases hsp:splitL s.org with
  | none=>simp
  | some v =>
   obtain ⟨a,b⟩:=v
   simp only [Bool.and_eq_true,find_map]
   have e:(l.find? fun x:SetC=>(SetC.r x).path == a)=l.find? fun x=>x.path == a:=rfl
   rw [e]
   constructor
   ·rintro ⟨h1,h2⟩
    refine ⟨a,b,rfl,by simpa using h1,?_⟩
    cases hf:l.find? (fun x=>x.path == a) with
    | none=>rw [hf] at h2;cases h2
    | some x =>
     rw [hf] at h2
     simp only [Option.map_some] at h2
     have h2:((x.snaps.map SnapC.r).any fun y=>y.nm == b)=true:=h2
     rw [List.any_map] at h2
     obtain ⟨y,hy,ey⟩:=List.any_eq_true.1 h2
     exact ⟨x,rfl,y,hy,by simpa [SnapC.r] using ey⟩
   ·rintro ⟨a',b',h0,h1,x,hf,y,hy,ey⟩
    cases h0
    refine ⟨by simpa using h1,?_⟩
    rw [hf]
    show ((x.snaps.map SnapC.r).any fun y=>y.nm == b)=true
    rw [List.any_map]
    exact List.any_eq_true.2 ⟨y,hy,by simpa [SnapC.r] using ey⟩
 unfold setB
 rw [Bool.and_eq_true,Bool.and_eq_true,Bool.and_eq_true,Bool.and_eq_true,Bool.and_eq_true,horg]
 constructor
 ·rintro ⟨⟨⟨⟨⟨h1,h2⟩,h3⟩,h4⟩,h5⟩,h6⟩
  exact ⟨h1,hpar.1 h2,h3,h4,h5,h6⟩
 ·rintro ⟨h1,h2,h3,h4,h5,h6⟩
  exact ⟨⟨⟨⟨⟨h1,hpar.2 h2⟩,h3⟩,h4⟩,h5⟩,h6⟩
structure SetsOk (l:List SetC):Prop where
 len:l.length≤32
 root:∃ x∈l,x.path=[]
 each:∀ s∈l,SetOk l s
 asc:l.Pairwise fun a b=>Op.bytesLess a.path b.path=true
theorem setsB_iff (l:List SetC):setsB (l.map SetC.r)=true↔SetsOk l:=by
 unfold setsB
 rw [Bool.and_eq_true,Bool.and_eq_true,setsFrom_iff]
 simp only [decide_eq_true_eq,List.length_map,List.any_map]
 constructor
 ·rintro ⟨⟨h1,h2⟩,h3,h4,-⟩
  obtain ⟨x,hx,e⟩:=List.any_eq_true.1 h2
  exact ⟨h1,⟨x,hx,by simpa [SetC.r] using e⟩,fun s hs=>(setB_iff l s).1 (h3 _ (List.mem_map_of_mem hs)),List.pairwise_map.1 h4⟩
 ·rintro ⟨h1,⟨x,hx,e⟩,h3,h4⟩
  refine ⟨⟨h1,List.any_eq_true.2 ⟨x,hx,by simpa [SetC.r] using e⟩⟩,fun s hs=>?_,List.pairwise_map.2 h4,fun q hq=>by cases hq⟩
  obtain ⟨y,hy,rfl⟩:=List.mem_map.1 hs
  exact (setB_iff l y).2 (h3 y hy)
structure TenC.Ok (c:TenC):Prop where
 nm:nameB c.nm=true
 quota:amt c.quota 0=true
 next:amt c.next 1=true
 sets:SetsOk c.sets
 grants:grantsB c.grants=true
 stages:stagesB (c.stages.map StageC.r)=true
 log:logB c.log=true
theorem TenC.E_ok (c:TenC):c.E=0↔c.Ok:=by
 unfold TenC.E tenE
 constructor
 ·intro h
  have hb:tenB c.r=true:=by
   by_cases hb:tenB c.r=true
   ·exact hb
   ·rw [if_neg hb] at h;exact absurd h tZ4
  unfold tenB at hb
  rw [Bool.and_eq_true,Bool.and_eq_true,Bool.and_eq_true,Bool.and_eq_true,Bool.and_eq_true,Bool.and_eq_true] at hb
  obtain ⟨⟨⟨⟨⟨⟨h1,h2⟩,h3⟩,h4⟩,h5⟩,h6⟩,h7⟩:=hb
  exact ⟨h1,h2,h3,(setsB_iff _).1 h4,h5,h6,h7⟩
 ·rintro ⟨h1,h2,h3,h4,h5,h6,h7⟩
  rw [if_pos]
  unfold tenB
  rw [Bool.and_eq_true,Bool.and_eq_true,Bool.and_eq_true,Bool.and_eq_true,Bool.and_eq_true,Bool.and_eq_true]
  exact ⟨⟨⟨⟨⟨⟨h1,h2⟩,h3⟩,(setsB_iff _).2 h4⟩,h5⟩,h6⟩,h7⟩
/-- sets in order: each is found by its path -/
theorem find_of_mem {l:List SetC} (h:l.Pairwise fun a b=>Op.bytesLess a.path b.path=true) {x:SetC} (hx:x∈l):l.find? (fun y=>y.path == x.path)=some x:=by
 induction l with
 | nil=>cases hx
 | cons y r ih =>
  obtain ⟨h1,h2⟩:=List.pairwise_cons.1 h
  rcases List.mem_cons.1 hx with rfl | hx
  ·rw [List.find?_cons_of_pos tZ3]
  ·rw [List.find?_cons_of_neg (by simpa using bl_ne (h1 x hx))]
   exact ih h2 hx
/-! ### a set less -/
/-! ### a set turned -/
theorem SetOk.congr {l l':List SetC} {s:SetC} (h:SetOk l s) (hp:∀ x∈l,∃ y∈l',y.path=x.path) (hf:∀ a x,l.find? (fun x=>x.path == a)=some x→∃ y,l'.find? (fun x=>x.path == a)=some y∧y.snaps=x.snaps):SetOk l' s:=by
 refine ⟨h.path,fun u hu=>?_,h.own,h.body,h.snaps,?_⟩
 ·obtain ⟨x,hx,e⟩:=h.par u hu
  obtain ⟨y,hy,e2⟩:=hp x hx
  exact ⟨y,hy,e2.trans e⟩
 ·rcases h.org with h | ⟨a,b,h1,h2,x,hx,y,hy,e⟩
  ·exact .inl h
  ·obtain ⟨z,hz,e2⟩:=hf a x hx
   exact .inr ⟨a,b,h1,h2,z,hz,y,by rw [e2];exact hy,e⟩
theorem putS_ok (c:TenC) (k:Nat) (hk:k<c.sets.length) (s:SetC) (h:c.Ok) (h1:s.path=(c.sets[k]'hk).path) (h2:s.org=(c.sets[k]'hk).org) (h3:s.snaps=(c.sets[k]'hk).snaps) (hb:okL s.body=true) (ho:propsB s.own=true):(c.putS k s).Ok:=by
 obtain ⟨g1,g2,g3,g4,g5,g6,g7⟩:=h
 refine ⟨g1,g2,g3,?_,g5,g6,g7⟩
 show SetsOk (c.sets.set k s)
 have hpath:(c.sets.set k s).map SetC.path=c.sets.map SetC.path:=by
  rw [List.map_set,h1,← List.getElem_map SetC.path (h:=by rw [List.length_map];exact hk),List.set_getElem_self]
 have hasc:(c.sets.set k s).Pairwise fun a b=>Op.bytesLess a.path b.path=true:=by
  have:=List.pairwise_map (f:=SetC.path) (l:=c.sets) (R:=fun a b=>Op.bytesLess a b=true)
  have h4:=this.2 g4.asc
  rw [← hpath] at h4
  exact List.pairwise_map.1 h4
 have hmem:∀ x∈c.sets,∃ y∈c.sets.set k s,y.path=x.path∧y.snaps=x.snaps:=by
  intro x hx
  obtain ⟨j,hj,rfl⟩:=List.mem_iff_getElem.1 hx
  by_cases hjk:k=j
  ·subst hjk
   exact ⟨s,List.mem_iff_getElem.2 ⟨k,by rw [List.length_set];exact hj,by rw [List.getElem_set_self]⟩,h1,h3⟩
  ·exact ⟨c.sets[j],List.mem_iff_getElem.2 ⟨j,by rw [List.length_set];exact hj,by rw [List.getElem_set_ne hjk]⟩,rfl,rfl⟩
 have hcg:∀ z,SetOk c.sets z→SetOk (c.sets.set k s) z:=fun z hz=>hz.congr (fun x hx=>by
  obtain ⟨y,hy,e,_⟩:=hmem x hx
  exact ⟨y,hy,e⟩) (fun a x hx=>by
  obtain ⟨y,hy,e1,e2⟩:=hmem x (List.mem_of_find?_eq_some hx)
  have hxa:x.path=a:=by simpa using List.find?_some hx
  refine ⟨y,?_,e2⟩
  rw [← hxa,← e1]
  exact find_of_mem hasc hy)
 refine ⟨by rw [List.length_set];exact g4.len,?_,fun z hz=>?_,hasc⟩
 ·obtain ⟨x,hx,e⟩:=g4.root
  obtain ⟨y,hy,e1,_⟩:=hmem x hx
  exact ⟨y,hy,e1.trans e⟩
 ·rcases List.mem_or_eq_of_mem_set hz with hz | rfl
  ·exact hcg z (g4.each z hz)
  ·have h5:=hcg _ (g4.each _ (List.getElem_mem hk))
   exact ⟨by rw [h1];exact h5.path,by rw [h1];exact h5.par,ho,hb,by rw [h3];exact h5.snaps,by rw [h1,h2];exact h5.org⟩
end Go.Proofs.YtcgclpcocdappaaGreatDoor
