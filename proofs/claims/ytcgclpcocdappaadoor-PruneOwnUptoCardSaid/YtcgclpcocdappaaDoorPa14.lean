/-
  names.Parent and names.Split, by their contracts. tree.origin, by its contract.
-/
import Derived.ShutString
import Derived.WalkKit
import Derived.WalkSpells
import Derived.Below
import Derived.Laws.OwnMore
import Derived.Deep.AppendLies
import Derived.Deep.Draws
import Derived.Laws.Rows
import Derived.Maps.AppendAt
import Derived.RegionTactic
import Derived.OwnWalk
import Derived.Deep.QuietTactic
import Derived.BigQuiet
import Derived.Lib.Hide
import Derived.Laws.CopyOwn
import Derived.IntWalk
import Derived.Lib.SplitLaws
import Derived.Lib.LastIndexByte
import Derived.Lib.Strings
import Derived.Test.YtcgclpcocdappaaDoorRows
import Derived.Handy
import Derived.Shelf.Strings.Search1
import Derived.Shelf.Strings.Search2
import Derived.Shelf.Strings.Search3
import Derived.Shelf.Strings.Cut
import Derived.Shelf.Strings.Count
import Derived.Shelf.LaysM
import Derived.Shelf.Strings.Shaped
import Derived.Shelf.Strings.LastIndex
import Derived.Shelf.Strings.Split
import Derived.Shelf.Strings.SplitShaped
import Derived.Shelf.Unicode.Decode
import Derived.Shelf.Strings.RuneCount
import Derived.Shelf.Strings.Explode
import Derived.Shelf.Unicode.DecodeSlow
import Derived.Shelf.Slices.Turned
import Derived.Test.YtcgclpcocdappaaDoorProg
import Derived.Laws.BytesString
import Derived.Laws.IdiomStrings
import Derived.Lib.ConvBytes
import Derived.Deep.Quiet
import Derived.Orders
import Derived.Sort.Walk0
import Derived.Sort.KeysCollected
import Derived.Test.YtcgclpcocdappaaDoorP0
import Derived.Test.YtcgclpcocdappaaDoorPa1
import Derived.Test.YtcgclpcocdappaaDoorPa2
import Derived.Test.YtcgclpcocdappaaDoorPa3
import Derived.Test.YtcgclpcocdappaaDoorPa5
import Derived.Test.YtcgclpcocdappaaDoorPa6
import Derived.Test.YtcgclpcocdappaaDoorPa7
import Derived.Test.YtcgclpcocdappaaDoorPa8
import Derived.Test.YtcgclpcocdappaaDoorPa10
import Derived.Test.YtcgclpcocdappaaDoorPa11
namespace Go.Proofs.YtcgclpcocdappaaDoor
open Go.RowKit
set_option maxRecDepth 100000 in
theorem parent_any (s:ByteArray) (w:World) (hs:s.size≤4000000000) (hm:HasMax w) :
  Calls Tryd.prog 49 #[.string s] w fun e w'=>Below w.heap.size w w' ∧
   ((s.data.toList=[]∨pathB s.data.toList=false)∧e=.returned (.tuple #[.string ⟨#[]⟩,.bool false]) ∨
    s.data.toList≠[]∧pathB s.data.toList=true∧e=.returned (.tuple #[.string ⟨(upL s.data.toList).toArray⟩,.bool true])):=by
 have hts:=Lib.hid (toList_data s)
 go_enter Tryd.func49,Tryd.ntmps49
 go_wp2_with fail
 ·have h0:s.toList=[]:=by assumption
  rw [hts.out] at h0
  refine bodyPost_ret (v:=.tuple #[.string ⟨#[]⟩,.bool false]) (by simp [results,Tryd.results49,go_sem]) rfl ⟨Below.refl _ _,.inl ⟨.inl h0,rfl⟩⟩
 ·have h0:¬ s.toList=[]:=by assumption
  have hie:s.toList.isEmpty=false:=by simpa using h0
  rw [hts.out] at h0
  refine (path_any s w hs hm).mono ?_
  rintro e w1 ⟨rfl,hb1⟩
  obtain ⟨bs,hbs0⟩:∃ b,b=pathB s.data.toList:=⟨_,rfl⟩
  rw [← hbs0]
  simp only [hie]
  clear hie
  have hbs:=Lib.hid hbs0
  have hne:=Lib.hid h0
  have hlast:=Lib.hid (last_eq s)
  have hlb:=Lib.hid (last_bound s.data.toList)
  clear hbs0 h0
  cases bs
  ·go_wp2_with fail
   refine bodyPost_ret (v:=.tuple #[.string ⟨#[]⟩,.bool false]) (by simp [results,Tryd.results49,go_sem]) rfl ⟨hb1,.inl ⟨.inr hbs.out.symm,rfl⟩⟩
  ·go_wp2_with fail
   refine (Tryd.strings_LastIndexByte s 47 (by omega) _).mono ?_
   rintro e w2 ⟨rfl,rfl⟩
   have hm1:=Lib.hid (show max (Lib.lastIndexByte s 47) 0=(((lastS s.data.toList).getD 0:Nat):Int) from hlast.out)
   obtain ⟨k,hk⟩:∃ k,k=(lastS s.data.toList).getD 0:=⟨_,rfl⟩
   rw [← hk] at hlb hm1
   have HK:=Lib.hid hk
   have hks:k≤s.size:=by rw [Lib.size_eq];exact hlb.out
   clear hlast hlb hk
   go_wp2_with fail
   ·have hv:(s.extract 0 (max (Lib.lastIndexByte s 47) 0).toNat)=⟨(upL s.data.toList).toArray⟩:=by
     apply eq_mk
     rw [hm1.out,Lib.extract_from_zero]
     unfold upL
     rw [← HK.out]
     rfl
    refine bodyPost_ret (v:=.tuple #[.string ⟨(upL s.data.toList).toArray⟩,.bool true]) (by simp [results,Tryd.results49,go_sem,hv]) rfl ⟨hb1,.inr ⟨hne.out,hbs.out.symm,rfl⟩⟩
   ·rename_i h0
    exact absurd ⟨by omega,by rw [hm1.out];omega⟩ h0
/-- what Split answers -/
def splitV (l:List UInt8):Value:=match atL l with
 | some (p,n)=>if (pathB p && nameB n)=true then .tuple #[.string ⟨p.toArray⟩,.string ⟨n.toArray⟩,.int .i64 0] else .tuple #[.string ⟨#[]⟩,.string ⟨#[]⟩,.int .i64 31]
 | none=>.tuple #[.string ⟨#[]⟩,.string ⟨#[]⟩,.int .i64 31]
theorem atL_len (l p n:List UInt8) (h:atL l=some (p,n)):p.length+n.length<l.length:=by
 induction l generalizing p with
 | nil=>cases h
 | cons a r ih =>
  unfold atL at h
  split at h
  ·simp only [Option.some.injEq,Prod.mk.injEq] at h
   obtain ⟨rfl,rfl⟩:=h
   simp
  ·split at h
   ·rename_i p' n' e
    simp only [Option.some.injEq,Prod.mk.injEq] at h
    obtain ⟨rfl,rfl⟩:=h
    have:=ih _ e
    simp
    omega
   ·cases h
set_option maxRecDepth 100000 in
theorem split_any (s:ByteArray) (w:World) (hs:s.size≤4000000000) (hm:HasMax w) :
  Calls Tryd.prog 72 #[.string s] w fun e w'=>e=.returned (splitV s.data.toList)∧Below w.heap.size w w':=by
 obtain ⟨m,hmm⟩:=id hm
 have hcut:∃ p n:ByteArray,∃ b:Bool,p.size≤4000000000∧splitV s.data.toList=(if (b && pathB p.data.toList && nameB n.data.toList)=true then .tuple #[.string p,.string n,.int .i64 0] else .tuple #[.string ⟨#[]⟩,.string ⟨#[]⟩,.int .i64 31]) ∧
   Calls Tryd.prog 82 #[.string s,.string ⟨#[64]⟩] w fun e w'=>e=.returned (.tuple #[.string p,.string n,.bool b])∧∃ q,w'=w.drewN q:=by
  have hc:=Tryd.strings_Cut s ⟨#[64]⟩ m w (by omega) hmm
  have he:=cut_at s.data.toList
  have hsz:=Lib.size_eq s
  cases ha:atL s.data.toList with
  | none =>
   rw [ha] at he
   refine ⟨s,⟨#[]⟩,false,hs,by unfold splitV;rw [ha];rfl,hc.mono ?_⟩
   rintro e w' ⟨h1,h2⟩
   refine ⟨?_,h2⟩
   rw [h1]
   simp only at he
   rw [he]
  | some pn =>
   obtain ⟨p,n⟩:=pn
   rw [ha] at he
   have hl:=atL_len _ _ _ ha
   refine ⟨⟨p.toArray⟩,⟨n.toArray⟩,true,by rw [Lib.size_eq];simp;omega,by unfold splitV;rw [ha];rfl,hc.mono ?_⟩
   rintro e w' ⟨h1,h2⟩
   refine ⟨?_,h2⟩
   rw [h1]
   simp only at he
   rw [he]
 clear hmm
 obtain ⟨p,n,b,hps,hv,hcut⟩:=hcut
 have HV:=Lib.hid hv
 clear hv
 go_enter Tryd.func72,Tryd.ntmps72
 go_wp2_with fail
 refine hcut.mono ?_
 clear hcut
 rintro e w1 ⟨rfl,q,rfl⟩
 have hb1:Below w.heap.size w (w.drewN q):=below_drewN (Below.refl _ _) q
 have hm1:=hm.below hb1
 cases b
 ·go_wp2_with fail
  exact bodyPost_ret (v:=.tuple #[.string ⟨#[]⟩,.string ⟨#[]⟩,.int .i64 31]) (by simp [results,Tryd.results72,go_sem]) rfl ⟨by rw [HV.out];rfl,hb1⟩
 ·go_wp2_with fail
  refine (path_any p _ hps hm1).mono ?_
  rintro e w2 ⟨rfl,hb2⟩
  have hb:=hb1.trans (hb2.mono hb1.size)
  obtain ⟨b,hbb⟩:∃ b,b=pathB p.data.toList:=⟨_,rfl⟩
  rw [← hbb] at HV ⊢
  clear hbb
  cases b
  ·go_wp2_with fail
   exact bodyPost_ret (v:=.tuple #[.string ⟨#[]⟩,.string ⟨#[]⟩,.int .i64 31]) (by simp [results,Tryd.results72,go_sem]) rfl ⟨by rw [HV.out];rfl,hb⟩
  ·go_wp2_with fail
   refine (name_any n _).mono ?_
   rintro e w3 ⟨rfl,hb3⟩
   have hb':=hb.trans (hb3.mono hb.size)
   obtain ⟨b,hbb⟩:∃ b,b=nameB n.data.toList:=⟨_,rfl⟩
   rw [← hbb] at HV ⊢
   clear hbb
   cases b
   ·go_wp2_with fail
    exact bodyPost_ret (v:=.tuple #[.string ⟨#[]⟩,.string ⟨#[]⟩,.int .i64 31]) (by simp [results,Tryd.results72,go_sem]) rfl ⟨by rw [HV.out];rfl,hb'⟩
   ·go_wp2_with fail
    exact bodyPost_ret (v:=.tuple #[.string p,.string n,.int .i64 0]) (by simp [results,Tryd.results72,go_sem]) rfl ⟨by rw [HV.out];rfl,hb'⟩
end Go.Proofs.YtcgclpcocdappaaDoor
namespace Go.Proofs.YtcgclpcocdappaaDoor
open Go.RowKit
theorem set_at {w:World} {B n:Nat} {A:Option Addr} {l:List SetR} (h:Reads w B 5 A n (cellsK encSet l)) (hn:n=l.length) {i:Nat} (hi:i<n) :
  ∃ ad,A=some ad∧ad.block<B∧w.cell? (ad.add (i*5))=some (.string ⟨(l[i]'(by omega)).path.toArray⟩)∧w.cell? ⟨(ad.add (i*5)).block,(ad.add (i*5)).off+1,none⟩=some (.string ⟨(l[i]'(by omega)).org.toArray⟩) ∧
   w.cell? ⟨(ad.add (i*5)).block,(ad.add (i*5)).off+2,none⟩=some (.slice (l[i]'(by omega)).body.A (l[i]'(by omega)).body.n (l[i]'(by omega)).body.c)∧w.cell? ⟨(ad.add (i*5)).block,(ad.add (i*5)).off+3,none⟩=some (.slice (l[i]'(by omega)).snaps.A (l[i]'(by omega)).snaps.n (l[i]'(by omega)).snaps.c)∧w.cell? ⟨(ad.add (i*5)).block,(ad.add (i*5)).off+4,none⟩=some (.slice (l[i]'(by omega)).own.A (l[i]'(by omega)).own.n (l[i]'(by omega)).own.c) :=
 Reads.el5 (f0:=fun x:SetR=>.string ⟨x.path.toArray⟩) (f1:=fun x=>.string ⟨x.org.toArray⟩) (f2:=fun x=>.slice x.body.A x.body.n x.body.c) (f3:=fun x=>.slice x.snaps.A x.snaps.n x.snaps.c) (f4:=fun x=>.slice x.own.A x.own.n x.own.c) h hn hi
theorem firstI_cases {α:Type} (p:α→Bool) (l:List α):(firstI p l=-1∧l.find? p=none)∨∃ (k:Nat) (h:k<l.length),firstI p l=(k:Int)∧l.find? p=some (l[k]'h):=by
 cases hf:l.find? p with
 | none =>
  have h:=List.find?_eq_none.1 hf
  refine .inl ⟨?_,rfl⟩
  unfold firstI
  rw [firstP_none p l (fun y hy=>by simpa using h y hy),if_neg (Nat.lt_irrefl _)]
 | some x =>
  obtain ⟨hp,i,hi,e,hb⟩:=List.find?_eq_some_iff_getElem.1 hf
  refine .inr ⟨i,hi,?_,by rw [e]⟩
  have:firstP p l=i:=firstP_eq p l i x (fun y hy=>by
   obtain ⟨j,hj,e2⟩:=List.mem_iff_getElem.1 hy
   rw [List.getElem_take] at e2
   have:=hb j (by rw [List.length_take] at hj;omega)
   rw [e2] at this
   simpa using this) (by rw [List.getElem?_eq_getElem hi,e]) hp
  unfold firstI
  rw [this,if_pos hi]
theorem splitV_cases (l:BS):(splitL l=none∧splitV l=.tuple #[.string ⟨#[]⟩,.string ⟨#[]⟩,.int .i64 31])∨∃ p n:BS,splitL l=some (p,n)∧splitV l=.tuple #[.string ⟨p.toArray⟩,.string ⟨n.toArray⟩,.int .i64 0]∧p.length≤l.length∧n.length≤l.length:=by
 unfold splitL splitV
 cases h:atL l with
 | none=>exact .inl ⟨rfl,rfl⟩
 | some pn =>
  obtain ⟨p,n⟩:=pn
  have:=atL_len _ _ _ h
  by_cases hc:(pathB p && nameB n)=true
  ·exact .inr ⟨p,n,by simp only [if_pos hc],by simp only [if_pos hc],by omega,by omega⟩
  ·exact .inl ⟨by simp only [if_neg hc],by simp only [if_neg hc]⟩
def originP (all:List SetR) (sp so:BS):Bool:=so == [] || match splitL so with
 | none=>false
 | some (p,n)=>!(p == sp) && match all.find? (fun x=>x.path == p) with
  | none=>false
  | some x=>x.snaps.l.any fun y=>y.nm == n
theorem originB_P (all:List SetR) (s:SetR):originB all s=originP all s.path s.org:=rfl
set_option maxRecDepth 100000 in
set_option maxHeartbeats 2000000 in
theorem origin_any (v0 v1 v2 v4 v5 v6 v7 v8 v9:Value) (all:List SetR) (n:Nat) (hnl:n=all.length) (A:Option Addr) (c:Nat) (sp so:BS) (w:World) (B:Nat) (hr:Reads w B 5 A n (cellsK encSet all)) (he:∀ y∈all,y.rd w B) (hB:B≤w.heap.size) (hn:n≤1000000000000) (hv:∀ y∈all,y.sz) (hs:so.length≤4000000000) (hmx:HasMax w) :
  Calls Tryd.prog 54 #[.agg #[v0,v1,v2,.slice A n c,v4,v5,v6],.agg #[.string ⟨sp.toArray⟩,.string ⟨so.toArray⟩,v7,v8,v9]] w fun e w'=>e=.returned (.bool (originP all sp so))∧Below w.heap.size w w':=by
 have hb1:=(Below.refl w.heap.size w).alloc (Nat.le_refl _) (.cells #[v0,v1,v2,.slice A n c,v4,v5,v6] 27)
 have hb2:=hb1.alloc hb1.size (.cells #[.string ⟨sp.toArray⟩,.string ⟨so.toArray⟩,v7,v8,v9] 45)
 have k1:=(Blk.new w 27 #[v0,v1,v2,.slice A n c,v4,v5,v6]).alloc (.cells #[.string ⟨sp.toArray⟩,.string ⟨so.toArray⟩,v7,v8,v9] 45)
 have k2:=Blk.new (w.alloc (.cells #[v0,v1,v2,.slice A n c,v4,v5,v6] 27)) 45 #[.string ⟨sp.toArray⟩,.string ⟨so.toArray⟩,v7,v8,v9]
 rw [show (w.alloc (.cells #[v0,v1,v2,.slice A n c,v4,v5,v6] 27)).heap.size=w.heap.size+1 by simp] at k2
 obtain ⟨W2,hW2⟩:∃ W,W=(w.alloc (.cells #[v0,v1,v2,.slice A n c,v4,v5,v6] 27)).alloc (.cells #[.string ⟨sp.toArray⟩,.string ⟨so.toArray⟩,v7,v8,v9] 45):=⟨_,rfl⟩
 have hsz:W2.heap.size=w.heap.size+2:=by rw [hW2];simp
 rw [← hW2] at hb2 k1 k2
 have hS:=Lib.hid (fun (W':World) (hB':Below W2.heap.size W2 W') =>
  (⟨(k1.below hB' (by omega)).cell 0,(k1.below hB' (by omega)).cell 1,(k1.below hB' (by omega)).cell 2,(k1.below hB' (by omega)).cell 3,(k1.below hB' (by omega)).cell 4,(k1.below hB' (by omega)).cell 5,(k1.below hB' (by omega)).cell 6,(k2.below hB' (by omega)).cell 0⟩ :
   W'.cell? ⟨w.heap.size,0,none⟩=some v0∧W'.cell? ⟨w.heap.size,1,none⟩=some v1∧W'.cell? ⟨w.heap.size,2,none⟩=some v2∧W'.cell? ⟨w.heap.size,3,none⟩=some (.slice A n c)∧W'.cell? ⟨w.heap.size,4,none⟩=some v4∧W'.cell? ⟨w.heap.size,5,none⟩=some v5∧W'.cell? ⟨w.heap.size,6,none⟩=some v6∧W'.cell? ⟨w.heap.size+1,0,none⟩=some (.string ⟨sp.toArray⟩)))
 have HSZ:=Lib.hid hsz
 have HB:=Lib.hid hb2
 have HNL:=Lib.hid hnl
 have hR:=Lib.hid (fun (W':World) (hB':Below W2.heap.size W2 W')=>(⟨hr.below ((hb2.trans (hB'.mono (by omega))).mono hB),hB'.size,hmx.below (hb2.trans (hB'.mono (by omega))),fun y hy=>⟨(he y hy).body.below ((hb2.trans (hB'.mono (by omega))).mono hB),(he y hy).snaps.below ((hb2.trans (hB'.mono (by omega))).mono hB)⟩⟩:Reads W' B 5 A n (cellsK encSet all)∧W2.heap.size≤W'.heap.size∧HasMax W'∧∀ y∈all,y.body.rd W' B 2 encB∧y.snaps.rd W' B 5 encSnap))
 have HV:=Lib.hid hv
 clear k1 k2 hsz hb1 hb2 hnl hr he hv
 by_cases ho:so=[]
 ·subst ho
  have HE:Hid (originP all sp []=true):=rfl
  go_enter Tryd.func54,Tryd.ntmps54
  go_wp2_with fail
  rw [← hW2]
  go_ret
  exact ⟨by rw [HE.out];rfl,HB.out⟩
 ·have ho1:(so == [])=false:=by simpa using ho
  have ho2:so.isEmpty=false:=by cases so <;> simp_all
  have HE:Hid (originP all sp so=match splitL so with
   | none=>false
   | some (p,n)=>!(p == sp) && match all.find? (fun x=>x.path == p) with
    | none=>false
    | some x=>x.snaps.l.any fun y=>y.nm == n):=by show _=_;unfold originP;rw [ho1];rfl
  obtain ⟨V,hV⟩:∃ V,V=originP all sp so:=⟨_,rfl⟩
  rw [← hV] at HE ⊢
  have hspl:=fun (hm:HasMax W2)=>split_any ⟨so.toArray⟩ W2 (by show so.length≤_;exact hs) hm
  rw [show (ByteArray.mk so.toArray).data.toList=so from rfl] at hspl
  have hspl:=hspl (hmx.below HB.out)
  have HO:=Lib.hid ho
  clear hV ho
  rcases splitV_cases so with ⟨h1,h2⟩ | ⟨p,m,h1,h2,h3,h4⟩
  ·rw [h2] at hspl
   rw [h1] at HE
   clear h1 h2
   go_enter Tryd.func54,Tryd.ntmps54
   go_wp2_with fail
   rw [← hW2]
   refine hspl.mono ?_
   clear hspl
   rintro e w1 ⟨rfl,hb1⟩
   obtain ⟨q0,q1,q2,q3,q4,q5,q6,q7⟩:=hS.out _ hb1
   obtain ⟨r1,r2,r3,r4⟩:=hR.out _ hb1
   have hfi:=find_any v0 v1 v2 v4 v5 v6 all n HNL.out A c [] w1 B r1 (by have:=HSZ.out;omega) (by omega)
   have HB1:=Lib.hid hb1
   clear r1 r2 r3 r4 hb1
   go_wp2_with fail
   refine hfi.mono ?_
   clear hfi
   rintro e w2 ⟨rfl,hb2⟩
   go_wp2_with fail
   go_ret
   exact ⟨by rw [HE.out];rfl,HB.out.trans ((HB1.out.trans (hb2.mono HB1.out.size)).mono (by have:=HSZ.out;omega))⟩
  ·rw [h2] at hspl
   rw [h1] at HE
   clear h1 h2
   have HE:Hid (V=(!(p == sp) && match all.find? (fun x=>x.path == p) with
    | none=>false
    | some x=>x.snaps.l.any fun y=>y.nm == m)):=HE
   go_enter Tryd.func54,Tryd.ntmps54
   go_wp2_with fail
   rw [← hW2]
   refine hspl.mono ?_
   clear hspl
   rintro e w1 ⟨rfl,hb1⟩
   obtain ⟨q0,q1,q2,q3,q4,q5,q6,q7⟩:=hS.out _ hb1
   obtain ⟨r1,r2,r3,r4⟩:=hR.out _ hb1
   have hfi:=find_any v0 v1 v2 v4 v5 v6 all n HNL.out A c p w1 B r1 (by have:=HSZ.out;omega) (by omega)
   obtain ⟨z,hz⟩:∃ z,z=findS all p:=⟨_,rfl⟩
   rw [← hz] at hfi
   have HB1:=Lib.hid hb1
   have HZ:=Lib.hid hz
   clear r1 r2 r3 r4 hb1 hz
   go_wp2_with fail
   refine hfi.mono ?_
   clear hfi q0 q1 q2 q3 q4 q5 q6 q7
   rintro e w2 ⟨rfl,hb2⟩
   have HB2:=Lib.hid (HB1.out.trans (hb2.mono HB1.out.size))
   clear hb2 HB1
   obtain ⟨q0,q1,q2,q3,q4,q5,q6,q7⟩:=hS.out _ HB2.out
   by_cases hps:p=sp
   ·have hpb:(p == sp)=true:=by simpa using hps
    have HE2:Hid (V=false):=by show _=_;rw [HE.out,hpb];rfl
    subst hps
    go_wp2_with fail
    go_ret
    exact ⟨by rw [HE2.out];rfl,HB.out.trans (HB2.out.mono (by have:=HSZ.out;omega))⟩
   ·have hpb:(p == sp)=false:=by simpa using hps
    have HE2:Hid (V=match all.find? (fun x=>x.path == p) with
     | none=>false
     | some x=>x.snaps.l.any fun y=>y.nm == m):=by show _=_;rw [HE.out,hpb];rfl
    clear hps HE
    rcases firstI_cases (fun x:SetR=>x.path == p) all with ⟨f1,f2⟩ | ⟨k,hk,f1,f2⟩
    ·have hz:z=-1:=HZ.out.trans f1
     rw [f2] at HE2
     subst hz
     clear f1 f2
     go_wp2_with fail
     go_ret
     exact ⟨by rw [HE2.out];rfl,HB.out.trans (HB2.out.mono (by have:=HSZ.out;omega))⟩
    ·have hz:z=(k:Int):=HZ.out.trans f1
     rw [f2] at HE2
     subst hz
     obtain ⟨r1,r2,r3,r4⟩:=hR.out _ HB2.out
     have hkn:k<n:=by have:=HNL.out;omega
     have hki:(k:Int)<(n:Int):=by omega
     obtain ⟨ad,rfl,-,c0,c1,c2,c3,c4⟩:=set_at r1 HNL.out hkn
     obtain ⟨x,hx⟩:∃ x,x=all[k]'hk:=⟨_,rfl⟩
     rw [← hx] at c0 c1 c2 c3 c4 HE2
     have hxm:x∈all:=by rw [hx];exact List.getElem_mem _
     obtain ⟨_,r5⟩:=r4 x hxm
     have hsn:=HV.out x hxm
     have HC:=Lib.hid (snapAt_any (.string ⟨x.path.toArray⟩) (.string ⟨x.org.toArray⟩) (.slice x.body.A x.body.n x.body.c) (.slice x.own.A x.own.n x.own.c) x.snaps.l x.snaps.n r5.1 x.snaps.A x.snaps.c m w2 B r5.2.2 (by have:=HSZ.out;omega) (by have:=hsn.snaps;omega))
     have HA:=Lib.hid (firstI_any (fun y:SnapR=>y.nm == m) x.snaps.l)
     have HE3:Hid (V=x.snaps.l.any fun y=>y.nm == m):=HE2
     obtain ⟨xp,xo,⟨b1,b2,b3,bl⟩,⟨s1,s2,s3,sl⟩,⟨o1,o2,o3,ol⟩⟩:=x
     simp only at c0 c1 c2 c3 c4 HC HA HE3
     clear hx f1 f2 HE2 r1 r2 r3 r4 r5 hsn hxm hR HZ HV HNL
     go_wp2_with fail
     refine HC.out.mono ?_
     rintro e w3 ⟨rfl,hb3⟩
     have HBF:=Lib.hid (HB.out.trans ((HB2.out.trans (hb3.mono HB2.out.size)).mono (by have:=HSZ.out;omega)))
     have HA2:Hid (V=decide ((0:Int)≤findN sl m)):=by show _=_;rw [HE3.out];exact HA.out.symm
     clear c0 c1 c2 c3 c4 hb3 HC HA HE3
     go_wp2_with fail
     go_ret
     exact ⟨by rw [HA2.out];rfl,HBF.out⟩
end Go.Proofs.YtcgclpcocdappaaDoor
