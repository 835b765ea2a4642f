/-
  The page's has and Changed: where the content is the last snapshot's nothing is changed.
-/
import Derived.WalkKit
import Derived.WalkSpells
import Derived.Below
import Derived.Laws.OwnMore
import Derived.Deep.AppendLies
import Derived.Deep.Draws
import Derived.Laws.Rows
import Derived.Maps.AppendAt
import Derived.RegionTactic
import Derived.OwnWalk
import Derived.Deep.QuietTactic
import Derived.BigQuiet
import Derived.Lib.Hide
import Derived.Laws.CopyOwn
import Derived.IntWalk
import Derived.Test.YtcgclpcocdappaaGreatDoorRows
import Derived.Handy
import Derived.Deep.Quiet
import Derived.Orders
import Derived.Lib.SplitLaws
import Derived.Lib.LastIndexByte
import Derived.Lib.Strings
import Derived.ShutString
import Derived.Sort.Walk0
import Derived.Sort.KeysCollected
import Derived.Shelf.Strings.Search1
import Derived.Shelf.Strings.Search2
import Derived.Shelf.Strings.Search3
import Derived.Shelf.Strings.Cut
import Derived.Shelf.Strings.Count
import Derived.Shelf.LaysM
import Derived.Shelf.Strings.Shaped
import Derived.Shelf.Strings.LastIndex
import Derived.Shelf.Strings.Split
import Derived.Shelf.Strings.SplitShaped
import Derived.Shelf.Unicode.Decode
import Derived.Shelf.Strings.RuneCount
import Derived.Shelf.Strings.Explode
import Derived.Shelf.Unicode.DecodeSlow
import Derived.Test.YtcgclpcocdappaaGreatDoorProg
import Derived.Laws.BytesString
import Derived.Laws.IdiomStrings
import Derived.Lib.ConvBytes
import Derived.Deep.MidRow
import Derived.Test.YtcgclpcocdappaaGreatDoorJ0
import Derived.Test.YtcgclpcocdappaaGreatDoorJbkv1
import Derived.Test.YtcgclpcocdappaaGreatDoorJbkv3
import Derived.Test.YtcgclpcocdappaaGreatDoorJbkv4
import Derived.Test.YtcgclpcocdappaaGreatDoorJbkv5
import Derived.Test.YtcgclpcocdappaaGreatDoorJbkv8
import Derived.Test.YtcgclpcocdappaaGreatDoorJbkv14
import Derived.Test.YtcgclpcocdappaaGreatDoorJbkv15
namespace Go.Proofs.YtcgclpcocdappaaGreatDoor
open Go.RowKit
set_option maxRecDepth 100000 in
set_option maxHeartbeats 4000000 in
theorem has_in (l:BL) (xi:Int) (xs:BS) (hx:(xi,xs)∈l) (n:Nat) (hnl:n=l.length) (A:Option Addr) (c:Nat) (w:World) (B:Nat) (hr:Reads w B 2 A n (bcells l)) (hB:B≤w.heap.size) (hn:n≤140737488351232) :
  Calls Tryz.prog 56 #[.slice A n c,.agg #[.int .i64 xi,.string ⟨xs.toArray⟩]] w fun e w'=>e=.returned (.bool true)∧Below w.heap.size w w':=by
 have hb:=(Below.refl w.heap.size w).alloc (Nat.le_refl _) (.cells #[.int .i64 xi,.string ⟨xs.toArray⟩] 75)
 have kb:=Blk.new w 75 #[.int .i64 xi,.string ⟨xs.toArray⟩]
 obtain ⟨W1,hW1⟩:∃ W,W=w.alloc (.cells #[.int .i64 xi,.string ⟨xs.toArray⟩] 75):=⟨_,rfl⟩
 rw [← hW1] at hb kb
 have HB:=Lib.hid hb
 have HK:=Lib.hid kb
 have HN:=Lib.hid hnl
 have HX:=Lib.hid hx
 have hr1:=hr.below (hb.mono hB)
 clear hb kb hr hnl hx
 go_enter Tryz.func56,Tryz.ntmps56
 go_wp2_with fail
 rw [← hW1]
 clear hW1
 go_loopw [5] (fun j wr=>∃ k q:Nat,k≤n∧j=.int .i64 (k:Int)∧Hid ((xi,xs) ∉ l.take k)∧wr=W1.drewN q) (fun j _=>n-(intOf j).toNat)
 case atStart=>exact ⟨0,0,Nat.zero_le _,rfl,(show _ ∉ _ by simp),rfl⟩
 case round =>
  obtain ⟨k,q,hk,rfl,hno,rfl⟩:=hrel
  by_cases hlt:k<n
  ·obtain ⟨ad,rfl,_,c0,c1⟩:=hr1.blk2 HN.out hlt
   have hki:(k:Int)<(n:Int):=by omega
   have hkl:k<l.length:=by have:=HN.out;omega
   obtain ⟨y,hy⟩:∃ y,y=l[k]'hkl:=⟨_,rfl⟩
   rw [← hy] at c0 c1
   have htl:=List.take_succ_eq_append_getElem hkl
   rw [← hy] at htl
   have HTL:=Lib.hid htl
   obtain ⟨yi,ys⟩:=y
   simp only at c0 c1
   have e0:=HK.out.cell 0
   have e1:=HK.out.cell 1
   simp only [zF,zD,zE] at e0 e1
   clear hy htl hr1
   go_wp2_with fail
   by_cases hxy:yi=xi
   ·subst hxy
    by_cases hss:ys=xs
    ·subst hss
     go_big_quiet (fail)
     go_wp2_with fail
     go_ret
     exact ⟨rfl,below_drewN (below_drewN HB.out _) _⟩
    ·have hb1:(ys == xs)=false:=by simpa using hss
     have hnext:Hid ((yi,xs) ∉ l.take (k+1)):=by
      show _ ∉ _
      rw [HTL.out]
      intro h
      rcases List.mem_append.1 h with h | h
      ·exact hno.out h
      ·rw [List.mem_singleton] at h;injection h with _ h;exact hss h.symm
     clear hno HTL
     go_big_quiet (fail)
     go_wp2_with fail
     go_roundw
     case rel=>exact ⟨k+1,q+nq,by omega,by go_num,hnext,rfl⟩
     case measure=>simp [intOf];omega
   ·have hb1:(yi == xi)=false:=by simpa using hxy
    have hnext:Hid ((xi,xs) ∉ l.take (k+1)):=by
     show _ ∉ _
     rw [HTL.out]
     intro h
     rcases List.mem_append.1 h with h | h
     ·exact hno.out h
     ·rw [List.mem_singleton] at h;injection h with h _;exact hxy h.symm
    clear hno HTL
    go_big_quiet (fail)
    go_wp2_with fail
    go_roundw
    case rel=>exact ⟨k+1,q+nq,by omega,by go_num,hnext,rfl⟩
    case measure=>simp [intOf];omega
  ·have h1:=hno.out
   rw [List.take_of_length_le (by have:=HN.out;omega)] at h1
   exact absurd HX.out h1
set_option maxRecDepth 100000 in
set_option maxHeartbeats 4000000 in
theorem changed0_any (x:SetR) (w:World) (B:Nat) (hr:x.rd w B) (hB:B≤w.heap.size) (hz:x.sz) (zm:Nat) (hzm:zm+1=x.snaps.n) (y:SnapR) (hy:x.snaps.l[zm]?=some y) (hyl:y.body.l=x.body.l) :
  Calls Tryz.prog 15 #[.agg #[.string ⟨x.path.toArray⟩,.string ⟨x.org.toArray⟩,.slice x.body.A x.body.n x.body.c,.slice x.snaps.A x.snaps.n x.snaps.c,.slice x.own.A x.own.n x.own.c]] w fun e w'=>e=.returned (.int .i64 0)∧Below w.heap.size w w':=by
 obtain ⟨pa,og,⟨bA,bn,bc,bl⟩,⟨zA,zn,zc,zl⟩,⟨oA,on,oc,ol⟩⟩:=x
 simp only at hzm hy hyl ⊢
 obtain ⟨hzl,hye⟩:=List.getElem?_eq_some_iff.1 hy
 have hyr:=hr.each y (List.mem_of_getElem? hy)
 have hzn:zn≤1000000000000:=hz.snaps
 have hbn:bn≤1000000000000:=hz.body
 have hyn:y.body.n≤1000000000000:=by have h1:=hyr.body.1;have h2:bn=bl.length:=hr.body.1;rw [hyl] at h1;omega
 have hb:=((Below.refl w.heap.size w).alloc (Nat.le_refl _) (.cells #[.string ⟨pa.toArray⟩,.string ⟨og.toArray⟩,.slice bA bn bc,.slice zA zn zc,.slice oA on oc] 42))
 have kt:=Blk.new w 42 #[.string ⟨pa.toArray⟩,.string ⟨og.toArray⟩,.slice bA bn bc,.slice zA zn zc,.slice oA on oc]
 have hsz:(w.alloc (.cells #[.string ⟨pa.toArray⟩,.string ⟨og.toArray⟩,.slice bA bn bc,.slice zA zn zc,.slice oA on oc] 42)).heap.size=w.heap.size+1:=by simp
 obtain ⟨W1,hW1⟩:∃ W,W=(w.alloc (.cells #[.string ⟨pa.toArray⟩,.string ⟨og.toArray⟩,.slice bA bn bc,.slice zA zn zc,.slice oA on oc] 42)):=⟨_,rfl⟩
 rw [← hW1] at hb hsz kt
 have hKt:Hid (∀ W,Below W1.heap.size W1 W→Blk W w.heap.size 42 #[.string ⟨pa.toArray⟩,.string ⟨og.toArray⟩,.slice bA bn bc,.slice zA zn zc,.slice oA on oc]):=fun W h=>kt.below h (by omega)
 have hBW:Hid (∀ W,Below W1.heap.size W1 W→Below w.heap.size w W):=fun W h=>hb.trans (h.mono (by omega))
 have hSZ:Hid (∀ W,Below W1.heap.size W1 W→w.heap.size+1≤W.heap.size):=fun W h=>by have:=h.size;omega
 have hW0:Hid (Below W1.heap.size W1 W1):=Below.refl _ _
 obtain ⟨ad,hza,-,-,-,fz2,-,-⟩:=snap_at hr.snaps.2.2 (show zn=zl.length from hr.snaps.1) (show zm<zn by omega)
 have hza:zA=some ad:=hza
 subst hza
 rw [hye] at fz2
 obtain ⟨lA,hlA⟩:∃ q,q=y.body.A:=⟨_,rfl⟩
 obtain ⟨ln,hln⟩:∃ q,q=y.body.n:=⟨_,rfl⟩
 obtain ⟨lc,hlc⟩:∃ q,q=y.body.c:=⟨_,rfl⟩
 rw [← hlA,← hln,← hlc] at fz2
 have hRB:Hid (∀ W,Below W1.heap.size W1 W→Reads W B 2 bA bn (bcells bl)∧Reads W B 2 lA ln (bcells bl)∧B≤W.heap.size∧W.cell? ⟨(ad.add (zm*5)).block,(ad.add (zm*5)).off+2,none⟩=some (.slice lA ln lc)):=fun W h=>by
  have h1:=(hBW.out W h).mono hB
  refine ⟨hr.body.2.2.below h1,?_,by have:=hSZ.out W h;omega,?_⟩
  ·rw [hlA,hln,← hyl]
   exact hyr.body.2.2.below h1
  ·obtain ⟨ad2,hz2,-,-,-,fz,-,-⟩:=snap_at (hr.snaps.2.2.below h1) (show zn=zl.length from hr.snaps.1) (show zm<zn by omega)
   injection hz2 with hz2
   subst hz2
   rw [hye,← hlA,← hln,← hlc] at fz
   exact fz
 have HNB:Hid (bn=bl.length):=hr.body.1
 have HLN:Hid (ln=bl.length):=by show _=_;rw [hln,← hyl];exact hyr.body.1
 have hwz:IntKind.i64.wrap ((zn:Int)-1)=(zm:Int):=by rw [IntKind.wrap_i64];omega
 have hzi:(zm:Int)<(zn:Int):=by omega
 have hz0:(0:Int)≤(zm:Int):=by omega
 have hzb:((zn:Int) == 0)=false:=by simp;omega
 have hlm:ln≤1000000000000:=by rw [hln];exact hyn
 have HLM:=Lib.hid hlm
 clear hb hsz kt hr hz hzm hy hyl hye hyr hyn hlA hln hlc fz2 hlm hzl
 go_enter Tryz.func15,Tryz.ntmps15
 go_wp2_with fail
 rw [← hW1]
 clear hW1
 go_loopw [3,4] (fun s j wr=>∃ k:Nat,k≤bn∧s=.int .i64 0∧j=.int .i64 (k:Int)∧Below W1.heap.size W1 wr) (fun _ j _=>bn-(intOf j).toNat)
 case atStart=>exact ⟨0,Nat.zero_le _,rfl,rfl,Below.refl _ _⟩
 case round =>
  obtain ⟨k,hk,rfl,rfl,hbw⟩:=hrel
  have HBW:=Lib.hid hbw
  have kk:=hKt.out wr hbw
  have t2:=kk.cell 2
  simp only [zF,zD,zE] at t2
  by_cases hlt:k<bn
  ·have hki:(k:Int)<(bn:Int):=by omega
   have hk0:(0:Int)≤(k:Int):=by omega
   have hkl:k<bl.length:=by have:=HNB.out;omega
   obtain ⟨bd,rfl,-,c0,c1⟩:=(hRB.out wr hbw).1.blk2 HNB.out hlt
   obtain ⟨v,hv⟩:∃ v,v=bl[k]'hkl:=⟨_,rfl⟩
   rw [← hv] at c0 c1
   have hvm:v∈bl:=by rw [hv];exact List.getElem_mem _
   obtain ⟨xi,xs⟩:=v
   have hS:Hid (∀ W,Below wr.heap.size wr W→W.cell? ⟨w.heap.size,2,none⟩=some (.slice (some bd) bn bc)∧W.cell? ⟨w.heap.size,3,none⟩=some (.slice (some ad) zn zc)∧W.cell? ⟨(ad.add (zm*5)).block,(ad.add (zm*5)).off+2,none⟩=some (.slice lA ln lc)∧W.cell? (bd.add (k*2))=some (.int .i64 xi)∧W.cell? ⟨(bd.add (k*2)).block,(bd.add (k*2)).off+1,none⟩=some (.string ⟨xs.toArray⟩)):=fun W h=>by
    have h1:=hbw.trans (h.mono hbw.size)
    have kk:=hKt.out W h1
    have a2:=kk.cell 2
    have a3:=kk.cell 3
    simp only [zF,zD,zE] at a2 a3
    obtain ⟨bd2,hb2,-,d0,d1⟩:=(hRB.out W h1).1.blk2 HNB.out hlt
    injection hb2 with hb2
    subst hb2
    rw [← hv] at d0 d1
    exact ⟨a2,a3,(hRB.out W h1).2.2.2,d0,d1⟩
   have hHas:Hid (∀ W,Below wr.heap.size wr W→Calls Tryz.prog 56 #[.slice lA ln lc,.agg #[.int .i64 xi,.string ⟨xs.toArray⟩]] W fun e w'=>e=.returned (.bool true)∧Below W.heap.size W w'):=fun W h=>by
    have h1:=hbw.trans (h.mono hbw.size)
    exact has_in bl xi xs hvm ln HLN.out lA lc W B (hRB.out W h1).2.1 (hRB.out W h1).2.2.1 (by have:=HLM.out;omega)
   clear hv hvm c0 c1 kk
   go_wp2_with fail
   clear t2
   refine wpC_regionH (fun W'=>Below wr.heap.size wr W') ((Below.refl wr.heap.size wr).drew) (fun OPS D QQ HO HD HD2 HQQ=>?_)
   have hgo4:=hgoL HO 4 16 rfl
   clear HO
   refine zX ?_
   refine zY ?_
   iterate 4 refine zX ?_
   refine zY ?_
   refine zX ?_
   refine zY ?_
   iterate 4 refine zX ?_
   refine zY ?_
   refine zX ?_
   refine zY ?_
   iterate 2 refine zX ?_
   refine zY ?_
   refine zN hHas.out ?_
   iterate 2 refine zX ?_
   refine wpQuiet_nil (HQQ.out _ (fun W hW=>?_))
   have hbf:=HBW.out.trans (hW.mono HBW.out.size)
   go_wp2_with fail
   go_roundw
   case rel=>exact ⟨k+1,by omega,rfl,by go_num,hbf⟩
   case measure=>simp [intOf];omega
  ·obtain rfl:bn=k:=by omega
   go_wp2_with fail
   go_ret
   exact ⟨rfl,hBW.out wr hbw⟩
end Go.Proofs.YtcgclpcocdappaaGreatDoor
