/-
  Words for memory that all texts of this seat use: a slice that reads as a list, a block known whole, append from any source.   Turned from the guide's pages extra-words and extra-small. DERIVED: THE SHELF's CONTRACTS AT THIS DUMP, IN PLAIN WORDS (tools/lay-plain.mjs out of 'TryzShelf.lean', which tools/lay-shelf.mjs wrote): THE SAME DECLARATIONS UNDER THE SAME NAMES: 'import', 'namespace', 'open', 'def', 'theorem' AND NOTHING ELSE: no command of the shelf's: FOR A HAND-IN. Each laying: the table of numbers ('.._ren') and one theorem, a field a fact of the dump's own or the kernel's comparison; each contract: ONE APPLICATION. The first place of a list at which a predicate holds. The plain law of names: what names and paths are, and what the statements of chapter 03 say of them. A running sum: four numbers. Lists of blocks in memory; blocks.Get, blocks.Check, the page's Same, by their contracts. A region that draws its order, by an invariant: each operation is looked at once, whatever the order.
-/
import Derived.Test.YtcgclpcocdappaaGreatDoorXM1
import Derived.Test.YtcgclpcocdappaaGreatDoorX0
import Derived.WalkKit
import Derived.WalkSpells
import Derived.Below
import Derived.Laws.OwnMore
import Derived.Deep.AppendLies
import Derived.Deep.Draws
import Derived.Laws.Rows
import Derived.Maps.AppendAt
import Derived.RegionTactic
import Derived.OwnWalk
import Derived.Deep.QuietTactic
import Derived.BigQuiet
import Derived.Lib.Hide
import Derived.Laws.CopyOwn
import Derived.IntWalk
import Derived.Shelf.Strings.Search1
import Derived.Shelf.Strings.Search2
import Derived.Shelf.Strings.Search3
import Derived.Shelf.Strings.Cut
import Derived.Shelf.Strings.Count
import Derived.Shelf.LaysM
import Derived.Shelf.Strings.Shaped
import Derived.Shelf.Strings.LastIndex
import Derived.Shelf.Strings.Split
import Derived.Shelf.Strings.SplitShaped
import Derived.Shelf.Unicode.Decode
import Derived.Shelf.Strings.RuneCount
import Derived.Shelf.Strings.Explode
import Derived.Shelf.Unicode.DecodeSlow
import Derived.Test.YtcgclpcocdappaaGreatDoorProg
import Derived.Test.YtcgclpcocdappaaGreatDoorRows
import Derived.Handy
import Derived.Orders
namespace Go.Proofs.YtcgclpcocdappaaGreatDoor
open Go.RowKit
theorem block_of_add (a:Addr) (n:Nat):(a.add n).block=a.block:=by unfold Addr.add;split <;> rfl
theorem add_of_add (a:Addr) (i j:Nat):(a.add i).add j=a.add (i+j):=by
 unfold Addr.add
 by_cases hi:i=0 <;> by_cases hj:j=0 <;> simp [hi,hj,Nat.add_assoc]
def Reads (w:World) (B size:Nat) (A:Option Addr) (n:Nat) (xs:List Value):Prop :=
 xs.length=n*size∧(0<n→∃ ad,A=some ad∧ad.block<B∧∀ j u,xs[j]?=some u→w.cell? (ad.add j)=some u)
section
variable {w w':World} {B B' size n:Nat} {A:Option Addr} {xs:List Value}
theorem Reads.none_:Reads w B size A 0 []:=⟨by simp,fun h=>absurd h tZ1⟩
theorem Reads.at_ {k:Nat} (h:Reads w B 1 A n xs) (hk:k<n):∃ ad u,A=some ad∧ad.block<B∧xs[k]?=some u∧w.cell? (ad.add k)=some u:=by
 obtain ⟨ad,e,hb,hc⟩:=h.2 tZ1
 have hl:k<xs.length:=by have:=h.1;omega
 exact ⟨ad,xs[k],e,hb,List.getElem?_eq_getElem hl,hc k _ (List.getElem?_eq_getElem hl)⟩
theorem Reads.keep (h:Reads w B size A n xs) (hk:∀ p:Addr,p.block<B→w'.cell? p=w.cell? p):Reads w' B size A n xs :=
 ⟨h.1,fun hn=>by
  obtain ⟨ad,e,hb,hc⟩:=h.2 hn
  exact ⟨ad,e,hb,fun j u hu=>(hk _ (by rw [block_of_add];exact hb)).trans (hc j u hu)⟩⟩
theorem Reads.more (h:Reads w B size A n xs) (hB:B≤B'):Reads w B' size A n xs :=
 ⟨h.1,fun hn=>by
  obtain ⟨ad,e,hb,hc⟩:=h.2 hn
  exact ⟨ad,e,by omega,hc⟩⟩
theorem Reads.below (h:Reads w B size A n xs) (hb:Below B w w'):Reads w' B size A n xs:=h.keep fun _ hp=>hb.cell hp
theorem Reads.drew (h:Reads w B size A n xs):Reads w.drew B size A n xs:=h
theorem Reads.drewN (h:Reads w B size A n xs) (k:Nat):Reads (w.drewN k) B size A n xs:=h
theorem Reads.alloc (h:Reads w B size A n xs) (hB:B≤w.heap.size) (o:Obj):Reads (w.alloc o) B size A n xs:=h.keep fun p hp=>World.cell?_alloc_lt w o p tZ1
theorem Reads.setCell (h:Reads w B size A n xs) {p:Addr} (hB:B≤p.block) (u:Value):Reads (w.setCell p u) B size A n xs :=
 h.keep fun q hq=>World.cell?_setCell_other w p q u (fun e=>by subst e;omega)
theorem Reads.grown (h:Reads w B size A n xs) {row:Option Nat} (hg:w.grownBy w' row) (hB:B≤w.heap.size) (hr:∀ g,row=some g→B≤g):Reads w' B size A n xs :=
 h.keep fun p hp=>World.cell?_of_block (hg.block p.block tZ1 (fun e=>by have:=hr _ e.symm;omega))
theorem Reads.cut (h:Reads w B size A n xs) {k cap:Nat} (hk:k≤n) (hc:n≤cap) :
  Reads w B size (if cap=k then A else A.map (·.add (k*size))) (n-k) (xs.drop (k*size)):=by
 refine ⟨by rw [List.length_drop,h.1,Nat.sub_mul],fun hn=>?_⟩
 obtain ⟨ad,rfl,hb,hcell⟩:=h.2 tZ1
 rw [if_neg tZ1]
 refine ⟨ad.add (k*size),rfl,by rw [block_of_add];exact hb,fun j u hu=>?_⟩
 rw [add_of_add]
 exact hcell _ u (by rw [← hu,List.getElem?_drop])
theorem Reads.of_own {base:Nat} {e:TypeId} {c:Nat} (h:w.ownsRow base e size (.slice A n c) n xs):Reads w w.heap.size size A n xs:=by
 refine ⟨h.1,fun hn=>?_⟩
 obtain ⟨g,cap,hv,_,hlt⟩:=h.form hn
 have hA:A=some ⟨g,0,none⟩:=by injection hv
 subst hA
 exact ⟨_,rfl,hlt,h.cells (g:=g) rfl⟩
end
def Blk (w:World) (g:Nat) (t:TypeId) (cs:Array Value):Prop:=w.heap[g]?=some (.cells cs t (0,0))
section
variable {w w':World} {g:Nat} {t:TypeId} {cs:Array Value}
theorem Blk.lt (h:Blk w g t cs):g<w.heap.size:=by
 rcases Nat.lt_or_ge g w.heap.size with hlt | hge
 ·exact hlt
 ·unfold Blk at h;rw [Array.getElem?_eq_none hge] at h;cases h
theorem Blk.cell (h:Blk w g t cs) (i:Nat):w.cell? ⟨g,i,none⟩=cs[i]?:=cell_of_row w g i cs t (0,0) h
theorem Blk.frozen (h:Blk w g t cs) (i:Nat):w.frozen? ⟨g,i,none⟩=false:=by
 unfold Blk at h
 simp [World.frozen?,h]
theorem Blk.new (w:World) (t:TypeId) (cs:Array Value):Blk (w.alloc (.cells cs t)) w.heap.size t cs:=heap_alloc_new w _
theorem Blk.drew (h:Blk w g t cs):Blk w.drew g t cs:=h
theorem Blk.drewN (h:Blk w g t cs) (n:Nat):Blk (w.drewN n) g t cs:=h
theorem Blk.alloc (h:Blk w g t cs) (o:Obj):Blk (w.alloc o) g t cs:=(Below.heap_alloc w o g h.lt).trans h
theorem Blk.set_ (h:Blk w g t cs) (i:Nat) (u:Value):Blk (w.setCell ⟨g,i,none⟩ u) g t (cs.setIfInBounds i u):=by
 unfold Blk at h ⊢
 simp [World.setCell,Array.getElem?_modify,h]
theorem Blk.far (h:Blk w g t cs) {p:Addr} (hp:g≠p.block) (u:Value):Blk (w.setCell p u) g t cs:=(Below.heap_setCell w p u g hp).trans h
theorem Blk.below {B:Nat} (h:Blk w g t cs) (hb:Below B w w') (hg:g<B):Blk w' g t cs:=(hb.block g hg).trans h
theorem Blk.grown {row:Option Nat} (h:Blk w g t cs) (hb:w.grownBy w' row) (hg:some g≠row):Blk w' g t cs:=(hb.block g h.lt hg).trans h
theorem Blk.ne_ {g':Nat} {t':TypeId} {cs':Array Value} (h:Blk w g t cs) (h':Blk w g' t' cs') (hne:t≠t'):g≠g':=by
 rintro rfl
 unfold Blk at h h'
 rw [h] at h'
 injection h' with h'
 injection h' with _ ht
 exact hne ht
theorem own_blk_ne {base:Nat} {e:TypeId} {size n:Nat} {v:Value} {xs:List Value} (h:w.ownsRow base e size v n xs) (hg:Blk w g t cs) (hne:e≠t):v.ownBlock≠some g:=by
 rcases h.2 with ⟨rfl,_⟩ | ⟨g',cap,cur,rfl,_,hh,_⟩
 ·simp [Value.ownBlock]
 ·intro he
  have:g'=g:=tZ124
  subst this
  exact Blk.ne_ (t:=e) hh hg hne rfl
end
section
variable {P:Program} (w:World)
theorem run_append_of_nil (base:Nat) (t ty e:TypeId) (i:TypeInfo) (size:Nat) (ht:P.underlying t=some (.slice e)) (hi:P.info? e=some i)
  (v:Value) (n:Nat) (xs:List Value) (hown:w.ownsRow base e size v n xs) (c:Nat):(Builtin.append_ #[t,t] ty #[v,.slice none 0 c]).run P w=.ok v w:=by
 rcases hown.2 with ⟨rfl,rfl⟩ | ⟨g,cap,cur,rfl,_,_,hnc,_⟩
 ·simp [Builtin.append_,run_underlying ht,sizeOf,typeInfo,hi,Builtin.lenOf,Builtin.firstCells]
 ·simp [Builtin.append_,run_underlying ht,sizeOf,typeInfo,hi,Builtin.lenOf,Builtin.firstCells,hnc,storeCells]
theorem run_append_any (base:Nat) (t ty e:TypeId) (i:TypeInfo) (z:Value) (size bytes:Nat) (ht:P.underlying t=some (.slice e)) (hi:P.info? e=some i) (hz:i.zero=some z)
  (hsize:i.size=size) (hby:i.bytes=bytes) (hzs:z.cells.size=size) (hsz:0<size)
  (v:Value) (n:Nat) (xs:List Value) (hown:w.ownsRow base e size v n xs)
  (B:Nat) (A:Option Addr) (m c:Nat) (news:List Value) (hr:Reads w B size A m news) (h1:∀ u∈news,u.oneCell'=true)
  (h63:n+m≤maxLen) (hbytes:(n+m)*bytes≤140737488355328) (hbase:base≤w.heap.size) :
  ∃ v' w',(Builtin.append_ #[t,t] ty #[v,.slice A m c]).run P w=.ok v' w'∧w'.ownsRow base e size v' (n+m) (xs++news)∧w.grownBy w' v.ownBlock ∧
   (v'.ownBlock=v.ownBlock∨v'.ownBlock=some w.heap.size):=by
 rcases A with _ | ad
 ·have hm:m=0:=by
   rcases Nat.eq_zero_or_pos m with h0 | h0
   ·exact h0
   ·obtain ⟨ad,h,_⟩:=hr.2 h0
    cases h
  subst hm
  have hn:news=[]:=List.eq_nil_of_length_eq_zero tZ87
  subst hn
  exact ⟨v,w,run_append_of_nil w base t ty e i size ht hi v n xs hown c,by simpa using hown,World.grownBy.refl w _,.inl rfl⟩
 ·have hcells:∀ j u,news[j]?=some u→w.cell? (ad.add j)=some u:=by
   intro j u hu
   rcases Nat.eq_zero_or_pos m with h0 | h0
   ·subst h0
    have hn:news=[]:=List.eq_nil_of_length_eq_zero tZ87
    subst hn
    simp at hu
   ·obtain ⟨ad',h,_,hc⟩:=hr.2 h0
    injection h with h
    subst h
    exact hc j u hu
  obtain ⟨v',w',hrun,h2,h3,_,h5⟩:=run_append_own_at (P:=P) w base t ty e i z size bytes ht hi hz hsize hby hzs hsz v n xs hown ad m c news hr.1 hcells h1 h63 hbytes hbase
  exact ⟨v',w',hrun,h2,h3,h5⟩
theorem wp_append_any {o:Oper} {a:Act} {K:Act→World→Prop} {Q:Exit→Act→World→Prop} (s x:Operand) (t:TypeId)
  (ho:o.op=.call { callee:=.builtin .append,args:=#[s,x],argTypes:=#[t,t] })
  (base:Nat) (e:TypeId) (i:TypeInfo) (z:Value) (size bytes:Nat) (ht:P.underlying t=some (.slice e)) (hi:P.info? e=some i) (hz:i.zero=some z)
  (hsize:i.size=size) (hby:i.bytes=bytes) (hzs:z.cells.size=size) (hsz:0<size)
  (v:Value) (n:Nat) (xs:List Value) (hs:a.eval s=v) (hown:w.ownsRow base e size v n xs)
  (B:Nat) (A:Option Addr) (m c:Nat) (news:List Value) (hx:a.eval x=.slice A m c) (hr:Reads w B size A m news) (h1:∀ u∈news,u.oneCell'=true)
  (h63:n+m≤maxLen) (hbytes:(n+m)*bytes≤140737488355328) (hbase:base≤w.heap.size)
  (h:∀ v' w',w'.ownsRow base e size v' (n+m) (xs++news)→w.grownBy w' v.ownBlock→(v'.ownBlock=v.ownBlock∨v'.ownBlock=some w.heap.size)→K (a.put o.dst v') w'):o.wp P a w K Q:=by
 obtain ⟨v',w',hrun,h2,h3,h4⟩:=run_append_any (P:=P) w base t o.type e i z size bytes ht hi hz hsize hby hzs hsz v n xs hown B A m c news hr h1 h63 hbytes hbase
 unfold Oper.wp execOp
 simp only [ho,resolve,invoke,builtin,Sem.run_bind,Sem.run_pure,Result.andThen_ok,List.map_toArray,List.map_cons,List.map_nil,hs,hx,hrun]
 exact h v' w' h2 h3 h4
theorem wpList_append_any {ops:Array Oper} {rest:List Oper} {o:Oper} {a:Act} {Q:Exit→Act→World→Prop} (hgd:o.guard=none) (s x:Operand) (t:TypeId)
  (ho:o.op=.call { callee:=.builtin .append,args:=#[s,x],argTypes:=#[t,t] })
  (base:Nat) (e:TypeId) (i:TypeInfo) (z:Value) (size bytes:Nat) (ht:P.underlying t=some (.slice e)) (hi:P.info? e=some i) (hz:i.zero=some z)
  (hsize:i.size=size) (hby:i.bytes=bytes) (hzs:z.cells.size=size) (hsz:0<size)
  (v:Value) (n:Nat) (xs:List Value) (hs:a.eval s=v) (hown:w.ownsRow base e size v n xs)
  (B:Nat) (A:Option Addr) (m c:Nat) (news:List Value) (hx:a.eval x=.slice A m c) (hr:Reads w B size A m news) (h1:∀ u∈news,u.oneCell'=true)
  (h63:n+m≤maxLen) (hbytes:(n+m)*bytes≤140737488355328) (hbase:base≤w.heap.size)
  (h:∀ v' w',w'.ownsRow base e size v' (n+m) (xs++news)→w.grownBy w' v.ownBlock→(v'.ownBlock=v.ownBlock∨v'.ownBlock=some w.heap.size)→wpList P ops Q rest (a.put o.dst v') w'):wpList P ops Q (o :: rest) a w :=
 wpList_plain hgd fun _ hK=>wp_append_any w s x t ho base e i z size bytes ht hi hz hsize hby hzs hsz v n xs hs hown B A m c news hx hr h1 h63 hbytes hbase fun v' w' h2 h3 h4=>hK _ _ (h v' w' h2 h3 h4)
end
/-! ### My own words -/
section
variable {w w':World} {base:Nat} {e:TypeId} {size n:Nat} {v:Value} {xs:List Value}
theorem own_below (h:w.ownsRow base e size v n xs) (hb:Below w.heap.size w w'):w'.ownsRow base e size v n xs :=
 h.kept (row:=Option.none) ⟨hb.os,hb.tape,hb.output,hb.size,fun k hk _=>hb.block k hk⟩ (by cases v.ownBlock <;> simp)
theorem own_mono {base':Nat} (h:w.ownsRow base e size v n xs) (hb:base'≤base):w.ownsRow base' e size v n xs:=by
 refine ⟨h.1,?_⟩
 rcases h.2 with h2 | ⟨g,cap,cur,hv,hg,r⟩
 ·exact .inl h2
 ·exact .inr ⟨g,cap,cur,hv,by omega,r⟩
theorem below_drewN {B:Nat} {a w:World} (h:Below B a w) (n:Nat):Below B a (w.drewN n):=⟨h.os,h.tape,h.output,h.size,h.block⟩
end
theorem own_form {w:World} {base:Nat} {e:TypeId} {size n:Nat} {v:Value} {xs:List Value} (h:w.ownsRow base e size v n xs):∃ A c,v=.slice A n c∧n≤c∧c≤maxLen∧Reads w w.heap.size size A n xs:=by
 have h0:=h
 rcases h.2 with ⟨rfl,rfl⟩ | ⟨g,cap,cur,rfl,hb,hg,hn,hc,_⟩
 ·exact ⟨none,0,rfl,Nat.le_refl _,by simp [maxLen],Reads.of_own h0⟩
 ·exact ⟨_,cap,rfl,hn,hc,Reads.of_own h0⟩
theorem blk2 {w:World} {g:Nat} {t:TypeId} {a b:Value} (h:Blk w g t #[a,b]) :
  w.cell? ⟨g,0,none⟩=some a∧w.cell? ⟨g,1,none⟩=some b∧w.frozen? ⟨g,0,none⟩=false∧w.frozen? ⟨g,1,none⟩=false :=
 ⟨by simpa using h.cell 0,by simpa using h.cell 1,h.frozen 0,h.frozen 1⟩
theorem own_setCell_below {w:World} {base:Nat} {e:TypeId} {size n:Nat} {v:Value} {xs:List Value} (h:w.ownsRow base e size v n xs) {p:Addr} (hp:p.block<base) (u:Value):(w.setCell p u).ownsRow base e size v n xs:=ownsRow_setCell_below h hp u
theorem addr_add0 (g j:Nat):(⟨g,0,none⟩:Addr).add j=⟨g,j,none⟩:=tZ26
theorem Reads.of_blk {w:World} {g n size:Nat} {t:TypeId} {cs:Array Value} (h:Blk w g t cs) (xs:List Value) (hl:xs.length=n*size) (hp:∀ (j:Nat) (u:Value),xs[j]?=some u→cs[j]?=some u):Reads w (g+1) size (some ⟨g,0,none⟩) n xs :=
 ⟨hl,fun _=>⟨_,rfl,Nat.lt_succ_self _,fun j u hu=>by rw [addr_add0,h.cell j];exact hp j u hu⟩⟩
/-- a literal of this very call -/
theorem Reads.lit (w:World) (cs:Array Value) (t:TypeId) {n size:Nat} (hl:cs.size=n*size):Reads (w.alloc (.cells cs t)) (w.heap.size+1) size (some ⟨w.heap.size,0,none⟩) n cs.toList :=
 Reads.of_blk (Blk.new w t cs) _ tZ137 (fun j u hu=>by simpa using hu)
theorem Reads.pre {w:World} {B size n:Nat} {A:Option Addr} {xs:List Value} (h:Reads w B size A n xs) {k:Nat} (hk:k≤n):Reads w B size A k (xs.take (k*size)):=by
 refine ⟨by rw [List.length_take,h.1];exact Nat.min_eq_left (Nat.mul_le_mul_right _ hk),fun h0=>?_⟩
 obtain ⟨ad,rfl,hb,hc⟩:=h.2 tZ1
 refine ⟨ad,rfl,hb,fun j u hu=>hc j u ?_⟩
 rw [List.getElem?_take] at hu
 split at hu
 ·exact hu
 ·cases hu
/-! ### For a region that is held: S says cells, and last 'Below w0.heap.size w0 w'' -/
theorem below_step {w W W':World} (h:Below w.heap.size w W) (hb:Below W.heap.size W W'):Below w.heap.size w W':=h.trans (hb.mono h.size)
theorem own_reads {w:World} {base:Nat} {e:TypeId} {size n c:Nat} {A:Option Addr} {xs:List Value} (h:w.ownsRow base e size (.slice A n c) n xs):n≤c∧c≤maxLen∧Reads w w.heap.size size A n xs:=by
 obtain ⟨A',c',hv,h1,h2,h3⟩:=own_form h
 injection hv with e1 _ e2
 subst e1 e2
 exact ⟨h1,h2,h3⟩
/-- bytes as cells -/
def bts (b:List UInt8):List Value:=b.map fun c=>.int .u8 (c.toNat:Int)
theorem bts_length (b:List UInt8):(bts b).length=b.length:=by simp [bts]
theorem bts_get (b:List UInt8) (i:Nat):(bts b)[i]?=b[i]?.map fun c=>Value.int .u8 (c.toNat:Int):=by simp [bts]
theorem bts_append (a b:List UInt8):bts (a++b)=bts a++bts b:=by simp [bts]
theorem add_zero (a:Addr):a.add 0=a:=by simp [Addr.add]
/-- 'append(out, x)': what is appended has just been laid in a block of its own -/
theorem wpList_push {P:Program} (w:World) {ops:Array Oper} {rest:List Oper} {o:Oper} {a:Act} {Q:Exit→Act→World→Prop} (hgd:o.guard=none) (s x:Operand) (t:TypeId)
  (ho:o.op=.call { callee:=.builtin .append,args:=#[s,x],argTypes:=#[t,t] })
  (base:Nat) (e:TypeId) (i:TypeInfo) (z:Value) (size bytes:Nat) (ht:P.underlying t=some (.slice e)) (hi:P.info? e=some i) (hz:i.zero=some z)
  (hsize:i.size=size) (hby:i.bytes=bytes) (hzs:z.cells.size=size) (hsz:0<size)
  (v:Value) (n:Nat) (xs:List Value) (hs:a.eval s=v) (hown:w.ownsRow base e size v n xs)
  (m:Nat) (news:Array Value) (e':TypeId) (hx:a.eval x=.slice (some ⟨w.heap.size,0,none⟩) m m) (hl:news.size=m*size) (h1:∀ u∈news.toList,u.oneCell'=true)
  (h63:n+m≤maxLen) (hbytes:(n+m)*bytes≤140737488355328) (hbase:base≤w.heap.size)
  (h:∀ v' w',w'.ownsRow base e size v' (n+m) (xs++news.toList)→Below base w w'→w.grownBy w' v.ownBlock→wpList P ops Q rest (a.put o.dst v') w'):wpList P ops Q (o :: rest) a (w.alloc (.cells news e')):=by
 refine wpList_append_own _ hgd s x t ho base e i z size bytes ht hi hz hsize hby hzs hsz v n xs hs (hown.alloc _) ⟨w.heap.size,0,none⟩ m m news.toList hx tZ137 ?_ h1 h63 hbytes tZ6 ?_
 ·intro j u hu
  have hadd:(⟨w.heap.size,0,none⟩:Addr).add j=⟨w.heap.size,j,none⟩:=tZ26
  rw [hadd,cell_of_row _ _ j news e' (0,0) (heap_alloc_new w _)]
  simpa using hu
 ·intro v' w' hown' hg _
  have hg2:w.grownBy w' v.ownBlock:=⟨hg.os,hg.tape,hg.output,Nat.le_trans tZ3 hg.size,fun k hk hne=>(hg.block k tZ6 hne).trans (Below.heap_alloc w _ k hk)⟩
  exact h v' w' hown' ((Below.refl _ _).grown hg2 hbase (fun k hk=>(hown.lt k hk).1)) hg2
end Go.Proofs.YtcgclpcocdappaaGreatDoor
namespace Go.Proofs
open Go.Shelf
def Tryz.lays145_ren:Go.Shelf.Ren:=⟨fun | 145=>184 | 220=>205 | 219=>216 | 217=>223 | 225=>224 | 224=>225 | 267=>226 | 266=>228 | 314=>229 | n=>n,fun | 9=>9 | 4=>4 | 59=>204 | 3=>3 | 5=>5 | 46=>190 | 146=>234 | 51=>233 | n=>n,fun | 1=>0 | n=>n⟩
theorem Tryz.lays145:Go.Proofs.Lays.n145 Tryz.prog Tryz.lays145_ren:={
 mixed:=tZ2
 f145:=Tryz.func184.trans (congrArg some tZ2)
 f217:=Tryz.func223.trans (congrArg some tZ2)
 f219:=Tryz.func216.trans (congrArg some tZ2)
 f220:=Tryz.func205.trans (congrArg some tZ2)
 f224:=Tryz.func225.trans (congrArg some tZ2)
 f225:=Tryz.func224.trans (congrArg some tZ2)
 f266:=Tryz.func228.trans (congrArg some tZ2)
 f267:=Tryz.func226.trans (congrArg some tZ2)
 f314:=Tryz.func229.trans (congrArg some tZ2)
 t3:=Tryz.underlying3
 a3:=Tryz.isAgg3
 z3:=Tryz.sizeOf3
 v3:=Tryz.zeroValue3
 t4:=Tryz.underlying4
 a4:=Tryz.isAgg4
 z4:=Tryz.sizeOf4
 v4:=Tryz.zeroValue4
 t5:=Tryz.underlying5
 a5:=Tryz.isAgg5
 z5:=Tryz.sizeOf5
 v5:=Tryz.zeroValue5
 t9:=Tryz.underlying9
 a9:=Tryz.isAgg9
 z9:=Tryz.sizeOf9
 v9:=Tryz.zeroValue9
 t46:=Tryz.underlying190
 a46:=Tryz.isAgg190
 z46:=Tryz.sizeOf190
 v46:=Tryz.zeroValue190
 t51:=Tryz.underlying233
 a51:=Tryz.isAgg233
 z51:=Tryz.sizeOf233
 v51:=Tryz.zeroValue233
 t59:=Tryz.underlying204
 a59:=Tryz.isAgg204
 z59:=Tryz.sizeOf204
 v59:=Tryz.zeroValue204
 t146:=Tryz.underlying234
 a146:=Tryz.isAgg234
 z146:=Tryz.sizeOf234
 v146:=Tryz.zeroValue234
 g1:=by kernel_rfl }
open Go.RowKit Go.Lib in
/-- strings.Cut: "Cut slices s around the first instance of sep, returning the text before and after sep. The found result reports whether sep appears in s. If sep does not appear in s, cut returns s, "", false.": IT RETURNS 'Lib.cut s sep'; the world is as it was but for the count of draws. (LAID: no walk: one application.) -/
theorem Tryz.strings_Cut (s sep:ByteArray) (m:Int) (w:World) (hs:s.size<4294967281) (hm:w.cell? ⟨0,0,none⟩=some (.int .i64 m)) :
  Calls Tryz.prog 184 #[.string s,.string sep] w fun e w'=>e=.returned (.tuple #[.string ⟨(Lib.cut s.data.toList sep.data.toList).1.toArray⟩,.string ⟨(Lib.cut s.data.toList sep.data.toList).2.1.toArray⟩,.bool (Lib.cut s.data.toList sep.data.toList).2.2])∧∃ n,w'=w.drewN n:=Any.strings_Cut Tryz.lays145 s sep m w hs hm
def Tryz.lays149_ren:Go.Shelf.Ren:=⟨fun | 149=>144 | 222=>187 | n=>n,fun | 9=>9 | 5=>5 | 3=>3 | 4=>4 | n=>n,fun | n=>n⟩
theorem Tryz.lays149:Go.Proofs.Lays.n149 Tryz.prog Tryz.lays149_ren:={
 mixed:=tZ2
 f149:=Tryz.func144.trans (congrArg some tZ2)
 f222:=Tryz.func187.trans (congrArg some tZ2)
 t3:=Tryz.underlying3
 a3:=Tryz.isAgg3
 z3:=Tryz.sizeOf3
 v3:=Tryz.zeroValue3
 t4:=Tryz.underlying4
 a4:=Tryz.isAgg4
 z4:=Tryz.sizeOf4
 v4:=Tryz.zeroValue4
 t5:=Tryz.underlying5
 a5:=Tryz.isAgg5
 z5:=Tryz.sizeOf5
 v5:=Tryz.zeroValue5
 t9:=Tryz.underlying9
 a9:=Tryz.isAgg9
 z9:=Tryz.sizeOf9
 v9:=Tryz.zeroValue9 }
open Go.RowKit Go.Lib in
/-- strings.LastIndexByte: "LastIndexByte returns the index of the last instance of c in s, or -1 if c is not present in s." (LAID: no walk: one application.) -/
theorem Tryz.strings_LastIndexByte (s:ByteArray) (c:Int) (hs:s.size<4611686018427387904) (w:World) :
  Calls Tryz.prog 144 #[.string s,.int .u8 c] w fun e w'=>e=.returned (.int .i64 (Lib.lastIndexByte s c))∧w'=w:=Any.strings_LastIndexByte Tryz.lays149 s c hs w
def Tryz.lays146_ren:Go.Shelf.Ren:=⟨fun | 146=>141 | 221=>185 | 268=>206 | 138=>207 | 143=>208 | 195=>217 | 197=>218 | 218=>219 | 219=>216 | 260=>227 | 217=>223 | 225=>224 | 224=>225 | 267=>226 | 266=>228 | 314=>229 | n=>n,fun | 9=>9 | 31=>48 | 3=>3 | 4=>4 | 0=>0 | 105=>228 | 21=>21 | 5=>5 | 46=>190 | 119=>236 | 139=>239 | 138=>238 | 146=>234 | 51=>233 | n=>n,fun | 1=>0 | 3=>1 | 4=>2 | n=>n⟩
theorem Tryz.lays146:Go.Proofs.Lays.n146 Tryz.prog Tryz.lays146_ren:={
 mixed:=tZ2
 f138:=Tryz.func207.trans (congrArg some tZ2)
 f143:=Tryz.func208.trans (congrArg some tZ2)
 f146:=Tryz.func141.trans (congrArg some tZ2)
 f195:=Tryz.func217.trans (congrArg some tZ2)
 f197:=Tryz.func218.trans (congrArg some tZ2)
 f217:=Tryz.func223.trans (congrArg some tZ2)
 f218:=Tryz.func219.trans (congrArg some tZ2)
 f219:=Tryz.func216.trans (congrArg some tZ2)
 f221:=Tryz.func185.trans (congrArg some tZ2)
 f224:=Tryz.func225.trans (congrArg some tZ2)
 f225:=Tryz.func224.trans (congrArg some tZ2)
 f260:=Tryz.func227.trans (congrArg some tZ2)
 f266:=Tryz.func228.trans (congrArg some tZ2)
 f267:=Tryz.func226.trans (congrArg some tZ2)
 f268:=Tryz.func206.trans (congrArg some tZ2)
 f314:=Tryz.func229.trans (congrArg some tZ2)
 t0:=Tryz.underlying0
 a0:=Tryz.isAgg0
 z0:=Tryz.sizeOf0
 v0:=Tryz.zeroValue0
 t3:=Tryz.underlying3
 a3:=Tryz.isAgg3
 z3:=Tryz.sizeOf3
 v3:=Tryz.zeroValue3
 t4:=Tryz.underlying4
 a4:=Tryz.isAgg4
 z4:=Tryz.sizeOf4
 v4:=Tryz.zeroValue4
 t5:=Tryz.underlying5
 a5:=Tryz.isAgg5
 z5:=Tryz.sizeOf5
 v5:=Tryz.zeroValue5
 t9:=Tryz.underlying9
 a9:=Tryz.isAgg9
 z9:=Tryz.sizeOf9
 v9:=Tryz.zeroValue9
 t21:=Tryz.underlying21
 a21:=Tryz.isAgg21
 z21:=Tryz.sizeOf21
 v21:=Tryz.zeroValue21
 t31:=Tryz.underlying48
 a31:=Tryz.isAgg48
 z31:=Tryz.sizeOf48
 v31:=Tryz.zeroValue48
 t46:=Tryz.underlying190
 a46:=Tryz.isAgg190
 z46:=Tryz.sizeOf190
 v46:=Tryz.zeroValue190
 t51:=Tryz.underlying233
 a51:=Tryz.isAgg233
 z51:=Tryz.sizeOf233
 v51:=Tryz.zeroValue233
 t105:=Tryz.underlying228
 a105:=Tryz.isAgg228
 z105:=Tryz.sizeOf228
 v105:=Tryz.zeroValue228
 t119:=Tryz.underlying236
 a119:=Tryz.isAgg236
 z119:=Tryz.sizeOf236
 t138:=Tryz.underlying238
 a138:=Tryz.isAgg238
 z138:=Tryz.sizeOf238
 v138:=Tryz.zeroValue238
 t139:=Tryz.underlying239
 a139:=Tryz.isAgg239
 z139:=Tryz.sizeOf239
 v139:=Tryz.zeroValue239
 t146:=Tryz.underlying234
 a146:=Tryz.isAgg234
 z146:=Tryz.sizeOf234
 v146:=Tryz.zeroValue234
 g1:=tZ2
 g3:=tZ2
 g4:=by kernel_rfl }
open Go.RowKit Go.Lib in
/-- strings.Split. (LAID: no walk: one application.) -/
theorem Tryz.strings_Split (s sep:ByteArray) (m:Int) (w:World) (hs:s.size<4294967281) (hm:w.cell? ⟨0,0,none⟩=some (.int .i64 m)) (h1:1≤sep.size) :
  Calls Tryz.prog 141 #[.string s,.string sep] w fun e w' =>
   e=.returned (.slice (some ⟨w.heap.size,0,none⟩) (Lib.countB s sep+1) (Lib.countB s sep+1))∧w'=w.alloc (.cells ((Lib.splitB sep 0 (Lib.countB s sep) s).map Value.string).toArray 9):=Any.strings_Split Tryz.lays146 tZ2 s sep m w hs hm h1
end Go.Proofs
namespace Go.Proofs.YtcgclpcocdappaaGreatDoor
/-- the first place at which p holds (or the length) -/
def firstP {α:Type} (p:α→Bool) (l:List α):Nat:=(l.takeWhile fun x=>!p x).length
def firstI {α:Type} (p:α→Bool) (l:List α):Int:=if firstP p l<l.length then (firstP p l:Int) else -1
theorem firstP_eq {α:Type} (p:α→Bool) (l:List α) (k:Nat) (x:α) (h:∀ y∈l.take k,p y=false) (hx:l[k]?=some x) (hp:p x=true):firstP p l=k:=by
 unfold firstP
 obtain ⟨hk,e⟩:=List.getElem?_eq_some_iff.1 hx
 have hl:l=l.take k++x :: l.drop (k+1):=by
  conv=>lhs;rw [← List.take_append_drop k l,List.drop_eq_getElem_cons hk,e]
 conv=>lhs;rw [hl]
 rw [List.takeWhile_append_of_pos (by intro y hy;simp [h y hy]),List.takeWhile_cons_of_neg (by simp [hp])]
 simp
 omega
theorem firstP_none {α:Type} (p:α→Bool) (l:List α) (h:∀ y∈l,p y=false):firstP p l=l.length:=by
 unfold firstP
 induction l with
 | nil=>rfl
 | cons x r ih =>
  rw [List.takeWhile_cons_of_pos (by simp [h x tZ3]),List.length_cons,List.length_cons,ih (fun y hy=>h y (List.mem_cons_of_mem _ hy))]
theorem firstP_le {α:Type} (p:α→Bool) (l:List α):firstP p l≤l.length:=(List.takeWhile_sublist _).length_le
theorem firstP_before {α:Type} (p:α→Bool) (l:List α):∀ y∈l.take (firstP p l),p y=false:=by
 unfold firstP
 induction l with
 | nil=>intro y hy;simp at hy
 | cons x r ih =>
  intro y hy
  cases hx:p x with
  | true=>rw [List.takeWhile_cons_of_neg tZ129] at hy;simp at hy
  | false =>
   rw [List.takeWhile_cons_of_pos tZ129,List.length_cons,List.take_succ_cons] at hy
   rcases List.mem_cons.1 hy with rfl | hy
   ·exact hx
   ·exact ih y hy
theorem firstI_any {α:Type} (p:α→Bool) (l:List α):decide ((0:Int)≤firstI p l)=l.any p:=by
 unfold firstI
 by_cases h:firstP p l<l.length
 ·rw [if_pos h]
  have h1:l.any p=true:=by
   rw [List.any_eq_true]
   by_cases he:∀ y∈l,p y=false
   ·rw [firstP_none p l he] at h;omega
   ·obtain ⟨y,hy⟩:=Classical.not_forall.1 he
    obtain ⟨hy,hp⟩:=Classical.not_imp.1 hy
    exact ⟨y,hy,by simpa using hp⟩
  rw [h1]
  simp
 ·rw [if_neg h]
  have h1:l.any p=false:=by
   rw [List.any_eq_false]
   intro y hy hp
   have hb:=firstP_before p l
   rw [List.take_of_length_le tZ1] at hb
   rw [hb y hy] at hp
   cases hp
  rw [h1]
  rfl
end Go.Proofs.YtcgclpcocdappaaGreatDoor
namespace Go.Proofs.YtcgclpcocdappaaGreatDoor
def okB (c:UInt8):Bool:=(97≤c && c≤122) || (48≤c && c≤57) || c == 45 || c == 95
def nameB (s:List UInt8):Bool:=!s.isEmpty && decide (s.length≤16) && s.all okB
/-- the parts between slashes -/
def partsL:List UInt8→List (List UInt8)
 | []=>[[]]
 | c :: r=>if c=47 then [] :: partsL r else match partsL r with
  | p :: ps=>(c :: p) :: ps
  | []=>[[c]]
def pathB (s:List UInt8):Bool:=s.isEmpty || (decide ((partsL s).length≤4) && (partsL s).all nameB)
/-- where the last slash stands, or 0 -/
def lastS:List UInt8→Option Nat
 | []=>none
 | c :: r=>match lastS r with
  | some k=>some (k+1)
  | none=>if c=47 then some 0 else none
def upL (s:List UInt8):List UInt8:=s.take ((lastS s).getD 0)
/-! ### What comes back -/
/-- what stands before the first '@', and behind it -/
def atL:List UInt8→Option (List UInt8×List UInt8)
 | []=>none
 | c :: r=>if c=64 then some ([],r) else match atL r with
  | some (p,n)=>some (c :: p,n)
  | none=>none
theorem atL_join (s n:List UInt8) (h:∀ c∈s,c≠64):atL (s++64 :: n)=some (s,n):=by
 induction s with
 | nil=>simp [atL]
 | cons a r ih =>
  rw [List.cons_append]
  unfold atL
  rw [if_neg (h a (List.mem_cons_self ..)),ih (fun c hc=>h c (List.mem_cons_of_mem _ hc))]
end Go.Proofs.YtcgclpcocdappaaGreatDoor
namespace Go.Proofs.YtcgclpcocdappaaGreatDoor
structure Sm where
 a:Int
 b:Int
 c:Int
 d:Int
def Sm.val (s:Sm):Value:=.agg #[.int .u64 s.a,.int .u64 s.b,.int .u64 s.c,.int .u64 s.d]
structure Sm.ok (s:Sm):Prop where
 a:0≤s.a∧s.a<18446744073709551616
 b:0≤s.b∧s.b<18446744073709551616
 c:0≤s.c∧s.c<18446744073709551616
 d:0≤s.d∧s.d<18446744073709551616
end Go.Proofs.YtcgclpcocdappaaGreatDoor
namespace Go.Proofs.YtcgclpcocdappaaGreatDoor
open Go.RowKit
abbrev BL:=List (Int×List UInt8)
def bcells (l:BL):List Value:=l.flatMap fun x=>[.int .i64 x.1,.string ⟨x.2.toArray⟩]
theorem bcells_length (l:BL):(bcells l).length=l.length*2:=by
 induction l with
 | nil=>rfl
 | cons x l ih=>simp only [bcells,List.flatMap_cons,List.length_append,List.length_cons,List.length_nil] at ih ⊢;omega
theorem bcells_append (a b:BL):bcells (a++b)=bcells a++bcells b:=by simp [bcells]
theorem bcells_get (l:BL) (k:Nat) (h:k<l.length):(bcells l)[k*2]?=some (.int .i64 (l[k]).1)∧(bcells l)[k*2+1]?=some (.string ⟨(l[k]).2.toArray⟩):=by
 induction l generalizing k with
 | nil=>simp at h
 | cons x l ih =>
  have e:bcells (x :: l)=.int .i64 x.1 :: .string ⟨x.2.toArray⟩ :: bcells l:=rfl
  exact mZ1
theorem Reads.blk2 {w:World} {B n:Nat} {A:Option Addr} {l:BL} (h:Reads w B 2 A n (bcells l)) (hn:n=l.length) {k:Nat} (hk:k<n) :
  ∃ ad,A=some ad∧ad.block<B∧w.cell? (ad.add (k*2))=some (.int .i64 (l[k]'tZ1).1)∧w.cell? ⟨(ad.add (k*2)).block,(ad.add (k*2)).off+1,none⟩=some (.string ⟨(l[k]'tZ1).2.toArray⟩):=by
 obtain ⟨ad,e,hb,hc⟩:=h.2 tZ1
 obtain ⟨g1,g2⟩:=bcells_get l k tZ1
 exact mZ2
def getL (l:BL) (i:Int):List UInt8:=match l.find? (fun x=>x.1 == i) with
 | some x=>x.2
 | none=>[]
def hasL (l:BL) (i:Int):Bool:=l.any fun x=>x.1 == i
set_option maxRecDepth 100000 in
set_option maxHeartbeats 1000000 in
theorem bksame_any (l m:BL) (n n':Nat) (hnl:n=l.length) (hnm:n'=m.length) (A A':Option Addr) (c c':Nat) (w:World) (B B':Nat) (hr:Reads w B 2 A n (bcells l)) (hr':Reads w B' 2 A' n' (bcells m)) (hn:n≤140737488351232) :
  Calls Tryz.prog 13 #[.slice A n c,.slice A' n' c'] w fun e w'=>e=.returned (.bool (l == m))∧∃ q,w'=w.drewN q:=by
 by_cases hlen:n=n'
 ·have e1:((n:Int) == (n':Int))=true:=by simp [hlen]
  have e2:((n:Int) != (n':Int))=false:=by simp [hlen]
  have HL:=Lib.hid hlen
  have HN:=Lib.hid hnl
  have HM:=Lib.hid hnm
  clear hnl hnm hlen
  go_enter Tryz.func13,Tryz.ntmps13
  go_wp2_with fail
  clear e1 e2
  go_loopw [5] (fun j wr=>∃ k q:Nat,k≤n∧j=.int .i64 (k:Int)∧Hid (l.take k=m.take k)∧wr=w.drewN q) (fun j _=>n-(intOf j).toNat)
  case atStart=>exact ⟨0,0,Nat.zero_le _,rfl,(show _=_ by simp),rfl⟩
  case round =>
   obtain ⟨k,q,hk,rfl,heq,rfl⟩:=hrel
   by_cases hlt:k<n
   ·obtain ⟨ad,rfl,_,c0,c1⟩:=hr.blk2 HN.out hlt
    obtain ⟨ad',rfl,_,c0',c1'⟩:=hr'.blk2 HM.out (k:=k) (by have:=HL.out;omega)
    have hki:(k:Int)<(n:Int):=tZ1
    have hki':(k:Int)<(n':Int):=by have:=HL.out;omega
    have hkl:k<l.length:=tZ7
    have hkm:k<m.length:=by have:=HL.out;have:=HN.out;have:=HM.out;omega
    obtain ⟨x,hx⟩:∃ x,x=l[k]'hkl:=⟨_,rfl⟩
    obtain ⟨y,hy⟩:∃ y,y=m[k]'hkm:=⟨_,rfl⟩
    rw [← hx] at c0 c1
    rw [← hy] at c0' c1'
    have htl:=List.take_succ_eq_append_getElem hkl
    have htm:=List.take_succ_eq_append_getElem hkm
    rw [← hx] at htl
    rw [← hy] at htm
    have HX:=Lib.hid hx
    have HY:=Lib.hid hy
    have HTL:=Lib.hid htl
    have HTM:=Lib.hid htm
    obtain ⟨xi,xs⟩:=x
    obtain ⟨yi,ys⟩:=y
    simp only at c0 c1 c0' c1'
    clear hx hy htl htm hr hr'
    go_wp2_with fail
    by_cases hxy:xi=yi
    ·subst hxy
     by_cases hss:xs=ys
     ·subst hss
      have hnext:Hid (l.take (k+1)=m.take (k+1)):=by
       show _=_
       rw [HTL.out,HTM.out,heq.out]
      clear heq HTL HTM HX HY
      go_big_quiet (fail)
      go_wp2_with fail
      go_roundw
      case rel=>exact ⟨k+1,q+nq,by omega,by go_num,hnext,rfl⟩
      case measure=>simp [intOf];omega
     ·have hb1:(xs == ys)=false:=by simpa using hss
      have hb2:(xs != ys)=true:=by simpa using hss
      have HF:Hid ((l == m)=false):=by
       show _=_
       cases h:(l == m) with
       | false=>rfl
       | true =>
        have e:=eq_of_beq h
        subst e
        exact absurd (HX.out.trans HY.out.symm) (by intro e;injection e with e1 e2;exact hss e2)
      clear hss heq HX HY HTL HTM
      exact mZ3
    ·have hb1:(xi == yi)=false:=tZ114
     have hb2:(xi != yi)=true:=tZ114
     have HF:Hid ((l == m)=false):=by
      show _=_
      cases h:(l == m) with
      | false=>rfl
      | true =>
       have e:=eq_of_beq h
       subst e
       exact absurd (HX.out.trans HY.out.symm) (by intro e;injection e with e1 e2;exact hxy e1)
     clear hxy heq HX HY HTL HTM
     exact mZ3
   ·obtain rfl:k=n:=tZ1
    have HF:Hid ((l == m)=true):=by
     show _=_
     have h1:=heq.out
     rw [List.take_of_length_le tZ83,List.take_of_length_le (by rw [HL.out,HM.out];exact Nat.le_refl _)] at h1
     rw [h1]
     exact beq_self_eq_true m
    clear heq hr hr'
    go_wp2_with fail
    go_ret
    exact ⟨by rw [HF.out];rfl,q,rfl⟩
 ·have e1:((n:Int) == (n':Int))=false:=tZ6
  have e2:((n:Int) != (n':Int))=true:=tZ6
  have e3:¬ (n:Int)=(n':Int):=tZ1
  have hne:(l == m)=false:=by
   cases h:(l == m) with
   | false=>rfl
   | true=>exact absurd (by rw [hnl,hnm,(eq_of_beq h:l=m)]) hlen
  have HNE:=Lib.hid hne
  clear hnl hnm hne hr hr'
  go_enter Tryz.func13,Tryz.ntmps13
  go_wp2_with fail
  go_ret
  exact ⟨by rw [HNE.out];rfl,0,rfl⟩
/-! ### Check -/
def okFrom:Option Int→BL→Bool
 | _,[]=>true
 | p,x :: r=>decide (0≤x.1) && decide (x.1<1024) && decide (x.2.length=16) && (match p with
  | none=>true
  | some y=>decide (y<x.1)) && okFrom (some x.1) r
def okL (l:BL):Bool:=okFrom none l
def okE (l:BL):Int:=if okL l then 0 else 9
def prevAt (l:BL) (k:Nat):Option Int:=match k with
 | 0=>none
 | j+1=>(l[j]?).map (·.1)
def CheckBk (w:World) (E:Int) (e:Ending) (w':World):Prop:=e=.returned (.int .i64 E)∧Below w.heap.size w w'
set_option maxRecDepth 100000 in
set_option maxHeartbeats 2000000 in
theorem checkBk_any (l:BL) (n:Nat) (hnl:n=l.length) (A:Option Addr) (c:Nat) (w:World) (B:Nat) (hr:Reads w B 2 A n (bcells l)) (hB:B≤w.heap.size) (hn:n≤140737488351232) :
  Calls Tryz.prog 152 #[.slice A n c] w (CheckBk w (okE l)):=by
 have HN:=Lib.hid hnl
 clear hnl
 go_enter Tryz.func152,Tryz.ntmps152
 go_wp2_with fail
 go_loopw [7] (fun j wr=>∃ k:Nat,k≤n∧j=.int .i64 (k:Int)∧Hid (okL l=okFrom (prevAt l k) (l.drop k))∧Below w.heap.size w wr) (fun j _=>n-(intOf j).toNat)
 case atStart=>exact ⟨0,Nat.zero_le _,rfl,rfl,Below.refl _ _⟩
 case round =>
  obtain ⟨k,hk,rfl,hok,hbw⟩:=hrel
  by_cases hlt:k<n
  ·have hrw:=hr.below (hbw.mono hB)
   obtain ⟨ad,rfl,hadB,c0,c1⟩:=hrw.blk2 HN.out hlt
   have hki:(k:Int)<(n:Int):=tZ1
   have hkl:k<l.length:=tZ7
   obtain ⟨x,hx⟩:∃ x,x=l[k]'hkl:=⟨_,rfl⟩
   rw [← hx] at c0 c1
   have hdr:=List.drop_eq_getElem_cons hkl
   rw [← hx] at hdr
   have HX:=Lib.hid hx
   have HDR:=Lib.hid hdr
   obtain ⟨xi,xs⟩:=x
   simp only at c0 c1
   have hk0:(wr.alloc (.cells #[.int .i64 xi,.string ⟨xs.toArray⟩] 75)).cell? ⟨wr.heap.size,0,none⟩=some (.int .i64 xi):=(Blk.new wr _ _).cell 0
   have hk1:(wr.alloc (.cells #[.int .i64 xi,.string ⟨xs.toArray⟩] 75)).cell? ⟨wr.heap.size,1,none⟩=some (.string ⟨xs.toArray⟩):=(Blk.new wr _ _).cell 1
   have hbad:Hid ((xi<0∨1024≤xi∨xs.length≠16∨(∃ y,prevAt l k=some y∧xi≤y))→okE l=9):=by
    exact mZ11
   have hgood:Hid ((0≤xi∧xi<1024∧xs.length=16∧(∀ y,prevAt l k=some y→y<xi))→okL l=okFrom (prevAt l (k+1)) (l.drop (k+1))):=by
    exact mZ10
   clear hx hdr hok
   by_cases g1:xi<0
   ·have HB:=Lib.hid (hbad.out (.inl g1))
    clear hr hrw hbad hgood
    exact mZ7
   by_cases g2:1024≤xi
   ·have HB:=Lib.hid (hbad.out (.inr (.inl g2)))
    have d1:decide (xi<0)=false:=tZ6
    have d2:decide (1024≤xi)=true:=tZ6
    clear hr hrw hbad hgood g1 g2
    exact mZ7
   by_cases g3:xs.length=16
   ·have g1':0≤xi:=tZ1
    have g2':xi<1024:=tZ1
    have g3a:((xs.length:Int) == 16)=true:=by simp [g3]
    have g3b:((xs.length:Int) != 16)=false:=by simp [g3]
    have d1:decide (xi<0)=false:=tZ6
    have d2:decide (1024≤xi)=false:=tZ6
    rcases Nat.eq_zero_or_pos k with h0 | h0
    ·have HG:=Lib.hid (hgood.out ⟨g1',g2',g3,fun y hy=>by subst h0;cases hy⟩)
     have d4:decide ((0:Int)<(k:Int))=false:=tZ6
     have d4':decide (0<k)=false:=tZ6
     have H0:=Lib.hid h0
     clear hr hrw hbad hgood g1 g2 g3 h0
     go_wp2_with fail
     go_big_quiet (fail)
     exact mZ8
    ·have d4:decide ((0:Int)<(k:Int))=true:=tZ6
     have d4':decide (0<k)=true:=tZ6
     have hk1l:k-1<l.length:=tZ1
     obtain ⟨y,hy⟩:∃ y,y=(l[k-1]'hk1l).1:=⟨_,rfl⟩
     have hpv:prevAt l k=some y:=by
      exact mZ9
     have hcp:=(hrw.blk2 HN.out (k:=k-1) tZ1)
     obtain ⟨ad2,e2,-,c2,-⟩:=hcp
     injection e2 with e2
     subst e2
     rw [← hy] at c2
     have c3:(wr.alloc (.cells #[.int .i64 xi,.string ⟨xs.toArray⟩] 75)).cell? (ad.add ((k-1)*2))=some (.int .i64 y):=(World.cell?_alloc_lt wr _ _ (by rw [block_of_add];have:=hbw.size;omega)).trans c2
     have i1:(0:Int)≤(k:Int)-1:=tZ1
     have i2:(k:Int)-1<(n:Int):=tZ1
     have i3:IntKind.i64.wrap ((k:Int)-1)=(k:Int)-1:=IntWalk.i64_in _ tZ1
     have i4:((k:Int)-1).toNat=k-1:=tZ1
     by_cases g5:y<xi
     ·have HG:=Lib.hid (hgood.out ⟨g1',g2',g3,fun y' hy'=>by rw [hpv] at hy';cases hy';exact g5⟩)
      have d5:decide (xi≤y)=false:=tZ6
      clear hr hrw hbad hgood g1 g2 g3 h0 hpv hy c2 g5
      go_wp2_with fail
      go_big_quiet (fail)
      clear i3 i4
      exact mZ8
     ·have HB:=Lib.hid (hbad.out (.inr (.inr (.inr ⟨y,hpv,by omega⟩))))
      have d5:decide (xi≤y)=true:=tZ6
      clear hr hrw hbad hgood g1 g2 g3 h0 hpv hy c2 g5
      go_wp2_with fail
      go_big_quiet (fail)
      clear i3 i4
      exact mZ6
   ·have g3a:((xs.length:Int) == 16)=false:=tZ6
    have g3b:((xs.length:Int) != 16)=true:=tZ6
    have g1':0≤xi:=tZ1
    have g2':xi<1024:=tZ1
    have HB:=Lib.hid (hbad.out (.inr (.inr (.inl g3))))
    have d1:decide (xi<0)=false:=tZ6
    have d2:decide (1024≤xi)=false:=tZ6
    clear hr hrw hbad hgood g1 g2 g3
    exact mZ7
  ·obtain rfl:k=n:=tZ1
   have HF:Hid (okE l=0):=by
    exact mZ5
   clear hok hr
   exact mZ4
end Go.Proofs.YtcgclpcocdappaaGreatDoor
namespace Go.Proofs.YtcgclpcocdappaaGreatDoor
open Go.RowKit
section
variable {P:Program} {ops:Array Oper}
/-- which operation writes slot k -/
def ownerOf (ops:Array Oper) (k:Nat):Option Nat:=(List.range ops.size).find? fun i=>(ops[i]?.bind (·.dst)) == some k
/-- no two operations write one slot, all slots are there, each waits for earlier ones alone -/
def regionOk (ops:Array Oper) (n:Nat):Bool :=
 (List.range ops.size).all fun i=>match ops[i]? with
  | some o=>(match o.dst with | some d=>decide (ownerOf ops d=some i) && decide (d<n) | none=>true) && o.after.all fun e=>!(Region.binds .any e) || decide (e.on<i)
  | none=>true
def upd (m:Nat→Option Value) (i:Nat) (v:Value):Nat→Option Value:=fun j=>if j=i then some v else m j
theorem upd_self (m:Nat→Option Value) (i:Nat) (v:Value):upd m i v i=some v:=by simp [upd]
theorem upd_ne (m:Nat→Option Value) {i j:Nat} (v:Value) (h:j≠i):upd m i v j=m j:=by simp [upd,h]
/-- the frame when the operations that m knows have come up -/
def frameM (a0:Act) (ops:Array Oper) (m:Nat→Option Value):Act :=
 { tmps:=a0.tmps.mapIdx fun k x=>match ownerOf ops k with | some i=>(m i).getD x | none=>x,defers:=a0.defers }
theorem ownerOf_spec {k i:Nat} (h:ownerOf ops k=some i):∃ o,ops[i]?=some o∧o.dst=some k:=by
 unfold ownerOf at h
 have:=List.find?_some h
 simp only [beq_iff_eq] at this
 cases ho:ops[i]? with
 | none=>rw [ho] at this;cases this
 | some o=>rw [ho] at this;exact ⟨o,rfl,this⟩
theorem regionOk_spec {n:Nat} (h:regionOk ops n=true) {i:Nat} {o:Oper} (ho:ops[i]?=some o):(∀ d,o.dst=some d→ownerOf ops d=some i∧d<n)∧∀ e∈o.after,Region.binds .any e=true→e.on<i:=by
 have hi:i<ops.size:=(Array.getElem?_eq_some_iff.1 ho).1
 have:=List.all_eq_true.1 h i (List.mem_range.2 hi)
 rw [ho] at this
 simp only [Bool.and_eq_true,Array.all_eq_true_iff_forall_mem,Bool.or_eq_true,Bool.not_eq_true',decide_eq_true_eq] at this
 refine ⟨fun d hd=>?_,fun e he hb=>?_⟩
 ·have h1:=this.1
  rw [hd] at h1
  simpa using h1
 ·rcases this.2 e he with h | h
  ·rw [hb] at h;cases h
  ·exact h
theorem frameM_put {a0:Act} {m:Nat→Option Value} (h:regionOk ops a0.tmps.size=true) {i:Nat} {o:Oper} (ho:ops[i]?=some o) (v:Value) :
  (frameM a0 ops m).put o.dst v=frameM a0 ops (upd m i v):=by
 obtain ⟨h1,_⟩:=regionOk_spec h ho
 cases hd:o.dst with
 | none =>
  unfold Act.put frameM
  simp only [Act.mk.injEq,and_true]
  apply Array.ext
  ·simp
  ·intro k hk1 hk2
   simp only [Array.getElem_mapIdx]
   cases hw:ownerOf ops k with
   | none=>rfl
   | some j =>
    obtain ⟨o',ho',hd'⟩:=ownerOf_spec hw
    have hji:j≠i:=by rintro rfl;rw [ho] at ho';cases ho';rw [hd] at hd';cases hd'
    simp only [upd_ne m v hji]
 | some d =>
  obtain ⟨hw,hlt⟩:=h1 d hd
  unfold Act.put frameM
  simp only [Act.mk.injEq,and_true]
  apply Array.ext
  ·simp
  ·intro k hk1 hk2
   by_cases hkd:d=k
   ·subst hkd
    simp [hw,upd_self]
   ·rw [Array.getElem_setIfInBounds_ne (by simpa using hk1) hkd]
    simp only [Array.getElem_mapIdx]
    cases hw':ownerOf ops k with
    | none=>rfl
    | some j =>
     have hji:j≠i:=by
      rintro rfl
      obtain ⟨o',ho',hd'⟩:=ownerOf_spec hw'
      rw [ho] at ho';cases ho';rw [hd] at hd';cases hd';exact hkd rfl
     simp only [upd_ne m v hji]
theorem frameM_none (a0:Act):frameM a0 ops (fun _=>none)=a0:=by
 cases a0 with
 | mk tmps defers =>
  unfold frameM
  simp only [Act.mk.injEq,and_true]
  apply Array.ext
  ·simp
  ·intro k hk1 hk2
   simp only [Array.getElem_mapIdx]
   cases ownerOf ops k <;> rfl
theorem tmps_own {a0:Act} {m:Nat→Option Value} {k i:Nat} {v:Value} (hw:ownerOf ops k=some i) (hv:m i=some v) (hk:k<a0.tmps.size):(frameM a0 ops m).tmps[k]?.getD undef=v:=by
 simp [frameM,hk,hw,hv]
theorem tmps_free {a0:Act} {m:Nat→Option Value} {k:Nat} (hw:ownerOf ops k=none):(frameM a0 ops m).tmps[k]?.getD undef=a0.tmps[k]?.getD undef:=by
 by_cases hk:k<a0.tmps.size
 ·simp [frameM,hk,hw]
 ·simp [frameM,hk]
theorem wp_region_inv {id:Nat} {a0:Act} {w:World} {Q:Exit→Act→World→Prop} (hm:P.follows .mixedOrders=true) (hok:regionOk ops a0.tmps.size=true) (J:(Nat→Option Value)→World→Prop)
  (h0:J (fun _=>none) w.drew)
  (hstep:∀ i o,ops[i]?=some o→∀ m w,J m w→m i=none→(∀ e∈o.after,Region.binds .any e=true→(m e.on).isSome=true) → 
   ∀ (A:Act) (K:Act→World→Prop),A=frameM a0 ops m→(∀ v w',J (upd m i v) w'→K (A.put o.dst v) w')→if Region.wanted o (yielded ops A.tmps)=true then o.wp P A w K Q else K (A.put o.dst undef) w)
  (hend:∀ m w,J m w→(∀ i,i<ops.size→(m i).isSome=true)→Q .normal (frameM a0 ops m) w) :
  (Code.region id ops true).wp P Q a0 w:=by
 refine wp_region_any hm ?_
 have key:∀ (fuel:Nat) (listed:Array Bool) (m:Nat→Option Value) (w:World),J m w→listed.size=ops.size→(∀ i,i<ops.size→listed.getD i true=(m i).isSome) →
   ((List.range ops.size).filter fun i=>(m i).isNone).length≤fuel→wpAny P .any ops Q fuel listed (frameM a0 ops m) w:=by
  intro fuel
  induction fuel with
  | zero =>
   intro listed m w hJ hsz hl hc
   have hall:∀ i,i<ops.size→(m i).isSome=true:=by
    intro i hi
    have he:(List.range ops.size).filter (fun i=>(m i).isNone)=[]:=List.eq_nil_of_length_eq_zero tZ1
    have:=List.filter_eq_nil_iff.1 he i (List.mem_range.2 hi)
    cases hmi:m i with
    | none=>rw [hmi] at this;exact absurd rfl this
    | some _=>rfl
   refine ⟨?_,hend m w hJ hall⟩
   apply List.eq_nil_iff_forall_not_mem.2
   intro j hj
   obtain ⟨hu,o,ho,_⟩:=mem_ready.1 hj
   have hjs:j<ops.size:=(Array.getElem?_eq_some_iff.1 ho).1
   rw [hl j hjs,hall j hjs] at hu
   cases hu
  | succ fuel ih =>
   intro listed m w hJ hsz hl hc
   refine ⟨fun hr=>hend m w hJ ?_,fun i hi=>?_⟩
   ·-- nothing is ready: all have come up
    intro i
    induction i using Nat.strongRecOn with
    | ind i ihi =>
     intro hi
     cases hmi:m i with
     | some _=>rfl
     | none =>
      exfalso
      have ho:ops[i]?=some ops[i]:=Array.getElem?_eq_getElem hi
      have:i∈Region.ready .any ops listed:=by
       refine mem_ready.2 ⟨by rw [hl i hi,hmi];rfl,ops[i],ho,fun e he hb=>?_⟩
       have hlt:=(regionOk_spec hok ho).2 e he hb
       have h2:=ihi e.on hlt tZ1
       have h3:=hl e.on tZ1
       rw [h2] at h3
       have h4:e.on<listed.size:=tZ1
       simp [Array.getD,h4] at h3 ⊢
       exact h3
      rw [hr] at this
      cases this
   ·obtain ⟨hu,o,ho,hdeps⟩:=mem_ready.1 hi
    have his:i<ops.size:=(Array.getElem?_eq_some_iff.1 ho).1
    have hmi:m i=none:=by
     rw [hl i his] at hu
     cases hmi:m i with
     | none=>rfl
     | some _=>rw [hmi] at hu;cases hu
    have hs:=hstep i o ho m w hJ hmi (fun e he hb=>by
     have h1:=hdeps e he hb
     have hlt:=(regionOk_spec hok ho).2 e he hb
     have h2:=hl e.on tZ1
     have h4:e.on<listed.size:=tZ1
     simp [Array.getD,h4] at h1 h2
     rw [← h2];exact h1)
    have next:∀ v w',J (upd m i v) w'→wpAny P .any ops Q fuel (listed.setIfInBounds i true) ((frameM a0 ops m).put o.dst v) w':=by
     intro v w' hJ'
     rw [frameM_put hok ho]
     refine ih _ _ _ hJ' tZ80 ?_ ?_
     ·intro j hj
      by_cases hji:j=i
      ·subst hji
       simp [upd_self,Array.getD,hsz,hj]
      ·rw [upd_ne m v hji,← hl j hj]
       exact getD_set_ne true (fun h=>hji h.symm)
     ·have hlt:((List.range ops.size).filter fun j=>(upd m i v j).isNone).length<((List.range ops.size).filter fun j=>(m j).isNone).length:=by
       have hsub:(List.range ops.size).filter (fun j=>(upd m i v j).isNone)=((List.range ops.size).filter fun j=>(m j).isNone).filter fun j=>decide (j≠i):=by
        rw [List.filter_filter]
        apply List.filter_congr
        intro j _
        by_cases hji:j=i
        ·subst hji;simp [upd_self]
        ·simp [upd_ne m v hji,hji]
       rw [hsub]
       exact List.length_filter_lt_length_iff_exists.2 ⟨i,List.mem_filter.2 ⟨List.mem_range.2 his,by rw [hmi];rfl⟩,by simp⟩
      omega
    unfold wpOp
    rw [ho]
    show if Region.wanted o (yielded ops (frameM a0 ops m).tmps)=true then _ else _
    have hs':=hs (frameM a0 ops m) (wpAny P .any ops Q fuel (listed.setIfInBounds i true)) rfl (fun v w' h=>next v w' h)
    by_cases hw:Region.wanted o (yielded ops (frameM a0 ops m).tmps)=true
    ·rw [if_pos hw] at hs' ⊢
     exact .inl hs'
    ·rw [if_neg hw] at hs' ⊢
     exact hs'
 have h:=key ops.size (Array.replicate ops.size false) (fun _=>none) w.drew h0 tZ3 (fun i hi=>by simp [Array.getD,hi]) (Nat.le_trans (List.length_filter_le _ _) tZ3)
 rw [frameM_none] at h
 exact h
/-! ### Values that are determined -/
def Det (val:Nat→Option Value) (m:Nat→Option Value):Prop:=∀ i v x,val i=some x→m i=some v→v=x
theorem Det.get {val m:Nat→Option Value} (h:Det val m) {i:Nat} {x:Value} (hx:val i=some x) (hs:(m i).isSome=true):m i=some x:=by
 cases hm:m i with
 | none=>rw [hm] at hs;cases hs
 | some v=>rw [h i v x hx hm]
/-! ### The frame behind the region, written out -/
def putAll:Act→List Oper→List Value→Act
 | a,o :: os,v :: vs=>putAll (a.put o.dst v) os vs
 | a,_,_=>a
theorem frameM_congr {a0:Act} {m m':Nat→Option Value} (h:∀ i,i<ops.size→m i=m' i):frameM a0 ops m=frameM a0 ops m':=by
 unfold frameM
 simp only [Act.mk.injEq,and_true]
 apply Array.ext
 ·simp
 ·intro k hk1 hk2
  simp only [Array.getElem_mapIdx]
  cases hw:ownerOf ops k with
  | none=>rfl
  | some j =>
   obtain ⟨o,ho,_⟩:=ownerOf_spec hw
   simp only [h j (Array.getElem?_eq_some_iff.1 ho).1]
theorem putAll_frame {a0:Act} (hok:regionOk ops a0.tmps.size=true):∀ (os:List Oper) (vs:List Value) (k:Nat) (m:Nat→Option Value),(∀ j,os[j]?=ops[k+j]?)→os.length=vs.length →
  putAll (frameM a0 ops m) os vs=frameM a0 ops (fun i=>if k≤i∧i<k+vs.length then vs[i-k]? else m i):=by
 intro os
 induction os with
 | nil =>
  intro vs k m _ hl
  have:vs=[]:=List.eq_nil_of_length_eq_zero hl.symm
  subst this
  show frameM a0 ops m=_
  congr 1
  funext i
  rw [if_neg tZ3]
 | cons o os ih =>
  intro vs k m ho hl
  match vs,hl with
  | v :: vs,hl =>
   have h0:ops[k]?=some o:=by simpa using (ho 0).symm
   show putAll ((frameM a0 ops m).put o.dst v) os vs=_
   rw [frameM_put hok h0,ih vs (k+1) _ (fun j=>by have:=ho (j+1);simpa [Nat.add_assoc,Nat.add_comm 1 j] using this) tZ137]
   congr 1
   funext i
   by_cases h1:i=k
   ·subst h1
    rw [if_neg tZ1,upd_self,if_pos ⟨Nat.le_refl _,by simp⟩]
    simp
   ·by_cases h2:k+1≤i∧i<k+1+vs.length
    ·rw [if_pos h2,if_pos ⟨by omega,by simp;omega⟩]
     obtain ⟨d,rfl⟩:∃ d,i=k+1+d:=⟨i-(k+1),by omega⟩
     rw [show k+1+d-(k+1)=d by omega,show k+1+d-k=d+1 by omega]
     rfl
    ·rw [if_neg h2,upd_ne m v h1,if_neg tZ6]
theorem frameM_all {a0:Act} {l:List Oper} (hok:regionOk l.toArray a0.tmps.size=true) {m:Nat→Option Value} (vs:List Value) (hl:l.length=vs.length) (h:∀ i,i<l.length→m i=vs[i]?) :
  frameM a0 l.toArray m=putAll a0 l vs:=by
 have:=putAll_frame (ops:=l.toArray) hok l vs 0 (fun _=>none) (fun j=>by simp) hl
 rw [frameM_none] at this
 rw [this]
 exact frameM_congr fun i hi=>by
  have hi':i<l.length:=tZ138
  simp [h i hi',← hl,hi']
end
end Go.Proofs.YtcgclpcocdappaaGreatDoor
