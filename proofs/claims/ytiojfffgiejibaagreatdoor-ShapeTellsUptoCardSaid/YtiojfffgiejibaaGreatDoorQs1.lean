/-
  Words for memory that all texts of this seat use: a slice that reads as a list, a block known whole, append from any source.   Turned from the guide's pages extra-words and extra-small. A region that draws its order, whose operations each have one value in every world of a class: one walk in the order of the text. 'string(b)' of octets; a row with a mark behind its end (what '[]byte(s)' makes). A region's class walk, with the slots as a list: lighter steps.
-/
import Derived.Test.YtiojfffgiejibaaGreatDoorQsM1
import Derived.WalkKit
import Derived.WalkSpells
import Derived.Below
import Derived.Laws.OwnMore
import Derived.Deep.AppendLies
import Derived.Deep.Draws
import Derived.Laws.Rows
import Derived.Maps.AppendAt
import Derived.RegionTactic
import Derived.OwnWalk
import Derived.Deep.QuietTactic
import Derived.BigQuiet
import Derived.Lib.Hide
import Derived.Laws.CopyOwn
import Derived.IntWalk
import Derived.Deep.Quiet
import Derived.Handy
import Derived.Laws.BytesString
import Derived.Laws.IdiomStrings
import Derived.Lib.ConvBytes
import Derived.Lib.Strings
import Derived.Test.YtiojfffgiejibaaGreatDoorQ0
namespace Go.Proofs.YtiojfffgiejibaaGreatDoor
open Go.RowKit
theorem block_of_add (a:Addr) (n:Nat):(a.add n).block=a.block:=tZ142
theorem add_of_add (a:Addr) (i j:Nat):(a.add i).add j=a.add (i+j):=by
 unfold Addr.add
 by_cases hi:i=0 <;> by_cases hj:j=0 <;> simp [hi,hj,Nat.add_assoc]
def Reads (w:World) (B size:Nat) (A:Option Addr) (n:Nat) (xs:List Value):Prop :=
 xs.length=n*size∧(0<n→∃ ad,A=some ad∧ad.block<B∧∀ j u,xs[j]?=some u→w.cell? (ad.add j)=some u)
section
variable {w w':World} {B B' size n:Nat} {A:Option Addr} {xs:List Value}
theorem Reads.none_:Reads w B size A 0 []:=⟨by simp,fun h=>absurd h tZ1⟩
theorem Reads.at_ {k:Nat} (h:Reads w B 1 A n xs) (hk:k<n):∃ ad u,A=some ad∧ad.block<B∧xs[k]?=some u∧w.cell? (ad.add k)=some u:=by
 obtain ⟨ad,e,hb,hc⟩:=h.2 tZ1
 have hl:k<xs.length:=by have:=h.1;omega
 exact ⟨ad,xs[k],e,hb,List.getElem?_eq_getElem hl,hc k _ (List.getElem?_eq_getElem hl)⟩
theorem Reads.keep (h:Reads w B size A n xs) (hk:∀ p:Addr,p.block<B→w'.cell? p=w.cell? p):Reads w' B size A n xs :=
 ⟨h.1,fun hn=>by
  obtain ⟨ad,e,hb,hc⟩:=h.2 hn
  exact ⟨ad,e,hb,fun j u hu=>(hk _ (by rw [block_of_add];exact hb)).trans (hc j u hu)⟩⟩
theorem Reads.more (h:Reads w B size A n xs) (hB:B≤B'):Reads w B' size A n xs :=
 ⟨h.1,fun hn=>by
  obtain ⟨ad,e,hb,hc⟩:=h.2 hn
  exact ⟨ad,e,by omega,hc⟩⟩
theorem Reads.below (h:Reads w B size A n xs) (hb:Below B w w'):Reads w' B size A n xs:=h.keep fun _ hp=>hb.cell hp
theorem Reads.drew (h:Reads w B size A n xs):Reads w.drew B size A n xs:=h
theorem Reads.drewN (h:Reads w B size A n xs) (k:Nat):Reads (w.drewN k) B size A n xs:=h
theorem Reads.alloc (h:Reads w B size A n xs) (hB:B≤w.heap.size) (o:Obj):Reads (w.alloc o) B size A n xs:=h.keep fun p hp=>World.cell?_alloc_lt w o p tZ1
theorem Reads.setCell (h:Reads w B size A n xs) {p:Addr} (hB:B≤p.block) (u:Value):Reads (w.setCell p u) B size A n xs :=
 h.keep fun q hq=>World.cell?_setCell_other w p q u (fun e=>by subst e;omega)
theorem Reads.grown (h:Reads w B size A n xs) {row:Option Nat} (hg:w.grownBy w' row) (hB:B≤w.heap.size) (hr:∀ g,row=some g→B≤g):Reads w' B size A n xs :=
 h.keep fun p hp=>World.cell?_of_block (hg.block p.block tZ1 (fun e=>by have:=hr _ e.symm;omega))
theorem Reads.cut (h:Reads w B size A n xs) {k cap:Nat} (hk:k≤n) (hc:n≤cap) :
  Reads w B size (if cap=k then A else A.map (·.add (k*size))) (n-k) (xs.drop (k*size)):=by
 refine ⟨by rw [List.length_drop,h.1,Nat.sub_mul],fun hn=>?_⟩
 obtain ⟨ad,rfl,hb,hcell⟩:=h.2 tZ1
 rw [if_neg tZ1]
 refine ⟨ad.add (k*size),rfl,by rw [block_of_add];exact hb,fun j u hu=>?_⟩
 rw [add_of_add]
 exact hcell _ u (by rw [← hu,List.getElem?_drop])
theorem Reads.of_own {base:Nat} {e:TypeId} {c:Nat} (h:w.ownsRow base e size (.slice A n c) n xs):Reads w w.heap.size size A n xs:=by
 refine ⟨h.1,fun hn=>?_⟩
 obtain ⟨g,cap,hv,_,hlt⟩:=h.form hn
 have hA:A=some ⟨g,0,none⟩:=by injection hv
 subst hA
 exact ⟨_,rfl,hlt,h.cells (g:=g) rfl⟩
end
def Blk (w:World) (g:Nat) (t:TypeId) (cs:Array Value):Prop:=w.heap[g]?=some (.cells cs t (0,0))
section
variable {w w':World} {g:Nat} {t:TypeId} {cs:Array Value}
theorem Blk.lt (h:Blk w g t cs):g<w.heap.size:=by
 rcases Nat.lt_or_ge g w.heap.size with hlt | hge
 ·exact hlt
 ·unfold Blk at h;rw [Array.getElem?_eq_none hge] at h;cases h
theorem Blk.cell (h:Blk w g t cs) (i:Nat):w.cell? ⟨g,i,none⟩=cs[i]?:=cell_of_row w g i cs t (0,0) h
theorem Blk.frozen (h:Blk w g t cs) (i:Nat):w.frozen? ⟨g,i,none⟩=false:=by
 unfold Blk at h
 simp [World.frozen?,h]
theorem Blk.new (w:World) (t:TypeId) (cs:Array Value):Blk (w.alloc (.cells cs t)) w.heap.size t cs:=heap_alloc_new w _
theorem Blk.drew (h:Blk w g t cs):Blk w.drew g t cs:=h
theorem Blk.drewN (h:Blk w g t cs) (n:Nat):Blk (w.drewN n) g t cs:=h
theorem Blk.alloc (h:Blk w g t cs) (o:Obj):Blk (w.alloc o) g t cs:=(Below.heap_alloc w o g h.lt).trans h
theorem Blk.set_ (h:Blk w g t cs) (i:Nat) (u:Value):Blk (w.setCell ⟨g,i,none⟩ u) g t (cs.setIfInBounds i u):=by
 unfold Blk at h ⊢
 simp [World.setCell,Array.getElem?_modify,h]
theorem Blk.far (h:Blk w g t cs) {p:Addr} (hp:g≠p.block) (u:Value):Blk (w.setCell p u) g t cs:=(Below.heap_setCell w p u g hp).trans h
theorem Blk.below {B:Nat} (h:Blk w g t cs) (hb:Below B w w') (hg:g<B):Blk w' g t cs:=(hb.block g hg).trans h
theorem Blk.grown {row:Option Nat} (h:Blk w g t cs) (hb:w.grownBy w' row) (hg:some g≠row):Blk w' g t cs:=(hb.block g h.lt hg).trans h
theorem Blk.ne_ {g':Nat} {t':TypeId} {cs':Array Value} (h:Blk w g t cs) (h':Blk w g' t' cs') (hne:t≠t'):g≠g':=by
 rintro rfl
 unfold Blk at h h'
 rw [h] at h'
 injection h' with h'
 injection h' with _ ht
 exact hne ht
theorem own_blk_ne {base:Nat} {e:TypeId} {size n:Nat} {v:Value} {xs:List Value} (h:w.ownsRow base e size v n xs) (hg:Blk w g t cs) (hne:e≠t):v.ownBlock≠some g:=by
 rcases h.2 with ⟨rfl,_⟩ | ⟨g',cap,cur,rfl,_,hh,_⟩
 ·simp [Value.ownBlock]
 ·intro he
  have:g'=g:=tZ60
  subst this
  exact Blk.ne_ (t:=e) hh hg hne rfl
end
section
variable {P:Program} (w:World)
theorem run_append_of_nil (base:Nat) (t ty e:TypeId) (i:TypeInfo) (size:Nat) (ht:P.underlying t=some (.slice e)) (hi:P.info? e=some i)
  (v:Value) (n:Nat) (xs:List Value) (hown:w.ownsRow base e size v n xs) (c:Nat):(Builtin.append_ #[t,t] ty #[v,.slice none 0 c]).run P w=.ok v w:=by
 rcases hown.2 with ⟨rfl,rfl⟩ | ⟨g,cap,cur,rfl,_,_,hnc,_⟩
 ·simp [Builtin.append_,run_underlying ht,sizeOf,typeInfo,hi,Builtin.lenOf,Builtin.firstCells]
 ·simp [Builtin.append_,run_underlying ht,sizeOf,typeInfo,hi,Builtin.lenOf,Builtin.firstCells,hnc,storeCells]
theorem run_append_any (base:Nat) (t ty e:TypeId) (i:TypeInfo) (z:Value) (size bytes:Nat) (ht:P.underlying t=some (.slice e)) (hi:P.info? e=some i) (hz:i.zero=some z)
  (hsize:i.size=size) (hby:i.bytes=bytes) (hzs:z.cells.size=size) (hsz:0<size)
  (v:Value) (n:Nat) (xs:List Value) (hown:w.ownsRow base e size v n xs)
  (B:Nat) (A:Option Addr) (m c:Nat) (news:List Value) (hr:Reads w B size A m news) (h1:∀ u∈news,u.oneCell'=true)
  (h63:n+m≤maxLen) (hbytes:(n+m)*bytes≤140737488355328) (hbase:base≤w.heap.size) :
  ∃ v' w',(Builtin.append_ #[t,t] ty #[v,.slice A m c]).run P w=.ok v' w'∧w'.ownsRow base e size v' (n+m) (xs++news)∧w.grownBy w' v.ownBlock ∧
   (v'.ownBlock=v.ownBlock∨v'.ownBlock=some w.heap.size):=by
 rcases A with _ | ad
 ·have hm:m=0:=by
   rcases Nat.eq_zero_or_pos m with h0 | h0
   ·exact h0
   ·obtain ⟨ad,h,_⟩:=hr.2 h0
    cases h
  subst hm
  have hn:news=[]:=List.eq_nil_of_length_eq_zero tZ62
  subst hn
  exact ⟨v,w,run_append_of_nil w base t ty e i size ht hi v n xs hown c,by simpa using hown,World.grownBy.refl w _,.inl rfl⟩
 ·have hcells:∀ j u,news[j]?=some u→w.cell? (ad.add j)=some u:=by
   intro j u hu
   rcases Nat.eq_zero_or_pos m with h0 | h0
   ·subst h0
    have hn:news=[]:=List.eq_nil_of_length_eq_zero tZ62
    subst hn
    simp at hu
   ·obtain ⟨ad',h,_,hc⟩:=hr.2 h0
    injection h with h
    subst h
    exact hc j u hu
  obtain ⟨v',w',hrun,h2,h3,_,h5⟩:=run_append_own_at (P:=P) w base t ty e i z size bytes ht hi hz hsize hby hzs hsz v n xs hown ad m c news hr.1 hcells h1 h63 hbytes hbase
  exact ⟨v',w',hrun,h2,h3,h5⟩
theorem wp_append_any {o:Oper} {a:Act} {K:Act→World→Prop} {Q:Exit→Act→World→Prop} (s x:Operand) (t:TypeId)
  (ho:o.op=.call { callee:=.builtin .append,args:=#[s,x],argTypes:=#[t,t] })
  (base:Nat) (e:TypeId) (i:TypeInfo) (z:Value) (size bytes:Nat) (ht:P.underlying t=some (.slice e)) (hi:P.info? e=some i) (hz:i.zero=some z)
  (hsize:i.size=size) (hby:i.bytes=bytes) (hzs:z.cells.size=size) (hsz:0<size)
  (v:Value) (n:Nat) (xs:List Value) (hs:a.eval s=v) (hown:w.ownsRow base e size v n xs)
  (B:Nat) (A:Option Addr) (m c:Nat) (news:List Value) (hx:a.eval x=.slice A m c) (hr:Reads w B size A m news) (h1:∀ u∈news,u.oneCell'=true)
  (h63:n+m≤maxLen) (hbytes:(n+m)*bytes≤140737488355328) (hbase:base≤w.heap.size)
  (h:∀ v' w',w'.ownsRow base e size v' (n+m) (xs++news)→w.grownBy w' v.ownBlock→(v'.ownBlock=v.ownBlock∨v'.ownBlock=some w.heap.size)→K (a.put o.dst v') w'):o.wp P a w K Q:=by
 obtain ⟨v',w',hrun,h2,h3,h4⟩:=run_append_any (P:=P) w base t o.type e i z size bytes ht hi hz hsize hby hzs hsz v n xs hown B A m c news hr h1 h63 hbytes hbase
 unfold Oper.wp execOp
 simp only [ho,resolve,invoke,builtin,Sem.run_bind,Sem.run_pure,Result.andThen_ok,List.map_toArray,List.map_cons,List.map_nil,hs,hx,hrun]
 exact h v' w' h2 h3 h4
theorem wpList_append_any {ops:Array Oper} {rest:List Oper} {o:Oper} {a:Act} {Q:Exit→Act→World→Prop} (hgd:o.guard=none) (s x:Operand) (t:TypeId)
  (ho:o.op=.call { callee:=.builtin .append,args:=#[s,x],argTypes:=#[t,t] })
  (base:Nat) (e:TypeId) (i:TypeInfo) (z:Value) (size bytes:Nat) (ht:P.underlying t=some (.slice e)) (hi:P.info? e=some i) (hz:i.zero=some z)
  (hsize:i.size=size) (hby:i.bytes=bytes) (hzs:z.cells.size=size) (hsz:0<size)
  (v:Value) (n:Nat) (xs:List Value) (hs:a.eval s=v) (hown:w.ownsRow base e size v n xs)
  (B:Nat) (A:Option Addr) (m c:Nat) (news:List Value) (hx:a.eval x=.slice A m c) (hr:Reads w B size A m news) (h1:∀ u∈news,u.oneCell'=true)
  (h63:n+m≤maxLen) (hbytes:(n+m)*bytes≤140737488355328) (hbase:base≤w.heap.size)
  (h:∀ v' w',w'.ownsRow base e size v' (n+m) (xs++news)→w.grownBy w' v.ownBlock→(v'.ownBlock=v.ownBlock∨v'.ownBlock=some w.heap.size)→wpList P ops Q rest (a.put o.dst v') w'):wpList P ops Q (o :: rest) a w :=
 wpList_plain hgd fun _ hK=>wp_append_any w s x t ho base e i z size bytes ht hi hz hsize hby hzs hsz v n xs hs hown B A m c news hx hr h1 h63 hbytes hbase fun v' w' h2 h3 h4=>hK _ _ (h v' w' h2 h3 h4)
theorem step_append_any {ops:Array Oper} {o:Oper} {a:Act} {K:Act→World→Prop} {Q:Exit→Act→World→Prop} {E:Prop} (hgd:o.guard=none) (s x:Operand) (t:TypeId)
  (ho:o.op=.call { callee:=.builtin .append,args:=#[s,x],argTypes:=#[t,t] })
  (base:Nat) (e:TypeId) (i:TypeInfo) (z:Value) (size bytes:Nat) (ht:P.underlying t=some (.slice e)) (hi:P.info? e=some i) (hz:i.zero=some z)
  (hsize:i.size=size) (hby:i.bytes=bytes) (hzs:z.cells.size=size) (hsz:0<size)
  (v:Value) (n:Nat) (xs:List Value) (hs:a.eval s=v) (hown:w.ownsRow base e size v n xs)
  (B:Nat) (A:Option Addr) (m c:Nat) (news:List Value) (hx:a.eval x=.slice A m c) (hr:Reads w B size A m news) (h1:∀ u∈news,u.oneCell'=true)
  (h63:n+m≤maxLen) (hbytes:(n+m)*bytes≤140737488355328) (hbase:base≤w.heap.size)
  (h:∀ v' w',w'.ownsRow base e size v' (n+m) (xs++news)→w.grownBy w' v.ownBlock→(v'.ownBlock=v.ownBlock∨v'.ownBlock=some w.heap.size)→K (a.put o.dst v') w') :
  if Region.wanted o (yielded ops a.tmps)=true then Oper.wp P o a w K Q else E:=by
 have hw:Region.wanted o (yielded ops a.tmps)=true:=tZ110
 rw [if_pos hw]
 exact wp_append_any w s x t ho base e i z size bytes ht hi hz hsize hby hzs hsz v n xs hs hown B A m c news hx hr h1 h63 hbytes hbase h
end
/-! ### My own words -/
section
variable {w w':World} {base:Nat} {e:TypeId} {size n:Nat} {v:Value} {xs:List Value}
theorem own_below (h:w.ownsRow base e size v n xs) (hb:Below w.heap.size w w'):w'.ownsRow base e size v n xs :=
 h.kept (row:=Option.none) ⟨hb.os,hb.tape,hb.output,hb.size,fun k hk _=>hb.block k hk⟩ (by cases v.ownBlock <;> simp)
theorem own_mono {base':Nat} (h:w.ownsRow base e size v n xs) (hb:base'≤base):w.ownsRow base' e size v n xs:=by
 refine ⟨h.1,?_⟩
 rcases h.2 with h2 | ⟨g,cap,cur,hv,hg,r⟩
 ·exact .inl h2
 ·exact .inr ⟨g,cap,cur,hv,by omega,r⟩
theorem below_drewN {B:Nat} {a w:World} (h:Below B a w) (n:Nat):Below B a (w.drewN n):=⟨h.os,h.tape,h.output,h.size,h.block⟩
end
theorem own_form {w:World} {base:Nat} {e:TypeId} {size n:Nat} {v:Value} {xs:List Value} (h:w.ownsRow base e size v n xs):∃ A c,v=.slice A n c∧n≤c∧c≤maxLen∧Reads w w.heap.size size A n xs:=by
 have h0:=h
 rcases h.2 with ⟨rfl,rfl⟩ | ⟨g,cap,cur,rfl,hb,hg,hn,hc,_⟩
 ·exact ⟨none,0,rfl,Nat.le_refl _,by simp [maxLen],Reads.of_own h0⟩
 ·exact ⟨_,cap,rfl,hn,hc,Reads.of_own h0⟩
theorem blk2 {w:World} {g:Nat} {t:TypeId} {a b:Value} (h:Blk w g t #[a,b]) :
  w.cell? ⟨g,0,none⟩=some a∧w.cell? ⟨g,1,none⟩=some b∧w.frozen? ⟨g,0,none⟩=false∧w.frozen? ⟨g,1,none⟩=false :=
 ⟨by simpa using h.cell 0,by simpa using h.cell 1,h.frozen 0,h.frozen 1⟩
theorem own_setCell_below {w:World} {base:Nat} {e:TypeId} {size n:Nat} {v:Value} {xs:List Value} (h:w.ownsRow base e size v n xs) {p:Addr} (hp:p.block<base) (u:Value):(w.setCell p u).ownsRow base e size v n xs:=ownsRow_setCell_below h hp u
theorem addr_add0 (g j:Nat):(⟨g,0,none⟩:Addr).add j=⟨g,j,none⟩:=tZ48
theorem Reads.of_blk {w:World} {g n size:Nat} {t:TypeId} {cs:Array Value} (h:Blk w g t cs) (xs:List Value) (hl:xs.length=n*size) (hp:∀ (j:Nat) (u:Value),xs[j]?=some u→cs[j]?=some u):Reads w (g+1) size (some ⟨g,0,none⟩) n xs :=
 ⟨hl,fun _=>⟨_,rfl,Nat.lt_succ_self _,fun j u hu=>by rw [addr_add0,h.cell j];exact hp j u hu⟩⟩
/-- a literal of this very call -/
theorem Reads.lit (w:World) (cs:Array Value) (t:TypeId) {n size:Nat} (hl:cs.size=n*size):Reads (w.alloc (.cells cs t)) (w.heap.size+1) size (some ⟨w.heap.size,0,none⟩) n cs.toList :=
 Reads.of_blk (Blk.new w t cs) _ tZ68 (fun j u hu=>by simpa using hu)
theorem Reads.pre {w:World} {B size n:Nat} {A:Option Addr} {xs:List Value} (h:Reads w B size A n xs) {k:Nat} (hk:k≤n):Reads w B size A k (xs.take (k*size)):=by
 refine ⟨by rw [List.length_take,h.1];exact Nat.min_eq_left (Nat.mul_le_mul_right _ hk),fun h0=>?_⟩
 obtain ⟨ad,rfl,hb,hc⟩:=h.2 tZ1
 refine ⟨ad,rfl,hb,fun j u hu=>hc j u ?_⟩
 rw [List.getElem?_take] at hu
 split at hu
 ·exact hu
 ·cases hu
/-! ### For a region that is held: S says cells, and last 'Below w0.heap.size w0 w'' -/
theorem below_step {w W W':World} (h:Below w.heap.size w W) (hb:Below W.heap.size W W'):Below w.heap.size w W':=h.trans (hb.mono h.size)
theorem own_reads {w:World} {base:Nat} {e:TypeId} {size n c:Nat} {A:Option Addr} {xs:List Value} (h:w.ownsRow base e size (.slice A n c) n xs):n≤c∧c≤maxLen∧Reads w w.heap.size size A n xs:=by
 obtain ⟨A',c',hv,h1,h2,h3⟩:=own_form h
 injection hv with e1 _ e2
 subst e1 e2
 exact ⟨h1,h2,h3⟩
/-- bytes as cells -/
def bts (b:List UInt8):List Value:=b.map fun c=>.int .u8 (c.toNat:Int)
theorem bts_length (b:List UInt8):(bts b).length=b.length:=by simp [bts]
theorem bts_get (b:List UInt8) (i:Nat):(bts b)[i]?=b[i]?.map fun c=>Value.int .u8 (c.toNat:Int):=by simp [bts]
theorem bts_append (a b:List UInt8):bts (a++b)=bts a++bts b:=by simp [bts]
theorem add_zero (a:Addr):a.add 0=a:=by simp [Addr.add]
/-- 'append(out, x)': what is appended has just been laid in a block of its own -/
theorem wpList_push {P:Program} (w:World) {ops:Array Oper} {rest:List Oper} {o:Oper} {a:Act} {Q:Exit→Act→World→Prop} (hgd:o.guard=none) (s x:Operand) (t:TypeId)
  (ho:o.op=.call { callee:=.builtin .append,args:=#[s,x],argTypes:=#[t,t] })
  (base:Nat) (e:TypeId) (i:TypeInfo) (z:Value) (size bytes:Nat) (ht:P.underlying t=some (.slice e)) (hi:P.info? e=some i) (hz:i.zero=some z)
  (hsize:i.size=size) (hby:i.bytes=bytes) (hzs:z.cells.size=size) (hsz:0<size)
  (v:Value) (n:Nat) (xs:List Value) (hs:a.eval s=v) (hown:w.ownsRow base e size v n xs)
  (m:Nat) (news:Array Value) (e':TypeId) (hx:a.eval x=.slice (some ⟨w.heap.size,0,none⟩) m m) (hl:news.size=m*size) (h1:∀ u∈news.toList,u.oneCell'=true)
  (h63:n+m≤maxLen) (hbytes:(n+m)*bytes≤140737488355328) (hbase:base≤w.heap.size)
  (h:∀ v' w',w'.ownsRow base e size v' (n+m) (xs++news.toList)→Below base w w'→w.grownBy w' v.ownBlock→wpList P ops Q rest (a.put o.dst v') w'):wpList P ops Q (o :: rest) a (w.alloc (.cells news e')):=by
 refine wpList_append_own _ hgd s x t ho base e i z size bytes ht hi hz hsize hby hzs hsz v n xs hs (hown.alloc _) ⟨w.heap.size,0,none⟩ m m news.toList hx tZ68 ?_ h1 h63 hbytes tZ7 ?_
 ·intro j u hu
  have hadd:(⟨w.heap.size,0,none⟩:Addr).add j=⟨w.heap.size,j,none⟩:=tZ48
  rw [hadd,cell_of_row _ _ j news e' (0,0) (heap_alloc_new w _)]
  simpa using hu
 ·intro v' w' hown' hg _
  have hg2:w.grownBy w' v.ownBlock:=⟨hg.os,hg.tape,hg.output,Nat.le_trans tZ3 hg.size,fun k hk hne=>(hg.block k tZ7 hne).trans (Below.heap_alloc w _ k hk)⟩
  exact h v' w' hown' ((Below.refl _ _).grown hg2 hbase (fun k hk=>(hown.lt k hk).1)) hg2
end Go.Proofs.YtiojfffgiejibaaGreatDoor
namespace Go.Proofs.YtiojfffgiejibaaGreatDoor
open Go.RowKit
section
variable {P:Program} {ops:Array Oper} {C:World→Prop} {Q:Act→Prop}
theorem wpC_read {o:Oper} {rest:List Oper} {a:Act} {v:Value} (hg:o.guard=none) (h:∀ w,C w→o.quietAt P a C w v) (hn:wpQuiet P ops C Q rest (a.put o.dst v)):wpQuiet P ops C Q (o :: rest) a:=by
 have hw:Region.wanted o (yielded ops a.tmps)=true:=by simp [Region.wanted,hg]
 unfold wpQuiet
 rw [if_pos hw]
 exact ⟨v,h,hn⟩
theorem yielded_tmps {tmps:Array Value} {g k:Nat} (hd:(ops[g]?).bind (·.dst)=some k):yielded ops tmps g=match tmps[k]?.getD undef with | .bool b=>some b | _=>none:=by
 unfold yielded
 rw [hd]
 simp only [Option.bind_some]
 cases tmps[k]? with
 | none=>rfl
 | some v=>cases v <;> rfl
theorem wpC_gread {o:Oper} {rest:List Oper} {a:Act} {v:Value} {g k:Nat} {b:Bool} (hg:o.guard=some (g,b)) (hd:(ops[g]?).bind (·.dst)=some k) (ht:a.tmps[k]?.getD undef=.bool b)
  (h:∀ w,C w→o.quietAt P a C w v) (hn:wpQuiet P ops C Q rest (a.put o.dst v)):wpQuiet P ops C Q (o :: rest) a:=by
 have hw:Region.wanted o (yielded ops a.tmps)=true:=by simp [Region.wanted,hg,yielded_tmps hd,ht]
 unfold wpQuiet
 rw [if_pos hw]
 exact ⟨v,h,hn⟩
theorem wpC_skip {o:Oper} {rest:List Oper} {a:Act} {g k:Nat} {b:Bool} (hg:o.guard=some (g,b)) (hd:(ops[g]?).bind (·.dst)=some k) (ht:a.tmps[k]?.getD undef=.bool (!b)∨a.tmps[k]?.getD undef=undef)
  (hn:wpQuiet P ops C Q rest (a.put o.dst undef)):wpQuiet P ops C Q (o :: rest) a:=by
 have hw:¬ Region.wanted o (yielded ops a.tmps)=true:=by
  rcases ht with ht | ht
  ·simp [Region.wanted,hg,yielded_tmps hd,ht]
  ·have hu:yielded ops a.tmps g=none:=by rw [yielded_tmps hd,ht];rfl
   simp [Region.wanted,hg,hu]
 unfold wpQuiet
 rw [if_neg hw]
 exact hn
theorem wpC_region {id:Nat} {R:Exit→Act→World→Prop} {a:Act} {w:World} {l:List Oper} (C:World→Prop) (hm:P.follows .mixedOrders=true) (hB:Region.lexB .any l.toArray=true) (hC:C w.drew)
  (h:∀ (OPS:Array Oper) (D:World→Prop) (QQ:Act→Prop),Hid (OPS=l.toArray)→(∀ W,D W→C W)→(∀ W,C W→D W)→(∀ a',(∀ w',C w'→R .normal a' w')→QQ a')→wpQuiet P OPS D QQ l a):(Code.region id l.toArray true).wp P R a w :=
 wp_region_quiet (C:=C) hm hB hC (by simpa using h l.toArray C (fun a'=>∀ w',C w'→R .normal a' w') rfl (fun _ h=>h) (fun _ h=>h) (fun _ h=>h))
end
theorem geqS (t:TypeId) (a b:List UInt8):binOp .geq t (.string ⟨a.toArray⟩) (.string ⟨b.toArray⟩)=pure (.bool !(Op.bytesLess a b)):=tZ47
theorem lssS (t:TypeId) (a b:List UInt8):binOp .lss t (.string ⟨a.toArray⟩) (.string ⟨b.toArray⟩)=pure (.bool (Op.bytesLess a b)):=tZ47
theorem leqS (t:TypeId) (a b:List UInt8):binOp .leq t (.string ⟨a.toArray⟩) (.string ⟨b.toArray⟩)=pure (.bool (Op.bytesLess a b || a == b)):=tZ47
theorem gtrS (t:TypeId) (a b:List UInt8):binOp .gtr t (.string ⟨a.toArray⟩) (.string ⟨b.toArray⟩)=pure (.bool !(Op.bytesLess a b || a == b)):=tZ47
end Go.Proofs.YtiojfffgiejibaaGreatDoor
namespace Go.Proofs.YtiojfffgiejibaaGreatDoor
open Go.RowKit
theorem toList_data (s:ByteArray):s.toList=s.data.toList:=by
 obtain ⟨⟨l⟩⟩:=s
 exact ByteArray.toList_mk l
theorem mk_data (a:ByteArray):(⟨a.data.toList.toArray⟩:ByteArray)=a:=by obtain ⟨⟨l⟩⟩:=a;rfl
theorem eq_mk (a:ByteArray) (l:List UInt8) (h:a.data.toList=l):a=⟨l.toArray⟩:=by rw [← h,mk_data]
/-- the row that '[]byte(s)' makes -/
theorem bytesWorld_below (w:World) (e:TypeId) (s:ByteArray):Below w.heap.size w (Lib.bytesWorld w e s) :=
 ⟨rfl,rfl,rfl,by rw [Lib.bytesWorld_size];omega,fun j hj=>Lib.bytesWorld_at_old w e s j hj⟩
theorem bytesWorld_reads (w:World) (e:TypeId) (s:ByteArray):Reads (Lib.bytesWorld w e s) (w.heap.size+1) 1 (some ⟨w.heap.size,0,none⟩) s.size (bts s.data.toList):=by
 refine ⟨by rw [bts_length,Lib.size_eq];simp,fun hn=>⟨_,rfl,Nat.lt_succ_self _,?_⟩⟩
 intro j u hu
 have hj:j<s.size:=by
  have:=(List.getElem?_eq_some_iff.1 hu).1
  rw [bts_length,← Lib.size_eq] at this
  exact this
 rw [addr_add0,Lib.bytesWorld_cell w e s j hj]
 rw [bts_get,List.getElem?_eq_getElem (by rw [← Lib.size_eq];exact hj)] at hu
 rw [← hu]
 simp [List.getD,List.getElem?_eq_getElem (show j<s.data.toList.length by rw [← Lib.size_eq];exact hj)]
/-- a row of which the first n cells bear no mark -/
def RowM (w:World) (g:Nat) (t:TypeId) (n:Nat) (cs:Array Value):Prop:=n≤cs.size∧∃ hi,w.heap[g]?=some (.cells cs t (cs.size,hi))
section
variable {w w':World} {g n:Nat} {t:TypeId} {cs:Array Value}
theorem RowM.lt (h:RowM w g t n cs):g<w.heap.size:=by
 obtain ⟨_,hi,h⟩:=h
 rcases Nat.lt_or_ge g w.heap.size with hlt | hge
 ·exact hlt
 ·rw [Array.getElem?_eq_none hge] at h;cases h
theorem RowM.cell (h:RowM w g t n cs) (i:Nat):w.cell? ⟨g,i,none⟩=cs[i]?:=by
 obtain ⟨_,hi,h⟩:=h
 exact cell_of_row w g i cs t (cs.size,hi) h
theorem RowM.frozen (h:RowM w g t n cs) {i:Nat} (hi:i<n):w.frozen? ⟨g,i,none⟩=false:=by
 obtain ⟨hn,hh,h⟩:=h
 have:¬ cs.size≤i:=tZ1
 simp [World.frozen?,h,this]
theorem RowM.set_ (h:RowM w g t n cs) (i:Nat) (u:Value):RowM (w.setCell ⟨g,i,none⟩ u) g t n (cs.setIfInBounds i u):=by
 obtain ⟨hn,hh,h⟩:=h
 refine ⟨by simpa using hn,hh,?_⟩
 simp [World.setCell,Array.getElem?_modify,h]
theorem RowM.below {B:Nat} (h:RowM w g t n cs) (hb:Below B w w') (hg:g<B):RowM w' g t n cs:=⟨h.1,h.2.choose,(hb.block g hg).trans h.2.choose_spec⟩
theorem RowM.reads (h:RowM w g t n cs) (b z:List UInt8) (hc:cs=(bts (b++z)).toArray) (hn:b.length=n):Reads w (g+1) 1 (some ⟨g,0,none⟩) n (bts b):=by
 refine ⟨by rw [bts_length];omega,fun _=>⟨_,rfl,Nat.lt_succ_self _,?_⟩⟩
 intro j u hu
 rw [addr_add0,h.cell j,hc,zF,bts_append,List.getElem?_append_left (List.getElem?_eq_some_iff.1 hu).1]
 exact hu
end
end Go.Proofs.YtiojfffgiejibaaGreatDoor
namespace Go.Proofs.YtiojfffgiejibaaGreatDoor
open Go.RowKit
section
variable {P:Program} {ops:Array Oper} {C:World→Prop} {Q:Act→Prop}
theorem put_toArray (l:List Value) (d:List Deferred) (k:Nat) (v:Value):(Act.put ⟨l.toArray,d⟩ (some k) v)=⟨(l.set k v).toArray,d⟩:=by
 simp [Act.put]
theorem wpC_readS {o:Oper} {rest:List Oper} {l:List Value} {d:List Deferred} {v:Value} {k:Nat} (hg:o.guard=none) (hd:o.dst=some k) (h:∀ w,C w→o.quietAt P ⟨l.toArray,d⟩ C w v) (hn:wpQuiet P ops C Q rest ⟨(l.set k v).toArray,d⟩):wpQuiet P ops C Q (o :: rest) ⟨l.toArray,d⟩ :=
 wpC_read hg h (by rw [hd,put_toArray];exact hn)
theorem wpC_greadS {o:Oper} {rest:List Oper} {l:List Value} {d:List Deferred} {v:Value} {j g k:Nat} {b:Bool} (hg:o.guard=some (g,b)) (hj:o.dst=some j) (hd:(ops[g]?).bind (·.dst)=some k) (ht:l[k]?.getD undef=.bool b)
  (h:∀ w,C w→o.quietAt P ⟨l.toArray,d⟩ C w v) (hn:wpQuiet P ops C Q rest ⟨(l.set j v).toArray,d⟩):wpQuiet P ops C Q (o :: rest) ⟨l.toArray,d⟩ :=
 wpC_gread hg hd (by simpa using ht) h tZ143
theorem wpC_skipS {o:Oper} {rest:List Oper} {l:List Value} {d:List Deferred} {j g k:Nat} {b:Bool} (hg:o.guard=some (g,b)) (hj:o.dst=some j) (hd:(ops[g]?).bind (·.dst)=some k) (ht:l[k]?.getD undef=.bool (!b)∨l[k]?.getD undef=undef)
  (hn:wpQuiet P ops C Q rest ⟨(l.set j undef).toArray,d⟩):wpQuiet P ops C Q (o :: rest) ⟨l.toArray,d⟩ :=
 wpC_skip hg hd (by simpa using ht) tZ143
end
end Go.Proofs.YtiojfffgiejibaaGreatDoor
