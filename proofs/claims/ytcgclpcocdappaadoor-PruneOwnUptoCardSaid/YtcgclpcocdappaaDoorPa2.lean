/-
  The plain law of names: what names and paths are, and what the statements of chapter 03 say of them.
-/
import Derived.WalkKit
import Derived.Test.YtcgclpcocdappaaDoorP0
namespace Go.Proofs.YtcgclpcocdappaaDoor
def okB (c:UInt8):Bool:=(97≤c && c≤122) || (48≤c && c≤57) || c == 45 || c == 95
def nameB (s:List UInt8):Bool:=!s.isEmpty && decide (s.length≤16) && s.all okB
/-- the parts between slashes -/
def partsL:List UInt8→List (List UInt8)
 | []=>[[]]
 | c :: r=>if c=47 then [] :: partsL r else match partsL r with
  | p :: ps=>(c :: p) :: ps
  | []=>[[c]]
def pathB (s:List UInt8):Bool:=s.isEmpty || (decide ((partsL s).length≤4) && (partsL s).all nameB)
/-- where the last slash stands, or 0 -/
def lastS:List UInt8→Option Nat
 | []=>none
 | c :: r=>match lastS r with
  | some k=>some (k+1)
  | none=>if c=47 then some 0 else none
def upL (s:List UInt8):List UInt8:=s.take ((lastS s).getD 0)
def underB (p f:List UInt8):Bool:=pathB p && pathB f && (f.isEmpty || p == f || (f++[47]).isPrefixOf p)
theorem partsL_ne (s:List UInt8):partsL s≠[]:=by
 cases s with
 | nil=>simp [partsL]
 | cons c r =>
  unfold partsL
  split
  ·simp
  ·split <;> simp
theorem lastS_none (s:List UInt8) (h:lastS s=none):partsL s=[s]:=by
 induction s with
 | nil=>rfl
 | cons c r ih =>
  unfold lastS at h
  split at h
  ·cases h
  ·rename_i hr
   split at h
   ·cases h
   ·rename_i hc
    unfold partsL
    rw [if_neg hc,ih hr]
theorem lastS_some (s:List UInt8) (k:Nat) (h:lastS s=some k):k<s.length∧s[k]?=some 47∧partsL s=partsL (s.take k)++[s.drop (k+1)]:=by
 induction s generalizing k with
 | nil=>cases h
 | cons c r ih =>
  unfold lastS at h
  split at h
  ·rename_i j hj
   cases h
   obtain ⟨h1,h2,h3⟩:=ih j hj
   refine ⟨by simpa using h1,by simpa using h2,?_⟩
   rw [List.take_succ_cons,List.drop_succ_cons]
   unfold partsL
   by_cases hc:c=47
   ·rw [if_pos hc,if_pos hc,h3];rfl
   ·rw [if_neg hc,if_neg hc,h3]
    cases hp:partsL (r.take j) with
    | nil=>exact absurd hp (partsL_ne _)
    | cons p ps=>rfl
  ·rename_i hr
   split at h
   ·rename_i hc
    cases h
    refine ⟨by simp,by simp [hc],?_⟩
    unfold partsL
    rw [if_pos hc,lastS_none r hr]
    rfl
   ·cases h
theorem pathB_nil:pathB []=true:=rfl
theorem nameB_nil:nameB []=false:=rfl
theorem path_up (s:List UInt8) (hp:pathB s=true) (hs:s≠[]):pathB (upL s)=true∧underB s (upL s)=true∧underB (upL s) s=false:=by
 have hsb:s.isEmpty=false:=by cases s <;> simp_all
 cases hl:lastS s with
 | none =>
  have hu:upL s=[]:=by simp [upL,hl]
  rw [hu]
  refine ⟨rfl,by simp [underB,hp,pathB_nil],?_⟩
  have h1:(s++[47]).isPrefixOf []=false:=by
   cases h:(s++[47]).isPrefixOf [] with
   | false=>rfl
   | true=>have:=(List.isPrefixOf_iff_prefix.1 h).length_le;simp at this
  have h2:(([]:List UInt8) == s)=false:=by simpa using hs
  simp [underB,hsb,h1,h2]
 | some k =>
  obtain ⟨h1,h2,h3⟩:=lastS_some s k hl
  have hu:upL s=s.take k:=by simp [upL,hl]
  rw [hu]
  have hp2:decide ((partsL s).length≤4)=true∧(partsL s).all nameB=true:=by
   unfold pathB at hp
   simp only [hsb,Bool.false_or,Bool.and_eq_true] at hp
   exact hp
  rw [h3,List.all_append,Bool.and_eq_true,List.length_append] at hp2
  have hup:pathB (s.take k)=true:=by
   unfold pathB
   have hl4:(partsL (s.take k)).length≤4:=by have:=of_decide_eq_true hp2.1;simp at this;omega
   simp [hp2.2.1,hl4]
  have hpre:((s.take k)++[47]).isPrefixOf s=true:=by
   rw [List.isPrefixOf_iff_prefix]
   refine ⟨s.drop (k+1),?_⟩
   have h4:s[k]=47:=by rw [List.getElem?_eq_getElem h1] at h2;exact Option.some.inj h2
   rw [← h4,← List.take_succ_eq_append_getElem h1,List.take_append_drop]
  refine ⟨hup,by simp [underB,hp,hup,hpre],?_⟩
  have hq:(s++[47]).isPrefixOf (s.take k)=false:=by
   cases h:(s++[47]).isPrefixOf (s.take k) with
   | false=>rfl
   | true =>
    have:=(List.isPrefixOf_iff_prefix.1 h).length_le
    simp at this
    omega
  have hne:(s.take k == s)=false:=by
   simp only [beq_eq_false_iff_ne,ne_eq]
   intro e
   have:=congrArg List.length e
   rw [List.length_take] at this
   omega
  simp [underB,hsb,hq,hne]
theorem under_self (s:List UInt8) (hp:pathB s=true):underB s s=true∧underB s []=true:=by
 constructor
 ·simp [underB,hp]
 ·simp [underB,hp,pathB_nil]
theorem under_both (s t:List UInt8) (h1:underB s t=true) (h2:underB t s=true):s=t:=by
 unfold underB at h1 h2
 simp only [Bool.and_eq_true,Bool.or_eq_true,List.isEmpty_iff,beq_iff_eq,List.isPrefixOf_iff_prefix] at h1 h2
 rcases h1.2 with (h | h) | h
 ·rcases h2.2 with (h' | h') | h'
  ·rw [h,h']
  ·exact h'.symm
  ·have:=h'.length_le
   rw [h] at this
   simp at this
 ·exact h
 ·rcases h2.2 with (h' | h') | h'
  ·have:=h.length_le
   rw [h'] at this
   simp at this
  ·exact h'.symm
  ·have e1:=h.length_le
   have e2:=h'.length_le
   simp at e1 e2
   omega
/-! ### What comes back -/
def lowB (c:UInt8):UInt8:=if 65≤c∧c≤90 then c+32 else c
def trimL (s:List UInt8):List UInt8:=if s.getLast?=some 47 then s.dropLast else s
def canonL (s:List UInt8):List UInt8:=trimL (s.map lowB)
/-- what stands before the first '@', and behind it -/
def atL:List UInt8→Option (List UInt8×List UInt8)
 | []=>none
 | c :: r=>if c=64 then some ([],r) else match atL r with
  | some (p,n)=>some (c :: p,n)
  | none=>none
theorem okB_lower (c:UInt8) (h:okB c=true):lowB c=c:=by
 unfold lowB
 rw [if_neg]
 rintro ⟨h1,h2⟩
 unfold okB at h
 simp only [Bool.or_eq_true,Bool.and_eq_true,decide_eq_true_eq,beq_iff_eq,UInt8.le_iff_toNat_le] at h h1 h2
 have e1:(65:UInt8).toNat=65:=rfl
 have e2:(90:UInt8).toNat=90:=rfl
 have e3:(97:UInt8).toNat=97:=rfl
 have e4:(57:UInt8).toNat=57:=rfl
 rcases h with ((h | h) | h) | h
 ·omega
 ·omega
 ·subst h;simp at h1
 ·subst h;simp at h2
theorem parts_all (s:List UInt8) (p:List UInt8→Bool) (q:UInt8→Prop) (hp:∀ x,p x=true→∀ c∈x,q c) (h:(partsL s).all p=true) (h47:q 47):∀ c∈s,q c:=by
 induction s with
 | nil=>intro c hc;cases hc
 | cons a r ih =>
  intro c hc
  unfold partsL at h
  by_cases ha:a=47
  ·rw [if_pos ha,List.all_cons,Bool.and_eq_true] at h
   rcases List.mem_cons.1 hc with rfl | hc
   ·rw [ha];exact h47
   ·exact ih h.2 c hc
  ·rw [if_neg ha] at h
   cases hr:partsL r with
   | nil=>exact absurd hr (partsL_ne r)
   | cons x xs =>
    rw [hr] at h
    simp only [List.all_cons,Bool.and_eq_true] at h
    have ha':=hp _ h.1 a (List.mem_cons_self ..)
    rcases List.mem_cons.1 hc with rfl | hc
    ·exact ha'
    ·-- the rest: every other char of x,and of xs
     have key:∀ (l:List UInt8) (y:List UInt8) (ys:List (List UInt8)),partsL l=y :: ys→(∀ c∈y,q c)→ys.all p=true→∀ c∈l,q c:=by
      intro l
      induction l with
      | nil=>intro y ys _ _ _ c hc;cases hc
      | cons b l ihl =>
       intro y ys hl hy hys c hc
       unfold partsL at hl
       by_cases hb:b=47
       ·rw [if_pos hb] at hl
        injection hl with e1 e2
        subst e1 e2
        rcases List.mem_cons.1 hc with rfl | hc
        ·rw [hb];exact h47
        ·cases hl2:partsL l with
         | nil=>exact absurd hl2 (partsL_ne l)
         | cons z zs =>
          rw [hl2] at hys
          simp only [List.all_cons,Bool.and_eq_true] at hys
          exact ihl z zs hl2 (hp _ hys.1) hys.2 c hc
       ·rw [if_neg hb] at hl
        cases hl2:partsL l with
        | nil=>exact absurd hl2 (partsL_ne l)
        | cons z zs =>
         rw [hl2] at hl
         injection hl with e1 e2
         subst e1 e2
         rcases List.mem_cons.1 hc with rfl | hc
         ·exact hy _ (List.mem_cons_self ..)
         ·exact ihl z zs hl2 (fun c hc=>hy c (List.mem_cons_of_mem _ hc)) hys c hc
     exact key r x xs hr (fun c hc=>hp _ h.1 c (List.mem_cons_of_mem _ hc)) h.2 c hc
theorem nameB_ok (x:List UInt8) (h:nameB x=true):∀ c∈x,okB c=true:=by
 unfold nameB at h
 simp only [Bool.and_eq_true,List.all_eq_true] at h
 exact h.2
theorem path_chars (s:List UInt8) (h:pathB s=true):∀ c∈s,okB c=true∨c=47:=by
 cases hs:s with
 | nil=>intro c hc;cases hc
 | cons a r =>
  rw [← hs]
  have hsb:s.isEmpty=false:=by rw [hs];rfl
  unfold pathB at h
  simp only [hsb,Bool.false_or,Bool.and_eq_true] at h
  exact parts_all s nameB (fun c=>okB c=true∨c=47) (fun x hx c hc=>.inl (nameB_ok x hx c hc)) h.2 (.inr rfl)
theorem parts_last (s:List UInt8) (h:s.getLast?=some 47):[]∈partsL s:=by
 induction s with
 | nil=>cases h
 | cons a r ih =>
  unfold partsL
  cases r with
  | nil =>
   simp at h
   rw [if_pos h]
   simp
  | cons b t =>
   have h':(b :: t).getLast?=some 47:=by simpa using h
   have:=ih h'
   by_cases ha:a=47
   ·rw [if_pos ha];simp
   ·rw [if_neg ha]
    cases hr:partsL (b :: t) with
    | nil=>exact absurd hr (partsL_ne _)
    | cons x xs =>
     rw [hr] at this
     -- the first part of what ends in a slash may be empty alone if it opens with one
     rcases List.mem_cons.1 this with e | e
     ·subst e
      -- then b=47 and xs holds what stands behind
      have hx:xs≠[]∧[]∈xs∨True:=.inr trivial
      clear hx
      unfold partsL at hr
      by_cases hb:b=47
      ·rw [if_pos hb] at hr
       injection hr with _ e2
       subst e2
       cases t with
       | nil=>simp [partsL]
       | cons d u =>
        have h2:(d :: u).getLast?=some 47:=by simpa using h'
        have h3:[]∈partsL (d :: u):=by
         have hi:=this
         clear this
         exact (by
          -- by the same road,shorter
          have aux:∀ (n:Nat) (l:List UInt8),l.length=n→l.getLast?=some 47→[]∈(partsL l).tail∨l=[]∨partsL l=[]:=by
           intro n
           induction n with
           | zero=>intro l hl _;exact .inr (.inl (List.eq_nil_of_length_eq_zero hl))
           | succ n ihn =>
            intro l hl hlast
            cases l with
            | nil=>exact .inr (.inl rfl)
            | cons x0 l0 =>
             left
             unfold partsL
             by_cases hx0:x0=47
             ·rw [if_pos hx0,List.tail_cons]
              cases l0 with
              | nil=>simp [partsL]
              | cons y0 m0 =>
               rcases ihn (y0 :: m0) (by simpa using hl) (by simpa using hlast) with h5 | h5 | h5
               ·exact List.mem_of_mem_tail h5
               ·cases h5
               ·exact absurd h5 (partsL_ne _)
             ·rw [if_neg hx0]
              cases l0 with
              | nil=>simp at hlast;exact absurd hlast hx0
              | cons y0 m0 =>
               rcases ihn (y0 :: m0) (by simpa using hl) (by simpa using hlast) with h5 | h5 | h5
               ·cases hq:partsL (y0 :: m0) with
                | nil=>exact absurd hq (partsL_ne _)
                | cons z zs=>rw [hq] at h5;exact h5
               ·cases h5
               ·exact absurd h5 (partsL_ne _)
          rcases aux _ (d :: u) rfl h2 with h5 | h5 | h5
          ·exact List.mem_of_mem_tail h5
          ·cases h5
          ·exact absurd h5 (partsL_ne _))
        exact List.mem_cons_of_mem _ h3
      ·rw [if_neg hb] at hr
       cases hl2:partsL t with
       | nil=>exact absurd hl2 (partsL_ne t)
       | cons z zs =>
        rw [hl2] at hr
        injection hr with e1 _
        cases e1
     ·exact List.mem_cons_of_mem _ e
theorem path_last (s:List UInt8) (h:pathB s=true):trimL s=s:=by
 unfold trimL
 rw [if_neg]
 intro h47
 have hs:s.isEmpty=false:=by cases s <;> simp_all
 unfold pathB at h
 simp only [hs,Bool.false_or,Bool.and_eq_true,List.all_eq_true] at h
 have:=h.2 [] (parts_last s h47)
 cases this
theorem canon_path (s:List UInt8) (h:pathB s=true):canonL s=s:=by
 unfold canonL
 have:s.map lowB=s:=by
  conv=>rhs;rw [← List.map_id s]
  apply List.map_congr_left
  intro c hc
  rcases path_chars s h c hc with h1 | h1
  ·exact okB_lower c h1
  ·subst h1;rfl
 rw [this,path_last s h]
theorem atL_join (s n:List UInt8) (h:∀ c∈s,c≠64):atL (s++64 :: n)=some (s,n):=by
 induction s with
 | nil=>simp [atL]
 | cons a r ih =>
  rw [List.cons_append]
  unfold atL
  rw [if_neg (h a (List.mem_cons_self ..)),ih (fun c hc=>h c (List.mem_cons_of_mem _ hc))]
theorem atL_more (s n:List UInt8) (h:64∈s):∃ p q,atL (s++64 :: n)=some (p,q)∧64∈q:=by
 induction s with
 | nil=>cases h
 | cons a r ih =>
  rw [List.cons_append]
  unfold atL
  by_cases ha:a=64
  ·rw [if_pos ha]
   exact ⟨[],r++64 :: n,rfl,by simp⟩
  ·rw [if_neg ha]
   obtain ⟨p,q,e,hq⟩:=ih (by rcases List.mem_cons.1 h with rfl | h;exact absurd rfl ha;exact h)
   rw [e]
   exact ⟨a :: p,q,rfl,hq⟩
theorem split_join (s n:List UInt8):(∃ p q,atL (s++64 :: n)=some (p,q)∧((pathB p && nameB q)=(pathB s && nameB n))∧((pathB s && nameB n)=true→p=s∧q=n)):=by
 by_cases h:64∈s
 ·obtain ⟨p,q,e,hq⟩:=atL_more s n h
  have h1:pathB s=false:=by
   cases hp:pathB s with
   | false=>rfl
   | true=>rcases path_chars s hp 64 h with h2 | h2 <;> cases h2
  have h2:nameB q=false:=by
   cases hn:nameB q with
   | false=>rfl
   | true=>have:=nameB_ok q hn 64 hq;cases this
  exact ⟨p,q,e,by simp [h1,h2],by simp [h1]⟩
 ·exact ⟨s,n,atL_join s n (fun c hc e=>h (by rw [← e];exact hc)),rfl,fun _=>⟨rfl,rfl⟩⟩
end Go.Proofs.YtcgclpcocdappaaDoor
