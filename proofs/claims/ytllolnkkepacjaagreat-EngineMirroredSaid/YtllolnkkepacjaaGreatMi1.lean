/- Left and right exchanged: plainly. The stack, the sequences, the rules: all levels are one more. -/
import Derived.Test.YtllolnkkepacjaaGreatEn4
set_option maxHeartbeats 4000000
namespace Go.Proofs.YtllolnkkepacjaaGreat
open Go.RowKit
def tn (c:Int):Int:=if c=1 then 2 else if c=2 then 1 else if c=15 then 17 else if c=17 then 15 else if c=16 then 18 else if c=18 then 16 else if c=20 then 21 else if c=21 then 20 else c
theorem tn_cases (c:Int):(c=1∧tn c=2)∨(c=2∧tn c=1)∨(c=15∧tn c=17)∨(c=17∧tn c=15)∨(c=16∧tn c=18)∨(c=18∧tn c=16)∨(c=20∧tn c=21)∨(c=21∧tn c=20)∨
 (c≠1∧c≠2∧c≠15∧c≠17∧c≠16∧c≠18∧c≠20∧c≠21∧tn c=c):=by
 unfold tn
 (repeat' split)<;>omega
theorem tn_bool {f:Int→Bool}(h:f 1=f 2∧f 15=f 17∧f 16=f 18∧f 20=f 21)(c:Int):f (tn c)=f c:=by
 obtain⟨h1,h2,h3,h4⟩:=h
 rcases tn_cases c with⟨rfl,e⟩|⟨rfl,e⟩|⟨rfl,e⟩|⟨rfl,e⟩|⟨rfl,e⟩|⟨rfl,e⟩|⟨rfl,e⟩|⟨rfl,e⟩|h<;>first|(rw[e];simp_all)|rw[h.2.2.2.2.2.2.2.2]
theorem tn_rem (c:Int):remC (tn c)=remC c:=tn_bool (by decide) c
theorem tn_beg (c:Int):begI (tn c)=begI c:=tn_bool (by decide) c
theorem tn_begins (c:Int):begins (tn c)=begins c:=tn_beg c
theorem tn_iso (c:Int):isoK (tn c)=isoK c:=tn_bool (by decide) c
theorem tn_neu (c:Int):neuC (tn c)=neuC c:=tn_bool (by decide) c
theorem tn_inj {a b:Int}(h:tn a=tn b):a=b:=by rcases tn_cases a with h1|h1|h1|h1|h1|h1|h1|h1|h1<;>rcases tn_cases b with h2|h2|h2|h2|h2|h2|h2|h2|h2<;>omega
theorem tn_cls (c:Int):clsC (tn c)=tn (clsC c):=by
 unfold clsC
 rcases tn_cases c with⟨rfl,e⟩|⟨rfl,e⟩|⟨rfl,e⟩|⟨rfl,e⟩|⟨rfl,e⟩|⟨rfl,e⟩|⟨rfl,e⟩|⟨rfl,e⟩|h
 all_goals first
  |(rw[e];rfl)
  |(rw[h.2.2.2.2.2.2.2.2]
    split
    ·rfl
    ·split
     ·rfl
     ·rw[h.2.2.2.2.2.2.2.2])
theorem tn_getD (l:List Int)(i:Nat):(l.map tn).getD i 0=tn (l.getD i 0):=by rw[List.getD_eq_getElem?_getD,List.getElem?_map,List.getD_eq_getElem?_getD];cases l[i]?<;>rfl
theorem tn_lvAt (l:List Int)(x:Int):lvAt (l.map tn) x=tn (lvAt l x):=tn_getD l _
theorem tn_step (n:Nat)(st:List Int×List Nat)(c:Int):mStep n st (tn c)=mStep n st c:=by
 unfold mStep;rw[tn_begins]
 have h1:tn c=23↔c=23:=by have:=tn_cases c;omega
 have h2:tn c=11↔c=11:=by have:=tn_cases c;omega
 simp only[h1,h2]
theorem tn_match (l:List Int):matchL (l.map tn)=matchL l:=by
 unfold matchL mRun;rw[List.length_map,List.foldl_map];congr 2
 funext st c
 exact tn_step _ _ _
theorem tn_keptT (l:List Int): ∀k,keptT (l.map tn) k=keptT l k
 |0=>rfl
 |k+1=>by
  unfold keptT;rw[tn_getD,tn_rem,tn_keptT l k]
theorem tn_kept (l:List Int):keptL (l.map tn)=keptL l:=by unfold keptL;rw[List.length_map,tn_keptT]
def opMi (c:Int):Bool:=c==15||c==16||c==17||c==18||c==20||c==21
def opNi (l:List Int):Nat→Nat
 |0=>0
 |k+1=>if opMi (l.getD k 0)=true then opNi l k+1 else opNi l k
theorem opNi_mono (l:List Int){i j:Nat}(h:i≤j):opNi l i≤opNi l j:=by
 induction j with
 |zero=>
  have:i=0:=by omega
  subst this;exact Nat.le_refl _
 |succ j ih=>
  rcases Nat.lt_or_ge j i with h1|h1
  ·have:i=j+1:=by omega
   subst this;exact Nat.le_refl _
  ·have:=ih h1;simp only[opNi]
   split<;>omega
def shE (e:Ent):Ent:=⟨e.lv+1,tn e.ov,e.iso⟩
def shS (s:SS):SS:=⟨s.l.map shE,s.i,s.m,s.v⟩
structure ShO (o o':Out):Prop where
 s:o'.s=shS o.s
 lv:o'.lv=if o.k=true then o.lv+1 else-1
 lv0:o.k=false→o.lv= -1
 cl:o.k=true→o'.cl=tn o.cl
 k:o'.k=o.k
theorem sh_next (odd:Bool)(lv:Int):nextLv (!odd) (lv+1)=nextLv odd lv+1:=by
 unfold nextLv
 rcases Int.emod_two_eq lv with h|h
 ·have h2:(lv+1) % 2=1:=by omega
  rw[h,h2];cases odd<;>simp
 ·have h2:(lv+1) % 2=0:=by omega
  rw[h,h2];cases odd<;>simp
theorem sh_plain {c ov:Int}(h1:1≤c)(h2:c≤23)(ho:ov=0∨ov=1∨ov=2):plainCls (tn c) (tn ov)=tn (plainCls c ov):=by
 unfold plainCls
 rcases ho with rfl|rfl|rfl
 ·have e:tn 0=0:=rfl
  have h3: ¬(tn c<1∨23<tn c):=by have:=tn_cases c;omega
  have h4: ¬(c<1∨23<c):=by omega
  rw[e];simp only[ne_eq,not_true_eq_false,if_false];rw[if_neg h3,if_neg h4]
 ·rfl
 ·rfl
theorem sh_pop: ∀l:List Ent,popTo (l.map shE)=(popTo l).map shE
 |[]=>rfl
 |e::l=>by
  show(if(shE e).iso=true then l.map shE else popTo (l.map shE))=List.map shE (if e.iso=true then l else popTo l);have:(shE e).iso=e.iso:=rfl;rw[this]
  split
  ·rfl
  ·exact sh_pop l
def okM (c:Int):Prop:=1≤c∧c≤23∧c≠3∧c≠4∧c≠5∧c≠6∧c≠7∧c≠8∧c≠22
def OvE (s:SS):Prop:= ∀e∈s.l,e.ov=0∨e.ov=1∨e.ov=2
def LvE (s:SS)(n:Nat):Prop:= ∀e∈s.l,e.lv≤2*n
theorem sh_step {s:SS}{c au au':Int}{n:Nat}(hw:WF 0 s)(ho:OvE s)(hl:LvE s n)(hn:n≤60)(hc:okM c):
 ShO (stepS 0 s c au) (stepS 1 (shS s) (tn c) au')∧OvE (stepS 0 s c au).s∧LvE (stepS 0 s c au).s (if opMi c=true then n+1 else n):=by
 obtain⟨e,l',he⟩:=hw.ents.ne;have hov:e.ov=0∨e.ov=1∨e.ov=2:=ho e (by rw[he];exact List.mem_cons_self);have hle:e.lv≤2*n:=hl e (by rw[he];exact List.mem_cons_self)
 have he':(shS s).l=shE e::l'.map shE:=by unfold shS;simp only[he,List.map_cons]
 have hl1:LvE s (n+1):=fun x hx=>by have:=hl x hx;omega
 have nx:=fun odd=>nextLv_lt odd e.lv
 have emb: ∀(odd:Bool) (ov d d':Int),(ov=0∨ov=1∨ov=2)→ShO (embS d s e odd ov) (embS d' (shS s) (shE e) (!odd) (tn ov))∧OvE (embS d s e odd ov).s∧LvE (embS d s e odd ov).s (n+1):=fun odd ov d d' h=>by
  have h1:=sh_next odd e.lv;have h2:=nx odd;have e1:nextLv (!odd) (shE e).lv=nextLv odd e.lv+1:=h1;unfold embS;rw[e1];have ei:(shS s).i=s.i:=rfl;have em:(shS s).m=s.m:=rfl;rw[ei,em]
  by_cases hr:s.i=0∧s.m=0
  ·rw[if_pos ⟨by omega,hr.1,hr.2⟩,if_pos ⟨by omega,hr.1,hr.2⟩];refine⟨⟨rfl,rfl,fun _=>rfl,fun h=>(by cases h),rfl⟩,fun x hx=> ?_,fun x hx=> ?_⟩
   ·rcases List.mem_cons.1 hx with rfl|hx
    ·exact h
    ·exact ho x hx
   ·rcases List.mem_cons.1 hx with rfl|hx
    ·simp only;omega
    ·exact hl1 x hx
  ·have n1: ¬(nextLv odd e.lv≤125∧s.i=0∧s.m=0):=fun q=>hr q.2;have n2: ¬(nextLv odd e.lv+1≤125∧s.i=0∧s.m=0):=fun q=>hr q.2;rw[if_neg n1,if_neg n2];exact⟨⟨rfl,rfl,fun _=>rfl,fun h=>(by cases h),rfl⟩,ho,hl1⟩
 have iso: ∀(odd:Bool) (d:Int),okM d→ShO (isoS d s e odd) (isoS (tn d) (shS s) (shE e) (!odd))∧OvE (isoS d s e odd).s∧LvE (isoS d s e odd).s (n+1):=fun odd d hd=>by
  have h2:=nx odd;have e1:nextLv (!odd) (shE e).lv=nextLv odd e.lv+1:=sh_next odd e.lv;have ep:plainCls (tn d) (shE e).ov=tn (plainCls d e.ov):=sh_plain hd.1 hd.2.1 hov;unfold isoS;rw[e1,ep];have ei:(shS s).i=s.i:=rfl;have em:(shS s).m=s.m:=rfl;rw[ei,em]
  by_cases hr:s.i=0∧s.m=0
  ·rw[if_pos ⟨by omega,hr.1,hr.2⟩,if_pos ⟨by omega,hr.1,hr.2⟩];refine⟨⟨rfl,rfl,fun h=>(by cases h),fun _=>rfl,rfl⟩,fun x hx=> ?_,fun x hx=> ?_⟩
   ·rcases List.mem_cons.1 hx with rfl|hx
    ·exact .inl rfl
    ·exact ho x hx
   ·rcases List.mem_cons.1 hx with rfl|hx
    ·simp only;omega
    ·exact hl1 x hx
  ·have n1: ¬(nextLv odd e.lv≤125∧s.i=0∧s.m=0):=fun q=>hr q.2;have n2: ¬(nextLv odd e.lv+1≤125∧s.i=0∧s.m=0):=fun q=>hr q.2;rw[if_neg n1,if_neg n2];exact⟨⟨rfl,rfl,fun h=>(by cases h),fun _=>rfl,rfl⟩,ho,hl1⟩
 have pdi:ShO (pdiS s e) (pdiS (shS s) (shE e))∧OvE (pdiS s e).s∧LvE (pdiS s e).s n:=by
  have ep: ∀x:Ent,(x.ov=0∨x.ov=1∨x.ov=2)→plainCls 23 (shE x).ov=tn (plainCls 23 x.ov):=fun x hx=>sh_plain (c:=23) (by decide) (by decide) hx;unfold pdiS;have ei:(shS s).i=s.i:=rfl;have ev:(shS s).v=s.v:=rfl;have el:(shS s).l=s.l.map shE:=rfl;rw[ei,ev,el,sh_pop,ep e hov]
  by_cases h1:0<s.i
  ·rw[if_pos h1,if_pos h1];exact⟨⟨rfl,rfl,fun h=>(by cases h),fun _=>rfl,rfl⟩,ho,hl⟩
  ·rw[if_neg h1,if_neg h1]
   by_cases h2:0<s.v
   ·rw[if_pos h2,if_pos h2];have h3:=h2;rw[hw.v0]at h3;obtain⟨k1,_⟩:=hw.ents.popTo h3;obtain⟨x,l2,hp⟩:=k1.ne;have hsub: ∀y∈x::l2,y∈s.l:=fun y hy=>popTo_sub (by rw[hp];exact hy);rw[hp];simp only[List.map_cons];refine⟨⟨rfl,rfl,fun h=>(by cases h),fun _=> ?_,rfl⟩,fun y hy=>ho y (hsub y hy),fun y hy=>hl y (hsub y hy)⟩;exact ep x (ho x (hsub x List.mem_cons_self))
   ·rw[if_neg h2,if_neg h2];exact⟨⟨rfl,rfl,fun h=>(by cases h),fun _=>rfl,rfl⟩,ho,hl⟩
 have pdf:ShO (pdfS s e) (pdfS (shS s) (shE e))∧OvE (pdfS s e).s∧LvE (pdfS s e).s n:=by
  unfold pdfS;have ei:(shS s).i=s.i:=rfl;have em:(shS s).m=s.m:=rfl;have eo:(shE e).iso=e.iso:=rfl;rw[ei,em,eo,he',he]
  by_cases h1:0<s.i
  ·rw[if_pos h1,if_pos h1];exact⟨⟨rfl,rfl,fun _=>rfl,fun h=>(by cases h),rfl⟩,ho,hl⟩
  ·rw[if_neg h1,if_neg h1]
   by_cases h2:0<s.m
   ·rw[if_pos h2,if_pos h2];refine⟨⟨?_,rfl,fun _=>rfl,fun h=>(by cases h),rfl⟩,fun x hx=>ho x (by rw[he];exact hx),fun x hx=>hl x (by rw[he];exact hx)⟩;rfl
   ·rw[if_neg h2,if_neg h2]
    by_cases h3:e.iso=true
    ·rw[if_pos h3,if_pos h3];exact⟨⟨rfl,rfl,fun _=>rfl,fun h=>(by cases h),rfl⟩,ho,hl⟩
    ·rw[if_neg h3,if_neg h3]
     rcases l' with _|⟨x,l2⟩
     ·exact⟨⟨rfl,rfl,fun _=>rfl,fun h=>(by cases h),rfl⟩,ho,hl⟩
     ·refine⟨⟨rfl,rfl,fun _=>rfl,fun h=>(by cases h),rfl⟩,fun y hy=>ho y (by rw[he];exact List.mem_cons_of_mem _ hy),fun y hy=>hl y (by rw[he];exact List.mem_cons_of_mem _ hy)⟩
 have low: ∀d,opMi d=false→(if opMi d=true then n+1 else n)=n:=fun d h=>by rw[h];rfl
 unfold stepS;rw[he,he'];simp only;obtain⟨c1,c2,c3,c4,c5,c6,c7,c8,c9⟩:=hc
 rcases tn_cases c with⟨rfl,e⟩|⟨rfl,e⟩|⟨rfl,e⟩|⟨rfl,e⟩|⟨rfl,e⟩|⟨rfl,e⟩|⟨rfl,e⟩|⟨rfl,e⟩|⟨d1,d2,d3,d4,d5,d6,d7,d8,e⟩
 ·rw[e];exact⟨⟨rfl,rfl,fun h=>(by cases h),fun _=>sh_plain (c:=1) (by decide) (by decide) hov,rfl⟩,ho,hl⟩
 ·rw[e];exact⟨⟨rfl,rfl,fun h=>(by cases h),fun _=>sh_plain (c:=2) (by decide) (by decide) hov,rfl⟩,ho,hl⟩
 ·rw[e];exact emb false 0 15 17 (.inl rfl)
 ·rw[e];exact emb true 0 17 15 (.inl rfl)
 ·rw[e];exact emb false 1 16 18 (.inr (.inl rfl))
 ·rw[e];exact emb true 2 18 16 (.inr (.inr rfl))
 ·rw[e];exact iso false 20 ⟨by decide,by decide,by decide,by decide,by decide,by decide,by decide,by decide,by decide⟩
 ·rw[e];exact iso true 21 ⟨by decide,by decide,by decide,by decide,by decide,by decide,by decide,by decide,by decide⟩
 ·rw[e,if_neg d4,if_neg d4,if_neg d6,if_neg d6,if_neg d3,if_neg d3,if_neg d5,if_neg d5,if_neg d8,if_neg d8,if_neg d7,if_neg d7,if_neg c9,if_neg c9]
  have eo:opMi c=false:=by unfold opMi;simp[d3,d4,d5,d6,d7,d8]
  rw[low c eo]
  by_cases h1:c=23
  ·subst h1;exact pdi
  ·rw[if_neg h1,if_neg h1]
   by_cases h2:c=19
   ·subst h2;exact pdf
   ·rw[if_neg h2,if_neg h2]
    by_cases h3:c=10
    ·subst h3;exact⟨⟨rfl,rfl,fun _=>rfl,fun h=>(by cases h),rfl⟩,ho,hl⟩
    ·rw[if_neg h3,if_neg h3]
     by_cases h4:c=11
     ·subst h4;refine⟨⟨rfl,rfl,fun h=>(by cases h),fun _=>rfl,rfl⟩,fun x hx=> ?_,fun x hx=> ?_⟩
      ·rcases List.mem_singleton.1 hx with rfl;exact .inl rfl
      ·rcases List.mem_singleton.1 hx with rfl;simp only;omega
     ·rw[if_neg h4,if_neg h4];refine⟨⟨rfl,rfl,fun h=>(by cases h),fun _=> ?_,rfl⟩,ho,hl⟩;have:=sh_plain c1 c2 hov;rw[e]at this;exact this
end Go.Proofs.YtllolnkkepacjaaGreat
