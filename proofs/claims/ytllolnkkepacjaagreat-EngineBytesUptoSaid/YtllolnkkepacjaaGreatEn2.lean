/- What the rules leave: W1 to W7 L, R, EN, AN and neutral ones; N0 no others; N1 and N2 L, R, EN and AN alone. A paragraph's levels as a plain function: the sequences' levels put at their places; it is the same whatever stood there. -/
import Derived.Test.YtllolnkkepacjaaGreatRs4
import Derived.Test.YtllolnkkepacjaaGreatR18
import Derived.Test.YtllolnkkepacjaaGreatX5
namespace Go.Proofs.YtllolnkkepacjaaGreat
open Go.RowKit
section
theorem okC_iff {c:Int}:okC c↔1≤c∧c≤23∧c≠10∧c≠15∧c≠16∧c≠17∧c≠18∧c≠19:=by
 unfold okC;rw[remC_false];unfold clsC;constructor
 ·rintro⟨h1,h2⟩
  split at h2
  ·omega
  ·split at h2<;>omega
 ·intro h;refine⟨by omega,?_⟩;rw[if_neg (by omega),if_neg (by omega)]
theorem late_of {c:Int}(h:1≤c∧c≤23∧c≠10∧c≠15∧c≠16∧c≠17∧c≠18∧c≠19)(h9:c≠9∧c≠3∧c≠5∧c≠6∧c≠8):stC c=true∨neuC c=true:=by unfold stC neuC;simp only[Bool.or_eq_true,beq_iff_eq];omega
theorem okC_late {c:Int}(h:stC c=true∨neuC c=true):okC c:=by rw[okC_iff];unfold stC neuC at h;simp only[Bool.or_eq_true,beq_iff_eq]at h;omega
theorem scan_to {σ:Type}{g:σ→Int→List Int→Int×σ}{P Q:Int→Prop}{S:σ→Prop}(hg: ∀s c r,S s→P c→Q (g s c r).1∧S (g s c r).2): ∀(s:σ) (l:List Int),S s→(∀c∈l,P c)→ ∀c∈passW g s l,Q c
 |_,[],_,_,_,h=>by cases h
 |s,a::l,hs,hl,c,h=>by
  have h1:=hg s a l hs (hl a List.mem_cons_self);unfold passW at h
  rcases List.mem_cons.1 h with rfl|h
  ·exact h1.1
  ·exact scan_to hg _ l h1.2 (fun x hx=>hl x (List.mem_cons_of_mem _ hx)) c h
def ok9 (c:Int):Prop:=okC c∧c≠9
def ok93 (c:Int):Prop:=okC c∧c≠9∧c≠3
theorem rule1_to {sos:Int}(hs:ok9 sos){l:List Int}(hl: ∀c∈l,okC c): ∀c∈ruleL 1 sos l,ok9 c:=by
 refine scan_to (S:=ok9) (fun s c r h1 h2=> ?_) _ _ hs hl;have o:ok9 14:=⟨okC_lit.2.2.2.2,by decide⟩;unfold g1
 by_cases h:c=9
 ·rw[if_pos h];split<;>exact⟨by assumption,by assumption⟩
 ·rw[if_neg h];exact⟨⟨h2,h⟩,⟨h2,h⟩⟩
theorem rule2_to {sos:Int}{l:List Int}(hl: ∀c∈l,ok9 c): ∀c∈ruleL 2 sos l,ok9 c:=by
 refine scan_to (S:=fun _=>True) (fun s c r h1 h2=>⟨?_,trivial⟩) _ _ trivial hl;unfold g2;simp only
 split
 ·exact⟨okC_lit.2.2.2.1,by decide⟩
 ·exact h2
theorem rule3_to {sos:Int}{l:List Int}(hl: ∀c∈l,ok9 c): ∀c∈ruleL 3 sos l,ok93 c:=by
 refine scan_to (S:=fun _=>True) (fun s c r h1 h2=>⟨?_,trivial⟩) _ _ trivial hl;unfold g3;simp only
 split
 ·exact⟨okC_lit.2.1,by decide,by decide⟩
 ·exact⟨h2.1,h2.2,by assumption⟩
theorem rule4_to {sos:Int}{l:List Int}(hl: ∀c∈l,ok93 c): ∀c∈ruleL 4 sos l,ok93 c:=by
 refine scan_to (S:=fun _=>True) (fun s c r h1 h2=>⟨?_,trivial⟩) _ _ trivial hl;unfold g4
 split
 ·rename_i h
  rcases h.2.2 with e|e
  ·rw[e];exact⟨okC_lit.2.2.1,by decide,by decide⟩
  ·rw[e.1];exact⟨okC_lit.2.2.2.1,by decide,by decide⟩
 ·exact h2
theorem rule5_to {sos:Int}{l:List Int}(hl: ∀c∈l,ok93 c): ∀c∈ruleL 5 sos l,ok93 c:=by
 refine scan_to (S:=fun _=>True) (fun s c r h1 h2=>⟨?_,trivial⟩) _ _ trivial hl;unfold g5
 split
 ·rename_i h
  subst h
  split
  ·exact⟨okC_lit.2.2.1,by decide,by decide⟩
  ·exact h2
 ·exact h2
theorem rule6_to {sos:Int}{l:List Int}(hl: ∀c∈l,ok93 c): ∀c∈ruleL 6 sos l,stC c=true∨neuC c=true:=by
 refine scan_to (S:=fun _=>True) (fun s c r h1 h2=>⟨?_,trivial⟩) _ _ trivial hl;unfold g6;simp only
 split
 ·exact .inr rfl
 ·exact late_of (okC_iff.1 h2.1) ⟨h2.2.1,h2.2.2,by omega,by omega,by omega⟩
theorem rule7_to {sos:Int}{l:List Int}(hl: ∀c∈l,stC c=true∨neuC c=true): ∀c∈ruleL 7 sos l,stC c=true∨neuC c=true:=by
 refine scan_to (S:=fun _=>True) (fun s c r h1 h2=>⟨?_,trivial⟩) _ _ trivial hl;unfold g7;simp only
 split
 ·exact .inl rfl
 ·exact h2
theorem weak_late {sos:Int}(hs:sos=1∨sos=2){l:List Int}(hl: ∀c∈l,okC c):LateC (weakL sos l):=by
 have h9:ok9 sos:=by rcases hs with rfl|rfl<;>exact⟨by first|exact okC_lit.1|exact okC_lit.2.1,by decide⟩
 have:=rule7_to (sos:=sos) (rule6_to (sos:=sos) (rule5_to (sos:=sos) (rule4_to (sos:=sos) (rule3_to (sos:=sos) (rule2_to (sos:=sos) (rule1_to h9 hl))))));exact this
theorem chk_edges {s:Sq}(h:chkL s=0):(s.so=1∨s.so=2)∧(s.eo=1∨s.eo=2)∧0≤s.lv∧s.lv≤126∧s.cs.length=s.pl.length∧0<s.pl.length:=by
 obtain⟨h1,_⟩:=chkL_iff.1 h
 have h2:edgeI s.so=true:=by
  rcases e:edgeI s.so with _|_
  ·exact absurd (.inr (.inr (.inr (.inr (.inl e))))) h1
  ·rfl
 have h3:edgeI s.eo=true:=by
  rcases e:edgeI s.eo with _|_
  ·exact absurd (.inr (.inr (.inr (.inr (.inr e))))) h1
  ·rfl
 simp[edgeI]at h2 h3;omega
def Sq.wk (s:Sq):Sq:=s.weak 7
theorem wk_cs (s:Sq):s.wk.cs=weakL s.so s.cs:=rfl
theorem wk_chk {s:Sq}(h:chkL s=0):chkL s.wk=0:=chk_weak h 7
theorem wk_late {s:Sq}(h:chkL s=0):LateC s.wk.cs:=weak_late (chk_edges h).1 (chk_okC h).1
section
variable{P:Int→Prop}
theorem set_all {l:List Int}(hl: ∀c∈l,P c)(i:Nat){x:Int}(hx:P x): ∀c∈l.set i x,P c:=fun c hc=>by
 rcases List.mem_or_eq_of_mem_set hc with h|h
 ·exact hl c h
 ·rw[h];exact hx
theorem bcT_all {pl fs:List Int}{c:Int}(hx:P c): ∀d i cs,(∀c∈cs,P c)→ ∀y∈bcT pl fs c d i cs,P y
 |0,_,cs,h=>h
 |d+1,i,cs,h=>by
  unfold bcT
  split
  ·exact bcT_all hx d (i+1) _ (set_all h i hx)
  ·exact h
theorem becL_all {pl fs:List Int}{n k:Nat}{c:Int}(hx:P c){cs:List Int}(h: ∀c∈cs,P c): ∀y∈becL pl fs n k c cs,P y:=bcT_all hx _ _ _ (set_all h k hx)
end
theorem ahT_two {cs:List Int}{so:Int}(h:so=1∨so=2): ∀k,ahT cs so k=1∨ahT cs so k=2
 |0=>h
 |k+1=>by
  unfold ahT
  split
  ·unfold sdL;unfold sdL at*
   (repeat' split)<;>simp_all
  ·exact ahT_two h k
theorem wayL_two {l:Int}(h0:0≤l)(h1:l≤126):wayL l=1∨wayL l=2:=by
 unfold wayL;rw[if_neg (by omega),if_neg (by omega)]
 split<;>simp
theorem two_st {c:Int}(h:c=1∨c=2):stC c=true∨neuC c=true:=by rcases h with rfl|rfl<;>exact .inl rfl
theorem seL_late {pl fs:List Int}{n:Nat}{way so:Int}{o d:Nat}{cs:List Int}(hw:way=1∨way=2)(hs:so=1∨so=2)(h:LateC cs):LateC (seL pl fs n way so o d cs):=by
 unfold seL
 split
 ·rename_i hb
  have hx:seC cs way so o d=1∨seC cs way so o d=2:=by
   unfold seC
   split
   ·exact hw
   ·split
    ·exact ahT_two hs o
    ·simp_all
  exact becL_all (two_st hx) (becL_all (two_st hx) h)
 ·exact h
theorem resT_late {s:Sq}{fs:List Int}{D:List (Int×Int)}(hw:wayL s.lv=1∨wayL s.lv=2)(hs:s.so=1∨s.so=2)(h:LateC s.cs): ∀k,LateC (resT s fs D k)
 |0=>h
 |k+1=>by unfold resT;exact seL_late hw hs (resT_late hw hs h k)
def brS (ch:List Chr)(rs fs:List Int)(s:Sq):Sq:={s with cs:=resT s fs (findF ch rs s) (findF ch rs s).length}
theorem brS_late {ch:List Chr}{rs fs:List Int}{s:Sq}(hc:chkL s=0)(h:LateC s.cs):LateC (brS ch rs fs s).cs:=by obtain⟨h1,_,h3,h4,_⟩:=chk_edges hc;exact resT_late (wayL_two h3 h4) h1 h _
theorem brS_chk {ch:List Chr}{rs fs:List Int}{s:Sq}(hc:chkL s=0)(h:LateC s.cs):chkL (brS ch rs fs s)=0:=chk_swap hc (resT_length _ _ _ _) (fun c hm=>okC_late (brS_late hc h c hm))
theorem may_of {n:Nat}{s:Sq}(hc:chkL s=0)(hp: ∀i,i<s.pl.length→s.pl.getD i 0<(n:Int)):mayL n s=0:=by rw[may_two hc,if_neg];rintro⟨i,hi,h⟩;have:=hp i hi;omega
theorem resE_zero {rn fn:Nat}{s:Sq}(hc:chkL s=0)(h1: ∀i,i<s.pl.length→s.pl.getD i 0<(rn:Int))(h2: ∀i,i<s.pl.length→s.pl.getD i 0<(fn:Int)):resE rn fn s=0:=by unfold resE;rw[may_of hc h1,may_of hc h2];rfl
theorem resS_br {ch:List Chr}{rs fs:List Int}{s:Sq}(h:resE rs.length fs.length s=0):resS ch rs fs s=brS ch rs fs s:=by unfold resS;rw[if_pos h];rfl
theorem rest_set {lv so eo:Int}{cs:List Int}(h0:0≤lv)(h1:lv≤126)(hs:so=1∨so=2)(h:LateC cs):SetC (restL lv so eo cs):=by
 refine scan_to (S:=fun a=>a=1∨a=2) (fun s c r h2 h3=> ?_) _ _ hs h;have hw:=wayL_two h0 h1
 rcases h3 with h3|h3
 ·rw[g8_not (st_neu h3)];refine⟨h3,?_⟩;unfold wyC;split<;>simp
 ·rw[g8_neu h3];refine⟨?_,h2⟩;simp only
  split
  ·rcases h2 with rfl|rfl<;>rfl
  ·rcases hw with e|e<;>rw[e]<;>rfl
theorem rest_okC {lv so eo:Int}{cs:List Int}(h0:0≤lv)(h1:lv≤126)(hs:so=1∨so=2)(h:LateC cs): ∀c∈restL lv so eo cs,okC c:=fun c hc=>okC_late (.inl (rest_set h0 h1 hs h c hc))
def Sq.ne (s:Sq):Sq:={s with cs:=restL s.lv s.so s.eo s.cs}
theorem ne_chk {s:Sq}(hc:chkL s=0)(h:LateC s.cs):chkL s.ne=0:=by obtain⟨h1,_,h3,h4,_⟩:=chk_edges hc;exact chk_swap hc (restL_len _ _ _ _) (rest_okC h3 h4 h1 h)
theorem ne_set {s:Sq}(hc:chkL s=0)(h:LateC s.cs):SetC s.ne.cs:=by obtain⟨h1,_,h3,h4,_⟩:=chk_edges hc;exact rest_set h3 h4 h1 h
theorem lvC_bound {l c:Int}(h0:0≤l)(h1:l≤125):l≤lvC l c∧lvC l c≤126:=by
 unfold lvC
 (repeat' split)<;>omega
end
section
theorem ex_gone {base:Int}(hb:base=0∨base=1)(cl:List Int){a:Nat}(ha:a<cl.length)(hk:remC (cl.getD a 0)=true):(exL base cl).getD a 0= -1:=by
 obtain⟨h1,h2⟩:=runS_get (base:=base) (l:=cl) (au:=auP cl) cl.length ha;have hw:=(runS_wf hb cl (auP cl) a).1;have hO:=stepS_ok hw (cl.getD a 0) (auP cl a);unfold exL;rw[h1]
 rcases hO.kind with⟨_,_,h3⟩|⟨h3,_⟩
 ·exact h3
 ·rw[goneC_remC,hk]at h3;cases h3
theorem exL_len (base:Int)(cl:List Int):(exL base cl).length=cl.length:=(runS_len base cl (auP cl) cl.length).1
theorem exC_len (base:Int)(cl:List Int):(exC base cl).length=cl.length:=(runS_len base cl (auP cl) cl.length).2
def putL:List Int→List Int→List Int→List Int
 |out,p::ps,v::vs=>putL (out.set p.toNat v) ps vs
 |out,_,_=>out
theorem putL_len: ∀(out ps vs:List Int),(putL out ps vs).length=out.length
 |_,[],[]=>rfl
 |_,[],_::_=>rfl
 |_,_::_,[]=>rfl
 |out,p::ps,v::vs=>by unfold putL;rw[putL_len,List.length_set]
theorem putL_same: ∀(ps vs:List Int) (o o':List Int) (i:Nat),vs.length=ps.length→o.length=o'.length→i<o.length→(o.getD i 0=o'.getD i 0∨(i:Int)∈ps)→(putL o ps vs).getD i 0=(putL o' ps vs).getD i 0
 |[],[],o,o',i,_,_,_,h=>by
  rcases h with h|h
  ·exact h
  ·cases h
 |[],_::_,_,_,_,h,_,_,_=>by simp at h
 |_::_,[],_,_,_,h,_,_,_=>by simp at h
 |p::ps,v::vs,o,o',i,hl,ho,hi,h=>by
  unfold putL;refine putL_same ps vs _ _ i (by simpa using hl) (by simp[ho]) (by simpa using hi) ?_
  by_cases e:p.toNat=i
  ·left;simp only[List.getD_eq_getElem?_getD,List.getElem?_set];rw[if_pos e,if_pos e,if_pos (by omega),if_pos (by omega)]
  ·rcases h with h|h
   ·left;simp only[List.getD_eq_getElem?_getD,List.getElem?_set]at h⊢;rw[if_neg e,if_neg e];exact h
   ·rcases List.mem_cons.1 h with h|h
    ·exact absurd (by omega) e
    ·exact .inr h
theorem putL_off: ∀(ps vs:List Int) (o:List Int) (i:Nat),(∀p∈ps,0≤p)→(i:Int)∉ps→(putL o ps vs).getD i 0=o.getD i 0
 |[],[],_,_,_,_=>rfl
 |[],_::_,_,_,_,_=>rfl
 |_::_,[],_,_,_,_=>rfl
 |p::ps,v::vs,o,i,h0,h=>by
  unfold putL;rw[putL_off ps vs _ i (fun x hx=>h0 x (List.mem_cons_of_mem _ hx)) (fun e=>h (List.mem_cons_of_mem _ e))];simp only[List.getD_eq_getElem?_getD,List.getElem?_set];rw[if_neg];intro e;have:=h0 p List.mem_cons_self;exact h (by rw[←e,Int.toNat_of_nonneg this];exact List.mem_cons_self)
theorem putL_at: ∀(ps vs:List Int) (o:List Int) (k:Nat),(∀p∈ps,0≤p∧p<(o.length:Int))→ps.Nodup→vs.length=ps.length→k<ps.length→(putL o ps vs).getD (ps.getD k 0).toNat 0=vs.getD k 0
 |[],_,_,k,_,_,_,h=>by simp at h
 |_::_,[],_,_,_,_,h,_=>by simp at h
 |p::ps,v::vs,o,0,h0,hn,hl,_=>by
  unfold putL;have hp:=h0 p List.mem_cons_self;have hn':=List.nodup_cons.1 hn;show(putL (o.set p.toNat v) ps vs).getD p.toNat 0=v;rw[putL_off ps vs _ _ (fun x hx=>(h0 x (List.mem_cons_of_mem _ hx)).1) (by rw[Int.toNat_of_nonneg hp.1];exact hn'.1)];simp only[List.getD_eq_getElem?_getD,List.getElem?_set];rw[if_pos trivial,if_pos (by omega)];rfl
 |p::ps,v::vs,o,k+1,h0,hn,hl,hk=>by
  unfold putL;have hn':=List.nodup_cons.1 hn;exact putL_at ps vs _ k (fun x hx=>by rw[List.length_set];exact h0 x (List.mem_cons_of_mem _ hx)) hn'.2 (by simpa using hl) (by simpa using hk)
def stpC (s:Sq):Sq:=s.wk.ne
def stpR (ch:List Chr)(rs fs:List Int)(s:Sq):Sq:=(brS ch rs fs s.wk).ne
def valS (f:Sq→Sq)(s:Sq):List Int:=lvsL s.lv (f s).cs
def putS (f:Sq→Sq)(out:List Int)(ss:List Sq):List Int:=ss.foldl (fun o s=>putL o s.pl (valS f s)) out
def seqsE (base:Int)(cl:List Int):List Sq:=(seqsL cl (exC base cl) (exL base cl) base).1
def levE (f:Sq→Sq)(base:Int)(cl init:List Int):List Int:=putS f init (seqsE base cl)
def Keeps (f:Sq→Sq):Prop:= ∀s,chkL s=0→(f s).pl=s.pl∧(f s).lv=s.lv∧(f s).cs.length=s.cs.length
theorem keeps_C:Keeps stpC:=fun s _=>⟨rfl,rfl,by unfold stpC Sq.ne;simp only;rw[restL_len,wk_cs];exact rulesL_len _ _ 7⟩
theorem keeps_R (ch:List Chr)(rs fs:List Int):Keeps (stpR ch rs fs):=fun s _=>⟨rfl,rfl,by unfold stpR Sq.ne brS;simp only;rw[restL_len,resT_length,wk_cs];exact rulesL_len _ _ 7⟩
theorem putS_len (f:Sq→Sq): ∀(ss:List Sq) (out:List Int),(putS f out ss).length=out.length
 |[],_=>rfl
 |s::ss,out=>by
  show(putS f (putL out s.pl (valS f s)) ss).length=_;rw[putS_len f ss,putL_len]
theorem putS_snoc (f:Sq→Sq)(out:List Int)(ss:List Sq)(s:Sq):putS f out (ss++[s])=putL (putS f out ss) s.pl (valS f s):=by unfold putS;rw[List.foldl_append];rfl
theorem putS_same {f:Sq→Sq}: ∀(ss:List Sq) (o o':List Int) (i:Nat),(∀s∈ss,(valS f s).length=s.pl.length)→o.length=o'.length→i<o.length→(o.getD i 0=o'.getD i 0∨(i:Int)∈ss.flatMap Sq.pl)→(putS f o ss).getD i 0=(putS f o' ss).getD i 0
 |[],o,o',i,_,_,_,h=>by
  rcases h with h|h
  ·exact h
  ·simp at h
 |s::ss,o,o',i,hv,hl,hi,h=>by
  show(putS f (putL o s.pl (valS f s)) ss).getD i 0=(putS f (putL o' s.pl (valS f s)) ss).getD i 0;have hv1:=hv s List.mem_cons_self;refine putS_same ss _ _ i (fun x hx=>hv x (List.mem_cons_of_mem _ hx)) (by rw[putL_len,putL_len];exact hl) (by rw[putL_len];exact hi) ?_
  rcases h with h|h
  ·exact .inl (putL_same _ _ _ _ i hv1 hl hi (.inl h))
  ·rw[List.flatMap_cons]at h
   rcases List.mem_append.1 h with h|h
   ·exact .inl (putL_same _ _ _ _ i hv1 hl hi (.inr h))
   ·exact .inr h
section
variable{base:Int} (hb:base=0∨base=1) (cl:List Int)
include hb
theorem seqsE_ech:Ech cl (exC base cl) (exL base cl) (seqsE base cl):=by unfold seqsE;rw[seqs_ok hb cl];exact each_ok hb cl
theorem seqsE_ok:(seqsL cl (exC base cl) (exL base cl) base).2=0:=by rw[seqs_ok hb cl]
theorem val_len {f:Sq→Sq}(hf:Keeps f){s:Sq}(hs:s∈seqsE base cl):(valS f s).length=s.pl.length:=by have H:=seqsE_ech hb cl;unfold valS lvsL;rw[List.length_map,(hf s (H.chk s hs)).2.2,(H.place s hs).2.1]
theorem seqsE_place {s:Sq}(hs:s∈seqsE base cl): ∀p∈s.pl,0≤p∧p<(cl.length:Int):=fun p hp=>by obtain⟨k,hk,rfl⟩:=List.mem_iff_getElem.1 hp;obtain⟨a,ea,la,_⟩:=((seqsE_ech hb cl).place s hs).2.2 k hk;rw[List.getD_eq_getElem?_getD,List.getElem?_eq_getElem hk]at ea;have ea:s.pl[k]=(a:Int):=ea;omega
theorem seqsE_mem {i:Nat}:(i:Int)∈(seqsE base cl).flatMap Sq.pl↔i<cl.length∧remC (cl.getD i 0)=false:=by
 rw[((seqsE_ech hb cl).perm).mem_iff,keptL_mem];constructor
 ·rintro⟨a,e,h1,h2⟩
  have:i=a:=by omega
  subst this;exact⟨h1,h2⟩
 ·rintro⟨h1,h2⟩;exact⟨i,rfl,h1,h2⟩
omit hb in
theorem levE_len (f:Sq→Sq)(init:List Int):(levE f base cl init).length=init.length:=putS_len f _ _
theorem levE_same {f:Sq→Sq}(hf:Keeps f):levE f base cl (exL base cl)=levE f base cl (List.replicate cl.length (-1)):=by
 refine ext_getDW (by rw[levE_len,levE_len,exL_len,List.length_replicate]) fun i hi=> ?_;rw[levE_len,exL_len]at hi;refine putS_same _ _ _ i (fun s hs=>val_len hb cl hf hs) (by rw[exL_len,List.length_replicate]) (by rw[exL_len];exact hi) ?_
 rcases h:remC (cl.getD i 0)with _|_
 ·exact .inr ((seqsE_mem hb cl).2 ⟨hi,h⟩)
 ·left;rw[ex_gone hb cl hi h,List.getD_eq_getElem?_getD,List.getElem?_replicate,if_pos hi];rfl
end
end
end Go.Proofs.YtllolnkkepacjaaGreat
