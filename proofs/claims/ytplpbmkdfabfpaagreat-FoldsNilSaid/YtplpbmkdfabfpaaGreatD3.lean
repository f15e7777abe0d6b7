/- A region that draws its order, whose operations come to the same in every order: the law with the end written out, inside any fence. A region that draws its order: one law for reads, a call, new variables and stores, in whatever order they come. A region that draws its order: reads, ONE call, variables that are made for its answers and the stores into them. -/
import Derived.Test.YtplpbmkdfabfpaaGreatRng3
import Derived.OwnWalkIn
import Derived.Test.YtplpbmkdfabfpaaGreatH6
namespace Go.Proofs.YtplpbmkdfabfpaaGreat
open Go.RowKit
section
section
variable{ops:Array Oper}
def depOn (o:Oper)(j:Nat):Bool:=o.after.any fun e=>Region.binds .any e && e.on==j
def plainDS (o:Oper):Bool:=match o.op with
 |.defer _=>false
 |.select _ _=>false
 |_=>true
def slotOf (ops:Array Oper)(j:Nat):Option Tmp:=(ops[j]?).bind (·.dst)
def reads1 (ops:Array Oper)(o:Oper):Bool:=o.op.operands.toList.all fun x=>match x with
 |.tmp t=>(List.range ops.size).all fun j=>slotOf ops j !=some t||depOn o j
 |_=>true
def readsA (ops:Array Oper)(i:Nat)(o:Oper):Bool:=o.op.operands.toList.all fun x=>match x with
 |.tmp t=>(List.range ops.size).all fun j=>slotOf ops j !=some t||(match ops[j]? with|some oj=>depOn oj i|none=>true)
 |_=>true
def writes1 (ops:Array Oper)(i:Nat)(o:Oper):Bool:=match o.dst with
 |none=>true
 |some d=>(List.range ops.size).all fun j=>j==i||slotOf ops j !=some d
def worlds1 (ops:Array Oper)(K:List (Nat×Bool))(r i:Nat)(o:Oper):Bool:=match K[i]? with
 |none=>false
 |some (k,true)=>decide (k<r) && (List.range ops.size).all fun j=>match K[j]? with
  |some (k',true)=>j==i||(k' !=k && (k'+1 !=k||depOn o j))
  |_=>true
 |some (k,false)=>decide (k≤r) && (List.range ops.size).all fun j=>match K[j]?,ops[j]? with
  |some (k',true),some oj=>k' !=k||depOn oj i
  |_,_=>true
def fixB (ops:Array Oper)(K:List (Nat×Bool))(E:List Bool)(r:Nat):Bool:=
 ((List.range ops.size).all fun i=>match ops[i]? with
   |none=>false
   |some o=>o.guard.isNone && plainDS o && (o.after.all fun e=> !Region.binds .any e||decide (e.on<i)) && (if E.getD i false then readsA ops i o else reads1 ops o) && writes1 ops i o && worlds1 ops K r i o) &&
 (List.range r).all fun k=>(List.range ops.size).any fun j=>K[j]?==some (k,true)
structure FixAt (ops:Array Oper) (K:List (Nat×Bool)) (E:List Bool) (r i:Nat) (o:Oper):Prop where
 g:o.guard=none
 p:plainDS o=true
 lo: ∀e∈o.after,Region.binds .any e=true→e.on<i
 rd:(if E.getD i false then readsA ops i o else reads1 ops o)=true
 wr:writes1 ops i o=true
 wd:worlds1 ops K r i o=true
theorem fixB_at {K:List (Nat×Bool)}{E:List Bool}{r:Nat}(h:fixB ops K E r=true){i:Nat}{o:Oper}(ho:ops[i]?=some o):FixAt ops K E r i o:=by
 unfold fixB at h;rw[Bool.and_eq_true]at h;have hi:i<ops.size:=(Array.getElem?_eq_some_iff.1 ho).1;have:=List.all_eq_true.1 h.1 i (List.mem_range.2 hi);rw[ho]at this;simp only[Bool.and_eq_true]at this;obtain⟨⟨⟨⟨⟨h1,h2⟩,h3⟩,h4⟩,h5⟩,h6⟩:=this;refine⟨by simpa using h1,h2,fun e he hb=> ?_,h4,h5,h6⟩;have:=Array.all_eq_true_iff_forall_mem.1 h3 e he
 simpa[hb]using this
theorem fixB_ex {K:List (Nat×Bool)}{E:List Bool}{r:Nat}(h:fixB ops K E r=true){k:Nat}(hk:k<r): ∃(j:Nat) (o:Oper),ops[j]?=some o∧K[j]?=some (k,true):=by unfold fixB at h;rw[Bool.and_eq_true]at h;have:=List.all_eq_true.1 h.2 k (List.mem_range.2 hk);obtain⟨j,hj,hk2⟩:=List.any_eq_true.1 this;have hj:=List.mem_range.1 hj;exact⟨j,ops[j],Array.getElem?_eq_getElem hj,by simpa using hk2⟩
theorem depOn_ready {listed:Array Bool}{i j:Nat}{o:Oper}(hi:i∈Region.ready .any ops listed)(ho:ops[i]?=some o)(hd:depOn o j=true):listed.getD j false=true:=by
 obtain⟨_,o',ho',h⟩:=mem_ready.1 hi;rw[ho]at ho'
 injection ho' with ho'
 subst ho';unfold depOn at hd
 obtain⟨e,he,hb⟩: ∃e∈o.after,(Region.binds .any e && e.on==j)=true:=by rw[←Array.any_toList]at hd;obtain⟨e,he,hb⟩:=List.any_eq_true.1 hd;exact⟨e,by simpa using he,hb⟩
 rw[Bool.and_eq_true]at hb;have:=h e he hb.1
 have e2:e.on=j:=by simpa using hb.2
 rwa [e2]at this
structure FixInv (ops:Array Oper) (K:List (Nat×Bool)) (a0 b:Act) (listed:Array Bool) (a:Act) (c:Nat):Prop where
 size:listed.size=ops.size
 tsize:a.tmps.size=b.tmps.size
 defers:a.defers=b.defers
 down: ∀i o,ops[i]?=some o→listed.getD i false=true→ ∀j,depOn o j=true→listed.getD j false=true
 slots: ∀t,(∀j,slotOf ops j=some t→listed.getD j false=true)→a.tmps[t]?=b.tmps[t]?
 orig: ∀t,(∀j,slotOf ops j=some t→listed.getD j false=false)→a.tmps[t]?=a0.tmps[t]?
 acts: ∀j k,K[j]?=some (k,true)→j<ops.size→(listed.getD j false=true↔k<c)
end
def runs1 (P:Program)(fr b:Act)(W:Nat→World)(o:Oper)(k:Nat×Bool):Prop:= ∀c,(if k.2 then c=k.1 else c≤k.1)→ ∃nx v,(execOp fr.eval o).run P (W c)= .ok nx (W (if k.2 then c+1 else c))∧(nx= .value v∨nx= .skip∧v=undef)∧ ∀d,o.dst=some d→b.tmps[d]?=some v
theorem getD_tf {listed:Array Bool}{i:Nat}(hi:i<listed.size):listed.getD i true=listed.getD i false:=by simp[Array.getD_eq_getD_getElem?,Array.getElem?_eq_getElem hi]
theorem eval_same {a b:Act}{x:Operand}(h: ∀t,x= .tmp t→a.tmps[t]?=b.tmps[t]?):a.eval x=b.eval x:=by
 cases x with
 |tmp t=>
  have:=h t rfl;simp only[Act.eval,Array.getD_eq_getD_getElem?,this]
 |_=>rfl
def putAll:List Oper→List Value→Act→Act
 |o::l,v::vs,a=>putAll l vs (a.put o.dst v)
 |_,_,a=>a
theorem put_size (a:Act)(d:Option Tmp)(v:Value):(a.put d v).tmps.size=a.tmps.size:=by cases d<;>simp[Act.put]
theorem put_defers (a:Act)(d:Option Tmp)(v:Value):(a.put d v).defers=a.defers:=by cases d<;>rfl
theorem put_other (a:Act)(d:Option Tmp)(v:Value)(t:Tmp)(h:d≠some t):(a.put d v).tmps[t]?=a.tmps[t]?:=by
 cases d with
 |none=>rfl
 |some d=>
  have hne:d≠t:=fun e=>h (by rw[e]);simp[Act.put,Array.getElem?_setIfInBounds_ne hne]
theorem putAll_size: ∀(l:List Oper) (vs:List Value) (a:Act),(putAll l vs a).tmps.size=a.tmps.size
 |[],_,_=>rfl
 |_::_,[],_=>rfl
 |o::l,v::vs,a=>by unfold putAll;rw[putAll_size l vs,put_size]
theorem putAll_defers: ∀(l:List Oper) (vs:List Value) (a:Act),(putAll l vs a).defers=a.defers
 |[],_,_=>rfl
 |_::_,[],_=>rfl
 |o::l,v::vs,a=>by unfold putAll;rw[putAll_defers l vs,put_defers]
theorem putAll_other {t:Tmp}: ∀(l:List Oper) (vs:List Value) (a:Act),(∀o∈l,o.dst≠some t)→(putAll l vs a).tmps[t]?=a.tmps[t]?
 |[],_,_,_=>rfl
 |_::_,[],_,_=>rfl
 |o::l,v::vs,a,h=>by
  unfold putAll;rw[putAll_other l vs _ (fun o' ho=>h o' (List.mem_cons_of_mem _ ho)),put_other _ _ _ _ (h o List.mem_cons_self)]
section
variable{F:Fence} {d:Nat} {P:Program} {ops:Array Oper} {K:List (Nat×Bool)} {E:List Bool} {r:Nat} {a0 b:Act} {W:Nat→World} {Q:Exit→Act→World→Prop}
theorem all_listed {listed:Array Bool}(hB:fixB ops K E r=true)(hs:listed.size=ops.size)(h:Region.ready .any ops listed=[]): ∀(m i:Nat),i<m→i<ops.size→listed.getD i false=true
 |0,i,h0,_=>by omega
 |m+1,i,hi,hl=>by
  by_cases hn:listed.getD i false=true
  ·exact hn
  ·exfalso
   have hr:i∈Region.ready .any ops listed:=by refine mem_ready.2 ⟨by rw[getD_tf (by omega)];simpa using hn,ops[i],Array.getElem?_eq_getElem hl,fun e he hb=> ?_⟩;have he2:=(fixB_at hB (Array.getElem?_eq_getElem hl)).lo e he hb;exact all_listed hB hs h m e.on (by omega) (by omega)
   rw[h]at hr;cases hr
theorem wpAnyIn_fixed (hF: ∀f,F.fn f)(hB:fixB ops K E r=true)(hR: ∀(i:Nat) (o:Oper) (k:Nat×Bool),ops[i]?=some o→K[i]?=some k→runs1 P (if E.getD i false then a0 else b) b W o k)(hQ:Q .normal b (W r)):
 ∀(fuel:Nat) (listed:Array Bool) (a:Act) (c:Nat),c≤r→FixInv ops K a0 b listed a c→((List.range ops.size).filter (fun i=> !listed.getD i false)).length≤fuel→
  wpAnyIn F d P .any ops Q fuel listed a (W c):=by
 have hend: ∀(listed:Array Bool) (a:Act) (c:Nat),c≤r→FixInv ops K a0 b listed a c→Region.ready .any ops listed=[]→Q .normal a (W c):=by
  intro listed a c hc I h;have hall:=all_listed hB I.size h ops.size
  have ha:a=b:=by
   have:a.tmps=b.tmps:=by
    refine Array.ext I.tsize fun t h1 h2=> ?_
    have:=I.slots t (fun j hj=>hall j (by
     unfold slotOf at hj
     rcases hx:ops[j]? with _|o
     ·rw[hx]at hj;cases hj
     ·exact(Array.getElem?_eq_some_iff.1 hx).1) (by
     unfold slotOf at hj
     rcases hx:ops[j]? with _|o
     ·rw[hx]at hj;cases hj
     ·exact(Array.getElem?_eq_some_iff.1 hx).1))
    rw[Array.getElem?_eq_getElem h1,Array.getElem?_eq_getElem h2]at this;exact Option.some.inj this
   have h3:=I.defers;cases a;cases b;simp only at this h3;subst this h3;rfl
  have hcr:c=r:=by
   rcases Nat.lt_or_ge c r with h1|h1
   ·obtain⟨j,o,hj,hk⟩:=fixB_ex hB h1;have hl:=(Array.getElem?_eq_some_iff.1 hj).1;have:=(I.acts j c hk hl).1 (hall j hl hl);omega
   ·omega
  rw[ha,hcr];exact hQ
 intro fuel
 induction fuel with
 |zero=>
  intro listed a c hc I hf
  have h0:Region.ready .any ops listed=[]:=by
   rcases h:Region.ready .any ops listed with _|⟨i,rs⟩
   ·rfl
   ·exfalso
    have hi:i∈Region.ready .any ops listed:=by rw[h];exact List.mem_cons_self
    obtain⟨h1,o,ho,_⟩:=mem_ready.1 hi;have hlt:=(Array.getElem?_eq_some_iff.1 ho).1;rw[getD_tf (by rw[I.size];exact hlt)]at h1;have hm:i∈(List.range ops.size).filter (fun i=> !listed.getD i false):=List.mem_filter.2 ⟨List.mem_range.2 hlt,by rw[h1];rfl⟩;have:=List.length_pos_of_mem hm;omega
  exact⟨h0,hend listed a c hc I h0⟩
 |succ fuel ih=>
  intro listed a c hc I hf;refine⟨hend listed a c hc I,fun i hi=> ?_⟩;obtain⟨h1,o,ho,_⟩:=mem_ready.1 hi;have hlt:=(Array.getElem?_eq_some_iff.1 ho).1;rw[getD_tf (by rw[I.size];exact hlt)]at h1;have A:=fixB_at hB ho
  have hex:execOp a.eval o=execOp (if E.getD i false then a0 else b).eval o:=by
   refine execOp_congr o (fun cs bb e=>by have:=A.p;unfold plainDS at this;rw[e]at this;cases this) fun x hx=>eval_same fun t ht=> ?_;subst ht;have hArd:=A.rd
   rcases hEi:E.getD i false with _|_
   case true=>
    rw[hEi,if_pos rfl]at hArd;rw[if_pos rfl];refine I.orig t fun j hj=> ?_
    have hjl:j<ops.size:=by
     unfold slotOf at hj
     rcases hx:ops[j]? with _|o'
     ·rw[hx]at hj;cases hj
     ·exact(Array.getElem?_eq_some_iff.1 hx).1
    have:=List.all_eq_true.1 hArd (.tmp t) (by simpa using hx);simp only at this;have:=List.all_eq_true.1 this j (List.mem_range.2 hjl);rw[Bool.or_eq_true]at this
    rcases this with h|h
    ·simp[hj]at h
    ·rw[Array.getElem?_eq_getElem hjl]at h;simp only at h
     rcases hlj:listed.getD j false with _|_
     ·rfl
     ·have:=I.down j ops[j] (Array.getElem?_eq_getElem hjl) hlj i h;rw[this]at h1;cases h1
   rw[hEi,if_neg (by decide)]at hArd;rw[if_neg (by decide)];refine I.slots t fun j hj=> ?_
   have hjl:j<ops.size:=by
    unfold slotOf at hj
    rcases hx:ops[j]? with _|o'
    ·rw[hx]at hj;cases hj
    ·exact(Array.getElem?_eq_some_iff.1 hx).1
   have:=List.all_eq_true.1 hArd (.tmp t) (by simpa using hx);simp only at this;have:=List.all_eq_true.1 this j (List.mem_range.2 hjl);rw[Bool.or_eq_true]at this
   rcases this with h|h
   ·simp[hj]at h
   ·exact depOn_ready hi ho h
  have hwd:=A.wd;unfold worlds1 at hwd
  rcases hk:K[i]? with _|⟨k,eff⟩
  ·rw[hk]at hwd;cases hwd
  rw[hk]at hwd;have hrun:=hR i o _ ho hk c
  have hcond:(if eff=true then c=k else c≤k):=by
   cases eff with
   |true=>
    simp only[Bool.and_eq_true,decide_eq_true_eq]at hwd;obtain⟨hkr,hall⟩:=hwd
    have h2: ¬k<c:=fun h=>by have:=(I.acts i k hk hlt).2 h;rw[this]at h1;cases h1
    rcases Nat.lt_or_ge c k with h3|h3
    ·exfalso;obtain⟨j,oj,hj,hkj⟩:=fixB_ex hB (show k-1<r by omega);have hjl:=(Array.getElem?_eq_some_iff.1 hj).1;have:=List.all_eq_true.1 hall j (List.mem_range.2 hjl);rw[hkj]at this;simp only[Bool.or_eq_true,Bool.and_eq_true]at this
     rcases this with h|⟨_,h|h⟩
     ·have:j=i:=by simpa using h
      subst this;rw[hk]at hkj;injection hkj with hkj;injection hkj with hkj;omega
     ·simp at h;omega
     ·have:=(I.acts j (k-1) hkj hjl).1 (depOn_ready hi ho h);omega
    ·simp;omega
   |false=>
    simp only[Bool.and_eq_true,decide_eq_true_eq]at hwd;obtain⟨hkr,hall⟩:=hwd
    rcases Nat.lt_or_ge k c with h3|h3
    ·exfalso;obtain⟨j,oj,hj,hkj⟩:=fixB_ex hB (show k<r by omega);have hjl:=(Array.getElem?_eq_some_iff.1 hj).1;have:=List.all_eq_true.1 hall j (List.mem_range.2 hjl);rw[hkj,hj]at this;simp only[Bool.or_eq_true]at this
     rcases this with h|h
     ·simp at h
     ·have hlj:=(I.acts j k hkj hjl).2 h3;have:=I.down j oj hj hlj i h;rw[this]at h1;cases h1
    ·simpa using h3
  obtain⟨nx,v,hv,hnx,hvb⟩:=hrun (by simpa using hcond);simp only at hv;unfold wpOpIn;rw[ho];simp only;rw[if_pos (by simp[Region.wanted,A.g])];refine⟨fun f _=>hF f,?_⟩;rw[Oper.semAt_plain F _ _ (by intro cc e;have:=A.p;unfold plainDS at this;rw[e]at this;cases this),hex,hv]
  suffices hgo:wpAnyIn F d P .any ops Q fuel (listed.setIfInBounds i true) (a.put o.dst v) (W (if eff=true then c+1 else c)) by
   rcases hnx with rfl|⟨rfl,rfl⟩
   ·exact hgo
   ·exact hgo
  show wpAnyIn F d P .any ops Q fuel (listed.setIfInBounds i true) (a.put o.dst v) (W (if eff=true then c+1 else c))
  have hli: ∀j,(listed.setIfInBounds i true).getD j false=true↔j=i∨listed.getD j false=true:=by
   intro j
   by_cases hj:i=j
   ·subst hj;simp[I.size,hlt]
   ·rw[getD_set_ne false hj];exact⟨.inr,fun h=>h.resolve_left (fun e=>hj e.symm)⟩
  refine ih _ _ _ ?_ ⟨by simpa using I.size,by rw[put_size];exact I.tsize,by rw[put_defers];exact I.defers,?_,?_,?_,?_⟩ ?_
  ·cases eff with
   |true=>
    simp only[Bool.and_eq_true,decide_eq_true_eq]at hwd;have:=hwd.1;simp at hcond;simp;omega
   |false=>simpa using hc
  ·intro i' o' ho' hl' j hd
   rcases(hli i').1 hl' with e|e
   ·subst e
    rw[ho]at ho';injection ho' with ho';subst ho'
    exact(hli j).2 (.inr (depOn_ready hi ho hd))
   ·exact(hli j).2 (.inr (I.down i' o' ho' e j hd))
  ·intro t ht
   by_cases hd:o.dst=some t
   ·rw[hd];have hb:=hvb t hd
    have hts:t<a.tmps.size:=by rw[I.tsize];exact(Array.getElem?_eq_some_iff.1 hb).1
    rw[hb];simp[Act.put,hts]
   ·rw[put_other _ _ _ _ hd];refine I.slots t fun j hj=> ?_
    rcases(hli j).1 (ht j hj)with e|e
    ·subst e;exfalso;unfold slotOf at hj;rw[ho]at hj;exact hd hj
    ·exact e
  ·intro t ht
   have hdt:o.dst≠some t:=fun e=>by have h5:=ht i (by unfold slotOf;rw[ho];exact e);have h6:=(hli i).2 (.inl rfl);rw[h5]at h6;cases h6
   rw[put_other _ _ _ _ hdt];refine I.orig t fun j hj=> ?_;have h5:=ht j hj
   rcases hlj:listed.getD j false with _|_
   ·rfl
   ·rw[(hli j).2 (.inr hlj)]at h5;cases h5
  ·intro j k' hkj hjl;rw[hli j]
   cases eff with
   |true=>
    simp at hcond;subst hcond;simp only[if_true];constructor
    ·rintro(e|e)
     ·subst e;rw[hk]at hkj;injection hkj with hkj;injection hkj with hkj;omega
     ·have:=(I.acts j k' hkj hjl).1 e;omega
    ·intro h
     rcases Nat.lt_or_ge k' c with h3|h3
     ·exact .inr ((I.acts j k' hkj hjl).2 h3)
     ·have hk':k'=c:=by omega
      subst hk';simp only[Bool.and_eq_true,decide_eq_true_eq]at hwd;have:=List.all_eq_true.1 hwd.2 j (List.mem_range.2 hjl);rw[hkj]at this;simp only[Bool.or_eq_true,Bool.and_eq_true]at this
      rcases this with h|⟨h,_⟩
      ·left;simpa using h
      ·simp at h
   |false=>
    simp only[Bool.false_eq_true,if_false];constructor
    ·rintro(e|e)
     ·subst e;rw[hk]at hkj;injection hkj with hkj;injection hkj with _ hkj;cases hkj
     ·exact(I.acts j k' hkj hjl).1 e
    ·exact fun h=>.inr ((I.acts j k' hkj hjl).2 h)
  ·have hm:i∈(List.range ops.size).filter (fun i=> !listed.getD i false):=List.mem_filter.2 ⟨List.mem_range.2 hlt,by rw[h1];rfl⟩
   have hlt2:((List.range ops.size).filter (fun j=> !(listed.setIfInBounds i true).getD j false)).length<((List.range ops.size).filter (fun i=> !listed.getD i false)).length:=by
    have e:(List.range ops.size).filter (fun j=> !(listed.setIfInBounds i true).getD j false)=((List.range ops.size).filter (fun i=> !listed.getD i false)).filter (fun j=>j !=i):=by
     rw[List.filter_filter];refine List.filter_congr fun j _=> ?_
     by_cases hj:j=i
     ·subst hj;have:=(hli j).2 (.inl rfl);rw[this];simp
     ·have:(listed.setIfInBounds i true).getD j false=listed.getD j false:=getD_set_ne false (Ne.symm hj);rw[this];simp[hj]
    rw[e];exact List.length_filter_lt_length_iff_exists.2 ⟨i,hm,by simp⟩
   omega
def runsL (P:Program)(a0 b:Act)(W:Nat→World):List Oper→List (Nat×Bool)→List Bool→Prop
 |o::l,k::K,e::E=>runs1 P (if e then a0 else b) b W o k∧runsL P a0 b W l K E
 |o::l,k::K,[]=>runs1 P b b W o k∧runsL P a0 b W l K []
 |_,_,_=>True
theorem runs_all {P:Program}{a0 b:Act}{W:Nat→World}: ∀{l:List Oper} {K:List (Nat×Bool)} {E:List Bool},runsL P a0 b W l K E→ ∀(i:Nat) (o:Oper) (k:Nat×Bool),l[i]?=some o→K[i]?=some k→runs1 P (if E.getD i false then a0 else b) b W o k
 |[],_,_,_,i,o,k,h,_=>by simp at h
 |_::_,[],_,_,i,o,k,_,h=>by simp at h
 |o'::l,k'::K,e::E,h,0,o,k,h1,h2=>by
  have e1:o'=o:=by simpa using h1
  have e2:k'=k:=by simpa using h2
  subst e1 e2;exact h.1
 |o'::l,k'::K,[],h,0,o,k,h1,h2=>by
  have e1:o'=o:=by simpa using h1
  have e2:k'=k:=by simpa using h2
  subst e1 e2;exact h.1
 |o'::l,k'::K,e::E,h,i+1,o,k,h1,h2=>runs_all h.2 i o k (by simpa using h1) (by simpa using h2)
 |o'::l,k'::K,[],h,i+1,o,k,h1,h2=>runs_all (E:=[]) h.2 i o k (by simpa using h1) (by simpa using h2)
theorem runs1_r0 {P:Program}{fr b:Act}{W:Nat→World}{o:Oper}(v:Value)(h:(execOp fr.eval o).run P (W 0)= .ok (.value v) (W 0))(hd: ∀d,o.dst=some d→b.tmps[d]?=some v):runs1 P fr b W o (0,false):=by
 intro c hc
 obtain rfl:c=0:=by simpa using hc
 exact⟨_,v,h,.inl rfl,hd⟩
theorem runs1_r1 {P:Program}{fr b:Act}{W:Nat→World}{o:Oper}(v:Value)(h:(execOp fr.eval o).run P (W 0)= .ok (.value v) (W 0))(h1:(execOp fr.eval o).run P (W 1)= .ok (.value v) (W 1))(hd: ∀d,o.dst=some d→b.tmps[d]?=some v):runs1 P fr b W o (1,false):=by
 intro c hc
 have hc:c≤1:=by simpa using hc
 rcases c with _|_|c
 ·exact⟨_,v,h,.inl rfl,hd⟩
 ·exact⟨_,v,h1,.inl rfl,hd⟩
 ·omega
theorem runs1_r2 {P:Program}{fr b:Act}{W:Nat→World}{o:Oper}(v:Value)(h:(execOp fr.eval o).run P (W 0)= .ok (.value v) (W 0))(h1:(execOp fr.eval o).run P (W 1)= .ok (.value v) (W 1))(h2:(execOp fr.eval o).run P (W 2)= .ok (.value v) (W 2))(hd: ∀d,o.dst=some d→b.tmps[d]?=some v):runs1 P fr b W o (2,false):=by
 intro c hc
 have hc:c≤2:=by simpa using hc
 rcases c with _|_|_|c
 ·exact⟨_,v,h,.inl rfl,hd⟩
 ·exact⟨_,v,h1,.inl rfl,hd⟩
 ·exact⟨_,v,h2,.inl rfl,hd⟩
 ·omega
theorem runs1_e {P:Program}{fr b:Act}{W:Nat→World}{o:Oper}{k:Nat}(v:Value)(h:(execOp fr.eval o).run P (W k)= .ok (.value v) (W (k+1)))(hd: ∀d,o.dst=some d→b.tmps[d]?=some v):runs1 P fr b W o (k,true):=by
 intro c hc
 obtain rfl:c=k:=by simpa using hc
 exact⟨_,v,h,.inl rfl,hd⟩
theorem runs1_any {P:Program}{fr b:Act}{W:Nat→World}{o:Oper}{k:Nat}(v:Value)(h: ∀w,(execOp fr.eval o).run P w= .ok (.value v) w)(hd: ∀d,o.dst=some d→b.tmps[d]?=some v):runs1 P fr b W o (k,false):=by intro c hc;exact⟨_,v,h _,.inl rfl,hd⟩
theorem runs1_s {P:Program}{fr b:Act}{W:Nat→World}{o:Oper}{k:Nat}(h:(execOp fr.eval o).run P (W k)= .ok .skip (W (k+1)))(hd:o.dst=none):runs1 P fr b W o (k,true):=by
 intro c hc
 obtain rfl:c=k:=by simpa using hc
 exact⟨_,undef,h,.inr ⟨rfl,rfl⟩,fun d e=>by rw[hd]at e;cases e⟩
theorem wpIn_region_fixed {id:Nat}{l:List Oper}{vs:List Value}{w:World}(hF: ∀f,F.fn f)(hm:P.follows .mixedOrders=true)(hB:fixB l.toArray K E r=true)(h0:W 0=w.drew)(_hl:K.length=l.length)
 (hR: ∀(i:Nat) (o:Oper) (k:Nat×Bool),l[i]?=some o→K[i]?=some k→runs1 P (if E.getD i false then a0 else putAll l vs a0) (putAll l vs a0) W o k) (hQ:Q .normal (putAll l vs a0) (W r)):(Code.region id l.toArray true).wpIn F d P Q a0 w:=by
 refine wpIn_region_any hm ?_
 have hz: ∀j,(Array.replicate l.toArray.size false).getD j false=false:=fun j=>by rw[Array.getD_eq_getD_getElem?,Array.getElem?_replicate];split<;>rfl
 have:=wpAnyIn_fixed (F:=F) (d:=d) (a0:=a0) (b:=putAll l vs a0) (W:=W) (Q:=Q) (P:=P) hF hB (fun i o k ho hk=>hR i o k (by simpa using ho) hk) hQ l.toArray.size (Array.replicate l.toArray.size false) a0 0 (Nat.zero_le _)
  ⟨by simp,(putAll_size _ _ _).symm,(putAll_defers _ _ _).symm,fun i o _ h=>(by rw[hz]at h;cases h),fun t ht=> ?_,fun t _=>rfl,fun j k _ _=>(by rw[hz];simp)⟩ ?_
 ·rw[h0]at this;exact this
 ·rw[putAll_other];intro o ho e;obtain⟨j,hj,rfl⟩:=List.mem_iff_getElem.1 ho;have:=ht j (by unfold slotOf;simp[hj,e]);rw[hz]at this;cases this
 ·refine Nat.le_trans (List.length_filter_le _ _) ?_;simp
end
end
section
abbrev Vl:=Sum Value (Nat×(Value→Value))
def valV (ρ:Nat→Value):Vl→Value
 |.inl v=>v
 |.inr x=>x.2 (ρ x.1)
def useV:Vl→Option Nat
 |.inl _=>none
 |.inr x=>some x.1
def updV (ρ:Nat→Value)(i:Nat)(v:Value):Nat→Value:=fun j=>if j=i then v else ρ j
theorem updV_same (ρ:Nat→Value)(i:Nat)(v:Value):updV ρ i v i=v:=if_pos rfl
theorem updV_ne (ρ:Nat→Value){i j:Nat}(v:Value)(h:j≠i):updV ρ i v j=ρ j:=if_neg h
def extV (k:Nat):Value→Value
 |.tuple vs=>vs.getD k undef
 |_=>undef
def uses1 (U:List (Option Nat))(i:Nat)(o:Oper):Bool:=match U[i]? with
 |some (some s)=>s==i||(List.range i).any fun j=>depOn o j && (j==s||U[j]?==some (some s))
 |some none=>true
 |none=>false
def flowB (ops:Array Oper)(U:List (Option Nat))(E:List Bool):Bool:=
 (List.range ops.size).all fun i=>match ops[i]? with
  |none=>false
  |some o=>o.guard.isNone && plainDS o && (o.after.all fun e=> !Region.binds .any e||decide (e.on<i)) && (if E.getD i false then readsA ops i o else reads1 ops o) && writes1 ops i o && uses1 U i o
structure FlowAt (ops:Array Oper) (U:List (Option Nat)) (E:List Bool) (i:Nat) (o:Oper):Prop where
 g:o.guard=none
 p:plainDS o=true
 lo: ∀e∈o.after,Region.binds .any e=true→e.on<i
 rd:(if E.getD i false then readsA ops i o else reads1 ops o)=true
 wr:writes1 ops i o=true
 us:uses1 U i o=true
theorem flowB_at {ops:Array Oper}{U:List (Option Nat)}{E:List Bool}(h:flowB ops U E=true){i:Nat}{o:Oper}(ho:ops[i]?=some o):FlowAt ops U E i o:=by
 unfold flowB at h;have hi:i<ops.size:=(Array.getElem?_eq_some_iff.1 ho).1;have:=List.all_eq_true.1 h i (List.mem_range.2 hi);rw[ho]at this;simp only[Bool.and_eq_true]at this;obtain⟨⟨⟨⟨⟨h1,h2⟩,h3⟩,h4⟩,h5⟩,h6⟩:=this;refine⟨by simpa using h1,h2,fun e he hb=> ?_,h4,h5,h6⟩;have:=Array.all_eq_true_iff_forall_mem.1 h3 e he
 simpa[hb]using this
theorem putAll_congr {t:Tmp}: ∀(l:List Oper) (vs vs':List Value) (a a':Act),vs.length=vs'.length→a.tmps.size=a'.tmps.size→a.tmps[t]?=a'.tmps[t]?→
 (∀(j:Nat) (o:Oper),l[j]?=some o→o.dst=some t→vs[j]?=vs'[j]?)→(putAll l vs a).tmps[t]?=(putAll l vs' a').tmps[t]?
 |[],_,_,_,_,_,_,h,_=>by unfold putAll;exact h
 |o::l,[],[],a,a',_,_,h,_=>by simpa[putAll]using h
 |o::l,[],_::_,_,_,hl,_,_,_=>by simp at hl
 |o::l,_::_,[],_,_,hl,_,_,_=>by simp at hl
 |o::l,v::vs,v'::vs',a,a',hl,hs,h,hv=>by
  unfold putAll;refine putAll_congr l vs vs' _ _ (by simpa using hl) (by rw[put_size,put_size];exact hs) ?_ (fun j o' hj hd=>by have:=hv (j+1) o' (by simpa using hj) hd;simpa using this)
  by_cases hd:o.dst=some t
  ·have h0:=hv 0 o (by simp) hd
   have h0:v=v':=by simpa using h0
   subst h0;rw[hd];simp only[Act.put];rw[Array.getElem?_setIfInBounds,Array.getElem?_setIfInBounds,hs,if_pos rfl,if_pos rfl]
  ·rw[put_other _ _ _ _ hd,put_other _ _ _ _ hd];exact h
def flowS (P:Program)(fr:(Nat→Value)→Act)(fin:(Nat→Value)→Act)(o:Oper)(i:Nat)(J:(Nat→Value)→World→Prop)(own:Bool)(ρ:Nat→Value)(W:World):Prop:=
 (∃nx v W',(execOp (fr ρ).eval o).run P W= .ok nx W'∧(nx= .value v∨nx= .skip∧v=undef)∧J (if own then updV ρ i v else ρ) W'∧ ∀d,o.dst=some d→(fin (if own then updV ρ i v else ρ)).tmps[d]?=some v)∨
 (∃f args W1,(execOp (fr ρ).eval o).run P W= .ok (.enter f args) W1∧Calls P f args W1 fun r W'=> ∃v,r= .returned v∧J (if own then updV ρ i v else ρ) W'∧ ∀d,o.dst=some d→(fin (if own then updV ρ i v else ρ)).tmps[d]?=some v)
structure FlowInv (l:List Oper) (vs:List Vl) (U:List (Option Nat)) (a0:Act) (J:(Nat→Bool)→(Nat→Value)→World→Prop) (listed:Array Bool) (a:Act) (W:World) (ρ:Nat→Value):Prop where
 size:listed.size=l.toArray.size
 tsize:a.tmps.size=a0.tmps.size
 defers:a.defers=a0.defers
 down: ∀i o,l.toArray[i]?=some o→listed.getD i false=true→ ∀j,depOn o j=true→listed.getD j false=true
 slots: ∀t,(∀j,slotOf l.toArray j=some t→listed.getD j false=true)→a.tmps[t]?=(putAll l (vs.map (valV ρ)) a0).tmps[t]?
 orig: ∀t,(∀j,slotOf l.toArray j=some t→listed.getD j false=false)→a.tmps[t]?=a0.tmps[t]?
 use: ∀i s,listed.getD i false=true→U[i]?=some (some s)→listed.getD s false=true
 word:J (fun j=>listed.getD j false) ρ W
section
variable{d:Nat} {P:Program} {l:List Oper} {vs:List Vl} {U:List (Option Nat)} {E:List Bool} {a0:Act} {J:(Nat→Bool)→(Nat→Value)→World→Prop} {Q:Exit→Act→World→Prop}
theorem flow_all {listed:Array Bool}(hB:flowB l.toArray U E=true)(hs:listed.size=l.toArray.size)(h:Region.ready .any l.toArray listed=[]): ∀(m i:Nat),i<m→i<l.toArray.size→listed.getD i false=true
 |0,i,h0,_=>by omega
 |m+1,i,hi,hl=>by
  by_cases hn:listed.getD i false=true
  ·exact hn
  ·exfalso
   have hr:i∈Region.ready .any l.toArray listed:=by refine mem_ready.2 ⟨by rw[getD_tf (by omega)];simpa using hn,l.toArray[i],Array.getElem?_eq_getElem hl,fun e he hb=> ?_⟩;have he2:=(flowB_at hB (Array.getElem?_eq_getElem hl)).lo e he hb;exact flow_all hB hs h m e.on (by omega) (by omega)
   rw[h]at hr;cases hr
theorem wpAnyIn_flow (hB:flowB l.toArray U E=true)(hU:vs.map useV=U)
 (hS: ∀(i:Nat) (o:Oper),l[i]?=some o→ ∀f ρ W,J f ρ W→f i=false→(∀j,depOn o j=true→f j=true)→(∀j s,f j=true→U[j]?=some (some s)→f s=true)→(∀s,U[i]?=some (some s)→s≠i→f s=true)→(∀(j:Nat) (o':Oper),l[j]?=some o'→f j=true→ ∀k,depOn o' k=true→f k=true)→
  flowS P (fun ρ=>if E.getD i false then a0 else putAll l (vs.map (valV ρ)) a0) (fun ρ=>putAll l (vs.map (valV ρ)) a0) o i (J fun j=>j==i||f j) (U[i]?==some (some i)) ρ W)
 (hQ: ∀f ρ W,J f ρ W→(∀i,i<l.length→f i=true)→Q .normal (putAll l (vs.map (valV ρ)) a0) W):
 ∀(fuel:Nat) (listed:Array Bool) (a:Act) (W:World) (ρ:Nat→Value),FlowInv l vs U a0 J listed a W ρ→((List.range l.toArray.size).filter (fun i=> !listed.getD i false)).length≤fuel→
  wpAnyIn Fence.wide d P .any l.toArray Q fuel listed a W:=by
 have hjl: ∀{j t},slotOf l.toArray j=some t→j<l.toArray.size:=by
  intro j t hj;unfold slotOf at hj
  rcases hx:l.toArray[j]? with _|o
  ·rw[hx]at hj;cases hj
  ·exact(Array.getElem?_eq_some_iff.1 hx).1
 have hend: ∀(listed:Array Bool) (a:Act) (W:World) (ρ:Nat→Value),FlowInv l vs U a0 J listed a W ρ→Region.ready .any l.toArray listed=[]→Q .normal a W:=by
  intro listed a W ρ I h;have hall:=flow_all hB I.size h l.toArray.size
  have ha:a=putAll l (vs.map (valV ρ)) a0:=by
   have h1:a.tmps=(putAll l (vs.map (valV ρ)) a0).tmps:=by refine Array.ext (by rw[I.tsize,putAll_size]) fun t h1 h2=> ?_;have:=I.slots t (fun j hj=>hall j (hjl hj) (hjl hj));rw[Array.getElem?_eq_getElem h1,Array.getElem?_eq_getElem h2]at this;exact Option.some.inj this
   have h3:a.defers=(putAll l (vs.map (valV ρ)) a0).defers:=by rw[I.defers,putAll_defers]
   generalize putAll l (vs.map (valV ρ)) a0=b at*;cases a;cases b;simp only at h1 h3;subst h1 h3;rfl
  rw[ha];exact hQ _ _ _ I.word (fun i hi=>hall i (by simpa using hi) (by simpa using hi))
 intro fuel
 induction fuel with
 |zero=>
  intro listed a W ρ I hf
  have h0:Region.ready .any l.toArray listed=[]:=by
   rcases h:Region.ready .any l.toArray listed with _|⟨i,rs⟩
   ·rfl
   ·exfalso
    have hi:i∈Region.ready .any l.toArray listed:=by rw[h];exact List.mem_cons_self
    obtain⟨h1,o,ho,_⟩:=mem_ready.1 hi;have hlt:=(Array.getElem?_eq_some_iff.1 ho).1;rw[getD_tf (by rw[I.size];exact hlt)]at h1;have hm:i∈(List.range l.toArray.size).filter (fun i=> !listed.getD i false):=List.mem_filter.2 ⟨List.mem_range.2 hlt,by rw[h1];rfl⟩;have:=List.length_pos_of_mem hm;omega
  exact⟨h0,hend listed a W ρ I h0⟩
 |succ fuel ih=>
  intro listed a W ρ I hf;refine⟨hend listed a W ρ I,fun i hi=> ?_⟩;obtain⟨h1,o,ho,_⟩:=mem_ready.1 hi;have hlt:=(Array.getElem?_eq_some_iff.1 ho).1
  have hol:l[i]?=some o:=by simpa using ho
  rw[getD_tf (by rw[I.size];exact hlt)]at h1;have A:=flowB_at hB ho
  have hex:execOp a.eval o=execOp (if E.getD i false then a0 else putAll l (vs.map (valV ρ)) a0).eval o:=by
   refine execOp_congr o (fun cs bb e=>by have:=A.p;unfold plainDS at this;rw[e]at this;cases this) fun x hx=>eval_same fun t ht=> ?_;subst ht;have hArd:=A.rd
   rcases hEi:E.getD i false with _|_
   case true=>
    rw[hEi,if_pos rfl]at hArd;rw[if_pos rfl];refine I.orig t fun j hj=> ?_;have:=List.all_eq_true.1 hArd (.tmp t) (by simpa using hx);simp only at this;have:=List.all_eq_true.1 this j (List.mem_range.2 (hjl hj));rw[Bool.or_eq_true]at this
    rcases this with h|h
    ·simp[hj]at h
    ·rw[Array.getElem?_eq_getElem (hjl hj)]at h;simp only at h
     rcases hlj:listed.getD j false with _|_
     ·rfl
     ·have:=I.down j _ (Array.getElem?_eq_getElem (hjl hj)) hlj i h;rw[this]at h1;cases h1
   rw[hEi,if_neg (by decide)]at hArd;rw[if_neg (by decide)];refine I.slots t fun j hj=> ?_;have:=List.all_eq_true.1 hArd (.tmp t) (by simpa using hx);simp only at this;have:=List.all_eq_true.1 this j (List.mem_range.2 (hjl hj));rw[Bool.or_eq_true]at this
   rcases this with h|h
   ·simp[hj]at h
   ·exact depOn_ready hi ho h
  have hdep: ∀j,depOn o j=true→listed.getD j false=true:=fun j h=>depOn_ready hi ho h
  have hus: ∀s,U[i]?=some (some s)→s≠i→listed.getD s false=true:=by
   intro s hs hne;have h2:=A.us;unfold uses1 at h2;rw[hs]at h2;simp only[Bool.or_eq_true]at h2
   rcases h2 with h2|h2
   ·exact absurd (by simpa using h2) hne
   ·obtain⟨j,_,hj⟩:=List.any_eq_true.1 h2;rw[Bool.and_eq_true,Bool.or_eq_true]at hj
    rcases hj.2 with h3|h3
    ·have:j=s:=by simpa using h3
     subst this;exact hdep j hj.1
    ·exact I.use j s (hdep j hj.1) (by simpa using h3)
  have hli: ∀j,(listed.setIfInBounds i true).getD j false=(j==i||listed.getD j false):=by
   intro j
   by_cases hj:i=j
   ·subst hj
    have hls:i<listed.size:=by rw[I.size];exact hlt
    have:(i==i)=true:=by simp
    rw[this,Bool.true_or,Array.getD_eq_getD_getElem?,Array.getElem?_setIfInBounds,if_pos rfl,if_pos hls];rfl
   ·rw[getD_set_ne false hj]
    have:(j==i)=false:=by simpa using fun e=>hj e.symm
    rw[this,Bool.false_or]
  have hgo: ∀(v:Value) (W':World) (ρ':Nat→Value),(ρ'=if(U[i]?==some (some i))=true then updV ρ i v else ρ)→J (fun j=>j==i||listed.getD j false) ρ' W'→(∀dd,o.dst=some dd→(putAll l (vs.map (valV ρ')) a0).tmps[dd]?=some v)→
   wpAnyIn Fence.wide d P .any l.toArray Q fuel (listed.setIfInBounds i true) (a.put o.dst v) W':=by
   intro v W' ρ' hρ hJ hdst;refine ih _ _ _ ρ' ⟨by simpa using I.size,by rw[put_size];exact I.tsize,by rw[put_defers];exact I.defers,?_,?_,?_,?_,?_⟩ ?_
   ·intro i' o' ho' hl' j hd;rw[hli]at hl'⊢;rw[Bool.or_eq_true]at hl'⊢
    rcases hl' with e|e
    ·have e:i'=i:=by simpa using e
     subst e
     rw[ho]at ho';injection ho' with ho';subst ho'
     exact .inr (hdep j hd)
    ·exact .inr (I.down i' o' ho' e j hd)
   ·intro t ht
    by_cases hd:o.dst=some t
    ·rw[hd];have hb:=hdst t hd
     have hts:t<a.tmps.size:=by have:=(Array.getElem?_eq_some_iff.1 hb).1;rw[putAll_size]at this;rw[I.tsize];exact this
     rw[hb];simp[Act.put,hts]
    ·rw[put_other _ _ _ _ hd]
     have hold: ∀j,slotOf l.toArray j=some t→listed.getD j false=true:=by
      intro j hj;have:=ht j hj;rw[hli,Bool.or_eq_true]at this
      rcases this with e|e
      ·have e:j=i:=by simpa using e
       subst e;exfalso;unfold slotOf at hj;rw[ho]at hj;exact hd hj
      ·exact e
     rw[I.slots t hold];refine putAll_congr l _ _ _ _ (by simp) rfl rfl fun j oj hj hdj=> ?_;have hlj:=hold j (by unfold slotOf;simp[hj,hdj])
     have hne:j≠i:=fun e=>by rw[e]at hlj;rw[h1]at hlj;cases hlj
     rw[List.getElem?_map,List.getElem?_map]
     rcases hvj:vs[j]? with _|x
     ·rfl
     ·have huj:U[j]?=some (useV x):=by rw[←hU,List.getElem?_map,hvj];rfl
      simp only[Option.map_some,Option.some.injEq]
      cases x with
      |inl v=>rfl
      |inr x=>
       obtain⟨s,g⟩:=x;have hs:=I.use j s hlj huj
       have hsi:s≠i:=fun e=>by rw[e]at hs;rw[h1]at hs;cases hs
       show g (ρ s)=g (ρ' s);rw[hρ]
       split
       ·rw[updV_ne _ _ hsi]
       ·rfl
   ·intro t ht
    have hdt:o.dst≠some t:=fun e=>by have h5:=ht i (by unfold slotOf;rw[ho];exact e);rw[hli]at h5;simp at h5
    rw[put_other _ _ _ _ hdt];refine I.orig t fun j hj=> ?_;have h5:=ht j hj;rw[hli,Bool.or_eq_false_iff]at h5;exact h5.2
   ·intro j s hj hs;rw[hli,Bool.or_eq_true]at hj⊢
    rcases hj with e|e
    ·have e:j=i:=by simpa using e
     subst e
     by_cases hsj:s=j
     ·left;simpa using hsj
     ·exact .inr (hus s hs hsj)
    ·exact .inr (I.use j s e hs)
   ·have:(fun j=>(listed.setIfInBounds i true).getD j false)=fun j=>j==i||listed.getD j false:=funext hli
    rw[this];exact hJ
   ·have hm:i∈(List.range l.toArray.size).filter (fun i=> !listed.getD i false):=List.mem_filter.2 ⟨List.mem_range.2 hlt,by rw[h1];rfl⟩
    have hlt2:((List.range l.toArray.size).filter (fun j=> !(listed.setIfInBounds i true).getD j false)).length<((List.range l.toArray.size).filter (fun i=> !listed.getD i false)).length:=by
     have e:(List.range l.toArray.size).filter (fun j=> !(listed.setIfInBounds i true).getD j false)=((List.range l.toArray.size).filter (fun i=> !listed.getD i false)).filter (fun j=>j !=i):=by rw[List.filter_filter];refine List.filter_congr fun j _=> ?_;rw[hli];cases h:(j==i)<;>simp[bne,h]
     rw[e];exact List.length_filter_lt_length_iff_exists.2 ⟨i,hm,by simp⟩
    omega
  have hst:=hS i o hol (fun j=>listed.getD j false) ρ W I.word h1 hdep I.use hus (fun j o' hj hl k hk=>I.down j o' (by simpa using hj) hl k hk);unfold wpOpIn;rw[ho];simp only;rw[if_pos (by simp[Region.wanted,A.g])];refine⟨fun f _=>trivial,?_⟩;rw[Oper.semAt_plain Fence.wide _ _ (by intro cc e;have:=A.p;unfold plainDS at this;rw[e]at this;cases this),hex]
  rcases hst with⟨nx,v,W',hr,hnx,hJ,hdst⟩|⟨f,args,W1,hr,hc⟩
  ·rw[hr];have:=hgo v W' _ rfl hJ hdst
   rcases hnx with rfl|⟨rfl,rfl⟩
   ·exact this
   ·exact this
  ·rw[hr];refine⟨fun e=>(by cases e),callsIn_wide.2 (hc.mono ?_)⟩;rintro e W' ⟨v,rfl,hJ,hdst⟩;exact hgo v W' _ rfl hJ hdst
theorem wpIn_region_flow {id:Nat}{w:World}(ρ0:Nat→Value)(hm:P.follows .mixedOrders=true)(hB:flowB l.toArray U E=true)(hU:vs.map useV=U)
 (hS: ∀(i:Nat) (o:Oper),l[i]?=some o→ ∀f ρ W,J f ρ W→f i=false→(∀j,depOn o j=true→f j=true)→(∀j s,f j=true→U[j]?=some (some s)→f s=true)→(∀s,U[i]?=some (some s)→s≠i→f s=true)→(∀(j:Nat) (o':Oper),l[j]?=some o'→f j=true→ ∀k,depOn o' k=true→f k=true)→
  flowS P (fun ρ=>if E.getD i false then a0 else putAll l (vs.map (valV ρ)) a0) (fun ρ=>putAll l (vs.map (valV ρ)) a0) o i (J fun j=>j==i||f j) (U[i]?==some (some i)) ρ W)
 (h0:J (fun _=>false) ρ0 w.drew) (hQ: ∀f ρ W,J f ρ W→(∀i,i<l.length→f i=true)→Q .normal (putAll l (vs.map (valV ρ)) a0) W):(Code.region id l.toArray true).wpIn Fence.wide d P Q a0 w:=by
 refine wpIn_region_any hm ?_
 have hz: ∀j,(Array.replicate l.toArray.size false).getD j false=false:=fun j=>by rw[Array.getD_eq_getD_getElem?,Array.getElem?_replicate];split<;>rfl
 refine wpAnyIn_flow (d:=d) hB hU hS hQ l.toArray.size (Array.replicate l.toArray.size false) a0 w.drew ρ0 ⟨by simp,rfl,rfl,fun i o _ h=>(by rw[hz]at h;cases h),fun t ht=> ?_,fun t _=>rfl,fun i s h _=>(by rw[hz]at h;cases h),?_⟩ ?_
 ·rw[putAll_other];intro o ho e;obtain⟨j,hj,rfl⟩:=List.mem_iff_getElem.1 ho;have:=ht j (by unfold slotOf;simp[hj,e]);rw[hz]at this;cases this
 ·have:(fun j=>(Array.replicate l.toArray.size false).getD j false)=fun _=>false:=funext hz
  rw[this];exact h0
 ·refine Nat.le_trans (List.length_filter_le _ _) ?_;simp
end
end
section
structure VarV where
 a:Nat
 st:Nat
 t:TypeId
 z:Array Value
 g:Value→Array Value
def isVar (vars:List VarV)(W:World)(k:Nat):Prop:= ∃m∈vars,Blk W k m.t m.z
def varJ (w:World)(c:Nat)(vars:List VarV)(R:Value→Prop)(T:Value→World→Prop)(f:Nat→Bool)(ρ:Nat→Value)(W:World):Prop:=
 Aft w W∧(f c=true→R (ρ c)∧ ∀W',Frm (fun k=> ∃m∈vars,f m.a=true∧ρ m.a= .pointer (some ⟨k,0,none⟩)) W W'→T (ρ c) W')∧
 (∀m∈vars,f m.a=true→ ∃q,ρ m.a= .pointer (some ⟨q,0,none⟩)∧w.heap.size≤q∧Blk W q m.t (if f m.st then m.g (ρ c)else m.z))∧
 (∀m∈vars,∀m'∈vars,m.a≠m'.a→f m.a=true→f m'.a=true→ρ m.a≠ρ m'.a)
def varO (P:Program)(w:World)(c:Nat)(vars:List VarV)(R:Value→Prop)(T:Value→World→Prop)(fr:(Nat→Value)→Act)(o:Oper)(i:Nat)(k:Nat×Nat)(u:Option Nat)(x:Vl):Prop:=
 match k with
 |(0,_)=> ∀ρ W,Aft w W→(u=some c→R (ρ c))→(execOp (fr ρ).eval o).run P W= .ok (.value (valV ρ x)) W
 |(1,_)=>(∀ρ,valV ρ x=ρ i)∧ ∀ρ W,Aft w W→ ∃fn args,(execOp (fr ρ).eval o).run P W= .ok (.enter fn args) W∧Calls P fn args W fun r W1=> ∃v,r= .returned v∧R v∧Aft W W1∧ ∀W',Frm (fun k=>w.heap.size≤k∧k<W.heap.size∧isVar vars W1 k) W1 W'→T v W'
 |(2,m)=>(∀ρ,valV ρ x=ρ i)∧match vars[m]? with
  |some mv=> ∀ρ W,(execOp (fr ρ).eval o).run P W= .ok (.value (.pointer (some ⟨W.heap.size,0,none⟩))) (W.alloc (.cells mv.z mv.t))
  |none=>False
 |(3,m)=>match vars[m]? with
  |some mv=> ∀ρ W q,ρ mv.a= .pointer (some ⟨q,0,none⟩)→R (ρ c)→Blk W q mv.t mv.z→ ∃W',(execOp (fr ρ).eval o).run P W= .ok .skip W'∧Blk W' q mv.t (mv.g (ρ c))∧Frm (fun k=>k=q) W W'
  |none=>False
 |_=>False
def kindB (l:List Oper)(U:List (Option Nat))(c:Nat)(av:List (Nat×Nat))(K:List (Nat×Nat)):Bool:=
 U.length==l.length && K.length==l.length && K[c]?==some (1,0) && U[c]?==some (some c) && decide (av.map (·.1)).Nodup &&
 (List.range l.length).all (fun i=>match K[i]?,l[i]?,U[i]? with
  |some (0,_),some _,some u=>u !=some i && i !=c && av.all fun m=>m.1 !=i && m.2 !=i
  |some (1,_),some _,some _=>i==c
  |some (2,m),some _,some u=>u==some i && i !=c && (match av[m]? with|some x=>x.1==i|none=>false) && av.all fun m=>m.2 !=i
  |some (3,m),some o,some u=>u==some c && i !=c && o.dst.isNone && (match av[m]? with|some x=>x.2==i && depOn o x.1|none=>false) && av.all fun m=>m.1 !=i
  |_,_,_=>false) &&
 (List.range av.length).all (fun m=>match av[m]? with|some x=>K[x.1]?==some (2,m) && K[x.2]?==some (3,m)|none=>false)
def varL (P:Program)(w:World)(c:Nat)(vars:List VarV)(R:Value→Prop)(T:Value→World→Prop)(a0:Act)(fin:(Nat→Value)→Act):Nat→List Oper→List (Nat×Nat)→List (Option Nat)→List Vl→List Bool→Prop
 |i,o::l,k::K,u::U,x::vs,e::E=>varO P w c vars R T (if e then fun _=>a0 else fin) o i k u x∧varL P w c vars R T a0 fin (i+1) l K U vs E
 |i,o::l,k::K,u::U,x::vs,[]=>varO P w c vars R T fin o i k u x∧varL P w c vars R T a0 fin (i+1) l K U vs []
 |_,_,_,_,_,_=>True
theorem varL_at {P:Program}{w:World}{c:Nat}{vars:List VarV}{R:Value→Prop}{T:Value→World→Prop}{a0:Act}{fin:(Nat→Value)→Act}:
 ∀{n:Nat} {l:List Oper} {K:List (Nat×Nat)} {U:List (Option Nat)} {vs:List Vl} {E:List Bool},varL P w c vars R T a0 fin n l K U vs E→
  ∀(i:Nat) (o:Oper) (k:Nat×Nat) (u:Option Nat) (x:Vl),l[i]?=some o→K[i]?=some k→U[i]?=some u→vs[i]?=some x→varO P w c vars R T (fun ρ=>if E.getD i false then a0 else fin ρ) o (n+i) k u x
 |_,[],_,_,_,_,_,i,o,k,u,x,h,_,_,_=>by simp at h
 |_,_::_,[],_,_,_,_,i,o,k,u,x,_,h,_,_=>by simp at h
 |_,_::_,_::_,[],_,_,_,i,o,k,u,x,_,_,h,_=>by simp at h
 |_,_::_,_::_,_::_,[],_,_,i,o,k,u,x,_,_,_,h=>by simp at h
 |n,o'::l,k'::K,u'::U,x'::vs,e::E,h,0,o,k,u,x,h1,h2,h3,h4=>by
  have e1:o'=o:=by simpa using h1
  have e2:k'=k:=by simpa using h2
  have e3:u'=u:=by simpa using h3
  have e4:x'=x:=by simpa using h4
  subst e1 e2 e3 e4;have:=h.1;cases e
  ·exact this
  ·exact this
 |n,o'::l,k'::K,u'::U,x'::vs,[],h,0,o,k,u,x,h1,h2,h3,h4=>by
  have e1:o'=o:=by simpa using h1
  have e2:k'=k:=by simpa using h2
  have e3:u'=u:=by simpa using h3
  have e4:x'=x:=by simpa using h4
  subst e1 e2 e3 e4;exact h.1
 |n,o'::l,k'::K,u'::U,x'::vs,e::E,h,i+1,o,k,u,x,h1,h2,h3,h4=>by
  have:=varL_at h.2 i o k u x (by simpa using h1) (by simpa using h2) (by simpa using h3) (by simpa using h4);rw[Nat.add_assoc,Nat.add_comm 1 i]at this;exact this
 |n,o'::l,k'::K,u'::U,x'::vs,[],h,i+1,o,k,u,x,h1,h2,h3,h4=>by
  have:=varL_at h.2 i o k u x (by simpa using h1) (by simpa using h2) (by simpa using h3) (by simpa using h4);rw[Nat.add_assoc,Nat.add_comm 1 i]at this;exact this
theorem putAll_at {t:Tmp}: ∀(l:List Oper) (vs:List Value) (a:Act) (i:Nat) (o:Oper) (v:Value),l[i]?=some o→o.dst=some t→vs[i]?=some v→
 (∀(j:Nat) (o':Oper),l[j]?=some o'→o'.dst=some t→j=i)→t<a.tmps.size→(putAll l vs a).tmps[t]?=some v
 |[],_,_,i,_,_,h,_,_,_,_=>by simp at h
 |_::_,[],_,i,_,_,_,_,h,_,_=>by simp at h
 |o'::l,v'::vs,a,0,o,v,h1,h2,h3,h4,h5=>by
  have e1:o'=o:=by simpa using h1
  have e3:v'=v:=by simpa using h3
  subst e1 e3;unfold putAll;rw[putAll_other]
  ·rw[h2];simp[Act.put,h5]
  ·intro o2 ho2 hd;obtain⟨j,hj,rfl⟩:=List.mem_iff_getElem.1 ho2;have:=h4 (j+1) l[j] (by simp[hj]) hd;omega
 |o'::l,v'::vs,a,i+1,o,v,h1,h2,h3,h4,h5=>by
  unfold putAll;refine putAll_at l vs _ i o v (by simpa using h1) h2 (by simpa using h3) (fun j o2 hj hd=> ?_) (by rw[put_size];exact h5);have:=h4 (j+1) o2 (by simpa using hj) hd;omega
theorem inj_of_nodup: ∀{vars:List VarV},(vars.map VarV.a).Nodup→ ∀m∈vars,∀m'∈vars,m.a=m'.a→m=m'
 |[],_,m,hm,_,_,_=>by cases hm
 |x::vars,h,m,hm,m',hm',e=>by
  rw[List.map_cons,List.nodup_cons]at h
  rcases List.mem_cons.1 hm with rfl|h1
  ·rcases List.mem_cons.1 hm' with rfl|h2
   ·rfl
   ·exact absurd (List.mem_map.2 ⟨m',h2,e.symm⟩) h.1
  ·rcases List.mem_cons.1 hm' with rfl|h2
   ·exact absurd (List.mem_map.2 ⟨m,h1,e⟩) h.1
   ·exact inj_of_nodup h.2 m h1 m' h2 e
def dstB (l:List Oper)(n:Nat):Bool:=l.all fun o=>match o.dst with|some t=>decide (t<n)|none=>true
section
variable{d:Nat} {P:Program} {l:List Oper} {vs:List Vl} {U:List (Option Nat)} {E:List Bool} {a0:Act} {Q:Exit→Act→World→Prop} {w:World} {c:Nat} {vars:List VarV} {K:List (Nat×Nat)} {av:List (Nat×Nat)} {R:Value→Prop} {T:Value→World→Prop}
theorem wpIn_region_vars {id:Nat}(hm:P.follows .mixedOrders=true)(hB:flowB l.toArray U E=true)(hU:vs.map useV=U)(hav:vars.map (fun m=>(m.a,m.st))=av)(hK:kindB l U c av K=true)(hn:dstB l a0.tmps.size=true)
 (hL:varL P w c vars R T a0 (fun ρ=>putAll l (vs.map (valV ρ)) a0) 0 l K U vs E)
 (hQ: ∀ρ W,Aft w W→R (ρ c)→T (ρ c) W→(∀m∈vars,∃q,ρ m.a= .pointer (some ⟨q,0,none⟩)∧w.heap.size≤q∧Blk W q m.t (m.g (ρ c)))→(∀m∈vars,∀m'∈vars,m.a≠m'.a→ρ m.a≠ρ m'.a)→Q .normal (putAll l (vs.map (valV ρ)) a0) W):
 (Code.region id l.toArray true).wpIn Fence.wide d P Q a0 w:=by
 unfold kindB at hK;simp only[Bool.and_eq_true]at hK;obtain⟨⟨⟨⟨⟨⟨hK1,hK2⟩,hK3⟩,hK4⟩,hK5⟩,hK6⟩,hK7⟩:=hK
 have hK1:U.length=l.length:=by simpa using hK1
 have hK2:K.length=l.length:=by simpa using hK2
 have hK3:K[c]?=some (1,0):=by simpa using hK3
 have hK4:U[c]?=some (some c):=by simpa using hK4
 have hnod:(vars.map VarV.a).Nodup:=by have h:=of_decide_eq_true hK5;rw[←hav,List.map_map]at h;exact h
 have hvl:vs.length=l.length:=by rw[←hK1,←hU,List.length_map]
 have hcl:c<l.length:=by rw[←hK2];exact(List.getElem?_eq_some_iff.1 hK3).1
 have hvar: ∀(n:Nat) (m:VarV),vars[n]?=some m→K[m.a]?=some (2,n)∧K[m.st]?=some (3,n):=by
  intro n m hnm
  have h1:av[n]?=some (m.a,m.st):=by rw[←hav,List.getElem?_map,hnm];rfl
  have:=List.all_eq_true.1 hK7 n (List.mem_range.2 (List.getElem?_eq_some_iff.1 h1).1);rw[h1]at this
  simpa using this
 have hmem: ∀m∈vars,∃n:Nat,vars[n]?=some m:=fun m hm=>List.getElem?_of_mem hm
 have hka: ∀m∈vars,∃n:Nat,K[m.a]?=some (2,n):=fun m hm=>by obtain⟨n,h⟩:=hmem m hm;exact⟨n,(hvar n m h).1⟩
 have hks: ∀m∈vars,∃n:Nat,K[m.st]?=some (3,n):=fun m hm=>by obtain⟨n,h⟩:=hmem m hm;exact⟨n,(hvar n m h).2⟩
 have hac: ∀m∈vars,m.a≠c:=fun m hm e=>by obtain⟨n,h⟩:=hka m hm;rw[e,hK3]at h;cases h
 have hsc: ∀m∈vars,m.st≠c:=fun m hm e=>by obtain⟨n,h⟩:=hks m hm;rw[e,hK3]at h;cases h
 have has: ∀m∈vars,∀m'∈vars,m.a≠m'.st:=fun m hm m' hm' e=>by obtain⟨n,h⟩:=hka m hm;obtain⟨n',h'⟩:=hks m' hm';rw[e,h']at h;cases h
 have hst: ∀m∈vars,∀m'∈vars,m.st=m'.st→m=m':=fun m hm m' hm' e=>by
  obtain⟨n,h⟩:=hmem m hm;obtain⟨n',h'⟩:=hmem m' hm';have h1:=(hvar n m h).2;have h2:=(hvar n' m' h').2;rw[e,h2]at h1
  have e2:n'=n:=by simpa using h1
  subst e2;rw[h]at h';exact Option.some.inj h'
 have hrow: ∀i,i<l.length→(match K[i]?,l[i]?,U[i]? with
  |some (0,_),some _,some u=>u !=some i && i !=c && av.all fun m=>m.1 !=i && m.2 !=i
  |some (1,_),some _,some _=>i==c
  |some (2,m),some _,some u=>u==some i && i !=c && (match av[m]? with|some x=>x.1==i|none=>false) && av.all fun m=>m.2 !=i
  |some (3,m),some o,some u=>u==some c && i !=c && o.dst.isNone && (match av[m]? with|some x=>x.2==i && depOn o x.1|none=>false) && av.all fun m=>m.1 !=i
  |_,_,_=>false)=true:=fun i hi=>List.all_eq_true.1 hK6 i (List.mem_range.2 hi)
 have hsu: ∀m∈vars,U[m.st]?=some (some c)∧ ∃o,l[m.st]?=some o∧depOn o m.a=true∧o.dst=none:=by
  intro m hm;obtain⟨n,h⟩:=hmem m hm;have h1:=(hvar n m h).2
  have hlt:m.st<l.length:=by rw[←hK2];exact(List.getElem?_eq_some_iff.1 h1).1
  have h2:=hrow m.st hlt
  have h3:av[n]?=some (m.a,m.st):=by rw[←hav,List.getElem?_map,h];rfl
  rw[h1,List.getElem?_eq_getElem hlt]at h2
  rcases hu:U[m.st]? with _|u
  ·rw[hu]at h2;cases h2
  ·rw[hu]at h2;simp only[h3,Bool.and_eq_true]at h2;obtain⟨⟨⟨⟨g1,_⟩,g3⟩,_,g4⟩,_⟩:=h2;exact⟨by simpa using g1,_,List.getElem?_eq_getElem hlt,g4,by simpa using g3⟩
 refine wpIn_region_flow (J:=varJ w c vars R T) (fun _=>undef) hm hB hU ?_ ?_ ?_
 ·intro i o ho f ρ W hJ hfi hd hI hu hdn;have hil:i<l.length:=(List.getElem?_eq_some_iff.1 ho).1;obtain⟨hA,hC,hV,hD⟩:=hJ;have hki:K[i]?=some K[i]:=List.getElem?_eq_getElem (by omega);have hui:U[i]?=some U[i]:=List.getElem?_eq_getElem (by omega);have hvi:vs[i]?=some vs[i]:=List.getElem?_eq_getElem (by omega);have hO:=varL_at hL i o _ _ _ ho hki hui hvi;rw[Nat.zero_add]at hO;have hr:=hrow i hil;rw[hki,ho,hui]at hr
  have hstf: ∀m∈vars,f c=false→f m.st=false:=fun m hm hc=>by
   rcases h:f m.st with _|_
   ·rfl
   ·have:=hI m.st c h (hsu m hm).1;rw[hc]at this;cases this
  have hstf2: ∀m∈vars,f m.a=false→f m.st=false:=fun m hm ha=>by
   rcases h:f m.st with _|_
   ·rfl
   ·obtain⟨o',h1,h2,_⟩:=(hsu m hm).2;have:=hdn m.st o' h1 h m.a h2;rw[ha]at this;cases this
  have hone: ∀ρ' v,((vs.map (valV ρ'))[i]?=some v)→ ∀dd,o.dst=some dd→(putAll l (vs.map (valV ρ')) a0).tmps[dd]?=some v:=by
   intro ρ' v hv dd hdd;refine putAll_at l _ a0 i o v ho hdd hv (fun j o' hj hdj=> ?_) ?_
   ·have h5:=(flowB_at hB (i:=i) (o:=o) (by simpa using ho)).wr;unfold writes1 at h5;rw[hdd]at h5
    have hjl:j<l.toArray.size:=by simpa using(List.getElem?_eq_some_iff.1 hj).1
    have:=List.all_eq_true.1 h5 j (List.mem_range.2 hjl);rw[Bool.or_eq_true]at this
    rcases this with h|h
    ·simpa using h
    ·simp[slotOf,hj,hdj]at h
   ·have:=List.all_eq_true.1 hn o (List.mem_of_getElem? ho);rw[hdd]at this
    simpa using this
  obtain⟨G,hG⟩: ∃G:Nat→Bool,(fun j=>j==i||f j)=G:=⟨_,rfl⟩;rw[hG]
  have hfe: ∀j,j≠i→G j=f j:=fun j h=>by
   have h2:(j==i)=false:=by simpa using h
   rw[←hG];simp only[h2,Bool.false_or]
  have hGi:G i=true:=by rw[←hG];simp
  clear hG
  rcases hk:K[i]with⟨kk,km⟩
  rw[hk]at hO hr
  match kk,hO,hr with
  |0,hO,hr=>
   simp only[Bool.and_eq_true]at hr;obtain⟨⟨g1,g2⟩,g3⟩:=hr
   have g1:U[i]≠some i:=by simpa using g1
   have g2:i≠c:=by simpa using g2
   have g3: ∀m∈vars,m.a≠i∧m.st≠i:=fun m hm=>by
    have:=List.all_eq_true.1 g3 (m.a,m.st) (by rw[←hav];exact List.mem_map.2 ⟨m,hm,rfl⟩)
    simpa using this
   have hown:(U[i]?==some (some i))=false:=by rw[hui];simpa using g1
   rw[hown];refine .inl ⟨_,_,W,hO ρ W hA (fun e=>(hC (hu c (by rw[hui,e]) (fun h=>g2 h.symm))).1),.inl rfl,?_,hone ρ _ (by rw[List.getElem?_map,hvi];rfl)⟩;refine⟨hA,fun h=> ?_,fun m hm h=> ?_,fun m hm m' hm' hne h h'=> ?_⟩
   ·rw[hfe c (fun e=>g2 e.symm)]at h;refine⟨(hC h).1,fun W' hF=>(hC h).2 W' (hF.mono fun k _ ⟨m,hm,h1,h2⟩=>⟨m,hm,?_,h2⟩)⟩
    rwa [hfe _ (g3 m hm).1]at h1
   ·rw[hfe _ (g3 m hm).1]at h;rw[hfe _ (g3 m hm).2];exact hV m hm h
   ·rw[hfe _ (g3 m hm).1]at h;rw[hfe _ (g3 m' hm').1]at h';exact hD m hm m' hm' hne h h'
  |1,hO,hr=>
   have e:i=c:=by simpa using hr
   subst e
   have hown:(U[i]?==some (some i))=true:=by rw[hK4];simp
   rw[hown];obtain⟨hx,hO⟩:=hO;obtain⟨fn,args,hrun,hcall⟩:=hO ρ W hA;refine .inr ⟨fn,args,W,hrun,hcall.mono ?_⟩;rintro r W1 ⟨v,rfl,hR,hW1,hT⟩;refine⟨v,rfl,?_,hone _ v (by rw[List.getElem?_map,hvi,Option.map_some,if_pos rfl,hx,updV_same])⟩;rw[if_pos rfl];refine⟨hA.trans hW1,fun _=>⟨by rw[updV_same];exact hR,fun W' hF=> ?_⟩,fun m hm h=> ?_,fun m hm m' hm' hne h h'=> ?_⟩
   ·rw[updV_same];refine hT W' (hF.mono fun k _ ⟨m,hm,h1,h2⟩=> ?_);rw[hfe _ (hac m hm)]at h1;rw[updV_ne _ _ (hac m hm)]at h2;obtain⟨q,h3,h4,h5⟩:=hV m hm h1;rw[h3]at h2
    have e:q=k:=by simpa using h2
    subst e;rw[hstf m hm hfi]at h5;exact⟨h4,h5.lt,m,hm,h5.aft hW1⟩
   ·rw[hfe _ (hac m hm)]at h;rw[hfe _ (hsc m hm),updV_ne _ _ (hac m hm)];obtain⟨q,h3,h4,h5⟩:=hV m hm h;rw[hstf m hm hfi]at h5⊢;exact⟨q,h3,h4,h5.aft hW1⟩
   ·rw[hfe _ (hac m hm)]at h;rw[hfe _ (hac m' hm')]at h';rw[updV_ne _ _ (hac m hm),updV_ne _ _ (hac m' hm')];exact hD m hm m' hm' hne h h'
  |2,hO,hr=>
   simp only[Bool.and_eq_true]at hr;obtain⟨⟨⟨g1,g2⟩,g3⟩,g4⟩:=hr
   have g1:U[i]=some i:=by simpa using g1
   have g2:i≠c:=by simpa using g2
   have hown:(U[i]?==some (some i))=true:=by rw[hui,g1];simp
   rw[hown]
   rcases hmv:vars[km]? with _|mv
   ·have:av[km]?=none:=by rw[←hav,List.getElem?_map,hmv];rfl
    rw[this]at g3;cases g3
   have hav1:av[km]?=some (mv.a,mv.st):=by rw[←hav,List.getElem?_map,hmv];rfl
   rw[hav1]at g3
   have e:mv.a=i:=by simpa using g3
   subst e;have hmm:mv∈vars:=List.mem_of_getElem? hmv;have g4: ∀m∈vars,m.st≠mv.a:=fun m hm=>fun e=>has mv hmm m hm e.symm;obtain⟨hx,hO⟩:=hO;rw[hmv]at hO;refine .inl ⟨_,_,_,hO ρ W,.inl rfl,?_,hone _ _ (by rw[List.getElem?_map,hvi,Option.map_some,if_pos rfl,hx,updV_same])⟩;rw[if_pos rfl];have hne: ∀m∈vars,m≠mv→m.a≠mv.a:=fun m hm h e=>h (inj_of_nodup hnod m hm mv hmm e);refine⟨hA.alloc _,fun h=> ?_,fun m hm h=> ?_,fun m hm m' hm' hne' h h'=> ?_⟩
   ·rw[hfe c (fun e=>g2 e.symm)]at h;rw[updV_ne _ _ (fun e=>g2 e.symm)];refine⟨(hC h).1,fun W' hF=>(hC h).2 W' (((Frm.refl _ W).alloc _).trans hF fun k hk ⟨m,hm,h1,h2⟩=> ?_)⟩
    by_cases hma:m.a=mv.a
    ·rw[hma,updV_same]at h2;simp at h2
    ·rw[hfe _ hma]at h1;rw[updV_ne _ _ hma]at h2;exact⟨m,hm,h1,h2⟩
   ·by_cases hma:m.a=mv.a
    ·obtain rfl:=inj_of_nodup hnod m hm mv hmm hma;rw[updV_same,hfe _ (g4 m hm),hstf2 m hm hfi];exact⟨_,rfl,hA.le,Blk.new W _ _⟩
    ·rw[hfe _ hma]at h;rw[updV_ne _ _ hma,hfe _ (g4 m hm),updV_ne _ _ (fun e=>g2 e.symm)];obtain⟨q,h3,h4,h5⟩:=hV m hm h;exact⟨q,h3,h4,h5.alloc _⟩
   ·have key: ∀m∈vars,m.a≠mv.a→f m.a=true→ρ m.a≠ .pointer (some ⟨W.heap.size,0,none⟩):=by
     intro m hm _ hf e;obtain⟨q,h3,_,h5⟩:=hV m hm hf;rw[h3]at e
     have e:q=W.heap.size:=by simpa using e
     have:=h5.lt;omega
    by_cases hma:m.a=mv.a
    ·have hma':m'.a≠mv.a:=fun e=>hne' (by rw[hma,e]);rw[hfe _ hma']at h';rw[hma,updV_same,updV_ne _ _ hma'];exact fun e=>key m' hm' hma' h' e.symm
    ·by_cases hma':m'.a=mv.a
     ·rw[hfe _ hma]at h;rw[hma',updV_same,updV_ne _ _ hma];exact key m hm hma h
     ·rw[hfe _ hma]at h;rw[hfe _ hma']at h';rw[updV_ne _ _ hma,updV_ne _ _ hma'];exact hD m hm m' hm' hne' h h'
  |3,hO,hr=>
   simp only[Bool.and_eq_true]at hr;obtain⟨⟨⟨⟨g1,g2⟩,g5⟩,g3⟩,g4⟩:=hr
   have g1:U[i]=some c:=by simpa using g1
   have g2:i≠c:=by simpa using g2
   have g5:o.dst=none:=by simpa using g5
   have hown:(U[i]?==some (some i))=false:=by rw[hui,g1];simpa using fun e=>g2 e.symm
   rw[hown]
   rcases hmv:vars[km]? with _|mv
   ·have:av[km]?=none:=by rw[←hav,List.getElem?_map,hmv];rfl
    rw[this]at g3;cases g3
   have hav1:av[km]?=some (mv.a,mv.st):=by rw[←hav,List.getElem?_map,hmv];rfl
   rw[hav1]at g3;simp only[Bool.and_eq_true]at g3
   have e:mv.st=i:=by simpa using g3.1
   subst e;have hmm:mv∈vars:=List.mem_of_getElem? hmv;have hfa:f mv.a=true:=hd _ g3.2;have hfc:f c=true:=hu c (by rw[hui,g1]) (fun e=>g2 e.symm);have g4: ∀m∈vars,m.a≠mv.st:=fun m hm=>has m hm mv hmm;obtain⟨q,h3,h4,h5⟩:=hV mv hmm hfa;rw[hfi]at h5;unfold varO at hO;simp only[hmv]at hO;obtain⟨W',hrun,hb,hF⟩:=hO ρ W q h3 (hC hfc).1 h5;refine .inl ⟨.skip,undef,W',hrun,.inr ⟨rfl,rfl⟩,?_,fun dd hdd=>by rw[g5]at hdd;cases hdd⟩;rw[if_neg (by decide)];refine⟨Below.trans hA (hF.below hA.le (fun k hk e=>by omega)),fun h=> ?_,fun m hm h=> ?_,fun m hm m' hm' hne h h'=> ?_⟩
   ·refine⟨(hC hfc).1,fun W2 hF2=>(hC hfc).2 W2 (Frm.trans (hF.mono (F':=fun k=> ∃m∈vars,f m.a=true∧ρ m.a= .pointer (some ⟨k,0,none⟩)) fun k _ e=>⟨mv,hmm,hfa,by rw[h3,e]⟩) hF2 fun k _ ⟨m,hm,h1,h2⟩=>⟨m,hm,?_,h2⟩)⟩
    rwa [hfe _ (g4 m hm)]at h1
   ·rw[hfe _ (g4 m hm)]at h
    by_cases hms:m=mv
    ·subst hms;refine⟨q,h3,h4,?_⟩;rw[hGi];exact hb
    ·obtain⟨q',k3,k4,k5⟩:=hV m hm h;have hne:q'≠q:=fun e=>hD m hm mv hmm (fun e2=>hms (inj_of_nodup hnod m hm mv hmm e2)) h hfa (by rw[k3,h3,e]);rw[hfe _ (fun e=>hms (hst m hm mv hmm e))];exact⟨q',k3,k4,k5.frm hF hne⟩
   ·rw[hfe _ (g4 m hm)]at h;rw[hfe _ (g4 m' hm')]at h';exact hD m hm m' hm' hne h h'
  |kk+4,hO,hr=>exact hO.elim
 ·exact⟨(Aft.refl w).drew,fun h=>(nomatch h),fun m _ h=>(nomatch h),fun m _ m' _ _ h=>(nomatch h)⟩
 ·intro f ρ W ⟨hA,hC,hV,hD⟩ hall;have hfc:=hall c hcl
  have hfa: ∀m∈vars,f m.a=true:=fun m hm=>by obtain⟨n,h⟩:=hka m hm;exact hall _ (by rw[←hK2];exact(List.getElem?_eq_some_iff.1 h).1)
  have hfs: ∀m∈vars,f m.st=true:=fun m hm=>by obtain⟨n,h⟩:=hks m hm;exact hall _ (by rw[←hK2];exact(List.getElem?_eq_some_iff.1 h).1)
  refine hQ ρ W hA (hC hfc).1 ((hC hfc).2 W (Frm.refl _ W)) (fun m hm=> ?_) (fun m hm m' hm' hne=>hD m hm m' hm' hne (hfa m hm) (hfa m' hm'));obtain⟨q,h3,h4,h5⟩:=hV m hm (hfa m hm);rw[hfs m hm]at h5;exact⟨q,h3,h4,h5⟩
end
end
end Go.Proofs.YtplpbmkdfabfpaaGreat
