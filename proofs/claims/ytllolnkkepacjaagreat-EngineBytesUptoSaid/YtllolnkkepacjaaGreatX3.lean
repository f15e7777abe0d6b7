/- Sequences: the plain word; what is so of level runs. Chains of runs: each run stands in just one; what Sequences answers as one list. The places of a chain of runs: all kept characters, each once; one behind the other, but for isolates. Chains of runs: one to one, of one level, their places. -/
import Derived.Test.YtllolnkkepacjaaGreatH6
import Derived.Test.YtllolnkkepacjaaGreatSp2
namespace Go.Proofs.YtllolnkkepacjaaGreat
open Go.RowKit
section
theorem grp_flat (lv:List Int)(l:List Int):(grp lv l).flatten=l:=by
 fun_induction grp lv l with
 |case1=>rfl
 |case2 a t ih=>rw[List.flatten_cons,ih,List.cons_append,List.take_append_drop]
theorem grp_ne (lv:List Int)(l:List Int): ∀g∈grp lv l,g≠[]:=by
 fun_induction grp lv l with
 |case1=>simp
 |case2 a t ih=>
  intro g hg
  rcases List.mem_cons.1 hg with rfl|h
  ·simp
  ·exact ih g h
theorem grp_level (lv:List Int)(l:List Int): ∀g∈grp lv l,∀y∈g,lvAt lv y=lvAt lv (g.getD 0 0):=by
 fun_induction grp lv l with
 |case1=>simp
 |case2 a t ih=>
  intro g hg
  rcases List.mem_cons.1 hg with rfl|h
  ·intro y hy
   rcases List.mem_cons.1 hy with rfl|h2
   ·simp
   ·obtain⟨i,hi,rfl⟩:=List.getElem_of_mem h2
    have h3:i<spanN lv (lvAt lv a) t:=by have:=hi;simp at this;omega
    have h4:i<t.length:=by have:=hi;simp at this;omega
    have:=spanN_in lv (lvAt lv a) t i h3;rw[List.getD_eq_getElem?_getD,List.getElem?_eq_getElem h4]at this
    simpa using this
  ·exact ih g h
theorem keptT_pw (l:List Int): ∀k,(keptT l k).Pairwise (· < ·)
 |0=>by simp[keptT]
 |k+1=>by
  have ih:=keptT_pw l k;unfold keptT
  split
  ·exact ih
  ·rw[List.pairwise_append];refine⟨ih,by simp,?_⟩;intro x hx y hy;obtain⟨a,rfl,h,_⟩:=keptT_mem.1 hx;rw[List.mem_singleton]at hy;subst hy;omega
theorem keptL_pw (l:List Int):(keptL l).Pairwise (· < ·):=keptT_pw l _
theorem keptL_mem {l:List Int}{x:Int}:x∈keptL l↔ ∃a:Nat,x=a∧a<l.length∧remC (l.getD a 0)=false:=keptT_mem
structure RunsGood (n:Nat) (cl:List Int) (rs:List Rn):Prop where
 lo: ∀i,i<rs.length→(rs.getD i default).f<(rs.getD i default).t
 hi: ∀i,i<rs.length→(rs.getD i default).t≤n
 kept: ∀i,i<rs.length→remC (cl.getD (rs.getD i default).f 0)=false
 lt: ∀i j,i<j→j<rs.length→(rs.getD i default).t≤(rs.getD j default).f
theorem getD_mem0 {α:Type} [Inhabited α]{l:List α}(d:α){i:Nat}(h:i<l.length):l.getD i d∈l:=by rw[List.getD_eq_getElem?_getD,List.getElem?_eq_getElem h];exact List.getElem_mem h
theorem runL_get (lv ks:List Int){i:Nat}(h:i<(runL lv ks).length):(runL lv ks).getD i default=toRn lv ((grp lv ks).getD i []):=by
 have h':i<(grp lv ks).length:=by unfold runL at h;simpa using h
 unfold runL;rw[List.getD_eq_getElem?_getD,List.getElem?_map,List.getElem?_eq_getElem h',List.getD_eq_getElem?_getD,List.getElem?_eq_getElem h'];rfl
theorem runs_good (lv cl:List Int):RunsGood cl.length cl (runL lv (keptL cl)):=by
 have hfl:=grp_flat lv (keptL cl);have hpw:=keptL_pw cl;rw[←hfl,List.pairwise_flatten]at hpw;obtain⟨h1,h2⟩:=hpw
 have key: ∀i,i<(runL lv (keptL cl)).length→ ∃g,(grp lv (keptL cl)).getD i []=g∧g∈grp lv (keptL cl)∧ ∃a b:Nat,g.getD 0 0=a∧g.getD (g.length-1) 0=b∧(a:Int)∈g∧(b:Int)∈g∧a≤b∧a<cl.length∧b<cl.length∧remC (cl.getD a 0)=false∧
  (runL lv (keptL cl)).getD i default=⟨a,b+1,lvAt lv a⟩:=by
  intro i hi
  have h':i<(grp lv (keptL cl)).length:=by unfold runL at hi;simpa using hi
  have hg:(grp lv (keptL cl)).getD i []∈grp lv (keptL cl):=getD_mem0 _ h';refine⟨_,rfl,hg,?_⟩;have hne:=grp_ne lv _ _ hg;rw[runL_get lv _ hi];generalize (grp lv (keptL cl)).getD i []=g at*;have hl:0<g.length:=List.length_pos_iff.2 hne;have m0:g.getD 0 0∈g:=getD_mem0 _ hl;have m1:g.getD (g.length-1) 0∈g:=getD_mem0 _ (by omega)
  have k0:g.getD 0 0∈keptL cl:=by rw[←hfl];exact List.mem_flatten_of_mem hg m0
  have k1:g.getD (g.length-1) 0∈keptL cl:=by rw[←hfl];exact List.mem_flatten_of_mem hg m1
  obtain⟨a,ea,la,ra⟩:=keptL_mem.1 k0;obtain⟨b,eb,lb,rb⟩:=keptL_mem.1 k1
  have hle:g.getD 0 0≤g.getD (g.length-1) 0:=by
   rcases Nat.eq_zero_or_pos (g.length-1)with h0|h0
   ·rw[h0];exact Int.le_refl _
   ·have:=List.pairwise_iff_getElem.1 (h1 g hg) 0 (g.length-1) hl (by omega) h0;rw[List.getD_eq_getElem?_getD,List.getElem?_eq_getElem hl,List.getD_eq_getElem?_getD,List.getElem?_eq_getElem (by omega)]
    simpa using Int.le_of_lt this
  refine⟨a,b,ea,eb,by rw[←ea];exact m0,by rw[←eb];exact m1,by rw[ea,eb]at hle;omega,la,lb,ra,?_⟩;unfold toRn;rw[ea,eb];simp
 refine⟨?_,?_,?_,?_⟩
 ·intro i hi;obtain⟨g,_,_,a,b,_,_,_,_,hab,_,_,_,e⟩:=key i hi;rw[e];simp;omega
 ·intro i hi;obtain⟨g,_,_,a,b,_,_,_,_,hab,_,hb,_,e⟩:=key i hi;rw[e];simp;omega
 ·intro i hi;obtain⟨g,_,_,a,b,_,_,_,_,_,_,_,hr,e⟩:=key i hi;rw[e];exact hr
 ·intro i j hij hj;obtain⟨g,eg,_,a,b,_,_,_,mb,_,_,_,_,e⟩:=key i (by omega);obtain⟨g',eg',_,a',b',_,_,ma',_,_,_,_,_,e'⟩:=key j hj;rw[e,e']
  have hj':j<(grp lv (keptL cl)).length:=by unfold runL at hj;simpa using hj
  have:=List.pairwise_iff_getElem.1 h2 i j (by omega) hj' hij;rw[List.getD_eq_getElem?_getD,List.getElem?_eq_getElem (by omega)]at eg;rw[List.getD_eq_getElem?_getD,List.getElem?_eq_getElem hj']at eg';simp only[Option.getD_some]at eg eg';rw[eg,eg']at this;have:=this _ mb _ ma';simp only;omega
def findR (rs:List Rn)(a:Int):Nat→Int
 |0=> -1
 |k+1=>if(((rs.getD k default).f:Nat):Int)=a then(k:Int)else findR rs a k
theorem findR_spec (rs:List Rn)(a:Int): ∀k,findR rs a k= -1∨ ∃j:Nat,findR rs a k=j∧j<k∧(((rs.getD j default).f:Nat):Int)=a
 |0=>.inl rfl
 |k+1=>by
  unfold findR
  split
  ·rename_i h;exact .inr ⟨k,rfl,by omega,h⟩
  ·rcases findR_spec rs a k with h|⟨j,h1,h2,h3⟩
   ·exact .inl h
   ·exact .inr ⟨j,h1,by omega,h3⟩
def lastP (r:Rn):Int:=(r.t:Int)-1
def nxT (cl mt:List Int)(rs:List Rn)(i:Nat):Int:=if begI (lvAt cl (lastP (rs.getD i default)))=true then findR rs (lvAt mt (lastP (rs.getD i default))) rs.length else-1
def ledT (m:Nat)(nx:Nat→Int):Nat→List Bool
 |0=>List.replicate m false
 |i+1=>if 0≤nx i then(ledT m nx i).set (nx i).toNat true else ledT m nx i
theorem ledT_length (m:Nat)(nx:Nat→Int): ∀i,(ledT m nx i).length=m
 |0=>by simp[ledT]
 |i+1=>by have:=ledT_length m nx i;unfold ledT;split<;>simp[this]
def chT (nx:Nat→Int):Nat→Int→List Nat
 |0,_=>[]
 |fu+1,k=>if k<0 then []else k.toNat::chT nx fu (nx k.toNat)
def NxGood (m:Nat)(nx:Nat→Int):Prop:= ∀i,i<m→nx i= -1∨ ∃j:Nat,nx i=j∧i<j∧j<m
theorem chT_neg (nx:Nat→Int)(fu:Nat):chT nx fu (-1)=[]:=by cases fu<;>simp[chT]
theorem chT_fuel {m:Nat}{nx:Nat→Int}(h:NxGood m nx): ∀(fu k:Nat),k<m→m-k≤fu→chT nx fu k=chT nx (m-k) k
 |0,k,h1,h2=>by omega
 |fu+1,k,h1,h2=>by
  obtain⟨d,hd⟩: ∃d,m-k=d+1:=⟨m-k-1,by omega⟩;rw[hd];unfold chT;rw[if_neg (by omega),if_neg (by omega)];have ht:((k:Int)).toNat=k:=rfl;rw[ht];congr 1
  rcases h k h1 with e|⟨j,e,hj1,hj2⟩
  ·rw[e,chT_neg,chT_neg]
  ·rw[e,chT_fuel h fu j hj2 (by omega),chT_fuel h d j hj2 (by omega)]
termination_by fu=>fu
theorem chT_step {m:Nat}{nx:Nat→Int}(h:NxGood m nx){k:Nat}(hk:k<m):chT nx (m-k) k=k::(if nx k<0 then []else chT nx (m-(nx k).toNat) (nx k)):=by
 obtain⟨d,hd⟩: ∃d,m-k=d+1:=⟨m-k-1,by omega⟩;rw[hd];rw[chT,if_neg (by omega)];have ht:((k:Int)).toNat=k:=rfl;rw[ht];congr 1
 rcases h k hk with e|⟨j,e,hj1,hj2⟩
 ·rw[e,chT_neg,if_pos (by omega)]
 ·rw[e,if_neg (by omega)];exact chT_fuel h d j hj2 (by omega)
theorem chT_bound {n m:Nat}{cl:List Int}{rs:List Rn}(G:RunsGood n cl rs)(hm:m=rs.length){nx:Nat→Int}(h:NxGood m nx): ∀(fu k:Nat),k<m→
 (((chT nx fu k).map (fun i=>rs.getD i default)).map (fun r=>r.t-r.f)).sum≤n-(rs.getD k default).f∧ ∀i∈chT nx fu k,i<m
 |0,k,hk=>by simp[chT]
 |fu+1,k,hk=>by
  unfold chT;rw[if_neg (by omega)];have ht:((k:Int)).toNat=k:=rfl;rw[ht];have h1:=G.hi k (by omega);have h2:=G.lo k (by omega)
  rcases h k hk with e|⟨j,e,hj1,hj2⟩
  ·rw[e,chT_neg];simp only[List.map_cons,List.map_nil,List.sum_cons,List.sum_nil,List.mem_singleton];exact⟨by omega,fun i e=>by subst e;exact hk⟩
  ·rw[e];have ih:=chT_bound G hm h fu j hj2;have h3:=G.lt k j hj1 (by omega);have h4:=G.hi j (by omega);have h5:=G.lo j (by omega);constructor
   ·rw[List.map_cons,List.map_cons,List.sum_cons];omega
   ·intro i hi
    rcases List.mem_cons.1 hi with rfl|hi
    ·exact hk
    ·exact ih.2 i hi
theorem begB: ∀c:Int,begI c=begins c:=fun _=>rfl
theorem match_behind {l:List Int}{a:Nat}(h:a<l.length)(hb:begI (l.getD a 0)=true): ∃y:Nat,(matchL l).getD a 0=y∧a<y∧y≤l.length:=by
 have M:=mInv_run l.length l (Nat.le_refl _)
 have e:l[a]?=some (l.getD a 0):=by rw[List.getD_eq_getElem?_getD,List.getElem?_eq_getElem h];rfl
 rw[begB]at hb
 have hm:(matchL l).getD a 0=((mRun l.length l).1[a]?).getD 0:=by rw[List.getD_eq_getElem?_getD];rfl
 rcases M.kind a _ e with⟨_,h2⟩|⟨h1,_⟩|⟨y,h1,_,h3,h4⟩
 ·rw[h2]at hb;cases hb
 ·exact⟨l.length,by rw[hm,h1];rfl,h,Nat.le_refl _⟩
 ·rcases h4 with⟨h5,_,_⟩|⟨_,h6,_⟩
  ·exact⟨y,by rw[hm,h1];rfl,h5,by omega⟩
  ·rw[h6]at hb;simp[begins]at hb
theorem nx_good (lv cl:List Int):NxGood (runL lv (keptL cl)).length (nxT cl (matchL cl) (runL lv (keptL cl))):=by
 intro i hi;have G:=runs_good lv cl;generalize runL lv (keptL cl)=rs at*;unfold nxT
 split
 ·rename_i hb
  rcases findR_spec rs (lvAt (matchL cl) (lastP (rs.getD i default))) rs.length with h|⟨j,h1,h2,h3⟩
  ·exact .inl h
  ·refine .inr ⟨j,h1,?_,h2⟩;have g1:=G.lo i hi;have g2:=G.hi i hi
   have hp:lastP (rs.getD i default)=(((rs.getD i default).t-1:Nat):Int):=by unfold lastP;omega
   rw[hp]at hb h3;obtain⟨y,e,hy,_⟩:=match_behind (l:=cl) (a:=(rs.getD i default).t-1) (by omega) hb;have e':lvAt (matchL cl) (((rs.getD i default).t-1:Nat):Int)=y:=e;rw[e']at h3
   have h4:(rs.getD i default).f<(rs.getD j default).f:=by omega
   rcases Nat.lt_trichotomy i j with h5|h5|h5
   ·exact h5
   ·subst h5;omega
   ·have:=G.lt j i h5 hi;have:=G.lo j h2;omega
 ·exact .inl rfl
def badK (lv nw:List Int)(a:Int):Bool:=decide (lvAt lv a<0)||decide (126<lvAt lv a)||remC (lvAt nw a)
def ixT (n:Nat)(ks:List Int):Nat→List Int
 |0=>List.replicate n 0
 |k+1=>(ixT n ks k).set (ks.getD k 0).toNat (k:Int)
theorem ixT_length (n:Nat)(ks:List Int): ∀k,(ixT n ks k).length=n
 |0=>by simp[ixT]
 |k+1=>by simp[ixT,ixT_length n ks k]
theorem ixT_bound (n:Nat)(ks:List Int): ∀k a,0≤(ixT n ks k).getD a 0∧(ixT n ks k).getD a 0≤(k:Int)
 |0,a=>by
  simp only[ixT];rw[List.getD_eq_getElem?_getD,List.getElem?_replicate]
  split<;>simp
 |k+1,a=>by
  have ih:=ixT_bound n ks k a;simp only[ixT];rw[List.getD_eq_getElem?_getD]at*;rw[List.getElem?_set]
  split
  ·split
   ·simp;omega
   ·simp;omega
  ·omega
def outT (x:Txt)(rs:List Rn)(nx:Nat→Int)(ld:List Bool):Nat→List Sq
 |0=>[]
 |i+1=>if ld.getD i false=true then outT x rs nx ld i else outT x rs nx ld i++[seqOf x ((chT nx (rs.length-i) i).map (fun k=>rs.getD k default))]
def txtOf (cl nw lv:List Int)(base:Int):Txt:=⟨cl,nw,lv,base,keptL cl,ixT cl.length (keptL cl) (keptL cl).length,matchL cl⟩
def seqsOf (x:Txt)(rs:List Rn):List Sq:=outT x rs (nxT x.cl x.mt rs) (ledT rs.length (nxT x.cl x.mt rs) rs.length) rs.length
def seqsL (cl nw lv:List Int)(base:Int):List Sq×Int:=
 if nw.length≠cl.length∨lv.length≠cl.length∨(base≠0∧base≠1)then([],2)
 else if(keptL cl).any (badK lv nw)=true then([],170)
 else(seqsOf (txtOf cl nw lv base) (runL lv (keptL cl)),0)
end
section
section
variable{m:Nat} {nx:Nat→Int}
def NxInj (m:Nat)(nx:Nat→Int):Prop:= ∀i i' j:Nat,i<m→i'<m→nx i=j→nx i'=j→i=i'
theorem led_iff (h:NxGood m nx): ∀k,k≤m→ ∀j,j<m→((ledT m nx k).getD j false=true↔ ∃i,i<k∧nx i=(j:Int))
 |0,_,j,hj=>by
  simp only[ledT];rw[List.getD_eq_getElem?_getD,List.getElem?_replicate,if_pos hj];simp
 |k+1,hk,j,hj=>by
  have ih:=led_iff h k (by omega) j hj;have hl:=ledT_length m nx k;unfold ledT
  split
  ·rename_i h0
   rcases h k (by omega)with e|⟨q,e,hq1,hq2⟩
   ·omega
   ·rw[e,Int.toNat_natCast]
    by_cases hqj:q=j
    ·subst hqj;rw[List.getD_eq_getElem?_getD,List.getElem?_set_self (by omega)];exact⟨fun _=>⟨k,by omega,e⟩,fun _=>rfl⟩
    ·rw[List.getD_eq_getElem?_getD,List.getElem?_set_ne hqj,←List.getD_eq_getElem?_getD,ih];constructor
     ·rintro⟨i,hi,h2⟩;exact⟨i,by omega,h2⟩
     ·rintro⟨i,hi,h2⟩;refine⟨i,?_,h2⟩
      rcases Nat.lt_or_ge i k with h3|h3
      ·exact h3
      ·have e2:i=k:=by omega
       rw[e2,e]at h2;omega
  ·rename_i h0
   rw[ih];constructor
   ·rintro⟨i,hi,h2⟩;exact⟨i,by omega,h2⟩
   ·rintro⟨i,hi,h2⟩;refine⟨i,?_,h2⟩
    rcases Nat.lt_or_ge i k with h3|h3
    ·exact h3
    ·have e2:i=k:=by omega
     rw[e2]at h2;omega
def ch (m:Nat)(nx:Nat→Int)(i:Nat):List Nat:=chT nx (m-i) i
theorem ch_neg (h:NxGood m nx){i:Nat}(hi:i<m)(hn:nx i= -1):ch m nx i=[i]:=by unfold ch;rw[chT_step h hi,if_pos (by omega)]
theorem ch_go (h:NxGood m nx){i j:Nat}(hi:i<m)(hn:nx i=(j:Int)):ch m nx i=i::ch m nx j:=by unfold ch;rw[chT_step h hi,if_neg (by omega),hn,Int.toNat_natCast]
theorem ch_ind (h:NxGood m nx){p:Nat→Prop}(h0: ∀i,i<m→nx i= -1→p i)(h1: ∀i j:Nat,i<m→i<j→j<m→nx i=j→p j→p i): ∀(d i:Nat),i<m→m-i≤d→p i
 |0,i,hi,hd=>by omega
 |d+1,i,hi,hd=>by
  rcases h i hi with e|⟨j,e,hj1,hj2⟩
  ·exact h0 i hi e
  ·exact h1 i j hi hj1 hj2 e (ch_ind h h0 h1 d j hj2 (by omega))
theorem ch_ge (h:NxGood m nx){i:Nat}(hi:i<m): ∀j∈ch m nx i,i≤j∧j<m:=by
 refine ch_ind h (p:=fun i=> ∀j∈ch m nx i,i≤j∧j<m) (fun i hi e=> ?_) (fun i j hi hij hj e ih=> ?_) (m-i) i hi (Nat.le_refl _)
 ·rw[ch_neg h hi e];intro j hj;simp at hj;omega
 ·rw[ch_go h hi e];intro k hk
  rcases List.mem_cons.1 hk with rfl|hk
  ·omega
  ·have:=ih k hk;omega
theorem ch_pw (h:NxGood m nx){i:Nat}(hi:i<m):(ch m nx i).Pairwise (· < ·):=by
 refine ch_ind h (p:=fun i=>(ch m nx i).Pairwise (· < ·)) (fun i hi e=> ?_) (fun i j hi hij hj e ih=> ?_) (m-i) i hi (Nat.le_refl _)
 ·rw[ch_neg h hi e];exact List.pairwise_singleton _ _
 ·rw[ch_go h hi e];exact List.pairwise_cons.2 ⟨fun k hk=>by have:=ch_ge h hj k hk;omega,ih⟩
theorem ch_self (h:NxGood m nx){i:Nat}(hi:i<m):i∈ch m nx i:=by
 rcases h i hi with e|⟨j,e,_,_⟩
 ·rw[ch_neg h hi e];simp
 ·rw[ch_go h hi e];simp
theorem ch_succ (h:NxGood m nx){i:Nat}(hi:i<m): ∀j∈ch m nx i,∀k:Nat,nx j=k→k∈ch m nx i:=by
 refine ch_ind h (p:=fun i=> ∀j∈ch m nx i,∀k:Nat,nx j=k→k∈ch m nx i) (fun i hi e=> ?_) (fun i j hi hij hj e ih=> ?_) (m-i) i hi (Nat.le_refl _)
 ·rw[ch_neg h hi e];intro j hj k hk;simp at hj;subst hj;omega
 ·rw[ch_go h hi e];intro q hq k hk
  rcases List.mem_cons.1 hq with rfl|hq
  ·rw[hk]at e
   have e2:k=j:=by omega
   subst e2;exact List.mem_cons_of_mem _ (ch_self h hj)
  ·exact List.mem_cons_of_mem _ (ih q hq k hk)
theorem ch_pred (h:NxGood m nx){i:Nat}(hi:i<m): ∀j∈ch m nx i,j=i∨ ∃k∈ch m nx i,nx k=(j:Int):=by
 refine ch_ind h (p:=fun i=> ∀j∈ch m nx i,j=i∨ ∃k∈ch m nx i,nx k=(j:Int)) (fun i hi e=> ?_) (fun i j hi hij hj e ih=> ?_) (m-i) i hi (Nat.le_refl _)
 ·rw[ch_neg h hi e];intro j hj;simp at hj;exact .inl hj
 ·rw[ch_go h hi e];intro q hq
  rcases List.mem_cons.1 hq with rfl|hq
  ·exact .inl rfl
  ·right
   rcases ih q hq with rfl|⟨k,hk,h2⟩
   ·exact⟨i,List.mem_cons_self,e⟩
   ·exact⟨k,List.mem_cons_of_mem _ hk,h2⟩
def leadB (m:Nat)(nx:Nat→Int)(i:Nat):Bool:= !(ledT m nx m).getD i false
theorem lead_iff (h:NxGood m nx){j:Nat}(hj:j<m):leadB m nx j=true↔ ∀i,i<m→nx i≠(j:Int):=by
 have:=led_iff h m (Nat.le_refl _) j hj;unfold leadB
 rcases hb:(ledT m nx m).getD j false with _|_
 ·rw[hb]at this;simp only[Bool.not_false,true_iff];intro i hi e;have:=this.2 ⟨i,hi,e⟩;cases this
 ·rw[hb]at this;simp only[Bool.not_true,Bool.false_eq_true,false_iff];intro h2;obtain⟨i,hi,e⟩:=this.1 rfl;exact h2 i hi e
theorem ch_cover (h:NxGood m nx): ∀(d j:Nat),j<d→j<m→ ∃i,i<m∧leadB m nx i=true∧j∈ch m nx i
 |0,j,hd,_=>by omega
 |d+1,j,hd,hj=>by
  by_cases hl:leadB m nx j=true
  ·exact⟨j,hj,hl,ch_self h hj⟩
  ·have hl2: ¬ ∀i,i<m→nx i≠(j:Int):=fun h2=>hl ((lead_iff h hj).2 h2);obtain⟨i,hi⟩:=Classical.not_forall.1 hl2
   have him:i<m:=by
    rcases Nat.lt_or_ge i m with h3|h3
    ·exact h3
    ·exact absurd (fun h4=>absurd h4 (by omega)) hi
   have he:nx i=(j:Int):=by
    rcases Classical.em (nx i=(j:Int))with h3|h3
    ·exact h3
    ·exact absurd (fun _=>h3) hi
   have hij:i<j:=by rcases h i him with e|⟨q,e,h1,_⟩<;>omega
   obtain⟨k,h1,h2,h3⟩:=ch_cover h d i (by omega) him;exact⟨k,h1,h2,ch_succ h h1 i h3 j he⟩
theorem ch_once (h:NxGood m nx)(hI:NxInj m nx){i i':Nat}(hi:i<m)(hi':i'<m)(hl:leadB m nx i=true)(hl':leadB m nx i'=true): ∀(d j:Nat),j<d→j∈ch m nx i→j∈ch m nx i'→i=i'
 |0,j,hd,_,_=>by omega
 |d+1,j,hd,h1,h2=>by
  rcases ch_pred h hi j h1 with e1|⟨k,hk,e1⟩
  ·rcases ch_pred h hi' j h2 with e2|⟨k',hk',e2⟩
   ·rw[←e1,←e2]
   ·have:=(lead_iff h hi).1 hl k' (ch_ge h hi' k' hk').2;rw[←e1]at this;exact absurd e2 this
  ·rcases ch_pred h hi' j h2 with e2|⟨k',hk',e2⟩
   ·have:=(lead_iff h hi').1 hl' k (ch_ge h hi k hk).2;rw[←e2]at this;exact absurd e1 this
   ·have hkm:=(ch_ge h hi k hk).2;have hkm':=(ch_ge h hi' k' hk').2;have e3:=hI k k' j hkm hkm' e1 e2;subst e3
    have hkj:k<j:=by rcases h k hkm with e|⟨q,e,h3,_⟩<;>omega
    exact ch_once h hI hi hi' hl hl' d k (by omega) hk hk'
def leads (m:Nat)(nx:Nat→Int):List Nat:=(List.range m).filter (leadB m nx)
theorem leads_mem {i:Nat}:i∈leads m nx↔i<m∧leadB m nx i=true:=by unfold leads;rw[List.mem_filter,List.mem_range]
theorem leads_pw:(leads m nx).Pairwise (· < ·):=List.Pairwise.filter _ List.pairwise_lt_range
theorem chains_nodup (h:NxGood m nx)(hI:NxInj m nx):((leads m nx).flatMap (ch m nx)).Nodup:=by unfold List.Nodup;rw[List.pairwise_flatMap];refine⟨fun i hi=>(ch_pw h (leads_mem.1 hi).1).imp (fun h e=>by omega),?_⟩;refine List.Pairwise.imp_of_mem ?_ leads_pw;intro i i' hi hi' hlt x hx y hy e;subst e;have:=ch_once h hI (leads_mem.1 hi).1 (leads_mem.1 hi').1 (leads_mem.1 hi).2 (leads_mem.1 hi').2 (x+1) x (by omega) hx hy;omega
theorem chains_perm (h:NxGood m nx)(hI:NxInj m nx):((leads m nx).flatMap (ch m nx)).Perm (List.range m):=by
 refine(List.perm_ext_iff_of_nodup (chains_nodup h hI) List.nodup_range).2 fun j=> ?_;rw[List.mem_flatMap,List.mem_range];constructor
 ·rintro⟨i,hi,hj⟩;exact(ch_ge h (leads_mem.1 hi).1 j hj).2
 ·intro hj;obtain⟨i,h1,h2,h3⟩:=ch_cover h (j+1) j (by omega) hj;exact⟨i,leads_mem.2 ⟨h1,h2⟩,h3⟩
end
theorem outT_eq (x:Txt)(rs:List Rn)(nx:Nat→Int): ∀k,outT x rs nx (ledT rs.length nx rs.length) k=((List.range k).filter (leadB rs.length nx)).map fun i=>seqOf x ((ch rs.length nx i).map fun j=>rs.getD j default)
 |0=>rfl
 |k+1=>by
  have ih:=outT_eq x rs nx k;unfold outT;rw[List.range_succ,List.filter_append,List.map_append,←ih]
  rcases hb:(ledT rs.length nx rs.length).getD k false with _|_
  ·have e:leadB rs.length nx k=true:=by unfold leadB;rw[hb];rfl
   rw[if_neg (by decide),List.filter_cons,if_pos e];rfl
  ·have e:leadB rs.length nx k=false:=by unfold leadB;rw[hb];rfl
   rw[if_pos rfl,List.filter_cons,if_neg (by rw[e];decide)];simp
theorem sorted_ext: ∀{l l':List Int},l.Pairwise (· < ·)→l'.Pairwise (· < ·)→(∀x,x∈l↔x∈l')→l=l'
 |[],[],_,_,_=>rfl
 |[],b::t,_,_,h=>by have:=(h b).2 List.mem_cons_self;cases this
 |a::t,[],_,_,h=>by have:=(h a).1 List.mem_cons_self;cases this
 |a::t,b::t',h1,h2,h=>by
  obtain⟨p1,p2⟩:=List.pairwise_cons.1 h1;obtain⟨q1,q2⟩:=List.pairwise_cons.1 h2
  have e:a=b:=by
   rcases List.mem_cons.1 ((h a).1 List.mem_cons_self)with e|e
   ·exact e
   ·rcases List.mem_cons.1 ((h b).2 List.mem_cons_self)with e2|e2
    ·exact e2.symm
    ·have:=p1 b e2;have:=q1 a e;omega
  subst e;congr 1;refine sorted_ext p2 q2 fun x=>⟨fun hx=> ?_,fun hx=> ?_⟩
  ·rcases List.mem_cons.1 ((h x).1 (List.mem_cons_of_mem _ hx))with e|e
   ·have:=p1 x hx;omega
   ·exact e
  ·rcases List.mem_cons.1 ((h x).2 (List.mem_cons_of_mem _ hx))with e|e
   ·have:=q1 x hx;omega
   ·exact e
theorem rangeP_pw (cl:List Int)(f:Nat): ∀k,(rangeP cl f k).Pairwise (· < ·)
 |0=>List.Pairwise.nil
 |k+1=>by
  unfold rangeP
  split
  ·exact rangeP_pw cl f k
  ·refine List.pairwise_append.2 ⟨rangeP_pw cl f k,List.pairwise_singleton _ _,fun x hx y hy=> ?_⟩;obtain⟨a,h1,_,h2,_⟩:=rangeP_mem.1 hx;rw[List.mem_singleton]at hy;omega
structure Grps (lv cl:List Int) (gs:List (List Int)):Prop where
 flat:gs.flatten=keptL cl
 ne: ∀g∈gs,g≠[]
 level: ∀g∈gs,∀y∈g,lvAt lv y=lvAt lv (g.getD 0 0)
 pw: ∀g∈gs,g.Pairwise (· < ·)
 ord:gs.Pairwise fun g g'=> ∀x∈g,∀y∈g',x<y
theorem grps (lv cl:List Int):Grps lv cl (grp lv (keptL cl)):=by have hpw:=keptL_pw cl;rw[←grp_flat lv (keptL cl),List.pairwise_flatten]at hpw;exact⟨grp_flat _ _,grp_ne _ _,grp_level _ _,hpw.1,hpw.2⟩
section
variable{lv cl:List Int} {gs:List (List Int)}
theorem Grps.kept (h:Grps lv cl gs){g:List Int}(hg:g∈gs){x:Int}(hx:x∈g): ∃a:Nat,x=a∧a<cl.length∧remC (cl.getD a 0)=false:=keptL_mem.1 (by rw[←h.flat];exact List.mem_flatten_of_mem hg hx)
theorem pw_le {g:List Int}(h:g.Pairwise (· < ·)){i j:Nat}(hij:i≤j)(hj:j<g.length):g.getD i 0≤g.getD j 0:=by
 rw[List.getD_eq_getElem?_getD,List.getD_eq_getElem?_getD,List.getElem?_eq_getElem (by omega),List.getElem?_eq_getElem hj];simp only[Option.getD_some]
 rcases Nat.lt_or_ge i j with h1|h1
 ·exact Int.le_of_lt (List.pairwise_iff_getElem.1 h i j (by omega) hj h1)
 ·have e:i=j:=by omega
  subst e;exact Int.le_refl _
theorem mem_ends {g:List Int}(h:g.Pairwise (· < ·)){x:Int}(hx:x∈g):g.getD 0 0≤x∧x≤g.getD (g.length-1) 0:=by
 obtain⟨i,hi,rfl⟩:=List.mem_iff_getElem.1 hx
 have e:g[i]=g.getD i 0:=by rw[List.getD_eq_getElem?_getD,List.getElem?_eq_getElem hi];rfl
 rw[e];exact⟨pw_le h (by omega) hi,pw_le h (by omega) (by omega)⟩
theorem Grps.between (h:Grps lv cl gs){g:List Int}(hg:g∈gs){x y:Int}(hx:x∈g)(hy:y∈g){a:Nat}(h1:x≤a)(h2:(a:Int)≤y)(ha:a<cl.length)(hr:remC (cl.getD a 0)=false):(a:Int)∈g:=by
 have hm:(a:Int)∈gs.flatten:=by rw[h.flat];exact keptL_mem.2 ⟨a,rfl,ha,hr⟩
 obtain⟨g',hg',hm'⟩:=List.mem_flatten.1 hm;obtain⟨i,hi,rfl⟩:=List.mem_iff_getElem.1 hg;obtain⟨j,hj,rfl⟩:=List.mem_iff_getElem.1 hg'
 rcases Nat.lt_trichotomy i j with h3|h3|h3
 ·have:=List.pairwise_iff_getElem.1 h.ord i j hi hj h3 y hy _ hm';omega
 ·subst h3;exact hm'
 ·have:=List.pairwise_iff_getElem.1 h.ord j i hj hi h3 _ hm' x hx;omega
theorem Grps.run (h:Grps lv cl gs){g:List Int}(hg:g∈gs):runP cl (toRn lv g)=g:=by
 have hp:=h.pw g hg;have hl:0<g.length:=List.length_pos_iff.2 (h.ne g hg);obtain⟨a,ea,la,ra⟩:=h.kept hg (getD_mem0 (0:Int) (l:=g) (i:=0) hl);obtain⟨b,eb,lb,rb⟩:=h.kept hg (getD_mem0 (0:Int) (l:=g) (i:=g.length-1) (by omega));have hab:=pw_le hp (i:=0) (j:=g.length-1) (by omega) (by omega)
 have hF:(toRn lv g).f=a:=by show(g.getD 0 0).toNat=a;rw[ea];rfl
 have hT:(toRn lv g).t=b+1:=by show(g.getD (g.length-1) 0).toNat+1=b+1;rw[eb];rfl
 refine sorted_ext (rangeP_pw _ _ _) hp fun x=> ?_;show x∈rangeP cl (toRn lv g).f ((toRn lv g).t-(toRn lv g).f)↔_;rw[rangeP_mem,hF,hT];constructor
 ·rintro⟨c,rfl,h1,h2,h3⟩;exact h.between hg (getD_mem0 (0:Int) (l:=g) (i:=0) hl) (getD_mem0 (0:Int) (l:=g) (i:=g.length-1) (by omega)) (by omega) (by omega) (by omega) h3
 ·intro hx;obtain⟨c,rfl,h1,h2⟩:=h.kept hg hx;have:=mem_ends hp hx;exact⟨c,rfl,by omega,by omega,h2⟩
end
theorem match_back {cl:List Int}{a y:Nat}(ha:a<cl.length)(hm:(matchL cl).getD a 0=(y:Int))(hy:y<cl.length):(matchL cl).getD y 0=(a:Int):=by
 have M:=mInv_run cl.length cl (Nat.le_refl _)
 have e:cl[a]?=some (cl.getD a 0):=by rw[List.getD_eq_getElem?_getD,List.getElem?_eq_getElem ha];rfl
 have h1:((mRun cl.length cl).1[a]?).getD 0=(y:Int):=by rw[←hm,List.getD_eq_getElem?_getD];rfl
 have h2:(matchL cl).getD y 0=((mRun cl.length cl).1[y]?).getD 0:=by rw[List.getD_eq_getElem?_getD];rfl
 rw[h2]
 rcases M.kind a _ e with⟨h3,_⟩|⟨h3,_⟩|⟨z,h3,h4,_,_⟩
 ·rw[h3]at h1;simp only[Option.getD_some]at h1;omega
 ·rw[h3]at h1;simp only[Option.getD_some]at h1;omega
 ·rw[h3]at h1
  have e2:z=y:=by simp only[Option.getD_some]at h1;omega
  subst e2;rw[h4];rfl
theorem fm_congr {α β:Type}{f g:α→List β}: ∀{l:List α},(∀x∈l,f x=g x)→l.flatMap f=l.flatMap g
 |[],_=>rfl
 |a::l,h=>by rw[List.flatMap_cons,List.flatMap_cons,h a List.mem_cons_self,fm_congr fun x hx=>h x (List.mem_cons_of_mem _ hx)]
section
variable{lv cl:List Int}
def grpAt (lv cl:List Int)(i:Nat):List Int:=(grp lv (keptL cl)).getD i []
def rnL (lv cl:List Int):List Rn:=runL lv (keptL cl)
def nxQ (lv cl:List Int):Nat→Int:=nxT cl (matchL cl) (rnL lv cl)
theorem rnL_len:(rnL lv cl).length=(grp lv (keptL cl)).length:=by unfold rnL runL;rw[List.length_map]
theorem grpAt_mem {i:Nat}(h:i<(rnL lv cl).length):grpAt lv cl i∈grp lv (keptL cl):=getD_mem0 _ (by rw[←rnL_len];exact h)
theorem rnL_at {i:Nat}(h:i<(rnL lv cl).length):(rnL lv cl).getD i default=toRn lv (grpAt lv cl i):=runL_get lv _ h
theorem first_last {i:Nat}(h:i<(rnL lv cl).length): ∃a b:Nat,(grpAt lv cl i).getD 0 0=a∧(grpAt lv cl i).getD ((grpAt lv cl i).length-1) 0=b∧a<cl.length∧b<cl.length∧a≤b∧
 (a:Int)∈grpAt lv cl i∧(b:Int)∈grpAt lv cl i∧((rnL lv cl).getD i default).f=a∧lastP ((rnL lv cl).getD i default)=b∧((rnL lv cl).getD i default).v=lvAt lv a:=by
 have H:=grps lv cl;have hg:=grpAt_mem h;have hl:0<(grpAt lv cl i).length:=List.length_pos_iff.2 (H.ne _ hg);have m0:=getD_mem0 (0:Int) (l:=grpAt lv cl i) (i:=0) hl;have m1:=getD_mem0 (0:Int) (l:=grpAt lv cl i) (i:=(grpAt lv cl i).length-1) (by omega);obtain⟨a,ea,la,_⟩:=H.kept hg m0;obtain⟨b,eb,lb,_⟩:=H.kept hg m1;have hab:=pw_le (H.pw _ hg) (i:=0) (j:=(grpAt lv cl i).length-1) (by omega) (by omega);rw[rnL_at h]
 have hF:(toRn lv (grpAt lv cl i)).f=a:=by show((grpAt lv cl i).getD 0 0).toNat=a;rw[ea];rfl
 have hT:(toRn lv (grpAt lv cl i)).t=b+1:=by show((grpAt lv cl i).getD ((grpAt lv cl i).length-1) 0).toNat+1=b+1;rw[eb];rfl
 refine⟨a,b,ea,eb,la,lb,by omega,by rw[←ea];exact m0,by rw[←eb];exact m1,hF,?_,?_⟩
 ·unfold lastP;rw[hT];omega
 ·show lvAt lv ((grpAt lv cl i).getD 0 0)=_;rw[ea]
theorem nxQ_good:NxGood (rnL lv cl).length (nxQ lv cl):=nx_good lv cl
theorem nxQ_spec {i j:Nat}(h:i<(rnL lv cl).length)(hn:nxQ lv cl i=(j:Int)):j<(rnL lv cl).length∧i<j∧ ∃a b:Nat,(grpAt lv cl j).getD 0 0=a∧(grpAt lv cl i).getD ((grpAt lv cl i).length-1) 0=b∧a<cl.length∧b<cl.length∧
 begI (cl.getD b 0)=true∧(matchL cl).getD b 0=(a:Int):=by
 have hg:i<j∧j<(rnL lv cl).length:=by
  rcases nxQ_good (lv:=lv) (cl:=cl) i h with e|⟨q,e,h1,h2⟩<;>rw[hn]at e
  ·omega
  ·have e2:q=j:=by omega
   subst e2;exact⟨h1,h2⟩
 obtain⟨a',b,ea',eb,la',lb,_,_,_,_,hL,_⟩:=first_last h;obtain⟨a,b',ea,eb',la,lb',_,_,_,hF,_,_⟩:=first_last hg.2;refine⟨hg.2,hg.1,a,b,ea,eb,la,lb,?_⟩;have hn2:=hn;unfold nxQ nxT at hn2;rw[hL]at hn2
 split at hn2
 ·rename_i hb
  refine⟨hb,?_⟩
  rcases findR_spec (rnL lv cl) (lvAt (matchL cl) b) (rnL lv cl).length with e|⟨q,e,h1,h2⟩
  ·rw[hn2]at e;omega
  ·rw[hn2]at e
   have e2:q=j:=by omega
   subst e2;rw[hF]at h2;exact h2.symm
 ·omega
theorem grp_lt {i j:Nat}(hij:i<j)(hj:j<(rnL lv cl).length){x y:Int}(hx:x∈grpAt lv cl i)(hy:y∈grpAt lv cl j):x<y:=by have hl:=rnL_len (lv:=lv) (cl:=cl);have:=List.pairwise_iff_getElem.1 (grps lv cl).ord i j (by omega) (by omega) hij;unfold grpAt at hx hy;rw[List.getD_eq_getElem?_getD,List.getElem?_eq_getElem (by omega)]at hx hy;exact this x hx y hy
theorem nxQ_inj:NxInj (rnL lv cl).length (nxQ lv cl):=by
 intro i i' j hi hi' h1 h2;obtain⟨_,_,a,b,e1,e2,la,lb,_,hm⟩:=nxQ_spec hi h1;obtain⟨_,_,a',b',e1',e2',la',lb',_,hm'⟩:=nxQ_spec hi' h2;rw[e1]at e1'
 have ea:a=a':=by omega
 subst ea;have m1:=match_back lb hm la;have m2:=match_back lb' hm' la;rw[m1]at m2
 have eb:b=b':=by omega
 subst eb;obtain⟨_,c,_,ec,_,_,_,_,mc,_⟩:=first_last hi;obtain⟨_,c',_,ec',_,_,_,_,mc',_⟩:=first_last hi'
 rcases Nat.lt_trichotomy i i' with h3|h3|h3
 ·have:=grp_lt h3 hi' mc mc';rw[ec]at e2;rw[ec']at e2';omega
 ·exact h3
 ·have:=grp_lt h3 hi mc' mc;rw[ec]at e2;rw[ec']at e2';omega
def LvMt (lv cl:List Int):Prop:= ∀a y:Nat,a<cl.length→begI (cl.getD a 0)=true→(matchL cl).getD a 0=(y:Int)→y<cl.length→lv.getD y 0=lv.getD a 0
theorem nxQ_level (H:LvMt lv cl){i j:Nat}(h:i<(rnL lv cl).length)(hn:nxQ lv cl i=(j:Int)):((rnL lv cl).getD j default).v=((rnL lv cl).getD i default).v:=by
 obtain⟨hj,hij,a,b,e1,e2,la,lb,hb,hm⟩:=nxQ_spec h hn;obtain⟨a1,b1,f1,f2,_,_,_,m1,m2,_,_,hv1⟩:=first_last h;obtain⟨a2,b2,g1,g2,_,_,_,_,_,_,_,hv2⟩:=first_last hj;rw[e1]at g1;rw[e2]at f2
 have h1:a=a2:=by omega
 have h2:b=b1:=by omega
 subst h1 h2;rw[hv1,hv2];have:=H b a lb hb hm la;have h3:=(grps lv cl).level _ (grpAt_mem h) _ m2;rw[f1]at h3;show lv.getD ((a:Int)).toNat 0=_;rw[Int.toNat_natCast,this];exact h3
theorem ch_level (H:LvMt lv cl){i:Nat}(h:i<(rnL lv cl).length): ∀j∈ch (rnL lv cl).length (nxQ lv cl) i,((rnL lv cl).getD j default).v=((rnL lv cl).getD i default).v:=by
 refine ch_ind nxQ_good (p:=fun i=> ∀j∈ch (rnL lv cl).length (nxQ lv cl) i,((rnL lv cl).getD j default).v=((rnL lv cl).getD i default).v) (fun i hi e=> ?_) (fun i j hi hij hj e ih=> ?_) _ i h (Nat.le_refl _)
 ·rw[ch_neg nxQ_good hi e];intro j hj;simp at hj;rw[hj]
 ·rw[ch_go nxQ_good hi e];intro q hq
  rcases List.mem_cons.1 hq with rfl|hq
  ·rfl
  ·rw[ih q hq,nxQ_level H hi e]
def plL (lv cl:List Int)(i:Nat):List Int:=(ch (rnL lv cl).length (nxQ lv cl) i).flatMap (grpAt lv cl)
theorem seqP_ch {i:Nat}(h:i<(rnL lv cl).length):seqP cl ((ch (rnL lv cl).length (nxQ lv cl) i).map fun j=>(rnL lv cl).getD j default)=plL lv cl i:=by unfold seqP plL;rw[List.flatMap_map];refine fm_congr fun j hj=> ?_;have:=(ch_ge nxQ_good h j hj).2;rw[rnL_at this,(grps lv cl).run (grpAt_mem this)]
theorem range_flat {α:Type}: ∀(gs:List (List α)),(List.range gs.length).flatMap (fun i=>gs.getD i [])=gs.flatten
 |[]=>rfl
 |g::gs=>by
  rw[List.length_cons,List.range_succ_eq_map,List.flatMap_cons,List.flatMap_map,List.flatten_cons,←range_flat gs];rfl
theorem places_perm:((leads (rnL lv cl).length (nxQ lv cl)).flatMap (plL lv cl)).Perm (keptL cl):=by have h:=(chains_perm nxQ_good (nxQ_inj (lv:=lv) (cl:=cl))).flatMap_right (grpAt lv cl);rw[List.flatMap_assoc]at h;refine h.trans ?_;rw[rnL_len];unfold grpAt;rw[range_flat,(grps lv cl).flat]
theorem plL_ne {i:Nat}(h:i<(rnL lv cl).length): ∃t,plL lv cl i=(grpAt lv cl i).getD 0 0::t:=by
 have hne:grpAt lv cl i≠[]:=(grps lv cl).ne _ (grpAt_mem h);unfold plL
 rcases nxQ_good (lv:=lv) (cl:=cl) i h with e|⟨j,e,_,_⟩
 ·rw[ch_neg nxQ_good h e,List.flatMap_cons];obtain⟨x,t,hx⟩:=List.exists_cons_of_ne_nil hne;rw[hx];exact⟨_,rfl⟩
 ·rw[ch_go nxQ_good h e,List.flatMap_cons];obtain⟨x,t,hx⟩:=List.exists_cons_of_ne_nil hne;rw[hx];exact⟨_,rfl⟩
end
end
end Go.Proofs.YtllolnkkepacjaaGreat
