/- What the sequences of explicit levels are: each may be, in order, of one level; gaps are isolates. SpansEach: the plain law. -/
import Derived.Test.YtllolnkkepacjaaGreatX3
import Derived.Test.YtllolnkkepacjaaGreatS12
import Derived.Test.YtllolnkkepacjaaGreatH6
namespace Go.Proofs.YtllolnkkepacjaaGreat
open Go.RowKit
section
theorem plainCls_kept {c ov:Int}(hc:remC c=false)(h:ov=0∨ov=1∨ov=2):remC (plainCls c ov)=false:=by
 unfold plainCls
 split
 ·rcases h with h|h|h
  ·rename_i h0;exact absurd h h0
  ·rw[h];rfl
  ·rw[h];rfl
 ·split
  ·rfl
  ·exact hc
theorem step_kept {base:Int}{s:SS}(h:WF base s)(c a:Int)(hc:remC c=false):remC (stepS base s c a).cl=false:=by
 obtain⟨e,l,hl⟩:=h.ents.ne;have he:=h.ents;rw[hl]at he;obtain⟨_,_,_,t4⟩:=Ents.top h.hb he;have hp:=plainCls_kept hc t4;have hp23:=plainCls_kept (c:=23) rfl t4;unfold stepS;rw[hl];simp only
 have ne: ∀k:Int,remC k=true→c≠k:=fun k hk e=>by rw[e,hk]at hc;cases hc
 rw[if_neg (ne 17 rfl),if_neg (ne 18 rfl),if_neg (ne 15 rfl),if_neg (ne 16 rfl)]
 have hiso: ∀odd,remC (isoS c s e odd).cl=false:=by intro odd;unfold isoS;split<;>exact hp
 by_cases c21:c=21
 ·rw[if_pos c21];exact hiso _
 rw[if_neg c21]
 by_cases c20:c=20
 ·rw[if_pos c20];exact hiso _
 rw[if_neg c20]
 by_cases c22:c=22
 ·rw[if_pos c22];exact hiso _
 rw[if_neg c22]
 by_cases c23:c=23
 ·rw[if_pos c23];unfold pdiS
  split
  ·exact hp23
  ·split
   ·rename_i h1 h2
    rw[h.v0]at h2;obtain⟨k1,_⟩:=h.ents.popTo h2
    split
    ·rfl
    ·rename_i e' l' h3
     rw[h3]at k1;obtain⟨_,_,_,t5⟩:=Ents.top h.hb k1;exact plainCls_kept rfl t5
   ·exact hp23
 rw[if_neg c23,if_neg (ne 19 rfl),if_neg (ne 10 rfl)]
 split
 ·rfl
 ·exact hp
def exL (base:Int)(cl:List Int):List Int:=(runS base cl (auP cl) cl.length).2.1
def exC (base:Int)(cl:List Int):List Int:=(runS base cl (auP cl) cl.length).2.2
theorem goneC_remC (c:Int):goneC c=remC c:=by rw[Bool.eq_iff_iff];simp only[goneC,remC,Bool.or_eq_true,beq_iff_eq];omega
theorem ex_ok {base:Int}(hb:base=0∨base=1)(cl:List Int){a:Nat}(ha:a<cl.length)(hk:remC (cl.getD a 0)=false):
 base≤(exL base cl).getD a 0∧(exL base cl).getD a 0≤125∧1≤(exC base cl).getD a 0∧(exC base cl).getD a 0≤23∧remC ((exC base cl).getD a 0)=false:=by
 obtain⟨h1,h2⟩:=runS_get (base:=base) (l:=cl) (au:=auP cl) cl.length ha;have hw:=(runS_wf hb cl (auP cl) a).1;have hO:=stepS_ok hw (cl.getD a 0) (auP cl a);unfold exL exC;rw[h1,h2]
 rcases hO.kind with⟨h3,_⟩|⟨_,_,h4,h5⟩
 ·rw[goneC_remC,hk]at h3;cases h3
 ·exact⟨h4,h5,hO.cl.1,hO.cl.2,step_kept hw _ _ hk⟩
theorem ex_match {base:Int}(hb:base=0∨base=1)(cl:List Int):LvMt (exL base cl) cl:=by intro a y ha hbg hm hy;obtain⟨_,_,⟨x,_,h1,_,h2,_⟩,_⟩:=closed_all hb ha hbg hm hy;unfold exL;rw[h1,h2]
def Lnk (R:Int→Int→Prop)(l:List Int):Prop:= ∀k,k+1<l.length→R (l.getD k 0) (l.getD (k+1) 0)
theorem Lnk.append {R:Int→Int→Prop}{l l':List Int}(h:Lnk R l)(h':Lnk R l')(hj:0<l.length→0<l'.length→R (l.getD (l.length-1) 0) (l'.getD 0 0)):Lnk R (l++l'):=by
 intro k hk;rw[List.length_append]at hk;simp only[List.getD_eq_getElem?_getD,List.getElem?_append]
 by_cases h1:k+1<l.length
 ·rw[if_pos (by omega),if_pos h1];have:=h k h1
  simpa only[List.getD_eq_getElem?_getD]using this
 ·by_cases h2:k<l.length
  ·rw[if_pos h2,if_neg h1];have:=hj (by omega) (by omega);simp only[List.getD_eq_getElem?_getD]at this
   have e1:k=l.length-1:=by omega
   have e2:k+1-l.length=0:=by omega
   rw[e1]at*;rw[e2];exact this
  ·rw[if_neg h2,if_neg h1];have:=h' (k-l.length) (by omega);simp only[List.getD_eq_getElem?_getD]at this
   have e:k+1-l.length=k-l.length+1:=by omega
   rw[e];exact this
def GapR (cl:List Int)(x y:Int):Prop:=x<y∧((∀j:Nat,x<j→(j:Int)<y→remC (cl.getD j 0)=true)∨lvAt (matchL cl) x=y)
section
variable{lv cl:List Int}
theorem grp_lnk {i:Nat}(h:i<(rnL lv cl).length):Lnk (GapR cl) (grpAt lv cl i):=by
 have H:=grps lv cl;have hg:=grpAt_mem h;have hp:=H.pw _ hg;intro k hk;have m0:=getD_mem0 (0:Int) (l:=grpAt lv cl i) (i:=k) (by omega);have m1:=getD_mem0 (0:Int) (l:=grpAt lv cl i) (i:=k+1) hk
 have hlt:(grpAt lv cl i).getD k 0<(grpAt lv cl i).getD (k+1) 0:=by have:=List.pairwise_iff_getElem.1 hp k (k+1) (by omega) hk (by omega);rw[List.getD_eq_getElem?_getD,List.getD_eq_getElem?_getD,List.getElem?_eq_getElem (by omega),List.getElem?_eq_getElem hk];exact this
 refine⟨hlt,.inl fun j h1 h2=> ?_⟩
 rcases hr:remC (cl.getD j 0)with _|_
 ·exfalso;obtain⟨b,eb,lb,_⟩:=H.kept hg m1;have hm:=H.between hg m0 m1 (a:=j) (by omega) (by omega) (by omega) hr;obtain⟨q,hq,e⟩:=List.mem_iff_getElem.1 hm
  have e2:(grpAt lv cl i).getD q 0=(j:Int):=by rw[List.getD_eq_getElem?_getD,List.getElem?_eq_getElem hq];exact e
  rcases Nat.lt_or_ge q (k+1)with h3|h3
  ·have:=pw_le hp (i:=q) (j:=k) (by omega) (by omega);omega
  ·have:=pw_le hp (i:=k+1) (j:=q) h3 hq;omega
 ·rfl
theorem plL_lnk {i:Nat}(h:i<(rnL lv cl).length):Lnk (GapR cl) (plL lv cl i):=by
 refine ch_ind nxQ_good (p:=fun i=>Lnk (GapR cl) (plL lv cl i)) (fun i hi e=> ?_) (fun i j hi hij hj e ih=> ?_) _ i h (Nat.le_refl _)
 ·unfold plL;rw[ch_neg nxQ_good hi e,List.flatMap_cons,List.flatMap_nil,List.append_nil];exact grp_lnk hi
 ·have e2:plL lv cl i=grpAt lv cl i++plL lv cl j:=by unfold plL;rw[ch_go nxQ_good hi e,List.flatMap_cons]
  rw[e2];refine(grp_lnk hi).append ih fun h1 h2=> ?_;obtain⟨_,_,a,b,f1,f2,la,lb,_,hm⟩:=nxQ_spec hi e;obtain⟨t,ht⟩:=plL_ne hj;rw[ht,f2];show GapR cl b ((grpAt lv cl j).getD 0 0);rw[f1];refine⟨?_,.inr (by show(matchL cl).getD ((b:Int)).toNat 0=_;rw[Int.toNat_natCast];exact hm)⟩;have:=grp_lt hij hj (x:=b) (y:=a) (by rw[←f2];exact getD_mem0 _ (by omega)) (by rw[←f1];exact getD_mem0 _ (List.length_pos_iff.2 ((grps lv cl).ne _ (grpAt_mem hj))));exact this
theorem plL_at {i:Nat}(h:i<(rnL lv cl).length){x:Int}(hx:x∈plL lv cl i): ∃a:Nat,x=a∧a<cl.length∧remC (cl.getD a 0)=false∧ ∃j∈ch (rnL lv cl).length (nxQ lv cl) i,x∈grpAt lv cl j:=by unfold plL at hx;obtain⟨j,hj,hxj⟩:=List.mem_flatMap.1 hx;obtain⟨a,h1,h2,h3⟩:=(grps lv cl).kept (grpAt_mem (ch_ge nxQ_good h j hj).2) hxj;exact⟨a,h1,h2,h3,j,hj,hxj⟩
theorem plL_level (H:LvMt lv cl){i:Nat}(h:i<(rnL lv cl).length){x:Int}(hx:x∈plL lv cl i):lvAt lv x=((rnL lv cl).getD i default).v:=by obtain⟨a,ea,la,ra,j,hj,hxj⟩:=plL_at h hx;have hjm:=(ch_ge nxQ_good h j hj).2;rw[←ch_level H h j hj,rnL_at hjm];exact(grps lv cl).level _ (grpAt_mem hjm) x hxj
end
def sqL (cl nw lv:List Int)(base:Int)(i:Nat):Sq:=sqOf (txtOf cl nw lv base) (plL lv cl i) ((rnL lv cl).getD i default).v
theorem seqsOf_eq (cl nw lv:List Int)(base:Int):seqsOf (txtOf cl nw lv base) (runL lv (keptL cl))=(leads (rnL lv cl).length (nxQ lv cl)).map (sqL cl nw lv base):=by
 show outT (txtOf cl nw lv base) (rnL lv cl) (nxQ lv cl) (ledT (rnL lv cl).length (nxQ lv cl) (rnL lv cl).length) (rnL lv cl).length=_;rw[outT_eq];refine List.map_congr_left fun i hi=> ?_;have him:=(leads_mem.1 hi).1;unfold sqL seqOf;show sqOf (txtOf cl nw lv base) (seqP cl _) _=_;rw[seqP_ch him];congr 1
 rcases nxQ_good (lv:=lv) (cl:=cl) i him with e|⟨j,e,_,_⟩
 ·rw[ch_neg nxQ_good him e];rfl
 ·rw[ch_go nxQ_good him e];rfl
end
section
theorem wayL_edge {v:Int}(h0:0≤v)(h1:v≤126):edgeI (wayL v)=true:=by
 unfold wayL;rw[if_neg (by omega),if_neg (by omega)]
 split<;>rfl
theorem clsP_get (nw ps:List Int){k:Nat}(h:k<ps.length):(clsP nw ps).getD k 0=clsC (lvAt nw (ps.getD k 0)):=by unfold clsP;rw[List.getD_eq_getElem?_getD,List.getElem?_map,List.getElem?_eq_getElem h,List.getD_eq_getElem?_getD,List.getElem?_eq_getElem h];rfl
structure Ech (cl nw lv:List Int) (ss:List Sq):Prop where
 chk: ∀s∈ss,chkL s=0
 first:ss.Pairwise fun s s'=>s.pl.getD 0 0<s'.pl.getD 0 0
 place: ∀s∈ss,0<s.pl.length∧s.cs.length=s.pl.length∧ ∀k,k<s.pl.length→ ∃a:Nat,s.pl.getD k 0=a∧a<cl.length∧lv.getD a 0=s.lv∧s.cs.getD k 0=nw.getD a 0
 gap: ∀s∈ss,Lnk (GapR cl) s.pl
 perm:(ss.flatMap Sq.pl).Perm (keptL cl)
section
variable{base:Int} (hb:base=0∨base=1) (cl:List Int)
include hb
theorem lvK_ok (k:Int):0≤lvK (txtOf cl (exC base cl) (exL base cl) base) k∧lvK (txtOf cl (exC base cl) (exL base cl) base) k≤125:=by
 unfold lvK
 split
 ·show 0≤base∧base≤125;omega
 ·split
  ·show 0≤base∧base≤125;omega
  ·rename_i h1 h2
   show 0≤lvAt (exL base cl) ((keptL cl).getD k.toNat 0)∧lvAt (exL base cl) ((keptL cl).getD k.toNat 0)≤125
   have h3:k.toNat<(keptL cl).length:=by have: ¬((keptL cl).length:Int)≤k:=h2;omega
   obtain⟨a,ea,la,ra⟩:=keptL_mem.1 (getD_mem0 (0:Int) h3);rw[ea];have:=ex_ok hb cl la ra;show 0≤(exL base cl).getD ((a:Int)).toNat 0∧(exL base cl).getD ((a:Int)).toNat 0≤125;rw[Int.toNat_natCast];omega
theorem behindL_ok (p:Int):0≤behindL (txtOf cl (exC base cl) (exL base cl) base) p∧behindL (txtOf cl (exC base cl) (exL base cl) base) p≤125:=by
 unfold behindL
 split
 ·show 0≤base∧base≤125;omega
 ·exact lvK_ok hb cl _
theorem rn_lv {i:Nat}(h:i<(rnL (exL base cl) cl).length):0≤((rnL (exL base cl) cl).getD i default).v∧((rnL (exL base cl) cl).getD i default).v≤125:=by
 obtain⟨a,b,ea,eb,la,_,_,m0,_,_,_,hv⟩:=first_last h;obtain⟨a',e',_,ra⟩:=(grps (exL base cl) cl).kept (grpAt_mem h) m0
 have e2:a=a':=by omega
 subst e2;have:=ex_ok hb cl la ra;rw[hv];show 0≤(exL base cl).getD ((a:Int)).toNat 0∧(exL base cl).getD ((a:Int)).toNat 0≤125;rw[Int.toNat_natCast];omega
theorem sqL_place {i:Nat}(h:i<(rnL (exL base cl) cl).length){k:Nat}(hk:k<(plL (exL base cl) cl i).length):
 ∃a:Nat,(plL (exL base cl) cl i).getD k 0=a∧a<cl.length∧remC (cl.getD a 0)=false∧(exL base cl).getD a 0=((rnL (exL base cl) cl).getD i default).v∧(sqL cl (exC base cl) (exL base cl) base i).cs.getD k 0=(exC base cl).getD a 0:=by
 have hm:=getD_mem0 (0:Int) hk;obtain⟨a,ea,la,ra,_⟩:=plL_at h hm;have hl:=plL_level (ex_match hb cl) h hm;rw[ea]at hl;have ho:=ex_ok hb cl la ra;refine⟨a,ea,la,ra,hl,?_⟩;show(clsP (exC base cl) (plL (exL base cl) cl i)).getD k 0=_;rw[clsP_get _ _ hk,ea];show clsC ((exC base cl).getD ((a:Int)).toNat 0)=_;rw[Int.toNat_natCast];unfold clsC;rw[if_neg (by omega),if_neg (by omega)]
theorem sqL_chk {i:Nat}(h:i<(rnL (exL base cl) cl).length):chkL (sqL cl (exC base cl) (exL base cl) base i)=0:=by
 have hlv:=rn_lv hb cl h;obtain⟨t,ht⟩:=plL_ne h
 have hpos:0<(plL (exL base cl) cl i).length:=by rw[ht];simp
 unfold chkL;have hpl:(sqL cl (exC base cl) (exL base cl) base i).pl=plL (exL base cl) cl i:=rfl;have hlv2:(sqL cl (exC base cl) (exL base cl) base i).lv=((rnL (exL base cl) cl).getD i default).v:=rfl;have hcs:(sqL cl (exC base cl) (exL base cl) base i).cs.length=(plL (exL base cl) cl i).length:=clsP_length _ _
 have hso:edgeI (sqL cl (exC base cl) (exL base cl) base i).so=true:=by
  refine wayL_edge ?_ ?_
  ·have:=(lvK_ok hb cl (lvAt (txtOf cl (exC base cl) (exL base cl) base).ix ((plL (exL base cl) cl i).getD 0 0)-1)).1;omega
  ·have:=(lvK_ok hb cl (lvAt (txtOf cl (exC base cl) (exL base cl) base).ix ((plL (exL base cl) cl i).getD 0 0)-1)).2;omega
 have heo:edgeI (sqL cl (exC base cl) (exL base cl) base i).eo=true:=by
  refine wayL_edge ?_ ?_
  ·have:=(behindL_ok hb cl ((plL (exL base cl) cl i).getD ((plL (exL base cl) cl i).length-1) 0)).1;omega
  ·have:=(behindL_ok hb cl ((plL (exL base cl) cl i).getD ((plL (exL base cl) cl i).length-1) 0)).2;omega
 rw[if_neg]
 ·rw[if_neg];simp only[List.any_eq_true,List.mem_range,not_exists,not_and];intro k hk;rw[hpl]at hk;obtain⟨a,ea,la,ra,_,hc⟩:=sqL_place hb cl h hk;have ho:=ex_ok hb cl la ra;unfold chkAt;rw[hc,ho.2.2.2.2,hpl,ea]
  have e1:clsC ((exC base cl).getD a 0)=(exC base cl).getD a 0:=by unfold clsC;rw[if_neg (by omega),if_neg (by omega)]
  rw[e1]
  have e2: ¬((a:Int)≤lastAt (plL (exL base cl) cl i) k):=by
   unfold lastAt
   split
   ·omega
   ·rename_i hk0
    have:=(plL_lnk h (k-1) (by omega)).1
    have e:k-1+1=k:=by omega
    rw[e,ea]at this;omega
  simp[e2]
 ·rw[hpl,hlv2,hcs,hso,heo];simp only[not_or];refine⟨by omega,by simp,by omega,by omega,by simp,by simp⟩
theorem each_ok:Ech cl (exC base cl) (exL base cl) ((leads (rnL (exL base cl) cl).length (nxQ (exL base cl) cl)).map (sqL cl (exC base cl) (exL base cl) base)):=by
 refine⟨fun s hs=> ?_,?_,fun s hs=> ?_,fun s hs=> ?_,?_⟩
 ·obtain⟨i,hi,rfl⟩:=List.mem_map.1 hs;exact sqL_chk hb cl (leads_mem.1 hi).1
 ·rw[List.pairwise_map];refine List.Pairwise.imp_of_mem ?_ leads_pw;intro i j hi hj hij;have him:=(leads_mem.1 hi).1;have hjm:=(leads_mem.1 hj).1;obtain⟨t,ht⟩:=plL_ne him;obtain⟨t',ht'⟩:=plL_ne hjm;show(plL (exL base cl) cl i).getD 0 0<(plL (exL base cl) cl j).getD 0 0;rw[ht,ht'];exact grp_lt hij hjm (getD_mem0 _ (List.length_pos_iff.2 ((grps (exL base cl) cl).ne _ (grpAt_mem him)))) (getD_mem0 _ (List.length_pos_iff.2 ((grps (exL base cl) cl).ne _ (grpAt_mem hjm))))
 ·obtain⟨i,hi,rfl⟩:=List.mem_map.1 hs;have him:=(leads_mem.1 hi).1;obtain⟨t,ht⟩:=plL_ne him;refine⟨by show 0<(plL (exL base cl) cl i).length;rw[ht];simp,clsP_length _ _,fun k hk=> ?_⟩;obtain⟨a,ea,la,_,hl,hc⟩:=sqL_place hb cl him hk;exact⟨a,ea,la,hl,hc⟩
 ·obtain⟨i,hi,rfl⟩:=List.mem_map.1 hs;exact plL_lnk (leads_mem.1 hi).1
 ·rw[List.flatMap_map];exact places_perm
theorem seqs_ok:seqsL cl (exC base cl) (exL base cl) base=((leads (rnL (exL base cl) cl).length (nxQ (exL base cl) cl)).map (sqL cl (exC base cl) (exL base cl) base),0):=by
 obtain⟨h1,h2⟩:=runS_len base cl (auP cl) cl.length;unfold seqsL;have e1:(exC base cl).length=cl.length:=h2;have e2:(exL base cl).length=cl.length:=h1;rw[if_neg (by rw[e1,e2];omega),if_neg,seqsOf_eq];simp only[List.any_eq_true,not_exists,not_and];intro x hx;obtain⟨a,rfl,la,ra⟩:=keptL_mem.1 hx;have ho:=ex_ok hb cl la ra;unfold badK
 have e3:lvAt (exL base cl) (a:Int)=(exL base cl).getD a 0:=by unfold lvAt;rw[Int.toNat_natCast]
 have e4:lvAt (exC base cl) (a:Int)=(exC base cl).getD a 0:=by unfold lvAt;rw[Int.toNat_natCast]
 rw[e3,e4,ho.2.2.2.2,decide_eq_false (by omega),decide_eq_false (by omega)];decide
end
end
end Go.Proofs.YtllolnkkepacjaaGreat
