/- The next one of a sequence, exactly; where sequences are the same. Where an isolate is not over, what stands within it stands on higher levels. A list and the list without what stands within an isolate: what stands next outside is the same. A list and the list without what stands within an isolate: the sequences and the levels outside are the same. What stands within an isolate changes nothing outside it: levels, base, errors. -/
import Derived.Test.YtllolnkkepacjaaGreatEn4
import Derived.Test.YtllolnkkepacjaaGreatLv1
set_option maxHeartbeats 4000000
namespace Go.Proofs.YtllolnkkepacjaaGreat
open Go.RowKit
section
theorem grp_max (lv:List Int): ∀(d:Nat) (ks:List Int),ks.length≤d→ ∀i,i+1<(grp lv ks).length→lvAt lv (((grp lv ks).getD i []).getD 0 0)≠lvAt lv (((grp lv ks).getD (i+1) []).getD 0 0)
 |_,[],_,i,h=>by simp[grp]at h
 |0,a::t,hd,_,_=>by simp at hd
 |d+1,a::t,hd,i,h=>by
  unfold grp at h⊢
  have hl:(t.drop (spanN lv (lvAt lv a) t)).length≤d:=by simp at hd⊢;omega
  cases i with
  |zero=>
   simp only[List.getD_cons_zero,List.getD_cons_succ]
   rcases hdr:t.drop (spanN lv (lvAt lv a) t)with _|⟨b,t'⟩
   ·rw[hdr]at h;simp[grp]at h
   ·have hlt:spanN lv (lvAt lv a) t<t.length:=by
     rcases Nat.lt_or_ge (spanN lv (lvAt lv a) t) t.length with h1|h1
     ·exact h1
     ·rw[List.drop_eq_nil_of_le h1]at hdr;cases hdr
    have:=spanN_out lv (lvAt lv a) t hlt;unfold grp;simp only[List.getD_cons_zero]
    have hb:t.getD (spanN lv (lvAt lv a) t) 0=b:=by
     rw[List.drop_eq_getElem_cons hlt]at hdr
     injection hdr with h1 _
     rw[List.getD_eq_getElem?_getD,List.getElem?_eq_getElem hlt];exact h1
    rw[hb]at this;exact fun e=>this e.symm
  |succ i=>
   simp only[List.getD_cons_succ];exact grp_max lv d _ hl i (by simpa using h)
section
variable{lv cl:List Int}
theorem grpAt_max {i:Nat}(h:i+1<(rnL lv cl).length):lvAt lv ((grpAt lv cl i).getD 0 0)≠lvAt lv ((grpAt lv cl (i+1)).getD 0 0):=grp_max lv _ _ (Nat.le_refl _) i (by rw[←rnL_len];exact h)
theorem grpAt_of {y:Nat}(h:y<cl.length)(hr:remC (cl.getD y 0)=false): ∃j,j<(rnL lv cl).length∧(y:Int)∈grpAt lv cl j:=by
 have hm:(y:Int)∈(grp lv (keptL cl)).flatten:=by rw[(grps lv cl).flat];exact keptL_mem.2 ⟨y,rfl,h,hr⟩
 obtain⟨g,hg,hy⟩:=List.mem_flatten.1 hm;obtain⟨j,hj,rfl⟩:=List.mem_iff_getElem.1 hg;refine⟨j,by rw[rnL_len];exact hj,?_⟩;unfold grpAt;rw[List.getD_eq_getElem?_getD,List.getElem?_eq_getElem hj];exact hy
theorem grpAt_uniq {i j:Nat}(hi:i<(rnL lv cl).length)(hj:j<(rnL lv cl).length){x:Int}(h1:x∈grpAt lv cl i)(h2:x∈grpAt lv cl j):i=j:=by
 rcases Nat.lt_trichotomy i j with h|h|h
 ·have:=grp_lt h hj h1 h2;omega
 ·exact h
 ·have:=grp_lt h hi h2 h1;omega
theorem grpAt_head {i:Nat}(h:i<(rnL lv cl).length):(grpAt lv cl i).getD 0 0∈grpAt lv cl i:=getD_mem0 _ (List.length_pos_iff.2 ((grps lv cl).ne _ (grpAt_mem h)))
theorem grpAt_lv {i:Nat}(h:i<(rnL lv cl).length){x:Int}(hx:x∈grpAt lv cl i):lvAt lv x=lvAt lv ((grpAt lv cl i).getD 0 0):=(grps lv cl).level _ (grpAt_mem h) _ hx
theorem lvAt_nat (lv:List Int)(x:Nat):lvAt lv (x:Int)=lv.getD x 0:=by unfold lvAt;rw[Int.toNat_natCast]
theorem adj_same {x y:Nat}(hxy:x<y)(hy:y<cl.length)(hry:remC (cl.getD y 0)=false)(hl:lv.getD x 0=lv.getD y 0)(hn: ∀z,x<z→z<y→remC (cl.getD z 0)=true)
 {j:Nat} (hj:j<(rnL lv cl).length) (hx:(x:Int)∈grpAt lv cl j):(y:Int)∈grpAt lv cl j:=by
 obtain⟨j',hj',hy'⟩:=grpAt_of (lv:=lv) hy hry
 rcases Nat.lt_trichotomy j j' with h|h|h
 ·exfalso
  have hmid: ∀k,j<k→k<j'→False:=by
   intro k h1 h2
   have hk:k<(rnL lv cl).length:=by omega
   have hh:=grpAt_head (lv:=lv) (cl:=cl) hk;obtain⟨z,ez,lz,rz⟩:=(grps lv cl).kept (grpAt_mem hk) hh;have e1:=grp_lt h1 hk hx hh;have e2:=grp_lt h2 hj' hh hy';rw[ez]at e1 e2;have:=hn z (by omega) (by omega);rw[rz]at this;cases this
  have e:j'=j+1:=by
   rcases Nat.lt_or_ge (j+1) j' with h1|h1
   ·exact(hmid (j+1) (by omega) h1).elim
   ·omega
  subst e;have:=grpAt_max hj';rw[←grpAt_lv hj hx,←grpAt_lv hj' hy',lvAt_nat,lvAt_nat]at this;exact this hl
 ·subst h;exact hy'
 ·exfalso;have:=grp_lt h hj hy' hx;omega
theorem findR_some {rs:List Rn}{a:Int}{j:Nat}(h:(((rs.getD j default).f:Nat):Int)=a): ∀k,j<k→findR rs a k≠ -1
 |0,hk=>by omega
 |k+1,hk=>by
  unfold findR
  split
  ·omega
  ·rename_i hne
   rcases Nat.lt_or_ge j k with h1|h1
   ·exact findR_some h k h1
   ·have:j=k:=by omega
    subst this;exact absurd h hne
end
structure Suc (lv cl:List Int) (x y:Nat):Prop where
 lt:x<y
 len:y<cl.length
 rx:remC (cl.getD x 0)=false
 ry:remC (cl.getD y 0)=false
 lvq:lv.getD x 0=lv.getD y 0
 how:(∀z,x<z→z<y→remC (cl.getD z 0)=true)∨(begI (cl.getD x 0)=true∧(matchL cl).getD x 0=(y:Int)∧
  (∃z,x<z∧z<y∧remC (cl.getD z 0)=false∧lv.getD z 0≠lv.getD x 0∧ ∀u,x<u→u<z→remC (cl.getD u 0)=true)∧
  (∃z,x<z∧z<y∧remC (cl.getD z 0)=false∧lv.getD z 0≠lv.getD y 0∧ ∀u,z<u→u<y→remC (cl.getD u 0)=true))
theorem first_kept {cl:List Int}{x:Nat}: ∀(d y:Nat),y≤x+d→(∃z,x<z∧z<y∧remC (cl.getD z 0)=false)→ ∃z,x<z∧z<y∧remC (cl.getD z 0)=false∧ ∀u,x<u→u<z→remC (cl.getD u 0)=true
 |0,y,h,⟨z,h1,h2,_⟩=>by omega
 |d+1,y,h,⟨z,h1,h2,h3⟩=>by
  by_cases hx: ∃u,x<u∧u<z∧remC (cl.getD u 0)=false
  ·obtain⟨v,g1,g2,g3,g4⟩:=first_kept d z (by omega) hx;exact⟨v,g1,by omega,g3,g4⟩
  ·refine⟨z,h1,h2,h3,fun u hu hz=> ?_⟩
   rcases hr:remC (cl.getD u 0)with _|_
   ·exact absurd ⟨u,hu,hz,hr⟩ hx
   ·rfl
theorem last_kept {cl:List Int}{y:Nat}: ∀(d x:Nat),y≤x+d→(∃z,x<z∧z<y∧remC (cl.getD z 0)=false)→ ∃z,x<z∧z<y∧remC (cl.getD z 0)=false∧ ∀u,z<u→u<y→remC (cl.getD u 0)=true
 |0,x,h,⟨z,h1,h2,_⟩=>by omega
 |d+1,x,h,⟨z,h1,h2,h3⟩=>by
  by_cases hx: ∃u,z<u∧u<y∧remC (cl.getD u 0)=false
  ·obtain⟨v,g1,g2,g3,g4⟩:=last_kept d z (by omega) hx;exact⟨v,by omega,g2,g3,g4⟩
  ·refine⟨z,h1,h2,h3,fun u hu hz=> ?_⟩
   rcases hr:remC (cl.getD u 0)with _|_
   ·exact absurd ⟨u,hu,hz,hr⟩ hx
   ·rfl
section
variable{lv cl:List Int}
theorem plL_next {i:Nat}(hi:i<(rnL lv cl).length){x y:Nat}(hx:(x:Int)∈plL lv cl i)(h:Suc lv cl x y):(y:Int)∈plL lv cl i:=by
 obtain⟨a,ea,_,_,j,hj,hxj⟩:=plL_at hi hx;have hjm:=(ch_ge nxQ_good hi j hj).2;have mem: ∀k∈ch (rnL lv cl).length (nxQ lv cl) i,(y:Int)∈grpAt lv cl k→(y:Int)∈plL lv cl i:=fun k hk hy=>List.mem_flatMap.2 ⟨k,hk,hy⟩
 rcases h.how with hn|⟨hb,hm,⟨z1,f1,f2,f3,f4,f5⟩,⟨z2,g1,g2,g3,g4,g5⟩⟩
 ·exact mem j hj (adj_same h.lt h.len h.ry h.lvq hn hjm hxj)
 ·have hylen:=h.len;obtain⟨a1,b,ea1,eb,la1,lb,_,m0,mb,hF,hL,hV⟩:=first_last hjm
  have hxb:b=x:=by
   have hle:=mem_ends ((grps lv cl).pw _ (grpAt_mem hjm)) hxj;rw[eb]at hle
   rcases Nat.lt_or_ge x b with h1|h1
   ·exfalso
    have hz:z1≤b:=by
     rcases Nat.lt_or_ge b z1 with h2|h2
     ·obtain⟨b',eb',_,rb⟩:=(grps lv cl).kept (grpAt_mem hjm) mb
      have:b=b':=by omega
      subst this;have:=f5 b h1 h2;rw[rb]at this;cases this
     ·exact h2
    have hin:=(grps lv cl).between (grpAt_mem hjm) hxj mb (a:=z1) (by omega) (by omega) (by omega) f3;have e1:=grpAt_lv hjm hin;have e2:=grpAt_lv hjm hxj;rw[lvAt_nat]at e1 e2;exact f4 (by omega)
   ·omega
  subst hxb;obtain⟨j',hj',hy'⟩:=grpAt_of (lv:=lv) hylen h.ry;obtain⟨a2,b2,ea2,eb2,la2,lb2,_,m2,_,hF2,_,_⟩:=first_last hj';have hle:=mem_ends ((grps lv cl).pw _ (grpAt_mem hj')) hy';rw[ea2]at hle
  have hay:a2=y:=by
   rcases Nat.lt_or_ge a2 y with h1|h1
   ·exfalso
    have hz:a2≤z2:=by
     rcases Nat.lt_or_ge z2 a2 with h2|h2
     ·obtain⟨b',eb',_,rb⟩:=(grps lv cl).kept (grpAt_mem hj') m2
      have:a2=b':=by omega
      subst this;have:=g5 a2 h2 h1;rw[rb]at this;cases this
     ·exact h2
    have hin:=(grps lv cl).between (grpAt_mem hj') m2 hy' (a:=z2) (by omega) (by omega) (by omega) g3;have e1:=grpAt_lv hj' hin;have e2:=grpAt_lv hj' hy';rw[lvAt_nat]at e1 e2;exact g4 (by omega)
   ·omega
  subst hay
  have hnx:nxQ lv cl j=findR (rnL lv cl) (a2:Int) (rnL lv cl).length:=by unfold nxQ nxT;rw[hL,lvAt_nat,lvAt_nat,if_pos hb,hm]
  have hne:=findR_some (rs:=rnL lv cl) (a:=(a2:Int)) (j:=j') (by rw[hF2]) _ hj'
  rcases findR_spec (rnL lv cl) (a2:Int) (rnL lv cl).length with e|⟨k,e,hk,hkf⟩
  ·exact absurd e hne
  ·obtain⟨a3,_,ea3,_,_,_,_,m3,_,hF3,_,_⟩:=first_last hk;rw[hF3]at hkf
   have:a3=a2:=by omega
   subst this;exact mem k (ch_succ nxQ_good hi j hj k (by rw[hnx,e])) m3
theorem plL_uniq {i i':Nat}(hi:i∈leads (rnL lv cl).length (nxQ lv cl))(hi':i'∈leads (rnL lv cl).length (nxQ lv cl)){x:Int}(h:x∈plL lv cl i)(h':x∈plL lv cl i'):i=i':=by have l1:=leads_mem.1 hi;have l2:=leads_mem.1 hi';obtain⟨_,_,_,_,j,hj,hxj⟩:=plL_at l1.1 h;obtain⟨_,_,_,_,j',hj',hxj'⟩:=plL_at l2.1 h';have e:=grpAt_uniq (ch_ge nxQ_good l1.1 j hj).2 (ch_ge nxQ_good l2.1 j' hj').2 hxj hxj';subst e;exact ch_once nxQ_good nxQ_inj l1.1 l2.1 l1.2 l2.2 (j+1) j (by omega) hj hj'
theorem plL_ex {y:Nat}(h:y<cl.length)(hr:remC (cl.getD y 0)=false): ∃i∈leads (rnL lv cl).length (nxQ lv cl),(y:Int)∈plL lv cl i:=by have hm:(y:Int)∈keptL cl:=keptL_mem.2 ⟨y,rfl,h,hr⟩;rw[←(places_perm (lv:=lv) (cl:=cl)).mem_iff]at hm;exact List.mem_flatMap.1 hm
theorem plL_prev {i:Nat}(hi:i∈leads (rnL lv cl).length (nxQ lv cl)){x y:Nat}(hy:(y:Int)∈plL lv cl i)(h:Suc lv cl x y):(x:Int)∈plL lv cl i:=by obtain⟨i',hi',hx⟩:=plL_ex (lv:=lv) (cl:=cl) (y:=x) (by have:=h.lt;have:=h.len;omega) h.rx;have:=plL_next (leads_mem.1 hi').1 hx h;have e:=plL_uniq hi hi' hy this;rw[e];exact hx
theorem plL_pw {i:Nat}(hi:i<(rnL lv cl).length):(plL lv cl i).Pairwise (· < ·):=by
 have key: ∀(l:List Int),(∀k,k+1<l.length→l.getD k 0<l.getD (k+1) 0)→l.Pairwise (· < ·):=by
  intro l
  induction l with
  |nil=>intro _;exact List.Pairwise.nil
  |cons a t ih=>
   intro h
   have ht:=ih fun k hk=>by simpa using h (k+1) (by simpa using hk)
   refine List.pairwise_cons.2 ⟨fun x hx=> ?_,ht⟩
   cases t with
   |nil=>cases hx
   |cons b t'=>
    have h0:=h 0 (by simp);simp only[List.getD_cons_zero,List.getD_cons_succ]at h0
    rcases List.mem_cons.1 hx with rfl|hx
    ·exact h0
    ·have:=(List.pairwise_cons.1 ht).1 x hx;omega
 exact key _ fun k hk=>(plL_lnk hi k hk).1
theorem plL_link (H:LvMt lv cl){i:Nat}(hi:i<(rnL lv cl).length){k:Nat}(hk:k+1<(plL lv cl i).length): ∃x y:Nat,(plL lv cl i).getD k 0=x∧(plL lv cl i).getD (k+1) 0=y∧Suc lv cl x y:=by
 have m0:=getD_mem0 (0:Int) (l:=plL lv cl i) (i:=k) (by omega);have m1:=getD_mem0 (0:Int) (l:=plL lv cl i) (i:=k+1) hk;obtain⟨x,ex,lx,rx,jx,hjx,gx⟩:=plL_at hi m0;obtain⟨y,ey,ly,ry,jy,hjy,gy⟩:=plL_at hi m1;have l0:=plL_level H hi m0;have l1:=plL_level H hi m1;obtain⟨g1,g2⟩:=plL_lnk hi k hk;have hpw:=plL_pw (lv:=lv) (cl:=cl) hi
 have none: ∀z:Nat,(z:Int)∈plL lv cl i→x<z→z<y→False:=fun z hz h1 h2=>by
  obtain⟨q,hq,eq⟩:=List.mem_iff_getElem.1 hz
  have e:(plL lv cl i).getD q 0=(z:Int):=by rw[List.getD_eq_getElem?_getD,List.getElem?_eq_getElem hq];exact eq
  rcases Nat.lt_or_ge k q with h3|h3
  ·have:=pw_le hpw (i:=k+1) (j:=q) (by omega) hq;omega
  ·have:=pw_le hpw (i:=q) (j:=k) h3 (by omega);omega
 rw[ex]at l0 g1 g2 gx;rw[ey]at l1 g1 g2 gy;rw[lvAt_nat]at l0 l1;refine⟨x,y,ex,ey,by omega,ly,rx,ry,by rw[l0,l1],?_⟩
 by_cases hz: ∃z,x<z∧z<y∧remC (cl.getD z 0)=false
 ·right
  have hmatch:(matchL cl).getD x 0=(y:Int):=by
   rcases g2 with g2|g2
   ·obtain⟨z,h1,h2,h3⟩:=hz;have:=g2 z (by omega) (by omega);rw[h3]at this;cases this
   ·rw[lvAt_nat]at g2;exact g2
  refine⟨?_,hmatch,?_,?_⟩
  ·rcases(matchL_inv cl).kind x _ (get_getD lx)with⟨h,_⟩|⟨h,h3⟩|⟨q,h,_,hq,h3|h3⟩
   ·rw[getD_of h]at hmatch;omega
   ·rw[begB];exact h3
   ·rw[begB];exact h3.2.1
   ·rw[getD_of h]at hmatch;omega
  ·obtain⟨z,h1,h2,h3,h4⟩:=first_kept (cl:=cl) (x:=x) y y (by omega) hz;refine⟨z,h1,h2,h3,fun hl=> ?_,h4⟩;have hjm:=(ch_ge nxQ_good hi jx hjx).2;have hin:=adj_same (lv:=lv) (cl:=cl) h1 (by omega) h3 hl.symm h4 hjm gx;exact none z (List.mem_flatMap.2 ⟨jx,hjx,hin⟩) h1 h2
  ·obtain⟨z,h1,h2,h3,h4⟩:=last_kept (cl:=cl) (y:=y) y x (by omega) hz;refine⟨z,h1,h2,h3,fun hl=> ?_,h4⟩;have hjm:=(ch_ge nxQ_good hi jy hjy).2;obtain⟨jz,hjz,hz'⟩:=grpAt_of (lv:=lv) (cl:=cl) (y:=z) (by omega) h3;have hin:=adj_same (lv:=lv) (cl:=cl) h2 ly ry hl h4 hjz hz';have e:=grpAt_uniq hjz hjm hin gy;subst e;exact none z (List.mem_flatMap.2 ⟨jz,hjy,hz'⟩) h1 h2
 ·left;intro z h1 h2
  rcases hr:remC (cl.getD z 0)with _|_
  ·exact absurd ⟨z,h1,h2,hr⟩ hz
  ·rfl
end
theorem begI_kept {c:Int}(h:begI c=true):remC c=false:=by
 simp only[begI,Bool.or_eq_true,beq_iff_eq]at h
 rcases h with(rfl|rfl)|rfl<;>rfl
theorem ixT_get {n:Nat}{ks:List Int}(hpw:ks.Pairwise (· < ·))(hks: ∀k,k<ks.length→ ∃q:Nat,ks.getD k 0=q∧q<n): ∀K,K≤ks.length→ ∀k,k<K→(ixT n ks K).getD (ks.getD k 0).toNat 0=(k:Int)
 |0,_,k,hk=>by omega
 |K+1,hK,k,hk=>by
  have hl:=ixT_length n ks K;unfold ixT
  by_cases e:k=K
  ·subst e;obtain⟨q,eq,hq⟩:=hks k (by omega);rw[eq,Int.toNat_natCast,List.getD_eq_getElem?_getD,List.getElem?_set_self (by omega)];rfl
  ·have ih:=ixT_get hpw hks K (by omega) k (by omega);obtain⟨q,eq,hq⟩:=hks k (by omega);obtain⟨q',eq',hq'⟩:=hks K (by omega);have hlt:=List.pairwise_iff_getElem.1 hpw k K (by omega) (by omega) (by omega)
   have e1:ks[k]=(q:Int):=by rw[←eq,List.getD_eq_getElem?_getD,List.getElem?_eq_getElem (by omega)];rfl
   have e2:ks[K]=(q':Int):=by rw[←eq',List.getD_eq_getElem?_getD,List.getElem?_eq_getElem (by omega)];rfl
   rw[e1,e2]at hlt;rw[eq]at ih⊢;rw[eq',Int.toNat_natCast,Int.toNat_natCast,List.getD_eq_getElem?_getD,List.getElem?_set_ne (by omega),←List.getD_eq_getElem?_getD];rw[Int.toNat_natCast]at ih;exact ih
theorem ixA_at (cl nw lv:List Int)(base:Int){k:Nat}(hk:k<(keptL cl).length):lvAt (txtOf cl nw lv base).ix ((keptL cl).getD k 0)=(k:Int):=ixT_get (n:=cl.length) (keptL_pw cl) (fun j hj=>by obtain⟨q,h1,h2,_⟩:=keptL_mem.1 (getD_mem0 (0:Int) hj);exact⟨q,h1,h2⟩) _ (Nat.le_refl _) k hk
theorem lvK_in (cl nw lv:List Int)(base:Int){z:Int}{k:Nat}(hz:z=(k:Int))(hk:k<(keptL cl).length):lvK (txtOf cl nw lv base) z=lvAt lv ((keptL cl).getD k 0):=by
 subst hz;unfold lvK
 have s1: ¬(((txtOf cl nw lv base).ks.length:Int)≤(k:Int)):=by show¬(((keptL cl).length:Int)≤_);omega
 rw[if_neg (by omega),if_neg s1,Int.toNat_natCast];rfl
theorem lvK_neg (cl nw lv:List Int)(base:Int){z:Int}(hz:z<0):lvK (txtOf cl nw lv base) z=base:=by unfold lvK;rw[if_pos hz];rfl
theorem lvK_out (cl nw lv:List Int)(base:Int){z:Int}(hz:((keptL cl).length:Int)≤z):lvK (txtOf cl nw lv base) z=base:=by unfold lvK;have s1:((txtOf cl nw lv base).ks.length:Int)≤z:=hz;rw[if_neg (by omega),if_pos s1];rfl
end
section
theorem Ents.le_top {base:Int}: ∀{X:List Ent} {E:Ent} {L:List Ent} {e:Ent} {l:List Ent},Ents base (X++E::L)→X++E::L=e::l→E.lv≤e.lv
 |[],E,L,e,l,_,h=>by
  simp only[List.nil_append,List.cons.injEq]at h;rw[h.1];exact Int.le_refl _
 |[x],E,L,e,l,hE,h=>by
  simp only[List.cons_append,List.nil_append,List.cons.injEq]at h;rw[←h.1];exact Int.le_of_lt hE.1
 |x::y::X,E,L,e,l,hE,h=>by
  simp only[List.cons_append,List.cons.injEq]at h;have h1:Ents base ((y::X)++E::L):=hE.2.2.2;have h2:=Ents.le_top (e:=y) h1 rfl;have h3:=hE.1;rw[←h.1];omega
theorem popTo_suffix: ∀(l:List Ent),∃X,l=X++popTo l
 |[]=>⟨[],rfl⟩
 |e::l=>by
  unfold popTo
  split
  ·exact⟨[e],rfl⟩
  ·obtain⟨X,hX⟩:=popTo_suffix l;exact⟨e::X,by rw[List.cons_append,←hX]⟩
theorem nextLv_gt (odd:Bool)(v:Int):v<nextLv odd v∧nextLv odd v≤v+2:=by unfold nextLv;split<;>omega
def OverT (s:SS):Prop:=(0<s.i∨0<s.m)→ ∀e l,s.l=e::l→124≤e.lv
theorem over_step {base:Int}{s:SS}(hw:WF base s)(h:OverT s)(c au:Int):OverT (stepS base s c au).s:=by
 obtain⟨e,l',he⟩:=hw.ents.ne;have hi:=hw.i0;have hm:=hw.m0;have nx:=fun odd=>nextLv_lt odd e.lv
 have same: ∀i m v:Int,(0<i∨0<m→124≤e.lv)→OverT ⟨s.l,i,m,v⟩:=fun i m v h1 h2 x l hx=>by
  have hx:s.l=x::l:=hx;rw[he]at hx
  injection hx with hx _
  rw[←hx];exact h1 h2
 have hov:(0<s.i∨0<s.m)→124≤e.lv:=fun h1=>h h1 e l' he
 have emb: ∀odd ov,OverT (embS c s e odd ov).s:=fun odd ov=>by
  have h2:=nx odd;unfold embS
  split
  ·rename_i h3
   intro h1;have h1:0<s.i∨0<s.m:=h1;omega
  ·rename_i h3
   refine same _ _ _ fun h1=> ?_
   by_cases h0:s.i=0∧s.m=0
   ·by_cases h4:nextLv odd e.lv≤125
    ·exact absurd ⟨h4,h0⟩ h3
    ·omega
   ·exact hov (by omega)
 have iso: ∀odd,OverT (isoS c s e odd).s:=fun odd=>by
  have h2:=nx odd;unfold isoS
  split
  ·rename_i h3
   intro h1;have h1:0<s.i∨0<s.m:=h1;omega
  ·rename_i h3
   refine same _ _ _ fun h1=> ?_
   by_cases h0:s.i=0∧s.m=0
   ·by_cases h4:nextLv odd e.lv≤125
    ·exact absurd ⟨h4,h0⟩ h3
    ·omega
   ·exact hov (by omega)
 have pdi:OverT (pdiS s e).s:=by
  unfold pdiS
  split
  ·exact same _ _ _ fun _=>hov (by omega)
  ·split
   ·split
    ·exact h
    ·intro h1;have h1:0<s.i∨(0:Int)<0:=h1;omega
   ·exact h
 have pdf:OverT (pdfS s e).s:=by
  unfold pdfS
  split
  ·exact h
  ·split
   ·exact same _ _ _ fun _=>hov (by omega)
   ·split
    ·exact h
    ·split
     ·intro h1;have h1:0<s.i∨0<s.m:=h1;omega
     ·exact h
 have b0:OverT ⟨[⟨base,0,false⟩],0,0,0⟩:=fun h1=>by have h1:(0:Int)<0∨(0:Int)<0:=h1;omega
 unfold stepS;rw[he];simp only
 repeat' split
 all_goals first
  |exact emb _ _
  |exact iso _
  |exact pdi
  |exact pdf
  |exact b0
  |exact h
theorem over_run {base:Int}(hb:base=0∨base=1)(l:List Int)(au:Nat→Int): ∀k,OverT (runS base l au k).1
 |0=>fun h1=>by
  have h1:(0:Int)<0∨(0:Int)<0:=h1;omega
 |k+1=>over_step (runS_wf hb l au k).1 (over_run hb l au k) _ _
theorem step_top {base:Int}{s:SS}(h:WF base s)(c a:Int)(hc:remC c=false)(h11:c≠11):(∃e l,s.l=e::l∧(stepS base s c a).lv=e.lv)∨(∃e l,(stepS base s c a).s.l=e::l∧(stepS base s c a).lv=e.lv):=by
 obtain⟨e,l,hl⟩:=h.ents.ne;obtain⟨sl,si,sm,sv⟩:=s;simp only at hl;subst hl
 have ne: ∀k:Int,remC k=true→c≠k:=fun k hk e=>by rw[e,hk]at hc;cases hc
 have hv:=h.v0;unfold stepS;simp only;rw[if_neg (ne 17 rfl),if_neg (ne 18 rfl),if_neg (ne 15 rfl),if_neg (ne 16 rfl)]
 have hiso: ∀odd,(isoS c ⟨e::l,si,sm,sv⟩ e odd).lv=e.lv:=by intro odd;unfold isoS;split<;>rfl
 by_cases c21:c=21
 ·rw[if_pos c21];exact .inl ⟨e,l,rfl,hiso _⟩
 rw[if_neg c21]
 by_cases c20:c=20
 ·rw[if_pos c20];exact .inl ⟨e,l,rfl,hiso _⟩
 rw[if_neg c20]
 by_cases c22:c=22
 ·rw[if_pos c22];exact .inl ⟨e,l,rfl,hiso _⟩
 rw[if_neg c22]
 by_cases c23:c=23
 ·rw[if_pos c23];unfold pdiS;simp only
  split
  ·exact .inl ⟨e,l,rfl,rfl⟩
  ·split
   ·rename_i h1
    obtain⟨k1,_⟩:=h.ents.popTo (by simp only at hv h1⊢;omega);simp only at k1
    split
    ·rename_i h2
     rw[h2]at k1;exact k1.elim
    ·exact .inr ⟨_,_,rfl,rfl⟩
   ·exact .inl ⟨e,l,rfl,rfl⟩
 rw[if_neg c23,if_neg (ne 19 rfl),if_neg (ne 10 rfl),if_neg h11];exact .inl ⟨e,l,rfl,rfl⟩
theorem run_in {base:Int}{l:List Int}{au:Nat→Int}{E:Ent}{L:List Ent}{v0:Int}(hE:E.iso=true)(hv:0≤v0){p:Nat}{q:List Int}(hq: ∀j,j<q.length→l.getD (p+j) 0=q.getD j 0)(hB:Bal 0 q)(h0:PInv E L v0 0 (runS base l au p).1):
 ∀j,j≤q.length→ ∃d,PInv E L v0 d (runS base l au (p+j)).1∧Bal d (q.drop j)
 |0,_=>⟨0,h0,by simpa using hB⟩
 |j+1,hj=>by
  obtain⟨d,h1,h2⟩:=run_in hE hv hq hB h0 j (by omega)
  have hlt:j<q.length:=by omega
  rw[List.drop_eq_getElem_cons hlt]at h2
  have hc:l.getD (p+j) 0=q[j]:=by rw[hq j hlt,List.getD_eq_getElem?_getD,List.getElem?_eq_getElem hlt];rfl
  unfold Bal at h2;show∃d,PInv E L v0 d (stepS base (runS base l au (p+j)).1 (l.getD (p+j) 0) (au (p+j))).s∧_;rw[hc]
  by_cases hb:begins q[j]=true
  ·rw[if_pos hb]at h2;have:=h1.step (base:=base) (c:=q[j]) hE hv (by rintro e;rw[e]at hb;simp[begins]at hb) (by rintro e;rw[e]at hb;simp[begins]at hb) (au (p+j));rw[if_pos hb]at this;exact⟨_,this,h2⟩
  ·rw[if_neg hb]at h2
   by_cases h23:q[j]=23
   ·rw[if_pos h23]at h2;have:=h1.step (base:=base) (c:=q[j]) hE hv (by omega) (fun _=>h2.1) (au (p+j));rw[if_neg hb,if_pos h23]at this;exact⟨_,this,h2.2⟩
   ·rw[if_neg h23]at h2;have:=h1.step (base:=base) (c:=q[j]) hE hv h2.1 (fun e=>absurd e h23) (au (p+j));rw[if_neg hb,if_neg h23]at this;exact⟨_,this,h2.2⟩
theorem inside_lv {base:Int}(hb:base=0∨base=1){l:List Int}{a y z:Nat}(ho:(exL base l).getD a 0≤123)(ha:a<l.length)(hbg:begI (l.getD a 0)=true)(hm:(matchL l).getD a 0=(y:Int))(hy:y<l.length)
 (h1:a<z) (h2:z<y) (hr:remC (l.getD z 0)=false):(exL base l).getD a 0<(exL base l).getD z 0:=by
 obtain⟨q,r,hl,hq,he⟩:=bal_of_match ha (by rw[←begB];exact hbg) hm hy
 have hp:(l.take (a+1)).length=a+1:=by simp;omega
 have hget: ∀j,j<q.length→l.getD (a+1+j) 0=q.getD j 0:=by
  intro j hj
  conv=>lhs;rw[hl]
  simp only[List.getD];rw[List.getElem?_append_right (by omega),List.getElem?_append_left (by omega),hp];congr 2;omega
 have ga:=runS_get (base:=base) (l:=l) (au:=auP l) l.length ha;have gz:=runS_get (base:=base) (l:=l) (au:=auP l) (i:=z) l.length (by omega);unfold exL;rw[ga.1,gz.1];have hwf:=(runS_wf hb l (auP l) a).1;have hOv:=over_run hb l (auP l) a;obtain⟨e,l1,hl1⟩:=hwf.ents.ne;have hs:(runS base l (auP l) (a+1)).1=(stepS base (runS base l (auP l) a).1 (l.getD a 0) (auP l a)).s:=rfl;have hvn:=isos_nonneg (runS base l (auP l) a).1.l;have hv:=hwf.v0
 obtain⟨odd,hst⟩: ∃odd,stepS base (runS base l (auP l) a).1 (l.getD a 0) (auP l a)=isoS (l.getD a 0) (runS base l (auP l) a).1 e odd:=by
  have hc:l.getD a 0=20∨l.getD a 0=21∨l.getD a 0=22:=begins_cases (by rw[←begB];exact hbg);unfold stepS;rw[hl1]
  rcases hc with h|h|h<;>rw[h]
  ·exact⟨false,rfl⟩
  ·exact⟨true,rfl⟩
  ·exact⟨(auP l a==1),rfl⟩
 have hn:=nextLv_gt odd e.lv
 have hea:e.lv≤123:=by
  unfold exL at ho;rw[ga.1,hst]at ho
  have:(isoS (l.getD a 0) (runS base l (auP l) a).1 e odd).lv=e.lv:=by unfold isoS;split<;>rfl
  omega
 have hover: ¬(0<(runS base l (auP l) a).1.i∨0<(runS base l (auP l) a).1.m):=fun h1=>by have:=hOv h1 e l1 hl1;omega
 have hi0:(runS base l (auP l) a).1.i=0:=by have:=hwf.i0;omega
 have hm0:(runS base l (auP l) a).1.m=0:=by have:=hwf.m0;omega
 have hiso:isoS (l.getD a 0) (runS base l (auP l) a).1 e odd=⟨⟨⟨nextLv odd e.lv,0,true⟩::(runS base l (auP l) a).1.l,(runS base l (auP l) a).1.i,(runS base l (auP l) a).1.m,(runS base l (auP l) a).1.v+1⟩,e.lv,plainCls (l.getD a 0) e.ov,true⟩:=by unfold isoS;rw[if_pos ⟨by omega,hi0,hm0⟩]
 have h0:PInv ⟨nextLv odd e.lv,0,true⟩ (runS base l (auP l) a).1.l (runS base l (auP l) a).1.v 0 (runS base l (auP l) (a+1)).1:=by rw[hs,hst,hiso];exact⟨⟨[],rfl,by simp only[isos];omega,by simp only[isos];omega⟩,by simp only;omega,by simp only;omega⟩
 have hlv:(stepS base (runS base l (auP l) a).1 (l.getD a 0) (auP l a)).lv=e.lv:=by rw[hst,hiso]
 rw[hlv];have hin:=run_in (base:=base) (l:=l) (au:=auP l) (E:=⟨nextLv odd e.lv,0,true⟩) rfl (by rw[hv];exact hvn) hget hq h0;obtain⟨j,rfl⟩: ∃j,z=a+1+j:=⟨z-a-1,by omega⟩;obtain⟨d,p1,b1⟩:=hin j (by omega);obtain⟨d',p2,_⟩:=hin (j+1) (by omega)
 have hlt:j<q.length:=by omega
 have hc11:l.getD (a+1+j) 0≠11:=by rw[hget j hlt,List.getD_eq_getElem?_getD,List.getElem?_eq_getElem hlt];rw[List.drop_eq_getElem_cons hlt]at b1;unfold Bal at b1;intro h11;simp only[Option.getD_some]at h11;rw[h11]at b1;simp[begins]at b1
 have w1:=(runS_wf hb l (auP l) (a+1+j)).1;have w2:=(runS_wf hb l (auP l) (a+1+(j+1))).1;have e2:(runS base l (auP l) (a+1+(j+1))).1=(stepS base (runS base l (auP l) (a+1+j)).1 (l.getD (a+1+j) 0) (auP l (a+1+j))).s:=rfl;obtain⟨⟨X,hX,_,_⟩,_,_⟩:=p1;obtain⟨⟨X',hX',_,_⟩,_,_⟩:=p2
 rcases step_top w1 (l.getD (a+1+j) 0) (auP l (a+1+j)) hr hc11 with⟨e3,l3,h3,h4⟩|⟨e3,l3,h3,h4⟩
 ·have hE:=w1.ents;rw[hX]at h3 hE;have:=Ents.le_top hE h3;rw[h4];simp only at this;omega
 ·rw[←e2]at h3;have hE:=w2.ents;rw[hX']at h3 hE;have:=Ents.le_top hE h3;rw[h4];simp only at this;omega
end
section
theorem phi_lo {a d i:Nat}(h:i≤a):phi a d i=i:=by unfold phi;rw[if_pos h]
theorem phi_hi {a d i:Nat}(h:a<i):phi a d i=i+d:=by unfold phi;rw[if_neg (by omega)]
theorem phi_out (a d i:Nat):phi a d i≤a∨a+1+d≤phi a d i:=by unfold phi;split<;>omega
theorem out_of {a d x:Nat}(hx:x≤a∨a+1+d≤x): ∃i,phi a d i=x:=by
 rcases hx with h|h
 ·exact⟨x,phi_lo h⟩
 ·exact⟨x-d,by rw[phi_hi (by omega)];omega⟩
structure Shr (a d:Nat) (W l LW Ll CW Cl:List Int):Prop where
 len:W.length+d=l.length
 ha:a+1<W.length
 cls: ∀i,i<W.length→W.getD i 0=l.getD (phi a d i) 0
 lvE: ∀i,i<W.length→LW.getD i 0=Ll.getD (phi a d i) 0
 nwE: ∀i,i<W.length→CW.getD i 0=Cl.getD (phi a d i) 0
 hb:begI (W.getD a 0)=true
 h23:W.getD (a+1) 0=23
 mW:(matchL W).getD a 0=((a+1:Nat):Int)
 ml:(matchL l).getD a 0=((a+1+d:Nat):Int)
 mt: ∀i,i<W.length→Rm a d ((matchL W).getD i 0) ((matchL l).getD (phi a d i) 0)
 deep: ∀z,a<z→z<a+1+d→remC (l.getD z 0)=false→Ll.getD z 0≠Ll.getD a 0
 eqE:Ll.getD (a+1+d) 0=Ll.getD a 0
 mtW:LvMt LW W
 mtl:LvMt Ll l
section
variable{a d:Nat} {W l LW Ll CW Cl:List Int} (H:Shr a d W l LW Ll CW Cl)
include H
theorem Shr.kp {i:Nat}(hi:i<W.length):remC (W.getD i 0)=remC (l.getD (phi a d i) 0):=by rw[H.cls i hi]
theorem Shr.ka:remC (W.getD a 0)=false:=begI_kept H.hb
theorem Shr.k1:remC (W.getD (a+1) 0)=false:=by rw[H.h23];rfl
theorem Shr.la:remC (l.getD a 0)=false:=by have:=H.kp (i:=a) (by have:=H.ha;omega);rw[phi_lo (Nat.le_refl _),H.ka]at this;exact this.symm
theorem Shr.le:remC (l.getD (a+1+d) 0)=false:=by have:=H.kp (i:=a+1) H.ha;rw[phi_hi (by omega),H.k1]at this;exact this.symm
theorem Shr.lt_len {i:Nat}(hi:i<W.length):phi a d i<l.length:=by
 have h1:=H.len;have h2:=H.ha;unfold phi
 split<;>omega
theorem Shr.of_lt {i:Nat}(h:phi a d i<l.length):i<W.length:=by
 have h1:=H.len;have h2:=H.ha;unfold phi at h
 split at h<;>omega
theorem Shr.notE {x y:Nat}(hx:x<W.length)(hy:y<W.length)(hm:(matchL W).getD x 0=(y:Int))(hxa:x≠a):y≠a+1:=fun e=>by subst e;have m1:=match_back (a:=a) (y:=a+1) (by have:=H.ha;omega) H.mW H.ha;have m2:=match_back hx hm hy;rw[m1]at m2;omega
theorem Shr.fwd {x y:Nat}(h:Suc LW W x y):Suc Ll l (phi a d x) (phi a d y):=by
 have hy:=h.len;have hxy:=h.lt
 have hx:x<W.length:=by omega
 have ha:=H.ha;refine⟨phi_lt.2 h.lt,H.lt_len hy,by rw[←H.kp hx];exact h.rx,by rw[←H.kp hy];exact h.ry,by rw[←H.lvE x hx,←H.lvE y hy];exact h.lvq,?_⟩
 rcases h.how with hn|⟨hb,hm,⟨z1,f1,f2,f3,f4,f5⟩,⟨z2,g1,g2,g3,g4,g5⟩⟩
 ·by_cases hc:y≤a∨a+1≤x
  ·left;intro z hz1 hz2
   have hout:z≤a∨a+1+d≤z:=by
    rcases hc with hc|hc
    ·rw[phi_lo hc]at hz2;omega
    ·rw[phi_hi (by omega)]at hz1;omega
   obtain⟨w,rfl⟩:=out_of hout;have h1:=phi_lt.1 hz1;have h2:=phi_lt.1 hz2;rw[←H.kp (by omega)];exact hn w h1 h2
  ·have hxa:x=a:=by
    by_cases h1:x<a
    ·have:=hn a h1 (by omega);rw[H.ka]at this;cases this
    ·omega
   have hya:y=a+1:=by
    by_cases h1:a+1<y
    ·have:=hn (a+1) (by omega) h1;rw[H.k1]at this;cases this
    ·omega
   subst hxa hya;rw[phi_lo (Nat.le_refl _),phi_hi (by omega),show x+1+d=x+1+d from rfl]
   by_cases hz: ∃z,x<z∧z<x+1+d∧remC (l.getD z 0)=false
   ·right
    have hbl:begI (l.getD x 0)=true:=by have:=H.cls x hx;rw[phi_lo (Nat.le_refl _)]at this;rw[←this];exact H.hb
    obtain⟨z1,f1,f2,f3,f4⟩:=first_kept (cl:=l) (x:=x) (x+1+d) (x+1+d) (by omega) hz;obtain⟨z2,g1,g2,g3,g4⟩:=last_kept (cl:=l) (y:=x+1+d) (x+1+d) x (by omega) hz;refine⟨hbl,H.ml,⟨z1,f1,f2,f3,H.deep z1 f1 f2 f3,f4⟩,⟨z2,g1,g2,g3,?_,g4⟩⟩;rw[H.eqE];exact H.deep z2 g1 g2 g3
   ·left;intro z h1 h2
    rcases hr:remC (l.getD z 0)with _|_
    ·exact absurd ⟨z,h1,h2,hr⟩ hz
    ·rfl
 ·right
  have hxa:x≠a:=fun e=>by subst e;rw[H.mW]at hm;omega
  have hya:=H.notE hx hy hm hxa
  have hm':(matchL l).getD (phi a d x) 0=(phi a d y:Int):=by
   rcases H.mt x hx with⟨e1,_⟩|⟨j,e1,e2⟩
   ·rw[hm]at e1;omega
   ·rw[hm]at e1
    have:j=y:=by omega
    subst this;exact e2
  refine⟨by rw[←H.cls x hx];exact hb,hm',⟨phi a d z1,phi_lt.2 f1,phi_lt.2 f2,by rw[←H.kp (by omega)];exact f3,by rw[←H.lvE z1 (by omega),←H.lvE x hx];exact f4,fun u hu1 hu2=> ?_⟩,
   ⟨phi a d z2,phi_lt.2 g1,phi_lt.2 g2,by rw[←H.kp (by omega)];exact g3,by rw[←H.lvE z2 (by omega),←H.lvE y hy];exact g4,fun u hu1 hu2=> ?_⟩⟩
  ·by_cases ho:u≤a∨a+1+d≤u
   ·obtain⟨w,rfl⟩:=out_of ho;have h1:=phi_lt.1 hu1;have h2:=phi_lt.1 hu2;rw[←H.kp (by omega)];exact f5 w h1 h2
   ·exfalso
    have h1:x≤a:=by
     by_cases h3:x≤a
     ·exact h3
     ·rw[phi_hi (by omega)]at hu1;omega
    have h2:a<z1:=by
     by_cases h3:z1≤a
     ·rw[phi_lo h3]at hu2;omega
     ·omega
    have:=f5 a (by omega) h2;rw[H.ka]at this;cases this
  ·by_cases ho:u≤a∨a+1+d≤u
   ·obtain⟨w,rfl⟩:=out_of ho;have h1:=phi_lt.1 hu1;have h2:=phi_lt.1 hu2;rw[←H.kp (by omega)];exact g5 w h1 h2
   ·exfalso
    have h1:z2≤a:=by
     by_cases h3:z2≤a
     ·exact h3
     ·rw[phi_hi (by omega)]at hu1;omega
    have h2:a<y:=by
     by_cases h3:y≤a
     ·rw[phi_lo h3]at hu2;omega
     ·omega
    have:=g5 (a+1) (by omega) (by omega);rw[H.k1]at this;cases this
theorem Shr.bwd {x:Nat}(hx:x<W.length){y':Nat}(h:Suc Ll l (phi a d x) y'): ∃y,y'=phi a d y∧Suc LW W x y:=by
 have hy':=h.len;have hlt:=h.lt
 have hout:y'≤a∨a+1+d≤y':=by
  by_cases c:y'≤a∨a+1+d≤y'
  ·exact c
  ·exfalso
   rcases h.how with hn|⟨hb,hm,_,_⟩
   ·have hxa:x≤a:=by
     by_cases h3:x≤a
     ·exact h3
     ·rw[phi_hi (by omega)]at hlt;omega
    by_cases e:x=a
    ·subst e;have h4:=h.lvq;rw[phi_lo (Nat.le_refl _)]at h4;exact H.deep y' (by omega) (by omega) h.ry h4.symm
    ·have:=hn a (by rw[phi_lo hxa];omega) (by omega);rw[H.la]at this;cases this
   ·rcases H.mt x hx with⟨_,e⟩|⟨j,_,e⟩
    ·rw[hm]at e;omega
    ·rw[hm]at e
     have e:y'=phi a d j:=by omega
     have:=phi_out a d j;omega
 obtain⟨y,rfl⟩:=out_of hout;have hy:=H.of_lt hy';have hxy:=phi_lt.1 hlt;refine⟨y,rfl,hxy,hy,by rw[H.kp hx];exact h.rx,by rw[H.kp hy];exact h.ry,by rw[H.lvE x hx,H.lvE y hy];exact h.lvq,?_⟩
 rcases h.how with hn|⟨hb,hm,⟨z1,f1,f2,f3,f4,f5⟩,⟨z2,g1,g2,g3,g4,g5⟩⟩
 ·left;intro z h1 h2;rw[H.kp (by omega)];exact hn _ (phi_lt.2 h1) (phi_lt.2 h2)
 ·by_cases hxa:x=a
  ·left;intro z h1 h2;exfalso;subst hxa;rw[phi_lo (Nat.le_refl _),H.ml]at hm
   have e:x+1+d=phi x d y:=by omega
   rw[phi_hi (by omega)]at e;omega
  ·have hmW:(matchL W).getD x 0=(y:Int):=by
    rcases H.mt x hx with⟨_,e⟩|⟨j,e1,e2⟩
    ·rw[hm]at e;omega
    ·rw[hm]at e2
     have e:phi a d y=phi a d j:=by omega
     rw[e1,phi_inj e]
   have hya:=H.notE hx hy hmW hxa
   have o1:z1≤a∨a+1+d≤z1:=by
    by_cases c:z1≤a∨a+1+d≤z1
    ·exact c
    ·exfalso
     have h1:x≤a:=by
      by_cases h3:x≤a
      ·exact h3
      ·rw[phi_hi (by omega)]at f1;omega
     have:=f5 a (by rw[phi_lo h1];omega) (by omega);rw[H.la]at this;cases this
   have o2:z2≤a∨a+1+d≤z2:=by
    by_cases c:z2≤a∨a+1+d≤z2
    ·exact c
    ·exfalso
     have h1:a<y:=by
      by_cases h3:y≤a
      ·rw[phi_lo h3]at g2;omega
      ·omega
     have:=g5 (a+1+d) (by omega) (by rw[phi_hi h1];omega);rw[H.le]at this;cases this
   obtain⟨w1,rfl⟩:=out_of o1;obtain⟨w2,rfl⟩:=out_of o2;have q1:=phi_lt.1 f1;have q2:=phi_lt.1 f2;have q3:=phi_lt.1 g1;have q4:=phi_lt.1 g2;right
   refine⟨by rw[H.cls x hx];exact hb,hmW,⟨w1,q1,q2,by rw[H.kp (by omega)];exact f3,by rw[H.lvE w1 (by omega),H.lvE x hx];exact f4,fun u h1 h2=>by rw[H.kp (by omega)];exact f5 _ (phi_lt.2 h1) (phi_lt.2 h2)⟩,
    ⟨w2,q3,q4,by rw[H.kp (by omega)];exact g3,by rw[H.lvE w2 (by omega),H.lvE y hy];exact g4,fun u h1 h2=>by rw[H.kp (by omega)];exact g5 _ (phi_lt.2 h1) (phi_lt.2 h2)⟩⟩
theorem Shr.back {y:Nat}(hy:y<W.length){x':Nat}(h:Suc Ll l x' (phi a d y)): ∃x,x'=phi a d x∧Suc LW W x y:=by
 have hlt:=h.lt;have hlen:=h.len
 have hout:x'≤a∨a+1+d≤x':=by
  by_cases c:x'≤a∨a+1+d≤x'
  ·exact c
  ·exfalso
   rcases h.how with hn|⟨hb,hm,_,_⟩
   ·have h1:a<y:=by
     by_cases h3:y≤a
     ·rw[phi_lo h3]at hlt;omega
     ·omega
    by_cases e:y=a+1
    ·subst e;have h4:=h.lvq;rw[phi_hi (by omega),H.eqE]at h4;exact H.deep x' (by omega) (by omega) h.rx h4
    ·have:=hn (a+1+d) (by omega) (by rw[phi_hi h1];omega);rw[H.le]at this;cases this
   ·have hb2:=match_back (by omega) hm hlen
    rcases H.mt y hy with⟨_,e⟩|⟨j,_,e⟩
    ·rw[hb2]at e;omega
    ·rw[hb2]at e
     have e:x'=phi a d j:=by omega
     have:=phi_out a d j;omega
 obtain⟨x,rfl⟩:=out_of hout;have hxy:=phi_lt.1 hlt;obtain⟨y2,e,s⟩:=H.bwd (by omega) h;have:=phi_inj e;subst this;exact⟨x,rfl,s⟩
end
end
section
theorem walk_all {P:List Int}{R:Int→Prop}{k0:Nat}(hk0:k0<P.length)(h0:R (P.getD k0 0))(up: ∀k,k+1<P.length→R (P.getD k 0)→R (P.getD (k+1) 0))(down: ∀k,k+1<P.length→R (P.getD (k+1) 0)→R (P.getD k 0)): ∀k,k<P.length→R (P.getD k 0):=by
 have u: ∀t,k0+t<P.length→R (P.getD (k0+t) 0):=fun t=>by
  induction t with
  |zero=>intro _;exact h0
  |succ t ih=>intro h;exact up (k0+t) h (ih (by omega))
 have w: ∀t,t≤k0→R (P.getD (k0-t) 0):=fun t=>by
  induction t with
  |zero=>intro _;exact h0
  |succ t ih=>
   intro h;have h2:=ih (by omega)
   have e:k0-(t+1)+1=k0-t:=by omega
   exact down (k0-(t+1)) (by omega) (by rw[e];exact h2)
 intro k hk
 rcases Nat.lt_or_ge k k0 with h|h
 ·have:=w (k0-k) (by omega)
  rwa [show k0-(k0-k)=k by omega]at this
 ·have:=u (k-k0) (by omega)
  rwa [show k0+(k-k0)=k by omega]at this
theorem pw_lt {g:List Int}(h:g.Pairwise (· < ·)){i j:Nat}(hij:i<j)(hj:j<g.length):g.getD i 0<g.getD j 0:=by have:=List.pairwise_iff_getElem.1 h i j (by omega) hj hij;rw[List.getD_eq_getElem?_getD,List.getElem?_eq_getElem (by omega),List.getD_eq_getElem?_getD,List.getElem?_eq_getElem hj];exact this
theorem last_kept0 {cl:List Int}: ∀y:Nat,(∃z,z<y∧remC (cl.getD z 0)=false)→ ∃z,z<y∧remC (cl.getD z 0)=false∧ ∀u,z<u→u<y→remC (cl.getD u 0)=true
 |0,⟨z,h,_⟩=>by omega
 |y+1,⟨z,h1,h2⟩=>by
  rcases hr:remC (cl.getD y 0)with _|_
  ·exact⟨y,by omega,hr,fun u h3 h4=>by omega⟩
  ·have hz:z<y:=by
    rcases Nat.lt_or_ge z y with h|h
    ·exact h
    ·have:z=y:=by omega
     subst this;rw[hr]at h2;cases h2
   obtain⟨w,g1,g2,g3⟩:=last_kept0 y ⟨z,hz,h2⟩;refine⟨w,by omega,g2,fun u h3 h4=> ?_⟩
   by_cases e:u=y
   ·rw[e];exact hr
   ·exact g3 u h3 (by omega)
section
variable{cl nw lv:List Int} {base:Int} {p:Nat} (hp:p<cl.length) (hr:remC (cl.getD p 0)=false)
include hp hr
theorem kept_ix: ∃k,k<(keptL cl).length∧(keptL cl).getD k 0=(p:Int)∧lvAt (txtOf cl nw lv base).ix (p:Int)=(k:Int):=by
 have hm:(p:Int)∈keptL cl:=keptL_mem.2 ⟨p,rfl,hp,hr⟩;obtain⟨k,hk,e⟩:=List.mem_iff_getElem.1 hm
 have e2:(keptL cl).getD k 0=(p:Int):=by rw[List.getD_eq_getElem?_getD,List.getElem?_eq_getElem hk];exact e
 refine⟨k,hk,e2,?_⟩;rw[←e2];exact ixA_at cl nw lv base hk
theorem ahead_none (h: ∀z,z<p→remC (cl.getD z 0)=true):lvK (txtOf cl nw lv base) (lvAt (txtOf cl nw lv base).ix (p:Int)-1)=base:=by
 obtain⟨k,hk,e,ei⟩:=kept_ix (nw:=nw) (lv:=lv) (base:=base) hp hr;rw[ei]
 have:k=0:=by
  rcases Nat.eq_zero_or_pos k with h0|h0
  ·exact h0
  ·exfalso;have h1:=pw_lt (keptL_pw cl) (i:=k-1) (j:=k) (by omega) hk;obtain⟨q,eq,_,rq⟩:=keptL_mem.1 (getD_mem0 (0:Int) (l:=keptL cl) (i:=k-1) (by omega));have:=h q (by omega);rw[rq]at this;cases this
 exact lvK_neg _ _ _ _ (by omega)
theorem ahead_some {q:Nat}(hq:q<p)(hqr:remC (cl.getD q 0)=false)(h: ∀z,q<z→z<p→remC (cl.getD z 0)=true):lvK (txtOf cl nw lv base) (lvAt (txtOf cl nw lv base).ix (p:Int)-1)=lv.getD q 0:=by
 obtain⟨k,hk,e,ei⟩:=kept_ix (nw:=nw) (lv:=lv) (base:=base) hp hr;obtain⟨j,hj,ej,_⟩:=kept_ix (nw:=nw) (lv:=lv) (base:=base) (p:=q) (by omega) hqr;rw[ei]
 have hjk:j<k:=by
  rcases Nat.lt_or_ge j k with h0|h0
  ·exact h0
  ·have:=pw_le (keptL_pw cl) h0 hj;omega
 have h1:=pw_lt (keptL_pw cl) (i:=k-1) (j:=k) (by omega) hk;have h2:=pw_le (keptL_pw cl) (i:=j) (j:=k-1) (by omega) (by omega);obtain⟨v,ev,_,rv⟩:=keptL_mem.1 (getD_mem0 (0:Int) (l:=keptL cl) (i:=k-1) (by omega))
 have hvq:v=q:=by
  rcases Nat.lt_or_ge q v with h3|h3
  ·have:=h v h3 (by omega);rw[rv]at this;cases this
  ·omega
 rw[lvK_in _ _ _ _ (k:=k-1) (by omega) (by omega),ev,hvq,lvAt_nat]
theorem behind_none (h: ∀z,p<z→z<cl.length→remC (cl.getD z 0)=true):lvK (txtOf cl nw lv base) (lvAt (txtOf cl nw lv base).ix (p:Int)+1)=base:=by
 obtain⟨k,hk,e,ei⟩:=kept_ix (nw:=nw) (lv:=lv) (base:=base) hp hr;rw[ei];refine lvK_out _ _ _ _ ?_
 rcases Nat.lt_or_ge (k+1) (keptL cl).length with h0|h0
 ·exfalso;have h1:=pw_lt (keptL_pw cl) (i:=k) (j:=k+1) (by omega) h0;obtain⟨q,eq,lq,rq⟩:=keptL_mem.1 (getD_mem0 (0:Int) (l:=keptL cl) (i:=k+1) h0);have:=h q (by omega) lq;rw[rq]at this;cases this
 ·omega
theorem behind_some {q:Nat}(hq:p<q)(hql:q<cl.length)(hqr:remC (cl.getD q 0)=false)(h: ∀z,p<z→z<q→remC (cl.getD z 0)=true):lvK (txtOf cl nw lv base) (lvAt (txtOf cl nw lv base).ix (p:Int)+1)=lv.getD q 0:=by
 obtain⟨k,hk,e,ei⟩:=kept_ix (nw:=nw) (lv:=lv) (base:=base) hp hr;obtain⟨j,hj,ej,_⟩:=kept_ix (nw:=nw) (lv:=lv) (base:=base) (p:=q) hql hqr;rw[ei]
 have hjk:k<j:=by
  rcases Nat.lt_or_ge k j with h0|h0
  ·exact h0
  ·have:=pw_le (keptL_pw cl) h0 hk;omega
 have h1:=pw_lt (keptL_pw cl) (i:=k) (j:=k+1) (by omega) (by omega);have h2:=pw_le (keptL_pw cl) (i:=k+1) (j:=j) (by omega) hj;obtain⟨v,ev,_,rv⟩:=keptL_mem.1 (getD_mem0 (0:Int) (l:=keptL cl) (i:=k+1) (by omega))
 have hvq:v=q:=by
  rcases Nat.lt_or_ge v q with h3|h3
  ·have:=h v (by omega) h3;rw[rv]at this;cases this
  ·omega
 rw[lvK_in _ _ _ _ (k:=k+1) (by omega) (by omega),ev,hvq,lvAt_nat]
end
def phI (a d:Nat)(x:Int):Int:=((phi a d x.toNat:Nat):Int)
theorem phI_nat (a d x:Nat):phI a d (x:Int)=((phi a d x:Nat):Int):=by unfold phI;rw[Int.toNat_natCast]
section
variable{a d:Nat} {W l LW Ll CW Cl:List Int} (H:Shr a d W l LW Ll CW Cl)
include H
theorem Shr.sucW:Suc LW W a (a+1):=by have ha:=H.ha;refine⟨by omega,ha,H.ka,H.k1,(H.mtW a (a+1) (by omega) H.hb H.mW ha).symm,.inl fun z h1 h2=>by omega⟩
theorem Shr.places {i i':Nat}(hi:i∈leads (rnL LW W).length (nxQ LW W))(hi':i'∈leads (rnL Ll l).length (nxQ Ll l)){x0:Nat}(h0:(x0:Int)∈plL LW W i)(h0':((phi a d x0:Nat):Int)∈plL Ll l i'):
 plL Ll l i'=(plL LW W i).map (phI a d):=by
 have him:=(leads_mem.1 hi).1;have him':=(leads_mem.1 hi').1
 have atW: ∀x:Nat,(x:Int)∈plL LW W i→x<W.length:=fun x hx=>by obtain⟨y,ey,ly,_⟩:=plL_at him hx;omega
 have s1: ∀p∈plL LW W i,∃x:Nat,p=(x:Int)∧((phi a d x:Nat):Int)∈plL Ll l i':=by
  obtain⟨k0,hk0,e0⟩:=List.mem_iff_getElem.1 h0
  have e0':(plL LW W i).getD k0 0=(x0:Int):=by rw[List.getD_eq_getElem?_getD,List.getElem?_eq_getElem hk0];exact e0
  have:=walk_all (R:=fun p=> ∃x:Nat,p=(x:Int)∧((phi a d x:Nat):Int)∈plL Ll l i') hk0 ⟨x0,e0',h0'⟩
   (fun k hk ⟨x,ex,hx⟩=>by
    obtain⟨x1,y,e1,ey,hs⟩:=plL_link H.mtW him hk
    have:x=x1:=by omega
    subst this
    exact⟨y,ey,plL_next him' hx (H.fwd hs)⟩)
   (fun k hk ⟨y,ey,hy⟩=>by
    obtain⟨x,y1,ex,e1,hs⟩:=plL_link H.mtW him hk
    have:y=y1:=by omega
    subst this
    exact⟨x,ex,plL_prev hi' hy (H.fwd hs)⟩)
  intro p hp;obtain⟨k,hk,ek⟩:=List.mem_iff_getElem.1 hp;have:=this k hk
  rwa [List.getD_eq_getElem?_getD,List.getElem?_eq_getElem hk,Option.getD_some,ek]at this
 have s2: ∀q∈plL Ll l i',∃x:Nat,q=((phi a d x:Nat):Int)∧(x:Int)∈plL LW W i:=by
  obtain⟨k0,hk0,e0⟩:=List.mem_iff_getElem.1 h0'
  have e0':(plL Ll l i').getD k0 0=((phi a d x0:Nat):Int):=by rw[List.getD_eq_getElem?_getD,List.getElem?_eq_getElem hk0];exact e0
  have:=walk_all (R:=fun q=> ∃x:Nat,q=((phi a d x:Nat):Int)∧(x:Int)∈plL LW W i) hk0 ⟨x0,e0',h0⟩
   (fun k hk ⟨x,ex,hx⟩=>by
    obtain⟨x1,y,e1,ey,hs⟩:=plL_link H.mtl him' hk
    have:x1=phi a d x:=by omega
    subst this;obtain⟨y2,e2,s⟩:=H.bwd (atW x hx) hs;subst e2
    exact⟨y2,ey,plL_next him hx s⟩)
   (fun k hk ⟨y,ey,hy⟩=>by
    obtain⟨x,y1,ex,e1,hs⟩:=plL_link H.mtl him' hk
    have:y1=phi a d y:=by omega
    subst this;obtain⟨x2,e2,s⟩:=H.back (atW y hy) hs;subst e2
    exact⟨x2,ex,plL_prev hi hy s⟩)
  intro p hp;obtain⟨k,hk,ek⟩:=List.mem_iff_getElem.1 hp;have:=this k hk
  rwa [List.getD_eq_getElem?_getD,List.getElem?_eq_getElem hk,Option.getD_some,ek]at this
 refine sorted_ext (plL_pw him') ?_ fun q=>⟨fun hq=> ?_,fun hq=> ?_⟩
 ·rw[List.pairwise_map];refine List.Pairwise.imp_of_mem (fun{p q} hp hq hpq=> ?_) (plL_pw him);obtain⟨x,ex,_⟩:=s1 p hp;obtain⟨y,ey,_⟩:=s1 q hq;subst ex ey;rw[phI_nat,phI_nat];have:=phi_lt (a:=a) (d:=d) (i:=x) (j:=y);omega
 ·obtain⟨x,ex,hx⟩:=s2 q hq;exact List.mem_map.2 ⟨_,hx,by rw[phI_nat,ex]⟩
 ·obtain⟨p,hp,e⟩:=List.mem_map.1 hq;obtain⟨x,ex,hx⟩:=s1 p hp;subst ex;rw[←e,phI_nat];exact hx
theorem Shr.seq (base:Int){i i':Nat}(hi:i∈leads (rnL LW W).length (nxQ LW W))(hi':i'∈leads (rnL Ll l).length (nxQ Ll l)){x0:Nat}(h0:(x0:Int)∈plL LW W i)(h0':((phi a d x0:Nat):Int)∈plL Ll l i'):
 (sqL l Cl Ll base i').cs=(sqL W CW LW base i).cs∧(sqL l Cl Ll base i').lv=(sqL W CW LW base i).lv∧(sqL l Cl Ll base i').so=(sqL W CW LW base i).so∧(sqL l Cl Ll base i').eo=(sqL W CW LW base i).eo:=by
 have him:=(leads_mem.1 hi).1;have him':=(leads_mem.1 hi').1;have hP:=H.places hi hi' h0 h0';have ha:=H.ha;have hlen:=H.len;have hpw:=plL_pw (lv:=LW) (cl:=W) him
 have hx0:x0<W.length:=by obtain⟨y,ey,ly,_⟩:=plL_at him h0;omega
 have ev:((rnL Ll l).getD i' default).v=((rnL LW W).getD i default).v:=by have v1:=plL_level H.mtW him h0;have v2:=plL_level H.mtl him' h0';rw[lvAt_nat]at v1 v2;rw[←v1,←v2];exact(H.lvE x0 hx0).symm
 obtain⟨t,ht⟩:=plL_ne (lv:=LW) (cl:=W) him
 have hpos:0<(plL LW W i).length:=by rw[ht];simp
 have gm: ∀k,k<(plL LW W i).length→((plL LW W i).map (phI a d)).getD k 0=phI a d ((plL LW W i).getD k 0):=fun k hk=>by rw[List.getD_eq_getElem?_getD,List.getElem?_map,List.getElem?_eq_getElem hk,List.getD_eq_getElem?_getD,List.getElem?_eq_getElem hk];rfl
 have n1: ¬((a:Int)∈plL LW W i∧(plL LW W i).getD ((plL LW W i).length-1) 0=(a:Int)):=fun⟨h1,h2⟩=>by have h3:=(mem_ends hpw (plL_next him h1 H.sucW)).2;omega
 have n2: ¬(plL LW W i).getD 0 0=((a+1:Nat):Int):=fun h2=>by have h3:=getD_mem0 (0:Int) (l:=plL LW W i) (i:=0) hpos;rw[h2]at h3;have h4:=(mem_ends hpw (plL_prev hi h3 H.sucW)).1;omega
 obtain⟨p0,e0,l0,r0,_⟩:=plL_at him (getD_mem0 (0:Int) (l:=plL LW W i) (i:=0) hpos);have hm1:=getD_mem0 (0:Int) (l:=plL LW W i) (i:=(plL LW W i).length-1) (by omega);obtain⟨p1,e1,l1,r1,_⟩:=plL_at him hm1;rw[e0]at n2;rw[e1]at n1 hm1;have n1:p1≠a:=fun e=>n1 ⟨by rw[←e];exact hm1,by rw[e]⟩;have n2:p0≠a+1:=fun e=>n2 (by rw[e])
 have f0:(plL Ll l i').getD 0 0=((phi a d p0:Nat):Int):=by rw[hP,gm 0 hpos,e0,phI_nat]
 have f1:(plL Ll l i').getD ((plL Ll l i').length-1) 0=((phi a d p1:Nat):Int):=by rw[hP,List.length_map,gm _ (by omega),e1,phI_nat]
 have lp0:=H.lt_len l0;have lp1:=H.lt_len l1
 have k0:remC (l.getD (phi a d p0) 0)=false:=by rw[←H.kp l0];exact r0
 have k1:remC (l.getD (phi a d p1) 0)=false:=by rw[←H.kp l1];exact r1
 refine⟨?_,ev,?_,?_⟩
 ·show clsP Cl (plL Ll l i')=clsP CW (plL LW W i);rw[hP];unfold clsP;rw[List.map_map];refine List.map_congr_left fun x hx=> ?_;obtain⟨y,ey,ly,_⟩:=plL_at him hx;subst ey;show clsC (lvAt Cl (phI a d (y:Int)))=clsC (lvAt CW (y:Int));rw[phI_nat,lvAt_nat,lvAt_nat,H.nwE y ly]
 ·show wayL (max ((rnL Ll l).getD i' default).v (lvK (txtOf l Cl Ll base) (lvAt (txtOf l Cl Ll base).ix ((plL Ll l i').getD 0 0)-1)))=wayL (max ((rnL LW W).getD i default).v (lvK (txtOf W CW LW base) (lvAt (txtOf W CW LW base).ix ((plL LW W i).getD 0 0)-1)));rw[ev,f0,e0]
  by_cases hz: ∃z,z<p0∧remC (W.getD z 0)=false
  ·obtain⟨q,q1,q2,q3⟩:=last_kept0 p0 hz
   have hin: ∀u,phi a d q<u→u<phi a d p0→remC (l.getD u 0)=true:=fun u h1 h2=>by
    by_cases ho:u≤a∨a+1+d≤u
    ·obtain⟨w,rfl⟩:=out_of ho;have g1:=phi_lt.1 h1;have g2:=phi_lt.1 h2;rw[←H.kp (by omega)];exact q3 w g1 g2
    ·exfalso
     have g1:q≤a:=by
      by_cases h3:q≤a
      ·exact h3
      ·rw[phi_hi (by omega)]at h1;omega
     have g2:a<p0:=by
      by_cases h3:p0≤a
      ·rw[phi_lo h3]at h2;omega
      ·omega
     have:=q3 (a+1)
     by_cases h5:q=a
     ·have:=q3 (a+1) (by omega) (by omega);rw[H.k1]at this;cases this
     ·have:=q3 a (by omega) g2;rw[H.ka]at this;cases this
   rw[ahead_some l0 r0 q1 q2 q3,ahead_some lp0 k0 (phi_lt.2 q1) (by rw[←H.kp (by omega)];exact q2) hin,H.lvE q (by omega)]
  ·have hno: ∀z,z<p0→remC (W.getD z 0)=true:=fun z h1=>by
    rcases hr:remC (W.getD z 0)with _|_
    ·exact absurd ⟨z,h1,hr⟩ hz
    ·rfl
   have hpa:p0≤a:=by
    rcases Nat.lt_or_ge a p0 with h1|h1
    ·have:=hno a h1;rw[H.ka]at this;cases this
    ·exact h1
   rw[ahead_none l0 r0 hno,ahead_none lp0 k0 fun z h1=> ?_];rw[phi_lo hpa]at h1;have:=hno z h1;rw[H.kp (by omega),phi_lo (by omega)]at this;exact this
 ·have hb:behindL (txtOf l Cl Ll base) ((phi a d p1:Nat):Int)=behindL (txtOf W CW LW base) (p1:Int):=by
   unfold behindL
   have t1:begI (lvAt (txtOf l Cl Ll base).cl ((phi a d p1:Nat):Int))=begI (lvAt (txtOf W CW LW base).cl (p1:Int)):=by show begI (lvAt l ((phi a d p1:Nat):Int))=begI (lvAt W (p1:Int));rw[lvAt_nat,lvAt_nat,H.cls p1 l1]
   have t2:(lvAt (txtOf l Cl Ll base).mt ((phi a d p1:Nat):Int)==((txtOf l Cl Ll base).cl.length:Int))=(lvAt (txtOf W CW LW base).mt (p1:Int)==((txtOf W CW LW base).cl.length:Int)):=by
    show(lvAt (matchL l) ((phi a d p1:Nat):Int)==(l.length:Int))=(lvAt (matchL W) (p1:Int)==(W.length:Int));rw[lvAt_nat,lvAt_nat]
    have hw:phi a d W.length=l.length:=by rw[phi_hi (by omega)];exact hlen
    rcases H.mt p1 l1 with⟨g1,g2⟩|⟨j,g1,g2⟩
    ·rw[g1,g2,beq_eq_false_iff_ne.2 (by omega),beq_eq_false_iff_ne.2 (by omega)]
    ·rw[g1,g2]
     by_cases e:j=W.length
     ·rw[e,hw,beq_self_eq_true,beq_self_eq_true]
     ·rw[beq_eq_false_iff_ne.2 (by omega:(j:Int)≠(W.length:Int)),beq_eq_false_iff_ne.2 (fun q=>e (phi_inj (a:=a) (d:=d) (by rw[hw];omega)))]
   rw[t1,t2]
   split
   ·rfl
   ·by_cases hz: ∃z,p1<z∧z<W.length∧remC (W.getD z 0)=false
    ·obtain⟨q,q1,q2,q3,q4⟩:=first_kept (cl:=W) (x:=p1) W.length W.length (by omega) hz
     have hin: ∀u,phi a d p1<u→u<phi a d q→remC (l.getD u 0)=true:=fun u h1 h2=>by
      by_cases ho:u≤a∨a+1+d≤u
      ·obtain⟨w,rfl⟩:=out_of ho;have g1:=phi_lt.1 h1;have g2:=phi_lt.1 h2;rw[←H.kp (by omega)];exact q4 w g1 g2
      ·exfalso
       have g1:p1≤a:=by
        by_cases h3:p1≤a
        ·exact h3
        ·rw[phi_hi (by omega)]at h1;omega
       have g2:a<q:=by
        by_cases h3:q≤a
        ·rw[phi_lo h3]at h2;omega
        ·omega
       have:=q4 a (by omega) g2;rw[H.ka]at this;cases this
     rw[behind_some l1 r1 q1 q2 q3 q4,behind_some lp1 k1 (phi_lt.2 q1) (H.lt_len q2) (by rw[←H.kp q2];exact q3) hin,H.lvE q q2]
    ·have hno: ∀z,p1<z→z<W.length→remC (W.getD z 0)=true:=fun z h1 h2=>by
      rcases hr:remC (W.getD z 0)with _|_
      ·exact absurd ⟨z,h1,h2,hr⟩ hz
      ·rfl
     have hpa:a<p1:=by
      rcases Nat.lt_or_ge a p1 with h1|h1
      ·exact h1
      ·have:=hno (a+1) (by omega) ha;rw[H.k1]at this;cases this
     rw[behind_none l1 r1 hno,behind_none lp1 k1 fun z h1 h2=> ?_];rw[phi_hi hpa]at h1;obtain⟨w,rfl⟩:=out_of (a:=a) (d:=d) (x:=z) (.inr (by omega));have hw:=H.of_lt h2;rw[←H.kp hw];refine hno w ?_ hw
     by_cases h3:w≤a
     ·rw[phi_lo h3]at h1;omega
     ·rw[phi_hi (by omega)]at h1;omega
  show wayL (max ((rnL Ll l).getD i' default).v (behindL (txtOf l Cl Ll base) ((plL Ll l i').getD ((plL Ll l i').length-1) 0)))=wayL (max ((rnL LW W).getD i default).v (behindL (txtOf W CW LW base) ((plL LW W i).getD ((plL LW W i).length-1) 0)));rw[ev,f1,e1,hb]
end
theorem shr_lev {base:Int}(hb:base=0∨base=1){a d:Nat}{W l:List Int}(H:Shr a d W l (exL base W) (exL base l) (exC base W) (exC base l)){i:Nat}(hi:i<W.length):
 (levE stpC base l (exL base l)).getD (phi a d i) 0=(levE stpC base W (exL base W)).getD i 0:=by
 have hl:=H.lt_len hi
 rcases hr:remC (W.getD i 0)with _|_
 ·have hr':remC (l.getD (phi a d i) 0)=false:=by rw[←H.kp hi];exact hr
  obtain⟨s,hs,k,hk,e,_,_,_⟩:=kept_in hb W hi hr;obtain⟨s',hs',k',hk',e',_,_,_⟩:=kept_in hb l hl hr';have l1:=levE_at hb W keeps_C hs hk (init:=exL base W) (exL_len base W);rw[e,Int.toNat_natCast]at l1;have hs2:=hs;have hs2':=hs';unfold seqsE at hs2 hs2';rw[seqs_ok hb]at hs2 hs2';obtain⟨iW,hiW,rfl⟩:=List.mem_map.1 hs2;obtain⟨il,hil,rfl⟩:=List.mem_map.1 hs2'
  have h0:(i:Int)∈plL (exL base W) W iW:=by rw[←e];exact getD_mem0 (0:Int) hk
  have h0':((phi a d i:Nat):Int)∈plL (exL base l) l il:=by rw[←e'];exact getD_mem0 (0:Int) hk'
  obtain⟨c1,c2,c3,c4⟩:=H.seq base hiW hil h0 h0';have hP:=H.places hiW hil h0 h0'
  have hk2:k<(sqL l (exC base l) (exL base l) base il).pl.length:=by show k<(plL (exL base l) l il).length;rw[hP,List.length_map];exact hk
  have l2:=levE_at hb l keeps_C hs' hk2 (init:=exL base l) (exL_len base l)
  have e2:(sqL l (exC base l) (exL base l) base il).pl.getD k 0=((phi a d i:Nat):Int):=by
   show(plL (exL base l) l il).getD k 0=_;have hk3:k<(plL (exL base W) W iW).length:=hk;rw[hP,List.getD_eq_getElem?_getD,List.getElem?_map,List.getElem?_eq_getElem hk3]
   have e3:(plL (exL base W) W iW)[k]=(i:Int):=by have e4:(plL (exL base W) W iW).getD k 0=(i:Int):=e;rw[List.getD_eq_getElem?_getD,List.getElem?_eq_getElem hk3]at e4;exact e4
   show phI a d (plL (exL base W) W iW)[k]=_;rw[e3,phI_nat]
  rw[e2,Int.toNat_natCast]at l2;rw[l1,l2,c2]
  have:(stpC (sqL l (exC base l) (exL base l) base il)).cs=(stpC (sqL W (exC base W) (exL base W) base iW)).cs:=by show restL _ _ _ (weakL _ _)=restL _ _ _ (weakL _ _);have w1: ∀s:Sq,s.wk.lv=s.lv∧s.wk.so=s.so∧s.wk.eo=s.eo∧s.wk.cs=weakL s.so s.cs:=fun s=>⟨rfl,rfl,rfl,rfl⟩;obtain⟨u1,u2,u3,u4⟩:=w1 (sqL l (exC base l) (exL base l) base il);obtain⟨v1,v2,v3,v4⟩:=w1 (sqL W (exC base W) (exL base W) base iW);rw[c1,c3];show restL (sqL l (exC base l) (exL base l) base il).lv (sqL l (exC base l) (exL base l) base il).so (sqL l (exC base l) (exL base l) base il).eo _=restL (sqL W (exC base W) (exL base W) base iW).lv (sqL W (exC base W) (exL base W) base iW).so (sqL W (exC base W) (exL base W) base iW).eo _;rw[c2,c3,c4]
  rw[this]
 ·rw[levE_gone hb W stpC hi hr,levE_gone hb l stpC hl (by rw[←H.kp hi];exact hr)]
end
section
section
variable{p q r:List Int} {a:Nat}
theorem match_bal (hp:p.length=a+1)(hq:Bal 0 q)(hba:begins (p.getD a 0)=true):(matchL (p++(q++23::r))).getD a 0=((a+1+q.length:Nat):Int):=by
 have hlen:(p++(q++23::r)).length=a+2+r.length+q.length:=by simp[hp];omega
 generalize hn:(p++(q++23::r)).length=n at hlen;have h3:=mInv_run n (p.take a) (by simp;omega)
 have hlt:(p.take a).length=a:=by simp;omega
 have ep:p=p.take a++[p.getD a 0]:=by have e1:p.take (a+1)=p:=List.take_of_length_le (by omega);have e2:=List.take_succ_eq_append_getElem (l:=p) (i:=a) (by omega);rw[e1]at e2;rw[List.getD_eq_getElem?_getD,List.getElem?_eq_getElem (by omega)];exact e2
 have e2:mRun n p=((mRun n (p.take a)).1++[(n:Int)],a::(mRun n (p.take a)).2):=by
  conv=>lhs;rw[ep]
  rw[mRun_snoc];unfold mStep;rw[if_pos hba,h3.len,hlt]
 obtain⟨o2,g1,g2,g3⟩:=run_bal (N:=n) (B:=a+1) q ((mRun n (p.take a)).1++[(n:Int)]) [] (a::(mRun n (p.take a)).2) hq (by simp) (by simp[h3.len,hlt])
 have hol:o2.length=a+1+q.length:=by rw[g2];simp[h3.len,hlt]
 have e3:mRun n (p++(q++23::r))=r.foldl (mStep n) (o2.set a (o2.length:Int)++[(a:Int)],(mRun n (p.take a)).2):=by
  have:mRun n (p++(q++23::r))=r.foldl (mStep n) (mStep n (q.foldl (mStep n) (mRun n p)) 23):=by unfold mRun;rw[List.foldl_append,List.foldl_append,List.foldl_cons]
  rw[this,e2];have g1':q.foldl (mStep n) ((mRun n (p.take a)).1++[(n:Int)],a::(mRun n (p.take a)).2)=(o2,a::(mRun n (p.take a)).2):=g1;rw[g1'];rfl
 have hM:=foldl_more (n:=n) (z:=(o2.set a (o2.length:Int)++[(a:Int)],(mRun n (p.take a)).2)) r _ ⟨Nat.le_refl _,fun i _=>.inl rfl,fun p hp _=>hp⟩
 have hz:(o2.set a (o2.length:Int)++[(a:Int)])[a]?=some (o2.length:Int):=by rw[List.getElem?_append_left (by simp;omega),List.getElem?_set,if_pos rfl,if_pos (by omega)]
 have hml:matchL (p++(q++23::r))=(mRun n (p++(q++23::r))).1:=by unfold matchL;rw[hn]
 rw[hml,e3,List.getD_eq_getElem?_getD]
 rcases hM.2.1 a (by simp;omega)with h|⟨h,_⟩
 ·rw[h,hz,←hol];rfl
 ·exfalso;have:=(h3.pile_lt a h).1;omega
theorem without_ex {base:Int}(hb:base=0∨base=1)(hp:p.length=a+1)(hq:Bal 0 q)(hba:begins (p.getD a 0)=true):
 (exL base (p++(q++23::r))).getD (a+1+q.length) 0=(exL base (p++(q++23::r))).getD a 0∧ ∀i,i<(p++23::r).length→(exL base (p++23::r)).getD i 0=(exL base (p++(q++23::r))).getD (phi a q.length i) 0∧(exC base (p++23::r)).getD i 0=(exC base (p++(q++23::r))).getD (phi a q.length i) 0:=by
 obtain⟨w1,w2⟩:=wlen (q:=q) (r:=r) hp;have hm:=match_bal (r:=r) hp hq hba
 have hla:(p++(q++23::r)).getD a 0=p.getD a 0:=by simp only[List.getD,List.getElem?_append_left (show a<p.length by omega)]
 obtain⟨_,_,⟨x,_,x1,_,x2,_⟩,hW⟩:=closed_all hb (l:=p++(q++23::r)) (a:=a) (e:=a+1+q.length) (by omega) (by rw[hla];exact hba) hm (by omega)
 obtain⟨_,hWW⟩:=hW (p++23::r) (by
  have t1:(p++(q++23::r)).take (a+1)=p:=by rw[←hp,List.take_left'];rfl
  have t2:(p++(q++23::r)).drop (a+1+q.length)=23::r:=by rw[←hp,←List.length_append,←List.append_assoc,List.drop_left'];rfl
  rw[t1,t2])
 rw[show a+1+q.length-a-1=q.length by omega]at hWW;refine⟨?_,fun i hi=>⟨(hWW i hi).1,(hWW i hi).2⟩⟩;show(runS base _ (auP _) _).2.1.getD _ 0=(runS base _ (auP _) _).2.1.getD _ 0;rw[x1,x2]
theorem shr_of {base:Int}(hb:base=0∨base=1)(hp:p.length=a+1)(hq:Bal 0 q)(hba:begins (p.getD a 0)=true)(hl:(exL base (p++(q++23::r))).getD a 0≤123):
 Shr a q.length (p++23::r) (p++(q++23::r)) (exL base (p++23::r)) (exL base (p++(q++23::r))) (exC base (p++23::r)) (exC base (p++(q++23::r))):=by
 obtain⟨w1,w2⟩:=wlen (q:=q) (r:=r) hp;have hm:=match_bal (r:=r) hp hq hba;have hmW:=match_bal (q:=[]) (r:=r) hp rfl hba
 have hla:(p++(q++23::r)).getD a 0=p.getD a 0:=by simp only[List.getD,List.getElem?_append_left (show a<p.length by omega)]
 have hWa:(p++23::r).getD a 0=p.getD a 0:=by simp only[List.getD,List.getElem?_append_left (show a<p.length by omega)]
 obtain⟨x1,hWW⟩:=without_ex (r:=r) hb hp hq hba;refine⟨by omega,by omega,fun i _=>without_getD hp,fun i hi=>(hWW i hi).1,fun i hi=>(hWW i hi).2,by rw[hWa,begB];exact hba,?_,by simpa using hmW,hm,fun i hi=>without_match hp hq hi,fun z h1 h2 h3=> ?_,x1,ex_match hb _,ex_match hb _⟩
 ·simp only[List.getD];rw[List.getElem?_append_right (by omega),show a+1-p.length=0 by omega];rfl
 ·have:=inside_lv hb (l:=p++(q++23::r)) (a:=a) (y:=a+1+q.length) (z:=z) hl (by omega) (by rw[hla,begB];exact hba) hm (by omega) h1 h2 h3;omega
def fsR (cl:List Int):Option Nat→Int
 |some i=>if cl.getD i 0=1 then 0 else 1
 |none=>0
theorem fs_without (hp:p.length=a+1)(hq:Bal 0 q)(hba:begins (p.getD a 0)=true): ∀(k i:Nat),(p++23::r).length≤i+k→i≠a+1∨True→fsR (p++(q++23::r)) (fsAt (p++(q++23::r)) (phi a q.length i))=fsR (p++23::r) (fsAt (p++23::r) i)
 |0,i,h,_=>by
  have hw:=wlen (q:=q) (r:=r) hp;rw[fsAt_end (by omega:(p++23::r).length≤i),fsAt_end (by unfold phi;split<;>omega)];rfl
 |k+1,i,h,_=>by
  have hw:=wlen (q:=q) (r:=r) hp
  by_cases hi:(p++23::r).length≤i
  ·rw[fsAt_end hi,fsAt_end (by unfold phi;split<;>omega)];rfl
  ·have hi2:i<(p++23::r).length:=by omega
   rw[fsAt_eq hi2,fsAt_eq (show phi a q.length i<(p++(q++23::r)).length by unfold phi;split<;>omega)];have hg:=without_getD (q:=q) (r:=r) hp (i:=i);rw[←hg]
   by_cases h1:str3L ((p++23::r).getD i 0)=true
   ·rw[if_pos h1,if_pos h1];unfold fsR;simp only;rw[←hg]
   ·rw[if_neg h1,if_neg h1]
    by_cases h2:begI ((p++23::r).getD i 0)=true
    ·rw[if_pos h2,if_pos h2];obtain⟨j,m1,m2,m3,m4,m5⟩:=without_begin (r:=r) hp hq hi2 (by rw[←begB];exact h2);rw[m1,m2,Int.toNat_natCast,Int.toNat_natCast]
     have hja:j≠a:=fun e=>by
      subst e;have:=m5 (by omega)
      have hWa:(p++23::r).getD j 0=p.getD j 0:=by simp only[List.getD,List.getElem?_append_left (show j<p.length by omega)]
      rw[hWa]at this;rw[this]at hba;cases hba
     rw[←phi_succ hja];exact fs_without hp hq hba k (j+1) (by omega) (.inr trivial)
    ·rw[if_neg h2,if_neg h2]
     have hia:i≠a:=fun e=>by
      subst e
      have hWa:(p++23::r).getD i 0=p.getD i 0:=by simp only[List.getD,List.getElem?_append_left (show i<p.length by omega)]
      rw[hWa,begB]at h2;exact h2 hba
     rw[←phi_succ hia];exact fs_without hp hq hba k (i+1) (by omega) (.inr trivial)
theorem lvl_without (hp:p.length=a+1)(hq:Bal 0 q)(hba:begins (p.getD a 0)=true)(b:Int):lvlB (p++(q++23::r)) b=lvlB (p++23::r) b:=by
 have h:=fs_without (r:=r) hp hq hba (p++23::r).length 0 (by omega) (.inr trivial);rw[phi_lo (Nat.zero_le _)]at h;unfold lvlB
 split
 ·rfl
 ·split
  ·rfl
  ·unfold fsR at h
   revert h
   cases fsAt (p++(q++23::r)) 0<;>cases fsAt (p++23::r) 0<;>exact id
theorem bal_11: ∀(d:Nat) (q:List Int),Bal d q→ ∀c∈q,c≠11
 |_,[],_,c,h=>by cases h
 |d,x::q,h,c,hc=>by
  unfold Bal at h
  by_cases hb:begins x=true
  ·rw[if_pos hb]at h
   rcases List.mem_cons.1 hc with rfl|hc
   ·rintro rfl;cases hb
   ·exact bal_11 _ q h c hc
  ·rw[if_neg hb]at h
   by_cases h23:x=23
   ·rw[if_pos h23]at h
    rcases List.mem_cons.1 hc with rfl|hc
    ·omega
    ·exact bal_11 _ q h.2 c hc
   ·rw[if_neg h23]at h
    rcases List.mem_cons.1 hc with rfl|hc
    ·exact h.1
    ·exact bal_11 _ q h.2 c hc
theorem paraB_iff {cl:List Int}:paraB cl []=true↔ ∀i,i<cl.length→cl.getD i 0=11→i+1=cl.length:=by
 constructor
 ·intro h i hi h11;have:=List.all_eq_true.1 h i (List.mem_range.2 hi);unfold okB at this;rw[h11]at this
  simpa using this
 ·intro h;refine paraB_yes fun i hi=> ?_;unfold okB
  by_cases h11:cl.getD i 0=11
  ·rw[decide_eq_true (h i hi h11)];simp
  ·rw[bne_iff_ne.2 h11];rfl
theorem para_without (hp:p.length=a+1)(hq:Bal 0 q)(hba:begins (p.getD a 0)=true):paraB (p++(q++23::r)) []=paraB (p++23::r) []:=by
 have hw:=wlen (q:=q) (r:=r) hp
 have hWa:(p++23::r).getD a 0=p.getD a 0:=by simp only[List.getD,List.getElem?_append_left (show a<p.length by omega)]
 rw[Bool.eq_iff_iff,paraB_iff,paraB_iff];constructor
 ·intro h i hi h11
  have hia:i≠a:=fun e=>by subst e;rw[hWa]at h11;rw[h11]at hba;cases hba
  have:=h (phi a q.length i) (by unfold phi;split<;>omega) (by rw[←without_getD hp];exact h11);rw[←phi_succ hia]at this;unfold phi at this
  split at this<;>omega
 ·intro h i hi h11
  by_cases ho:i≤a∨a+1+q.length≤i
  ·obtain⟨w,rfl⟩:=out_of ho
   have hwl:w<(p++23::r).length:=by unfold phi at hi;split at hi<;>omega
   rw[←without_getD hp]at h11
   have hia:w≠a:=fun e=>by subst e;rw[hWa]at h11;rw[h11]at hba;cases hba
   have:=h w hwl h11;rw[←phi_succ hia,this,phi_end hp]
  ·exfalso
   have hq2:(p++(q++23::r)).getD i 0∈q:=by simp only[List.getD];rw[List.getElem?_append_right (by omega),List.getElem?_append_left (by omega),List.getElem?_eq_getElem (by omega)];exact List.getElem_mem _
   exact bal_11 0 q hq _ hq2 h11
end
def balB:Nat→List Int→Bool
 |d,[]=>d==0
 |d,c::q=>if c=11 then false else if begins c=true then balB (d+1) q else if c=23 then(if d=0 then false else balB (d-1) q)else balB d q
theorem clsC_is {c d:Int}(h1:1≤d)(h2:d≤23)(h3:d≠14):clsC c=d↔c=d:=by
 unfold clsC
 split
 ·omega
 ·split<;>omega
theorem cls_begins (c:Int):begins (clsC c)=begins c:=by
 unfold clsC
 by_cases h1:c<1
 ·rw[if_pos h1,show begins c=false by unfold begins;simp;omega];rfl
 ·by_cases h2:23<c
  ·rw[if_neg h1,if_pos h2,show begins c=false by unfold begins;simp;omega];rfl
  ·rw[if_neg h1,if_neg h2]
theorem bal_of_B: ∀(d:Nat) (q:List Int),balB d q=true→Bal d (q.map clsC)
 |d,[],h=>by
  show d=0
  simpa[balB]using h
 |d,c::q,h=>by
  show Bal d (clsC c::q.map clsC);unfold balB at h;unfold Bal;rw[cls_begins]
  by_cases h11:c=11
  ·rw[if_pos h11]at h;cases h
  ·rw[if_neg h11]at h
   by_cases hb:begins c=true
   ·rw[if_pos hb]at h⊢;exact bal_of_B _ q h
   ·rw[if_neg hb]at h⊢;have e1:clsC c=23↔c=23:=clsC_is (by decide) (by decide) (by decide);have e2:clsC c=11↔c=11:=clsC_is (by decide) (by decide) (by decide)
    by_cases h23:c=23
    ·rw[if_pos h23]at h;rw[if_pos (e1.2 h23)]
     by_cases h0:d=0
     ·rw[if_pos h0]at h;cases h
     ·rw[if_neg h0]at h;exact⟨by omega,bal_of_B _ q h⟩
    ·rw[if_neg h23]at h;rw[if_neg (fun q=>h23 (e1.1 q))];exact⟨fun q=>h11 (e2.1 q),bal_of_B _ q h⟩
def isoT (ahead:List Int)(kind:Int)(one behind:List Int):List Int:=ahead++kind::(one++23::behind)
theorem isoT_cls (ahead:List Int)(kind:Int)(one behind:List Int):(isoT ahead kind one behind).map clsC=(ahead.map clsC++[clsC kind])++(one.map clsC++23::behind.map clsC):=by unfold isoT;simp only[List.map_append,List.map_cons,List.append_assoc,List.cons_append,List.nil_append];rfl
theorem classes_zero {l:List Int}{b:Int}(h:(classesX l b).e=0):l.length≤1048576∧classesX l b=⟨0,lvlB (l.map clsC) b,l.map clsC,levE stpC (lvlB (l.map clsC) b) (l.map clsC) (exL (lvlB (l.map clsC) b) (l.map clsC))⟩:=by
 unfold classesX at h⊢
 by_cases c1: ¬okBase b
 ·rw[if_pos c1]at h;cases h
 ·rw[if_neg c1]at h⊢
  by_cases c2:1048576<l.length
  ·rw[if_pos c2]at h;cases h
  ·rw[if_neg c2]at h⊢
   by_cases c3:paraB (l.map clsC) []=false
   ·rw[if_pos c3]at h;cases h
   ·rw[if_neg c3];exact⟨by omega,rfl⟩
theorem isoT_len (ahead:List Int)(kind:Int)(one behind:List Int):(isoT ahead kind one behind).length=ahead.length+behind.length+one.length+2:=by unfold isoT;simp;omega
section
variable{ahead behind one:List Int} {kind b:Int} (hk:kind=20∨kind=21∨kind=22)
include hk
theorem iso_beg:begins ((ahead.map clsC++[clsC kind]).getD ahead.length 0)=true:=by
 have hck:clsC kind=kind:=by rcases hk with rfl|rfl|rfl<;>rfl
 have:(ahead.map clsC++[clsC kind]).getD ahead.length 0=kind:=by rw[List.getD_eq_getElem?_getD,List.getElem?_append_right (by simp),hck];simp
 rw[this];rcases hk with rfl|rfl|rfl<;>rfl
theorem apart_e (h1:balB 0 one=true)(hl:(isoT ahead kind one behind).length≤1048576):
 (classesX (isoT ahead kind one behind) b).e=(classesX (isoT ahead kind [] behind) b).e:=by
 have hp:(ahead.map clsC++[clsC kind]).length=ahead.length+1:=by simp
 have hLa: ¬1048576<(isoT ahead kind one behind).length:=by omega
 have hLb: ¬1048576<(isoT ahead kind [] behind).length:=by rw[isoT_len]at hl⊢;simp;omega
 have hpar:paraB ((isoT ahead kind one behind).map clsC) []=paraB ((isoT ahead kind [] behind).map clsC) []:=by rw[isoT_cls,isoT_cls];exact para_without hp (bal_of_B 0 one h1) (iso_beg hk)
 unfold classesX
 by_cases c1: ¬okBase b
 ·rw[if_pos c1,if_pos c1]
 ·rw[if_neg c1,if_neg c1,if_neg hLa,if_neg hLb,hpar]
  by_cases c3:paraB ((isoT ahead kind [] behind).map clsC) []=false
  ·rw[if_pos c3,if_pos c3]
  ·rw[if_neg c3,if_neg c3]
theorem apart_one (h1:balB 0 one=true)(he:(classesX (isoT ahead kind one behind) b).e=0)(h123:(classesX (isoT ahead kind one behind) b).lv.getD ahead.length 0≤123∨(classesX (isoT ahead kind [] behind) b).lv.getD ahead.length 0≤123):
 ∀i,i<(isoT ahead kind [] behind).length→(classesX (isoT ahead kind one behind) b).lv.getD (phi ahead.length one.length i) 0=(classesX (isoT ahead kind [] behind) b).lv.getD i 0:=by
 have hp:(ahead.map clsC++[clsC kind]).length=ahead.length+1:=by simp
 have hba:=iso_beg (ahead:=ahead) hk;have hq:=bal_of_B 0 one h1;obtain⟨hl,e1⟩:=classes_zero he;have he2:=he;rw[apart_e hk h1 hl]at he2;obtain⟨_,e2⟩:=classes_zero he2;rw[e1,e2]at h123⊢;simp only at h123⊢
 have hWl:(isoT ahead kind [] behind).length=((isoT ahead kind [] behind).map clsC).length:=by simp
 rw[hWl];rw[show one.length=(one.map clsC).length by simp];rw[isoT_cls,isoT_cls,show(ahead.map clsC++[clsC kind])++(([]:List Int).map clsC++23::behind.map clsC)=(ahead.map clsC++[clsC kind])++23::behind.map clsC from rfl,lvl_without hp hq hba]at h123⊢;generalize ahead.map clsC++[clsC kind]=p at hp hba h123⊢;generalize one.map clsC=q at hq h123⊢;generalize behind.map clsC=r at h123⊢;generalize ahead.length=a at hp hba h123⊢;have hb:=lvlB_two (p++23::r) b;generalize lvlB (p++23::r) b=base at hb h123⊢;have hw:=wlen (q:=q) (r:=r) hp;obtain⟨_,hx⟩:=without_ex (r:=r) hb hp hq hba;have hxa:=(hx a (by omega)).1;rw[phi_lo (Nat.le_refl _)]at hxa
 have hla:(p++(q++23::r)).getD a 0=p.getD a 0:=by simp only[List.getD,List.getElem?_append_left (show a<p.length by omega)]
 have hWa:(p++23::r).getD a 0=p.getD a 0:=by simp only[List.getD,List.getElem?_append_left (show a<p.length by omega)]
 have up: ∀l:List Int,a<l.length→l.getD a 0=p.getD a 0→(levE stpC base l (exL base l)).getD a 0≤123→(exL base l).getD a 0≤123:=by intro l hal hl h;have hr:remC (l.getD a 0)=false:=begI_kept (by rw[hl,begB];exact hba);obtain⟨s,_,k,_,_,_,e3,e4⟩:=levE_kept hb l keeps_C hal hr;have ho:=ex_ok hb l hal hr;have:=lvC_bound (l:=s.lv) (c:=(stpC s).cs.getD k 0) (by omega) (by omega);omega
 have h9:(exL base (p++(q++23::r))).getD a 0≤123:=by
  rcases h123 with h|h
  ·exact up _ (by omega) hla h
  ·rw[←hxa];exact up _ (by omega) hWa h
 intro i hi;exact shr_lev hb (shr_of hb hp hq hba h9) hi
end
theorem apart_two {ahead behind one two:List Int}{kind b:Int}(hk:kind=20∨kind=21∨kind=22)(h1:balB 0 one=true)(h2:balB 0 two=true)(hl1:(isoT ahead kind one behind).length≤1048576)(hl2:(isoT ahead kind two behind).length≤1048576):
 (classesX (isoT ahead kind one behind) b).e=(classesX (isoT ahead kind two behind) b).e∧
 ((classesX (isoT ahead kind one behind) b).e=0→(classesX (isoT ahead kind one behind) b).lv.length=(isoT ahead kind one behind).length∧(classesX (isoT ahead kind two behind) b).lv.length=(isoT ahead kind two behind).length∧
   ((classesX (isoT ahead kind one behind) b).lv.getD ahead.length 0≤123→(∀i,i≤ahead.length→(classesX (isoT ahead kind one behind) b).lv.getD i 0=(classesX (isoT ahead kind two behind) b).lv.getD i 0)∧
     ∀i,1≤i→i≤behind.length+1→(classesX (isoT ahead kind one behind) b).lv.getD ((isoT ahead kind one behind).length-i) 0=(classesX (isoT ahead kind two behind) b).lv.getD ((isoT ahead kind two behind).length-i) 0)):=by
 have he1:=apart_e (b:=b) hk h1 hl1;have he2:=apart_e (b:=b) hk h2 hl2;refine⟨by rw[he1,he2],fun h0=> ?_⟩
 have h0':(classesX (isoT ahead kind two behind) b).e=0:=by rw[he2,←he1];exact h0
 refine⟨?_,?_,fun h123=> ?_⟩
 ·rw[(classes_zero h0).2];simp[levE_len,exL_len]
 ·rw[(classes_zero h0').2];simp[levE_len,exL_len]
 ·have g1:=apart_one hk h1 h0 (.inl h123);have hw:=isoT_len ahead kind [] behind;have hn:=g1 ahead.length (by omega);rw[phi_lo (Nat.le_refl _)]at hn;have g2:=apart_one hk h2 h0' (.inr (by rw[←hn];exact h123));refine⟨fun i hi=> ?_,fun i hi hi2=> ?_⟩
  ·have a1:=g1 i (by omega);have a2:=g2 i (by omega);rw[phi_lo hi]at a1 a2;rw[a1,a2]
  ·have a1:=g1 ((isoT ahead kind [] behind).length-i) (by omega);have a2:=g2 ((isoT ahead kind [] behind).length-i) (by omega);rw[phi_hi (by simp at hw;omega)]at a1 a2;have w1:=isoT_len ahead kind one behind;have w2:=isoT_len ahead kind two behind;simp at hw;rw[show(isoT ahead kind one behind).length-i=(isoT ahead kind [] behind).length-i+one.length by omega,show(isoT ahead kind two behind).length-i=(isoT ahead kind [] behind).length-i+two.length by omega,a1,a2]
end
end Go.Proofs.YtllolnkkepacjaaGreat
