/- What stands beside a kept character, and the run that follows one: as the reference looks for it. The reference's follows and beside walked. -/
import Derived.Test.YtllolnkkepacjaaGreatX5
import Derived.Test.YtllolnkkepacjaaGreatSp2
import Derived.Test.YtllolnkkepacjaaGreatSp3
set_option maxRecDepth 100000
set_option maxHeartbeats 2000000
namespace Go.Proofs.YtllolnkkepacjaaGreat
open Go.RowKit
section
def besB (cl lv:List Int)(base:Int):Nat→Int
 |0=>base
 |k+1=>if remC (cl.getD k 0)=true then besB cl lv base k else lv.getD k 0
def besF (cl lv:List Int)(base:Int):Nat→Nat→Int
 |0,_=>base
 |d+1,i=>if remC (cl.getD i 0)=true then besF cl lv base d (i+1)else lv.getD i 0
theorem besB_eq (cl lv:List Int)(base:Int): ∀a,besB cl lv base a=match(keptT cl a).getLast? with|none=>base|some x=>lvAt lv x
 |0=>rfl
 |a+1=>by
  have ih:=besB_eq cl lv base a;unfold besB keptT
  by_cases h:remC (cl.getD a 0)=true
  ·rw[if_pos h,if_pos h,ih]
  ·rw[if_neg h,if_neg h,List.getLast?_concat];rfl
theorem rangeP_front (cl:List Int): ∀(d f:Nat),rangeP cl f (d+1)=if remC (cl.getD f 0)=true then rangeP cl (f+1) d else(f:Int)::rangeP cl (f+1) d
 |0,f=>by
  simp only[rangeP,Nat.add_zero,List.nil_append]
 |d+1,f=>by
  have ih:=rangeP_front cl d f;rw[rangeP,ih,show f+(d+1)=f+1+d by omega]
  by_cases h:remC (cl.getD f 0)=true
  ·rw[if_pos h,if_pos h,rangeP]
  ·rw[if_neg h,if_neg h,rangeP]
   split<;>rfl
theorem besF_eq (cl lv:List Int)(base:Int): ∀d i,besF cl lv base d i=match(rangeP cl i d).head? with|none=>base|some x=>lvAt lv x
 |0,_=>rfl
 |d+1,i=>by
  have ih:=besF_eq cl lv base d (i+1);rw[rangeP_front];unfold besF
  by_cases h:remC (cl.getD i 0)=true
  ·rw[if_pos h,if_pos h,ih]
  ·rw[if_neg h,if_neg h];rfl
theorem keptT_add (cl:List Int)(a:Nat): ∀d,keptT cl (a+d)=keptT cl a++rangeP cl a d
 |0=>by simp[rangeP]
 |d+1=>by
  have ih:=keptT_add cl a d;rw[show a+(d+1)=(a+d)+1 by omega,keptT,rangeP,ih]
  split
  ·rfl
  ·rw[List.append_assoc]
theorem keptL_parts {cl:List Int}{a:Nat}(ha:a<cl.length)(hr:remC (cl.getD a 0)=false):keptL cl=keptT cl a++(a:Int)::rangeP cl (a+1) (cl.length-(a+1)):=by
 unfold keptL
 conv=>lhs;rw[show cl.length=a+(cl.length-(a+1)+1) by omega]
 rw[keptT_add,rangeP_front,if_neg (by rw[hr];decide)]
theorem ixT_at {n:Nat}{ks:List Int}(hp:ks.Pairwise (· < ·))(hb: ∀x∈ks,0≤x∧x<(n:Int)): ∀j,j≤ks.length→ ∀k,k<j→lvAt (ixT n ks j) (ks.getD k 0)=k
 |0,_,k,h=>by omega
 |j+1,hj,k,h=>by
  have ih:=ixT_at hp hb j (by omega);have hbk:=hb _ (getD_mem0 (0:Int) (show k<ks.length by omega));have hbj:=hb _ (getD_mem0 (0:Int) (show j<ks.length by omega));unfold lvAt ixT;rw[List.getD_eq_getElem?_getD,List.getElem?_set,ixT_length]
  by_cases e:k=j
  ·subst e;rw[if_pos rfl,if_pos (by omega)];rfl
  ·have hlt:ks.getD k 0<ks.getD j 0:=by
    have:=List.pairwise_iff_getElem.1 hp k j (by omega) (by omega) (by omega);simp only[List.getD_eq_getElem?_getD];rw[List.getElem?_eq_getElem (by omega),List.getElem?_eq_getElem (by omega)];exact this
   rw[if_neg (by omega),←List.getD_eq_getElem?_getD];exact ih k (by omega)
variable{cl nw lv:List Int} {base:Int}
theorem ix_at {a:Nat}(ha:a<cl.length)(hr:remC (cl.getD a 0)=false):lvAt (txtOf cl nw lv base).ix a=((keptT cl a).length:Int):=by
 have hk:=keptL_parts ha hr
 have hx:(keptL cl).getD (keptT cl a).length 0=(a:Int):=by rw[hk,List.getD_eq_getElem?_getD,List.getElem?_append_right (Nat.le_refl _),Nat.sub_self];rfl
 have hl:(keptT cl a).length<(keptL cl).length:=by rw[hk];simp
 have:=ixT_at (n:=cl.length) (keptL_pw cl) (fun x hx=>by obtain⟨b,rfl,h,_⟩:=keptL_mem.1 hx;omega) _ (Nat.le_refl _) _ hl;rw[hx]at this;exact this
theorem lvK_back {a:Nat}(ha:a<cl.length)(hr:remC (cl.getD a 0)=false):lvK (txtOf cl nw lv base) (lvAt (txtOf cl nw lv base).ix a-1)=besB cl lv base a:=by
 rw[ix_at ha hr,besB_eq];have hk:=keptL_parts ha hr;generalize hT:keptT cl a=T at*
 rcases List.eq_nil_or_concat T with rfl|⟨L,x,rfl⟩
 ·unfold lvK;rw[if_pos (by simp)];rfl
 ·rw[List.concat_eq_append]at hk⊢;rw[List.getLast?_concat];unfold lvK
  have hl:((L++[x]).length:Int)-1=(L.length:Int):=by simp
  rw[hl,if_neg (by omega)];have hks:(txtOf cl nw lv base).ks=keptL cl:=rfl;rw[hks,if_neg (by rw[hk];simp;omega)];show lvAt lv ((keptL cl).getD ((L.length:Int)).toNat 0)=lvAt lv x;rw[Int.toNat_natCast,hk,List.append_assoc,List.getD_eq_getElem?_getD,List.getElem?_append_right (Nat.le_refl _),Nat.sub_self];rfl
theorem lvK_next {a:Nat}(ha:a<cl.length)(hr:remC (cl.getD a 0)=false):lvK (txtOf cl nw lv base) (lvAt (txtOf cl nw lv base).ix a+1)=besF cl lv base (cl.length-(a+1)) (a+1):=by
 rw[ix_at ha hr,besF_eq];have hk:=keptL_parts ha hr;generalize rangeP cl (a+1) (cl.length-(a+1))=R at*;generalize keptT cl a=T at*;unfold lvK;have hks:(txtOf cl nw lv base).ks=keptL cl:=rfl;rw[hks,if_neg (by omega)]
 rcases R with _|⟨x,R⟩
 ·rw[if_pos (by rw[hk];simp)];rfl
 ·rw[if_neg (by rw[hk];simp;omega)];show lvAt lv ((keptL cl).getD ((T.length:Int)+1).toNat 0)=lvAt lv x;rw[show((T.length:Int)+1).toNat=T.length+1 by omega,hk,List.getD_eq_getElem?_getD,List.getElem?_append_right (by omega),show T.length+1-T.length=1 by omega];rfl
theorem findR_no {rs:List Rn}{a:Int}: ∀k,findR rs a k= -1→ ∀j,j<k→(((rs.getD j default).f:Nat):Int)≠a
 |0,_,j,h=>by omega
 |k+1,h,j,hj=>by
  unfold findR at h
  split at h
  ·omega
  ·rename_i hne
   by_cases e:j=k
   ·subst e;exact hne
   ·exact findR_no k h j (by omega)
theorem nx_found {i k:Nat}(hi:i<(rnL lv cl).length)(hk:k<(rnL lv cl).length)(hb:begI (lvAt cl ((grpAt lv cl i).getD ((grpAt lv cl i).length-1) 0))=true)
 (he:(grpAt lv cl k).getD 0 0=lvAt (matchL cl) ((grpAt lv cl i).getD ((grpAt lv cl i).length-1) 0)):nxQ lv cl i=(k:Int):=by
 obtain⟨a,b,ea,eb,la,lb,_,_,_,_,hL,_⟩:=first_last hi;obtain⟨a',b',ea',eb',la',lb',_,m0,_,hF,_,_⟩:=first_last hk;rw[eb]at hb he;rw[ea']at he
 have hN:nxQ lv cl i=findR (rnL lv cl) (lvAt (matchL cl) b) (rnL lv cl).length:=by unfold nxQ nxT;rw[hL,if_pos hb]
 rcases findR_spec (rnL lv cl) (lvAt (matchL cl) b) (rnL lv cl).length with e|⟨j,e,h1,h2⟩
 ·exact absurd (by rw[hF];exact he) (findR_no _ e k hk)
 ·rw[hN,e];obtain⟨a2,b2,ea2,_,_,_,_,m2,_,hF2,_,_⟩:=first_last h1;rw[hF2]at h2
  rcases Nat.lt_trichotomy j k with h3|h3|h3
  ·have:=grp_lt h3 hk m2 m0;omega
  ·rw[h3]
  ·have:=grp_lt h3 h1 m0 m2;omega
theorem nx_none {i:Nat}(hi:i<(rnL lv cl).length)(h:begI (lvAt cl ((grpAt lv cl i).getD ((grpAt lv cl i).length-1) 0))=false∨ ∀k,k<(rnL lv cl).length→k≠i→(grpAt lv cl k).getD 0 0≠lvAt (matchL cl) ((grpAt lv cl i).getD ((grpAt lv cl i).length-1) 0)):nxQ lv cl i= -1:=by
 rcases nxQ_good (lv:=lv) (cl:=cl) i hi with e|⟨j,e,h1,h2⟩
 ·exact e
 ·exfalso;obtain⟨_,_,a,b,ea,eb,la,lb,hb,hm⟩:=nxQ_spec hi e;rw[eb]at h
  rcases h with h|h
  ·have h':begI (cl.getD b 0)=false:=h;rw[hb]at h';cases h'
  ·refine h j h2 (by omega) ?_;rw[ea];exact hm.symm
end
section
attribute [local go_sem] Oper.semAt_some
structure GrpIs (W:World) (v:Value) (lv cl:List Int) (og cap:Nat):Prop where
 val:v= .slice (some ⟨og,0,none⟩) (rnL lv cl).length cap
 lt:og<W.heap.size
 le:(rnL lv cl).length≤cap
 big:cap≤maxLen
 each: ∀i,i<(rnL lv cl).length→ ∃gb go gc,W.cell? ⟨og,i*2,none⟩=some (.slice (some ⟨gb,go,none⟩) (grpAt lv cl i).length gc)∧W.cell? ⟨og,i*2+1,none⟩=some (.int .i8 ((rnL lv cl).getD i default).v)∧
  RdInts W W.heap.size .i64 (some ⟨gb,go,none⟩) (grpAt lv cl i)∧(grpAt lv cl i).length≤gc∧0<(grpAt lv cl i).length
theorem grL_len {L:List Gr}{lv cl:List Int}(h:L.map (fun e=>(e.1,e.2.1))=grL lv (keptL cl)):L.length=(rnL lv cl).length:=by have:=congrArg List.length h;rw[List.length_map]at this;rw[this,rnL_len];unfold grL;rw[List.length_map]
theorem gr_cell: ∀(L:List Gr) (i j:Nat) (h:i<L.length),j<2→(L.flatMap grCells)[i*2+j]?=(grCells L[i])[j]?
 |[],i,j,h,_=>by simp at h
 |e::L,0,j,_,hj=>by
  rw[List.flatMap_cons,List.getElem?_append_left (by simp[grCells];omega)];simp
 |e::L,i+1,j,h,hj=>by
  have ih:=gr_cell L i j (by simpa using h) hj;rw[List.flatMap_cons,List.getElem?_append_right (by simp[grCells];omega)]
  have:(i+1)*2+j-(grCells e).length=i*2+j:=by simp[grCells];omega
  rw[this,ih];simp
theorem GrpAt.is {W:World}{B:Nat}{v:Value}{L:List Gr}{lv cl:List Int}(h:GrpAt W B v L)(hL:L.map (fun e=>(e.1,e.2.1))=grL lv (keptL cl))(h0:0<(rnL lv cl).length): ∃og cap,GrpIs W v lv cl og cap:=by
 have hl:=grL_len hL;obtain⟨og,cap,e,ho1,ho2⟩:=World.ownsRow.form h.row (by omega);obtain⟨cur,hb1,hb2,hb3,hb4,hb5,hb6⟩:=own_blk (e▸h.row);refine⟨og,cap,⟨by rw[e,hl],ho2,by omega,by omega,fun i hi=> ?_⟩⟩
 have hi':i<L.length:=by omega
 have he:(L[i].1,L[i].2.1)=(grpAt lv cl i,((rnL lv cl).getD i default).v):=by
  have h1:=congrArg (fun l=>l[i]?) hL;simp only[List.getElem?_map,List.getElem?_eq_getElem hi',Option.map_some]at h1
  have hg:i<(grp lv (keptL cl)).length:=by rw[←rnL_len];exact hi
  unfold grL at h1;rw[List.getElem?_map,List.getElem?_eq_getElem hg]at h1;have h1:=Option.some.inj h1;rw[h1,rnL_at hi];unfold toRn grpAt;rw[List.getD_eq_getElem?_getD,List.getElem?_eq_getElem hg];rfl
 have hI:=h.each L[i] (List.getElem_mem hi');have he1:L[i].1=grpAt lv cl i:=congrArg Prod.fst he;have he2:L[i].2.1=((rnL lv cl).getD i default).v:=congrArg Prod.snd he;rw[he1]at hI;have hne:0<(grpAt lv cl i).length:=List.length_pos_iff.2 ((grps lv cl).ne _ (grpAt_mem hi));obtain⟨gb,gc,hv⟩:=hI.form hne;have hI2:=hI;rw[hv]at hI2
 have c0:=World.ownsRow.cells h.row (g:=og) (by rw[e];rfl) (i*2) (.slice (some ⟨gb,0,none⟩) (grpAt lv cl i).length gc) (by
  have:=gr_cell L i 0 hi' (by omega);rw[Nat.add_zero]at this
  rw[this,←hv];rfl)
 have c1:=World.ownsRow.cells h.row (g:=og) (by rw[e];rfl) (i*2+1) (.int .i8 ((rnL lv cl).getD i default).v) (by
  have:=gr_cell L i 1 hi' (by omega)
  rw[this,←he2];rfl)
 rw[add_lit,Nat.zero_add]at c0 c1;exact⟨gb,0,gc,c0,c1,hI2.rd,hI2.at_.2.1,hne⟩
theorem GrpIs.frm {W W':World}{v:Value}{lv cl:List Int}{og cap:Nat}(h:GrpIs W v lv cl og cap)(hb:Below W.heap.size W W'):GrpIs W' v lv cl og cap:=
 ⟨h.val,Nat.lt_of_lt_of_le h.lt hb.size,h.le,h.big,fun i hi=>by
  obtain⟨gb,go,gc,c0,c1,r,hl⟩:=h.each i hi
  exact⟨gb,go,gc,(hb.cell (p:=⟨og,i*2,none⟩) h.lt).trans c0,(hb.cell (p:=⟨og,i*2+1,none⟩) h.lt).trans c1,(r.below hb (.inl (Nat.le_refl _))).more hb.size,hl⟩⟩
theorem follows_ok {w:World}{v:Value}{lv cl:List Int}{og cap n c B2 n2 c2 B3:Nat}{A A3:Option Addr}(hG:GrpIs w v lv cl og cap)(hM:RdInts w B2 .i64 A (matchL cl))(hC:RdInts w B3 .u8 A3 cl)(hn:n=cl.length)(hn2:n2=(matchL cl).length)(hl:n≤8388608)
 {i:Nat} (hi:i<(rnL lv cl).length):
 Calls Tryz.prog 131 #[v,.slice A n2 c,.int .i64 i,.slice A3 n c2] w fun r w'=>r= .returned (.int .i64 (nxQ lv cl i))∧ ∃m,w'=w.drewN m:=by
 obtain⟨a,b,ea,eb,la,lb,hab,m0,m1,_,_,_⟩:=first_last hi;obtain⟨gb,go,gc,c0,c1,hr,hgl,hne⟩:=hG.each i hi
 have hgn:(grpAt lv cl i).length≤8388608:=by have h1:=(List.sublist_flatten_of_mem (grpAt_mem hi)).length_le;rw[grp_flat]at h1;have:=keptT_length cl cl.length;unfold keptL at h1;omega
 have hmn:(matchL cl).length=cl.length:=(matchL_inv cl).len;obtain⟨gb',go',e,hgb1,hgb2,hgc⟩:=hr.cells hne
 injection e with e
 injection e with e1 e2 e3
 subst e1 e2;clear e3;have cl1:=hgc ((grpAt lv cl i).length-1) (by omega);rw[eb]at cl1;obtain⟨q,o,rfl,_,hq,hcb⟩:=hC.at_ (i:=b) lb;obtain⟨q2,o2,rfl,_,hq2,hmb⟩:=hM.at_ (i:=b) (by omega);have hv:=hG.val;have ho:=hG.lt;have hbig:=hG.big;have hle:=hG.le
 have hm8:(rnL lv cl).length≤8388608:=by have:=(runs_good lv cl).len;show(runL lv (keptL cl)).length≤_;omega
 have hfound:=fun k hk=>nx_found (lv:=lv) (cl:=cl) (i:=i) (k:=k) hi hk;have hnone:=nx_none (lv:=lv) (cl:=cl) hi
 have hfirst: ∀k,k<(rnL lv cl).length→ ∃a:Nat,(grpAt lv cl k).getD 0 0=a∧a<n:=fun k hk=>by obtain⟨a,b,ea,_,la,_⟩:=first_last hk;exact⟨a,ea,by omega⟩
 rw[eb]at hfound hnone
 have hlb:lvAt cl (b:Int)=cl.getD b 0:=by unfold lvAt;rw[Int.toNat_natCast]
 have hlm:lvAt (matchL cl) (b:Int)=(matchL cl).getD b 0:=by unfold lvAt;rw[Int.toNat_natCast]
 rw[hlb,hlm]at hfound hnone;have hEach:=hG.each;obtain⟨N,hN⟩: ∃N,nxQ lv cl i=N:=⟨_,rfl⟩;rw[hN]at hfound hnone⊢;obtain⟨m,hm⟩: ∃m,(rnL lv cl).length=m:=⟨_,rfl⟩;rw[hm]at hv hle hm8 hfound hnone hfirst hEach hi;obtain⟨gl,hgl2⟩: ∃gl,(grpAt lv cl i).length=gl:=⟨_,rfl⟩;rw[hgl2]at c0 hgl hne hgn cl1;obtain⟨x,hx⟩: ∃x,cl.getD b 0=x:=⟨_,rfl⟩;rw[hx]at hcb hfound hnone;obtain⟨y,hy⟩: ∃y,(matchL cl).getD b 0=y:=⟨_,rfl⟩;rw[hy]at hmb hfound hnone;subst hv;have HF:=Lib.hid hfound;have HNO:=Lib.hid hnone;have HFI:=Lib.hid hfirst;have HE:=Lib.hid hEach
 have hbn:b<n:=by omega
 have hbn2:b<n2:=by omega
 have hw1:IntKind.i64.wrap ((gl:Int)-1)=((gl-1:Nat):Int):=by rw[IntWalk.i64_in _ (by omega)];omega
 clear hfound hnone hfirst hEach hN hm hgl2 hx hy hlb hlm hmn hgc hr eb ea hG hM hC hn hn2 m0 m1 la lb hab c1
 have hgl1:gl-1<gl:=by omega
 go_enter Tryz.func131,Tryz.ntmps131
 go_upto_region 1 with(fail)
 go_quiet (fail)
 clear hw1
 rcases hbg:begins x with _|_
 ·have hfin:=HNO.out (.inl hbg)
  go_wp2_with(go_at_call 134;refine(rBegins_any _ _).mono ?_;rintro r1 w1 ⟨rfl,rfl⟩)
  go_ret;rw[hfin];exact⟨rfl,by first|exact⟨_,rfl⟩|exact⟨_,World.drewN_drewN _ _ _⟩⟩
 ·have HBG:=Lib.hid hbg
  go_wp2_with(go_at_call 134;refine(rBegins_any _ _).mono ?_;rintro r1 w1 ⟨rfl,rfl⟩)
  clear hbg cl1 c0 hcb
  go_loopg [10] m (fun gk kv wr=> ∃k:Nat,k+gk=m∧kv= .int .i64 k∧(∀j,j<k→j≠i→(grpAt lv cl j).getD 0 0≠y)∧ ∃d,wr=w.drewN d)
  case atStart=>exact⟨0,by omega,rfl,fun j h=>absurd h (by omega),_,rfl⟩
  case round=>
   obtain⟨k,hk,rfl,hno,d,rfl⟩:=hrel;have HK:=Lib.hid hk;have HNN:=Lib.hid hno;clear hk hno
   by_cases hkm:k<m
   ·by_cases hki:k=i
    ·have hne2:((k:Int) !=(i:Int))=false:=by simp[hki]
     have HKI:=Lib.hid hki;clear hki
     go_wp2_with(go_quiet (fail))
     go_roundg (m-(k+1))
     case rel=>exact⟨k+1,by have:=HK.out;omega,by go_num,fun j h1 h2=>HNN.out j (by have:=HKI.out;omega) h2,_,rfl⟩
     case measure=>have:=HK.out;omega
    ·have hne2:((k:Int) !=(i:Int))=true:=by simp;omega
     obtain⟨hb2,ho2,hc2,d0,_,r2,hl2,hp2⟩:=HE.out k hkm;obtain⟨f,hf,hfn⟩:=HFI.out k hkm;obtain⟨_,_,e,_,hb3,f0⟩:=r2.at_ (i:=0) hp2
     injection e with e
     injection e with e1 e2 e3
     subst e1 e2;clear e3;rw[hf,Nat.add_zero]at f0;obtain⟨gl,hgl2⟩: ∃gl,(grpAt lv cl k).length=gl:=⟨_,rfl⟩;rw[hgl2]at d0 hl2 hp2;clear r2 hgl2
     by_cases hfy:(f:Int)=y
     ·have hfin:=HF.out k hkm (HBG.out) (by rw[hf];exact hfy);have hb:((f:Int)==y)=true:=beq_iff_eq.2 hfy;have HFIN:=Lib.hid hfin;clear hfy hfin hf
      go_wp2_with(go_quiet (fail))
      go_ret;rw[HFIN.out];exact⟨rfl,by first|exact⟨_,rfl⟩|exact⟨_,World.drewN_drewN _ _ _⟩⟩
     ·have hb:((f:Int)==y)=false:=beq_eq_false_iff_ne.2 hfy;have HFY:=Lib.hid hfy;have HF2:=Lib.hid hf;clear hfy hf
      go_wp2_with(go_quiet (fail))
      go_roundg (m-(k+1))
      case rel=>exact⟨k+1,by have:=HK.out;omega,by go_num,fun j h1 h2=>(by
       by_cases e:j=k
       ·subst e;rw[HF2.out];exact HFY.out
       ·exact HNN.out j (by omega) h2),_,rfl⟩
      case measure=>have:=HK.out;omega
   ·have hkm2:k=m:=by have:=HK.out;omega
    have hfin:=HNO.out (.inr (fun j h1 h2=>HNN.out j (by omega) h2));have HFIN:=Lib.hid hfin;clear hfin;subst hkm2;go_wp2;go_ret;rw[HFIN.out];exact⟨rfl,by first|exact⟨_,rfl⟩|exact⟨_,World.drewN_drewN _ _ _⟩⟩
theorem beside_back {w:World}{lv cl:List Int}{n n2 c c2 B B2:Nat}{A A2:Option Addr}(hC:RdInts w B .u8 A cl)(hV:RdInts w B2 .i8 A2 lv)(hn:n=cl.length)(hn2:n2=lv.length)(he:n=n2)(hl:n≤8388608){a:Nat}(ha:a<n)(base:Int):
 Calls Tryz.prog 133 #[.slice A n c,.slice A2 n2 c2,.int .i64 a,.int .i64 (-1),.int .i8 base] w fun r w'=>r= .returned (.int .i8 (besB cl lv base a))∧w=w':=by
 subst he;have HN:=Lib.hid hn;have HN2:=Lib.hid hn2;clear hn hn2
 go_enter Tryz.func133,Tryz.ntmps133
 go_wp2
 go_loopg [11] (a+1) (fun gk iv wr=> ∃(k:Nat) (y:Int),k<gk∧k≤a∧y≤(k:Int)-1∧(k:Int)-1≤y∧iv= .int .i64 y∧besB cl lv base a=besB cl lv base k∧wr=w)
 case atStart=>exact⟨a,_,by omega,by omega,by omega,by omega,rfl,rfl,rfl⟩
 case round=>
  obtain⟨k,y,hgk,hka,hy1,hy2,rfl,hbe,hw⟩:=hrel;subst hw;have HBE:=Lib.hid hbe;clear hbe
  rcases Nat.eq_zero_or_pos k with hk0|hk0
  ·have hfin:besB cl lv base a=base:=by rw[HBE.out,hk0];rfl
   have HFIN:=Lib.hid hfin
   have hyl:y<0:=by omega
   have hyb:decide (0≤y)=false:=decide_eq_false (by omega);clear hfin hk0 hy1 hy2;go_wp2;go_ret;rw[HFIN.out];exact⟨rfl,rfl⟩
  ·obtain⟨j,hj⟩: ∃j,k=j+1:=⟨k-1,by omega⟩
   have hyj:y=(j:Int):=by omega
   have hstep:besB cl lv base k=if remC (cl.getD j 0)=true then besB cl lv base j else lv.getD j 0:=by rw[hj];rfl
   subst hyj;have HST:=Lib.hid hstep
   have hjn:j<n:=by omega
   obtain⟨q,o,rfl,_,hq,hcj⟩:=hC.at_ (i:=j) (by have:=HN.out;omega);obtain⟨q2,o2,rfl,_,hq2,hvj⟩:=hV.at_ (i:=j) (by have:=HN2.out;omega);generalize cl.getD j 0=x at*;generalize lv.getD j 0=z at*
   have hjk:j<k:=by omega
   have hkj:k≤j+1:=by omega
   clear hstep hy1 hy2 hj
   rcases hr:remC x with _|_
   ·have hfin:besB cl lv base a=z:=by rw[HBE.out,HST.out,if_neg (by rw[hr];decide)]
    have HFIN:=Lib.hid hfin;clear hfin
    go_wp2_with(go_at_call 34;refine(rRemoved_ok _ _).mono ?_;rintro r1 w1 ⟨rfl,rfl⟩)
    go_ret;rw[HFIN.out];exact⟨rfl,rfl⟩
   ·have hnx:besB cl lv base a=besB cl lv base j:=by rw[HBE.out,HST.out,if_pos hr]
    have HNX:=Lib.hid hnx;clear hnx
    go_wp2_with(go_at_call 34;refine(rRemoved_ok _ _).mono ?_;rintro r1 w1 ⟨rfl,rfl⟩)
    go_roundg (j+1)
    case rel=>exact⟨j,_,by omega,by omega,by omega,by omega,rfl,HNX.out,rfl⟩
    case measure=>omega
theorem beside_next {w:World}{lv cl:List Int}{n n2 c c2 B B2:Nat}{A A2:Option Addr}(hC:RdInts w B .u8 A cl)(hV:RdInts w B2 .i8 A2 lv)(hn:n=cl.length)(hn2:n2=lv.length)(he:n=n2)(hl:n≤8388608){a:Nat}(ha:a<n)(base:Int):
 Calls Tryz.prog 133 #[.slice A n c,.slice A2 n2 c2,.int .i64 a,.int .i64 1,.int .i8 base] w fun r w'=>r= .returned (.int .i8 (besF cl lv base (cl.length-(a+1)) (a+1)))∧w=w':=by
 subst he;obtain⟨F,hF⟩: ∃F,besF cl lv base (cl.length-(a+1)) (a+1)=F:=⟨_,rfl⟩;rw[hF];have HF:=Lib.hid hF;have HN:=Lib.hid hn;have HN2:=Lib.hid hn2;clear hn hn2 hF
 go_enter Tryz.func133,Tryz.ntmps133
 go_wp2
 go_loopg [11] (n+1) (fun gk iv wr=> ∃k:Nat,k+gk=n+a+2∧k≤n∧iv= .int .i64 k∧F=besF cl lv base (cl.length-k) k∧wr=w)
 case atStart=>exact⟨a+1,by omega,by omega,by go_num,HF.out.symm,rfl⟩
 case round=>
  obtain⟨k,hgk,hkn,rfl,hbe,hw⟩:=hrel;subst hw;have HBE:=Lib.hid hbe;have HGK:=Lib.hid hgk;clear hbe hgk
  by_cases hlt:k<n
  ·have hstep:besF cl lv base (cl.length-k) k=if remC (cl.getD k 0)=true then besF cl lv base (cl.length-(k+1)) (k+1)else lv.getD k 0:=by
    rw[show cl.length-k=(cl.length-(k+1))+1 by have:=HN.out;omega];rfl
   have HST:=Lib.hid hstep;obtain⟨q,o,rfl,_,hq,hcj⟩:=hC.at_ (i:=k) (by have:=HN.out;omega);obtain⟨q2,o2,rfl,_,hq2,hvj⟩:=hV.at_ (i:=k) (by have:=HN2.out;omega);generalize cl.getD k 0=x at*;generalize lv.getD k 0=z at*;clear hstep
   rcases hr:remC x with _|_
   ·have hfin:F=z:=by rw[HBE.out,HST.out,if_neg (by rw[hr];decide)]
    have HFIN:=Lib.hid hfin;clear hfin
    go_wp2_with(go_at_call 34;refine(rRemoved_ok _ _).mono ?_;rintro r1 w1 ⟨rfl,rfl⟩)
    go_ret;rw[HFIN.out];exact⟨rfl,rfl⟩
   ·have hnx:F=besF cl lv base (cl.length-(k+1)) (k+1):=by rw[HBE.out,HST.out,if_pos hr]
    have HNX:=Lib.hid hnx;clear hnx
    go_wp2_with(go_at_call 34;refine(rRemoved_ok _ _).mono ?_;rintro r1 w1 ⟨rfl,rfl⟩)
    go_roundg (n+a+2-(k+1))
    case rel=>exact⟨k+1,by have:=HGK.out;omega,by omega,by go_num,HNX.out,rfl⟩
    case measure=>have:=HGK.out;omega
  ·have hkn2:k=n:=by omega
   have hfin:F=base:=by rw[HBE.out,show cl.length-k=0 by have:=HN.out;omega];rfl
   have HFIN:=Lib.hid hfin;clear hfin hkn hlt;subst hkn2;go_wp2;go_ret;rw[HFIN.out];exact⟨rfl,rfl⟩
end
end Go.Proofs.YtllolnkkepacjaaGreat
