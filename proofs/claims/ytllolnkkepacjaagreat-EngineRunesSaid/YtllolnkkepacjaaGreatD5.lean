/- Small words for regions that make variables: rows of records stand, an answer's cells, a store into a fresh variable. The reference's pile: where its rows lie. -/
import Derived.Test.YtllolnkkepacjaaGreatD3
import Derived.Test.YtllolnkkepacjaaGreatR8
set_option maxRecDepth 100000
set_option maxHeartbeats 2000000
namespace Go.Proofs.YtllolnkkepacjaaGreat
open Go.RowKit
section
def aggV:Value→Array Value
 |.agg vs=>vs
 |_=>#[]
def noInt (cs:Array Value):Bool:=cs.all fun v=>match v with|.int _ _=>false|_=>true
theorem noInt_at {cs:Array Value}(h:noInt cs=true){j:Nat}{k:IntKind}{n:Int}:cs[j]?≠some (.int k n):=fun e=>by have:=Array.all_eq_true_iff_forall_mem.1 h _ (Array.mem_of_getElem? e);simp at this
theorem RdR.var {α:Type}{c:α→List Value}{sz:Nat}{W W':World}{B:Nat}{A:Option Addr}{l:List α}{F:Nat→Prop}(E:Enc c sz)(hsz:0<sz)(hc: ∀x,∃k n,(c x)[0]?=some (.int k n))(h:RdR c sz W B A l)(hF:Frm F W W')
 (hx: ∀k,F k→ ∃t cs,Blk W k t cs∧noInt cs=true):RdR c sz W' B A l:=by
 rcases l with _|⟨x,l⟩
 ·exact⟨by simp,fun hn=>by simp at hn⟩
 ·refine h.frmA hF fun b off e hb=> ?_;obtain⟨t,cs,h1,h2⟩:=hx b hb;obtain⟨b',off',e',_,_,h3⟩:=h.at_ E (i:=0) (x:=x) rfl hsz;rw[e]at e';cases e';obtain⟨k,n,hn⟩:=hc x;have:=h3 0 _ hn;rw[h1.cell]at this;exact noInt_at h2 this
theorem RPil.var {W W':World}{pv:Value}{l f:List (Int×Int)}{ov:Bool}{F:Nat→Prop}(h:RPil W pv l f ov)(hF:Frm F W W')(hx: ∀k,F k→ ∃t cs,Blk W k t cs∧noInt cs=true):RPil W' pv l f ov:=by obtain⟨A,A',c,c',h1,h2,h3,h4,h5⟩:=h;exact⟨A,A',c,c',h1,h2,h3,(h4.var encM (by omega) (fun x=>⟨_,_,rfl⟩) hF hx).more hF.size,(h5.var encB (by omega) (fun x=>⟨_,_,rfl⟩) hF hx).more hF.size⟩
end
section
attribute [local go_sem] Oper.semAt_some
theorem extV_20 (a b:Value):extV 0 (.tuple #[a,b])=a:=rfl
theorem extV_21 (a b:Value):extV 1 (.tuple #[a,b])=b:=rfl
theorem extV_30 (a b c:Value):extV 0 (.tuple #[a,b,c])=a:=rfl
theorem extV_31 (a b c:Value):extV 1 (.tuple #[a,b,c])=b:=rfl
theorem extV_32 (a b c:Value):extV 2 (.tuple #[a,b,c])=c:=rfl
theorem aggV_at (cs:Array Value):aggV (.agg cs)=cs:=rfl
def rAd (pv:Value)(q:Nat):Prop:=match pv with
 |.agg #[.slice A _ _,_,.slice A' _ _]=> ∃off,A=some ⟨q,off,none⟩∨A'=some ⟨q,off,none⟩
 |_=>False
def RAd (w w':World)(pv pv':Value):Prop:= ∀q,rAd pv' q→rAd pv q∨w.heap.size≤q∧q<w'.heap.size
theorem RAd.mk {w w':World}{A A' C C':Option Addr}{n n' c c' m m' d d':Nat}{u u':Value}(h: ∀q,(∃off,C=some ⟨q,off,none⟩∨C'=some ⟨q,off,none⟩)→(∃off,A=some ⟨q,off,none⟩∨A'=some ⟨q,off,none⟩)∨w.heap.size≤q∧q<w'.heap.size):RAd w w' (.agg #[.slice A n c,u,.slice A' n' c']) (.agg #[.slice C m d,u',.slice C' m' d']):=h
theorem RAd.none_ {w w':World}{A A':Option Addr}{n n' c c' m m' d d':Nat}{u u':Value}:RAd w w' (.agg #[.slice A n c,u,.slice A' n' c']) (.agg #[.slice none m d,u',.slice A' m' d']):=by
 rintro q ⟨o,h|h⟩
 ·cases h
 ·exact .inl ⟨o,.inr h⟩
theorem RPil.apart {W W':World}{pv:Value}{l f:List (Int×Int)}{ov:Bool}{F:Nat→Prop}(h:RPil W pv l f ov)(hF:Frm F W W')(hx: ∀q,rAd pv q→ ¬F q):RPil W' pv l f ov:=by obtain⟨A,A',c,c',rfl,h2,h3,h4,h5⟩:=h;exact⟨A,A',c,c',rfl,h2,h3,(h4.frmA hF (fun b off e=>hx b ⟨off,.inl e⟩)).more hF.size,(h5.frmA hF (fun b off e=>hx b ⟨off,.inr e⟩)).more hF.size⟩
theorem rOpen2_ok {w:World}{pv:Value}{l f:List (Int×Int)}{ov:Bool}(a k:Int)(h:RPil w pv l f ov)(hl:l.length≤63)(hov:ov=true→l=[]):
 Calls Tryz.prog 167 #[pv,.int .i64 a,.int .i32 k] w fun r w'=> ∃pv',r= .returned (.tuple #[pv',.int .i64 (opE l ov)])∧RPil w' pv' (opL l ov a k) f (opV l ov)∧Below w.heap.size w w'∧RAd w w' pv pv':=by
 have h0:=h;obtain⟨A,A',c,c',rfl,hc,hc',hL,hF⟩:=h
 by_cases hend:ov=true∨l.length=63
 ·have e1:opL l ov a k=[]:=by
   unfold opL
   rcases hend with h|h
   ·rw[if_pos h,hov h]
   ·split
    ·rename_i h2;exact hov h2
    ·rw[if_pos (by omega)]
  have e2:opV l ov=true:=by unfold opV;rcases hend with h|h<;>simp[h]
  have e3:opE l ov=3:=by unfold opE;rw[if_pos e2]
  rw[e1,e2,e3]
  have hg:(ov||(l.length:Int)==63)=true:=by
   rcases hend with h|h
   ·simp[h]
   ·simp;right;omega
  clear e1 e2 e3 h0;obtain⟨ll,hll⟩: ∃ll,l.length=ll:=⟨_,rfl⟩;obtain⟨fl,hfl⟩: ∃fl,f.length=fl:=⟨_,rfl⟩;rw[hll]at hend hl⊢;rw[hfl]at hc'⊢;have HFL:=Lib.hid hfl;clear hll hov hL hfl hc hg;have hb:Below w.heap.size w ((w.alloc (.cells #[.slice none 0 0,.bool true,.slice A' fl c'] 252)).alloc (.cells #[.slice none 0 0,.bool true,.slice A' fl c'] 252)):=((Below.refl _ w).alloc (Nat.le_refl _) _).alloc (by simp) _;cases ov
  ·have hll3:ll=63:=by simpa using hend
   subst hll3;clear hend
   go_enter Tryz.func167,Tryz.ntmps167
   go_wp2;refine bodyPost_ret (results_row1 rfl _ _ (w.heap.size+1) 252 _ _ rfl (Blk.at_ (by simp)) Tryz.underlying252 rfl (by kernel_rfl)) rfl ?_;exact⟨_,rfl,⟨none,A',0,c',by rw[HFL.out];rfl,Nat.le_refl _,by rw[HFL.out];exact hc',Reads.none_,(hF.below hb (.inl (Nat.le_refl _))).more hb.size⟩,hb,RAd.none_⟩
  ·clear hend
   go_enter Tryz.func167,Tryz.ntmps167
   go_wp2;refine bodyPost_ret (results_row1 rfl _ _ (w.heap.size+1) 252 _ _ rfl (Blk.at_ (by simp)) Tryz.underlying252 rfl (by kernel_rfl)) rfl ?_;exact⟨_,rfl,⟨none,A',0,c',by rw[HFL.out];rfl,Nat.le_refl _,by rw[HFL.out];exact hc',Reads.none_,(hF.below hb (.inl (Nat.le_refl _))).more hb.size⟩,hb,RAd.none_⟩
 ·have hov:ov=false:=by cases ov<;>simp_all
  subst hov
  have hl63:l.length<63:=by have:l.length≠63:=fun h=>hend (.inr h);omega
  have e1:opL l false a k=l++[(a,k)]:=by unfold opL;rw[if_neg (by decide),if_neg (by omega)]
  have e2:opV l false=false:=by unfold opV;simp;omega
  have e3:opE l false=0:=by unfold opE;rw[e2];rfl
  rw[e1,e2,e3];clear e1 e2 e3 h0 hend;obtain⟨ll,hll⟩: ∃ll,l.length=ll:=⟨_,rfl⟩;obtain⟨fl,hfl⟩: ∃fl,f.length=fl:=⟨_,rfl⟩;rw[hll]at hl63 hc⊢;rw[hfl]at hc'⊢
  have hn63:((ll:Int)==63)=false:=by simp;omega
  have HFL:=Lib.hid hfl;have HLL:=Lib.hid hll;clear hll hfl hl
  go_enter Tryz.func167,Tryz.ntmps167
  go_wp2_with(at_builtin;go_must (refine wpList_appRs encM etM rfl rfl rfl (Rw.nil (c:=mkC) (sz:=3) _ (w.heap.size) 255) HLL.out.symm rfl ((hL.alloc _).alloc _) ?_ ?_ ?_ ?_))
  ·have:=HLL.out;unfold maxLen;simp;omega
  ·have:=HLL.out;simp;omega
  ·simp;omega
  intro v1 w1 R1 g1 hv1;have b0:Below w.heap.size w ((w.alloc (.cells #[.slice A ll c,.bool false,.slice A' fl c'] 252)).alloc (.cells #[.slice none 0 0,.bool false,.slice none 0 0] 252)):=((Below.refl _ w).alloc (Nat.le_refl _) _).alloc (by simp) _;have b1:=b0.grown g1 (by simp;omega) (by simp[Value.ownBlock]);have X3:Blk w1 w.heap.size 252 #[.slice A ll c,.bool false,.slice A' fl c']:=((Blk.new w 252 _).alloc _).grown g1 (by simp[Value.ownBlock]);have X6:Blk w1 (w.heap.size+1) 252 #[.slice none 0 0,.bool false,.slice none 0 0]:=(Blk.at_ (by simp)).grown g1 (by simp[Value.ownBlock])
  have hs1:w.heap.size+2≤w1.heap.size:=by have:=g1.size;simp at this;omega
  have hv2: ∀j,v1.ownBlock=some j→j=w.heap.size+2:=by
   intro j e
   rcases hv1 with h|h
   ·rw[h]at e;simp[Value.ownBlock]at e
   ·rw[h]at e;injection e with e;omega
  have R1:Rw mkC 3 w1 w.heap.size 255 v1 l:=R1;clear g1 hv1 b0;obtain⟨x0,x1,x2,xf,xl⟩:=X3.c3;obtain⟨y0,y1,y2,yf,yl⟩:=X6.c3;obtain⟨A1,c1,hv1,hc1,hm1,hr1⟩:=R1.val;rw[HLL.out]at hv1 hc1;subst hv1
  go_wp2_with(at_builtin;go_must (refine wpList_appR (y:=(a,k)) encM etM rfl rfl rfl (R1.alloc _) rfl (Blk.at_ (by simp)) rfl ?_ ?_ ?_ ?_))
  ·have:=HLL.out;unfold maxLen;omega
  ·have:=HLL.out;omega
  ·show w.heap.size≤(w1.alloc _).heap.size;rw[World.size_alloc];omega
  intro g cap w2 R2 g2 hv3;have X32:Blk w2 w.heap.size 252 #[.slice A ll c,.bool false,.slice A' fl c']:=(X3.alloc _).grown g2 (fun e=>by have:=hv2 _ e.symm;omega);have X62:Blk w2 (w.heap.size+1) 252 #[.slice none 0 0,.bool false,.slice none 0 0]:=(X6.alloc _).grown g2 (fun e=>by have:=hv2 _ e.symm;omega);have b2:=(b1.alloc (by omega) _).grown g2 (by simp;omega) (fun j e=>by have:=hv2 j e;omega)
  have hg:w.heap.size+2≤g:=by
   rcases hv3 with e|e
   ·have:=hv2 g e;omega
   ·omega
  have hgl:=(R2.lt g rfl).2;clear x0 x1 x2 xf xl y0 y1 y2 yf yl g2;obtain⟨x0,x1,x2,xf,xl⟩:=X32.c3;obtain⟨y0,y1,y2,yf,yl⟩:=X62.c3;go_wp2
  have F3:Frm (fun i=>i=w.heap.size∨i=w.heap.size+1) w2 ((((w2.setCell ⟨w.heap.size,0,none⟩ (.slice (some ⟨g,0,none⟩) (l.length+1) cap)).setCell ⟨w.heap.size+1,0,none⟩ (.slice (some ⟨g,0,none⟩) (l.length+1) cap)).setCell ⟨w.heap.size+1,1,none⟩ (.bool false)).setCell ⟨w.heap.size+1,2,none⟩ (.slice A' fl c')):=((((Frm.refl (fun i=>i=w.heap.size∨i=w.heap.size+1) w2).set (.inl rfl) _).set (.inr rfl) _).set (.inr rfl) _).set (.inr rfl) _
  have hne:w.heap.size+1≠w.heap.size:=by omega
  have B3:Blk ((((w2.setCell ⟨w.heap.size,0,none⟩ (.slice (some ⟨g,0,none⟩) (l.length+1) cap)).setCell ⟨w.heap.size+1,0,none⟩ (.slice (some ⟨g,0,none⟩) (l.length+1) cap)).setCell ⟨w.heap.size+1,1,none⟩ (.bool false)).setCell ⟨w.heap.size+1,2,none⟩ (.slice A' fl c')) (w.heap.size+1) 252 #[.slice (some ⟨g,0,none⟩) (l.length+1) cap,.bool false,.slice A' fl c']:=by simpa using((((X62.far (p:=⟨w.heap.size,0,none⟩) hne (.slice (some ⟨g,0,none⟩) (l.length+1) cap)).set_ 0 (.slice (some ⟨g,0,none⟩) (l.length+1) cap)).set_ 1 (.bool false)).set_ 2 (.slice A' fl c'))
  have R3:=R2.frm F3 (fun i e=>by have:g=i:=by simpa[Value.ownBlock]using e
                                  omega)
  have b3:=b2.trans (F3.below b2.size (fun i hi e=>by omega));generalize ((((w2.setCell ⟨w.heap.size,0,none⟩ (.slice (some ⟨g,0,none⟩) (l.length+1) cap)).setCell ⟨w.heap.size+1,0,none⟩ (.slice (some ⟨g,0,none⟩) (l.length+1) cap)).setCell ⟨w.heap.size+1,1,none⟩ (.bool false)).setCell ⟨w.heap.size+1,2,none⟩ (.slice A' fl c'))=w3 at*;refine bodyPost_ret (results_row1 rfl _ _ (w.heap.size+1) 252 #[.slice (some ⟨g,0,none⟩) (l.length+1) cap,.bool false,.slice A' fl c'] _ rfl B3 Tryz.underlying252 rfl (by kernel_rfl)) rfl ?_
  exact⟨_,rfl,⟨some ⟨g,0,none⟩,A',cap,c',by rw[HFL.out,List.length_append];rfl,by have:=(R3.at_ encM).2.1;exact this,by rw[HFL.out];exact hc',R3.rd,(hF.below b3 (.inl (Nat.le_refl _))).more b3.size⟩,b3,RAd.mk (fun q h=>by
   rcases h with⟨o,h|h⟩
   ·cases h;exact .inr ⟨by omega,(R3.lt _ rfl).2⟩
   ·exact .inl ⟨o,.inr h⟩)⟩
theorem rClose2_ok {w:World}{pv:Value}{l f:List (Int×Int)}{ov:Bool}(a k:Int)(h:RPil w pv l f ov)(hl:l.length≤1048576)(hf:f.length≤1048576):
 Calls Tryz.prog 168 #[pv,.int .i64 a,.int .i32 k] w fun r w'=> ∃pv',r= .returned (.tuple #[pv',.agg #[.int .i64 (clB l a k).1,.int .i64 (clB l a k).2],.bool (clI l k)])∧RPil w' pv' (clL l k) (clF l f a k) ov∧Below w.heap.size w w'∧RAd w w' pv pv':=by
 obtain⟨A,A',c,c',rfl,hc,hc',hL,hF⟩:=h;obtain⟨ll,hll⟩: ∃ll,l.length=ll:=⟨_,rfl⟩;obtain⟨fl,hfl⟩: ∃fl,f.length=fl:=⟨_,rfl⟩;rw[hll]at hc hl⊢;rw[hfl]at hc' hf⊢;have HFL:=Lib.hid hfl;have HLL:=Lib.hid hll;clear hll hfl;obtain⟨W1,hW1⟩: ∃W1,(((w.alloc (.cells #[.slice A ll c,.bool ov,.slice A' fl c'] 252)).alloc (.cells #[.slice none 0 0,.bool false,.slice none 0 0] 252)).alloc (.cells #[.int .i64 0,.int .i64 0] 129))=W1:=⟨_,rfl⟩
 have hsz:W1.heap.size=w.heap.size+1+1+1:=by rw[←hW1];simp
 have b1:Below w.heap.size w W1:=by rw[←hW1];exact(((Below.refl _ w).alloc (Nat.le_refl _) _).alloc (by simp) _).alloc (by simp;omega) _
 have X3:Blk W1 w.heap.size 252 #[.slice A ll c,.bool ov,.slice A' fl c']:=by rw[←hW1];exact((Blk.new w 252 _).alloc _).alloc _
 have X6:Blk W1 (w.heap.size+1) 252 #[.slice none 0 0,.bool false,.slice none 0 0]:=by rw[←hW1];exact(Blk.at_ (by simp)).alloc _
 have X7:Blk W1 (w.heap.size+1+1) 129 #[.int .i64 0,.int .i64 0]:=by rw[←hW1];exact Blk.at_ (by simp)
 have hL1:=hL.below b1 (.inl (Nat.le_refl _));have hF1:=hF.below b1 (.inl (Nat.le_refl _));have HW1:=Lib.hid hW1;clear hW1;obtain⟨x0,x1,x2,xf,xl⟩:=X3.c3
 go_enter Tryz.func168,Tryz.ntmps168
 go_upto_region 1 with(fail)
 rw[HW1.out];go_wp2
 go_loopg [9] ll (fun gk iv wr=> ∃j:Nat,gk=j∧iv= .int .i64 ((j:Int)-1)∧j≤ll∧scanK l k ll=scanK l k j∧wr=W1)
 case atStart=>exact⟨ll,rfl,by go_num,Nat.le_refl _,rfl,rfl⟩
 case round=>
  obtain⟨j,hgk,rfl,hj,hsc,rfl⟩:=hrel;have HGK:=Lib.hid hgk;clear hgk
  rcases j with _|j
  ·have hs:scanK l k l.length=none:=by rw[HLL.out];exact hsc
   have e1:clL l k=l:=by unfold clL;rw[hs]
   have e2:clF l f a k=f:=by unfold clF;rw[hs]
   have e3:clB l a k=(0,0):=by unfold clB;rw[hs]
   have e4:clI l k=false:=by unfold clI;rw[hs];rfl
   clear hs hsc;have E1:=Lib.hid e1;have E2:=Lib.hid e2;have E3:=Lib.hid e3;have E4:=Lib.hid e4;clear e1 e2 e3 e4;obtain⟨y0,y1,y2,yf,yl⟩:=X6.c3;obtain⟨z0,z1,zf,zl⟩:=X7.c2;go_wp2;rw[E1.out,E2.out,E3.out,E4.out];have B6:=(blk_put3 (.slice A ll c) (.bool ov) (.slice A' fl c') X6);have F6:=frm_put3 wr (w.heap.size+1) (.slice A ll c) (.bool ov) (.slice A' fl c');have B7:=X7.frm F6 (by omega);generalize ((wr.setCell ⟨w.heap.size+1,0,none⟩ (.slice A ll c)).setCell ⟨w.heap.size+1,1,none⟩ (.bool ov)).setCell ⟨w.heap.size+1,2,none⟩ (.slice A' fl c')=WA at*;have B72:=blk_put2 (.int .i64 0) (.int .i64 0) B7;have F7:=frm_put2 WA (w.heap.size+1+1) (.int .i64 0) (.int .i64 0);have B62:=B6.frm F7 (by omega);have bF:=(b1.trans (F6.below b1.size (fun i hi e=>by omega))).trans (F7.below (by have:=F6.size;have:=b1.size;omega) (fun i hi e=>by omega));generalize (WA.setCell ⟨w.heap.size+1+1,0,none⟩ (.int .i64 0)).setCell ⟨w.heap.size+1+1,1,none⟩ (.int .i64 0)=WB at*;refine bodyPost_ret (results_ccs rfl _ _ (w.heap.size+1) (w.heap.size+1+1) _ _ _ rfl rfl rfl B62 B72) rfl ?_;exact⟨_,rfl,⟨A,A',c,c',by rw[HLL.out,HFL.out],by rw[HLL.out];exact hc,by rw[HFL.out];exact hc',(hL.below bF (.inl (Nat.le_refl _))).more bF.size,(hF.below bF (.inl (Nat.le_refl _))).more bF.size⟩,bF,RAd.mk (fun q h=>.inl h)⟩
  ·have e1:(((j+1:Nat):Int)-1)=(j:Int):=by omega
   rw[e1];obtain⟨x,hx⟩: ∃x,l.getD j (0,0)=x:=⟨_,rfl⟩
   have hx2:l[j]?=some x:=by rw[←hx,List.getD_eq_getElem?_getD,List.getElem?_eq_getElem (by have:=HLL.out;omega)];rfl
   have hsj:scanK l k (j+1)=if x.2=k then some j else scanK l k j:=by rw[←hx];rfl
   rw[hsj]at hsc;have HSC:=Lib.hid hsc;obtain⟨ab,off,rfl,ha1,ha2,hcc⟩:=hL1.at_ encM hx2 (by omega);have c0:=hcc 0 _ rfl;have c2:=hcc 2 _ rfl;rw[Nat.add_zero]at c0;rw[←Nat.add_assoc]at c2;have HX:=Lib.hid hx;clear hsc hsj hx hx2 hcc e1
   by_cases hk:x.2=k
   ·have hkk:(x.2==k)=true:=by simpa using hk
    have hjl:j<ll:=by omega
    have hjc:j≤c:=by omega
    go_wp2_with(at_builtin;go_must (refine wpList_appRs encB etB rfl rfl rfl (Rw.nil (c:=brC) (sz:=2) _ (w.heap.size+1+1+1) 129) HFL.out.symm rfl (Reads.alloc (Reads.setCell hF1 (p:=⟨w.heap.size,0,none⟩) (Nat.le_refl _) _) _) ?_ ?_ ?_ ?_))
    ·have:=HFL.out;unfold maxLen;simp;omega
    ·have:=HFL.out;simp;omega
    ·simp;omega
    intro v1 w1 R1 g1 hv1;have b0:Below w.heap.size w ((wr.setCell ⟨w.heap.size,0,none⟩ (.slice (some ⟨ab,off,none⟩) j c)).alloc (.cells #[.int .i64 x.1,.int .i64 a] 129)):=(b1.setCell (p:=⟨w.heap.size,0,none⟩) (by simp) _).alloc (by simp;omega) _;have b2:=b0.grown g1 (by simp;omega) (by simp[Value.ownBlock])
    have Y3:Blk w1 w.heap.size 252 #[.slice (some ⟨ab,off,none⟩) j c,.bool ov,.slice A' fl c']:=by
     have:=((X3.set_ 0 (.slice (some ⟨ab,off,none⟩) j c)).alloc (.cells #[.int .i64 x.1,.int .i64 a] 129)).grown g1 (by simp[Value.ownBlock])
     simpa using this
    have Y6:Blk w1 (w.heap.size+1) 252 #[.slice none 0 0,.bool false,.slice none 0 0]:=((X6.far (p:=⟨w.heap.size,0,none⟩) (by simp) _).alloc _).grown g1 (by simp[Value.ownBlock]);have Y7:Blk w1 (w.heap.size+1+1) 129 #[.int .i64 0,.int .i64 0]:=((X7.far (p:=⟨w.heap.size,0,none⟩) (by simp;omega) _).alloc _).grown g1 (by simp[Value.ownBlock]);have Y8:Blk w1 (w.heap.size+1+1+1) 129 #[.int .i64 x.1,.int .i64 a]:=(Blk.at_ (by simp;omega)).grown g1 (by simp[Value.ownBlock])
    have hs1:w.heap.size+1+1+1+1≤w1.heap.size:=by have:=g1.size;simp at this;omega
    have hv2: ∀i,v1.ownBlock=some i→i=w.heap.size+1+1+1+1:=by
     intro i e
     rcases hv1 with h|h
     ·rw[h]at e;simp[Value.ownBlock]at e
     ·rw[h]at e;injection e with e;omega
    have R1:Rw brC 2 w1 (w.heap.size+1+1+1) 129 v1 f:=R1;clear g1 hv1 b0 x0 x1 x2 xf xl;obtain⟨x0,x1,x2,xf,xl⟩:=Y3.c3;obtain⟨p0,p1,pf,pl⟩:=Y8.c2;obtain⟨A1,c1,hv1,hc1,hm1,hr1⟩:=R1.val;rw[HFL.out]at hv1 hc1;subst hv1
    go_wp2_with(at_builtin;go_must (refine wpList_appR (y:=(x.1,a)) encB etB rfl rfl rfl (R1.alloc _) rfl (Blk.at_ (by simp)) rfl ?_ ?_ ?_ ?_))
    ·have:=HFL.out;unfold maxLen;omega
    ·have:=HFL.out;omega
    ·show w.heap.size+1+1+1≤(w1.alloc _).heap.size;rw[World.size_alloc];omega
    intro g cap w2 R2 g2 hv3;have Z3:=(Y3.alloc (.cells #[.int .i64 x.1,.int .i64 a] 129)).grown g2 (fun e=>by have:=hv2 _ e.symm;omega);have Z6:=(Y6.alloc (.cells #[.int .i64 x.1,.int .i64 a] 129)).grown g2 (fun e=>by have:=hv2 _ e.symm;omega);have Z7:=(Y7.alloc (.cells #[.int .i64 x.1,.int .i64 a] 129)).grown g2 (fun e=>by have:=hv2 _ e.symm;omega);have Z8:=(Y8.alloc (.cells #[.int .i64 x.1,.int .i64 a] 129)).grown g2 (fun e=>by have:=hv2 _ e.symm;omega);have b3:=(b2.alloc (by omega) (.cells #[.int .i64 x.1,.int .i64 a] 129)).grown g2 (by simp;omega) (fun j e=>by have:=hv2 j e;omega)
    have hg:w.heap.size+1+1+1+1≤g:=by
     rcases hv3 with e|e
     ·have:=hv2 g e;omega
     ·omega
    clear x0 x1 x2 xf xl p0 p1 pf pl g2;obtain⟨x0,x1,x2,xf,xl⟩:=Z3.c3;obtain⟨y0,y1,y2,yf,yl⟩:=Z6.c3;obtain⟨z0,z1,zf,zl⟩:=Z7.c2;obtain⟨p0,p1,pf,pl⟩:=Z8.c2;go_wp2
    go_region
    all_goals
     go_wp2
     have hs:scanK l k l.length=some j:=by rw[HLL.out];have:=HSC.out;rw[if_pos hk]at this;exact this
     have e1:clL l k=l.take j:=by unfold clL;rw[hs]
     have e2:clF l f a k=f++[(x.1,a)]:=by unfold clF;rw[hs,←HX.out]
     have e3:clB l a k=(x.1,a):=by unfold clB;rw[hs,←HX.out]
     have e4:clI l k=true:=by unfold clI;rw[hs];rfl
     rw[e1,e2,e3,e4];have F5:Frm (fun i=>i=w.heap.size) w2 (w2.setCell ⟨w.heap.size,2,none⟩ (.slice (some ⟨g,0,none⟩) (f.length+1) cap)):=(Frm.refl (fun i=>i=w.heap.size) w2).set rfl _;have V6:=Z6.frm F5 (by omega);have V7:=Z7.frm F5 (by omega)
     have R5:=R2.frm F5 (fun i e=>by have:g=i:=by simpa[Value.ownBlock]using e
                                     omega)
     have b5:=b3.trans (F5.below b3.size (fun i hi e=>by omega));generalize w2.setCell ⟨w.heap.size,2,none⟩ (.slice (some ⟨g,0,none⟩) (f.length+1) cap)=WA at*;have B6:=(blk_put3 (.slice (some ⟨ab,off,none⟩) j c) (.bool ov) (.slice (some ⟨g,0,none⟩) (f.length+1) cap) V6);have F6:=frm_put3 WA (w.heap.size+1) (.slice (some ⟨ab,off,none⟩) j c) (.bool ov) (.slice (some ⟨g,0,none⟩) (f.length+1) cap);have B7:=V7.frm F6 (by omega)
     have R6:=R5.frm F6 (fun i e=>by have:g=i:=by simpa[Value.ownBlock]using e
                                     omega)
     generalize ((WA.setCell ⟨w.heap.size+1,0,none⟩ (.slice (some ⟨ab,off,none⟩) j c)).setCell ⟨w.heap.size+1,1,none⟩ (.bool ov)).setCell ⟨w.heap.size+1,2,none⟩ (.slice (some ⟨g,0,none⟩) (f.length+1) cap)=WB at*;have B72:=blk_put2 (.int .i64 x.1) (.int .i64 a) B7;have F7:=frm_put2 WB (w.heap.size+1+1) (.int .i64 x.1) (.int .i64 a);have B62:=B6.frm F7 (by omega)
     have R7:=R6.frm F7 (fun i e=>by have:g=i:=by simpa[Value.ownBlock]using e
                                     omega)
     have bF:=(b5.trans (F6.below b5.size (fun i hi e=>by omega))).trans (F7.below (by have:=F6.size;have:=b5.size;omega) (fun i hi e=>by omega));generalize (WB.setCell ⟨w.heap.size+1+1,0,none⟩ (.int .i64 x.1)).setCell ⟨w.heap.size+1+1,1,none⟩ (.int .i64 a)=WC at*;refine bodyPost_ret (results_ccs rfl _ _ (w.heap.size+1) (w.heap.size+1+1) _ _ _ rfl rfl rfl B62.drew B72.drew) rfl ?_;have hLF:=(hL.below bF (.inl (Nat.le_refl _))).more bF.size
     have hLt:RdR mkC 3 WC WC.heap.size (some ⟨ab,off,none⟩) (l.take j):=by
      have hjl2:j≤l.length:=by have:=HLL.out;omega
      refine⟨fm_len encM _,fun h0=> ?_⟩;obtain⟨b',off',e,q1,q2,q3⟩:=hLF.2 (by rw[List.length_take]at h0;omega);refine⟨b',off',e,q1,q2,fun i v hi=>q3 i v ?_⟩;rw[fm_take encM,List.getElem?_take]at hi
      split at hi
      ·exact hi
      ·cases hi
     exact⟨_,rfl,⟨some ⟨ab,off,none⟩,some ⟨g,0,none⟩,c,cap,by rw[List.length_take,HLL.out,Nat.min_eq_left (by omega),List.length_append];rfl,by rw[List.length_take];omega,(R7.at_ encB).2.1,hLt.drew,R7.rd.drew⟩,bF.drew,RAd.mk (fun q h=>by
      rcases h with⟨o,h|h⟩
      ·exact .inl ⟨o,.inl h⟩
      ·cases h;exact .inr ⟨by omega,(R7.lt _ rfl).2⟩)⟩
   ·have hkk:(x.2==k)=false:=by simpa using hk
    go_wp2
    go_roundg j
    case rel=>exact⟨j,rfl,by go_num,by omega,by have:=HSC.out;rw[if_neg hk]at this;exact this,rfl⟩
    case measure=>have:=HGK.out;omega
end
end Go.Proofs.YtllolnkkepacjaaGreat
