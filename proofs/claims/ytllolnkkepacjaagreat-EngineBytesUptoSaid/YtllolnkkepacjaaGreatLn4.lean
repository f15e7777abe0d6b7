/- engine.Line. furrowref21.Line. -/
import Derived.Test.YtllolnkkepacjaaGreatLn2
set_option maxRecDepth 100000
set_option maxHeartbeats 4000000
section
namespace Go.Proofs.YtllolnkkepacjaaGreat
open Go.RowKit
attribute [local go_sem] Oper.semAt_some
theorem blk_rs (w:World)(a b c d e:Value):Blk ((w.alloc (.cells #[a,b,c] 33)).alloc (.cells #[d,e] 44)) w.heap.size 33 #[a,b,c]∧Blk ((w.alloc (.cells #[a,b,c] 33)).alloc (.cells #[d,e] 44)) (w.heap.size+1) 44 #[d,e]∧Aft w ((w.alloc (.cells #[a,b,c] 33)).alloc (.cells #[d,e] 44)):=⟨(Blk.new w 33 _).alloc _,Blk.at_ (by simp),((Aft.refl w).alloc _).alloc _⟩
theorem rem_sep {x:Int}(h:remC x=true):sepW x=false:=by unfold remC at h;unfold sepW;simp only[Bool.or_eq_true,beq_iff_eq]at h;rw[Bool.or_eq_false_iff,beq_eq_false_iff_ne,beq_eq_false_iff_ne];omega
theorem lnV_keep {base:Int}{C L V:List Int}{N i:Nat}(h1: ∀j,j<i+1→V.getD j 0=L.getD j 0)(h2: ∀j,i+1≤j→j<N→V.getD j 0=ansL base C L j)(h:ansL base C L i=L.getD i 0):
 (∀j,j<i→V.getD j 0=L.getD j 0)∧ ∀j,i≤j→j<N→V.getD j 0=ansL base C L j:=
 ⟨fun j hj=>h1 j (by omega),fun j hj hN=>by
  by_cases e:j=i
  ·subst e;rw[h1 j (by omega),h]
  ·exact h2 j (by omega) hN⟩
theorem lnV_set {base:Int}{C L V:List Int}{N i:Nat}(h1: ∀j,j<i+1→V.getD j 0=L.getD j 0)(h2: ∀j,i+1≤j→j<N→V.getD j 0=ansL base C L j)(hl:i<V.length)(h:ansL base C L i=base):
 (∀j,j<i→(V.set i base).getD j 0=L.getD j 0)∧ ∀j,i≤j→j<N→(V.set i base).getD j 0=ansL base C L j:=
 ⟨fun j hj=>by rw[getD_setW,if_neg (by omega)];exact h1 j (by omega),fun j hj hN=>by
  by_cases e:i=j
  ·subst e;rw[getD_setW,if_pos ⟨rfl,hl⟩,h]
  ·rw[getD_setW,if_neg (fun h=>e h.1)];exact h2 j (by omega) hN⟩
theorem RdInts.cuts {w:World}{B:Nat}{k:IntKind}{A:Option Addr}{l:List Int}(h:RdInts w B k A l){f t c:Nat}(h1:f≤t)(h2:t≤l.length)(h3:l.length≤c):
 RdInts w B k (if c=f then A else A.map (fun x=>x.add f)) (cutL l f t):=by
 have:=h.cutc h1 h2 h3;rw[Nat.mul_one]at this;exact this
theorem ELine_ok {w:World}{B B2 n m cc lc:Nat}{cA lA:Option Addr}{base:Int}{cs lv:List Int}(f t:Int)(hn:n=cs.length)(hm:m=lv.length)(h1:RdInts w B .u8 cA cs)(h2:RdInts w B2 .i8 lA lv)(hl:n≤8388608)(hcl:m≤lc):
 Calls Tryz.prog 24 #[.agg #[.int .i8 base,.slice cA n cc,.slice lA m lc],.agg #[.int .i64 f,.int .i64 t]] w fun r w'=> ∃v,r= .returned (.tuple #[v,.int .i64 (lineX base cs lv f t).1])∧Ints w' w.heap.size 29 .i8 v (lineX base cs lv f t).2∧Aft w w':=by
 obtain⟨Xe,XL,hX⟩: ∃e L,lineX base cs lv f t=(e,L):=⟨_,_,rfl⟩;rw[hX];have HX:=Lib.hid hX;have HN:=Lib.hid hn;have HM:=Lib.hid hm;have h1':=h1.clip;have h2':=h2.clip;obtain⟨X,Y,a1⟩:=blk_rs w (.int .i8 base) (.slice cA n cc) (.slice lA m lc) (.int .i64 f) (.int .i64 t);generalize hW1:(w.alloc (.cells #[.int .i8 base,.slice cA n cc,.slice lA m lc] 33)).alloc (.cells #[.int .i64 f,.int .i64 t] 44)=W1 at X Y a1;obtain⟨x0,x1,x2,xf,xl⟩:=X.c3;obtain⟨y0,y1,yf,yl⟩:=Y.c2;have CK:=fun(W:World) (hW:Aft w W)=>ECheck_ok (cc:=cc) (lc:=lc) (base:=base) hn hm (h1'.aft hW) (h2'.aft hW) (by omega);clear hX hn hm h1 h2
 rcases hmay:mayR base cs lv with _|_
 ·have hx:(211,[])=(Xe,XL):=by rw[←HX.out];unfold lineX;rw[if_pos hmay]
  injection hx with e1 e2
  subst e1 e2;rw[hmay]at CK;simp only[Bool.false_eq_true,if_false]at CK;clear hmay HX
  go_enter Tryz.func24,Tryz.ntmps24
  go_upto_region 1 with(fail)
  clear hW1
  go_step3
  go_wp2_with(go_at_call 22;refine(CK _ a1).mono ?_;rintro r2 w2 ⟨rfl,a2⟩)
  rw[Exit.noGoto_ret]
  go_ret2
  exact⟨_,rfl,Ints.nil _ _ _ _,a1.trans a2⟩
 ·rw[hmay]at CK;simp only[if_true]at CK
  rcases hsp:spanB cs.length f t with _|_
  ·have hx:(212,[])=(Xe,XL):=by rw[←HX.out];unfold lineX;rw[if_neg (by rw[hmay];decide),if_pos hsp]
   injection hx with e1 e2
   subst e1 e2;rw[←HN.out]at hsp;clear hmay HX
   have hsp2: ¬(0≤f∧f≤t∧t≤n):=fun e=>by rw[spanB_iff.2 e]at hsp;cases hsp
   clear hsp
   by_cases hf0:f<0
   ·have g1:decide (f<0)=true:=decide_eq_true hf0;clear hsp2
    go_enter Tryz.func24,Tryz.ntmps24
    go_upto_region 1 with(fail)
    clear hW1
    go_step3
    go_wp2_with(go_at_call 22;refine(CK _ a1).mono ?_;rintro r2 w2 ⟨rfl,a2⟩;have X2:=X.aft a2;have Y2:=Y.aft a2;obtain⟨x0,x1,x2,xf,xl⟩:=X2.c3;obtain⟨y0,y1,yf,yl⟩:=Y2.c2)
    rw[Exit.noGoto_ret]
    go_ret2
    exact⟨_,rfl,Ints.nil _ _ _ _,a1.trans a2⟩
   ·have g1:decide (f<0)=false:=decide_eq_false hf0
    by_cases htf:t<f
    ·have g2:decide (t<f)=true:=decide_eq_true htf;clear hsp2
     go_enter Tryz.func24,Tryz.ntmps24
     go_upto_region 1 with(fail)
     clear hW1
     go_step3
     go_wp2_with(go_at_call 22;refine(CK _ a1).mono ?_;rintro r2 w2 ⟨rfl,a2⟩;have X2:=X.aft a2;have Y2:=Y.aft a2;obtain⟨x0,x1,x2,xf,xl⟩:=X2.c3;obtain⟨y0,y1,yf,yl⟩:=Y2.c2)
     rw[Exit.noGoto_ret]
     go_ret2
     exact⟨_,rfl,Ints.nil _ _ _ _,a1.trans a2⟩
    ·have g2:decide (t<f)=false:=decide_eq_false htf
     have hnt:(n:Int)<t:=by omega
     have g3:decide ((n:Int)<t)=true:=decide_eq_true hnt;clear hsp2
     go_enter Tryz.func24,Tryz.ntmps24
     go_upto_region 1 with(fail)
     clear hW1
     go_step3
     go_wp2_with(go_at_call 22;refine(CK _ a1).mono ?_;rintro r2 w2 ⟨rfl,a2⟩;have X2:=X.aft a2;have Y2:=Y.aft a2;obtain⟨x0,x1,x2,xf,xl⟩:=X2.c3;obtain⟨y0,y1,yf,yl⟩:=Y2.c2)
     rw[Exit.noGoto_ret]
     go_ret2
     exact⟨_,rfl,Ints.nil _ _ _ _,a1.trans a2⟩
  ·have hx:(0,lineL base (cutL cs f t) (cutL lv f t))=(Xe,XL):=by rw[←HX.out];unfold lineX;rw[if_neg (by rw[hmay];decide),if_neg (by rw[hsp];decide)]
   injection hx with e1 e2
   subst e1;obtain⟨hf0,hft,htn⟩:=spanB_iff.1 hsp;rw[←HN.out]at htn;obtain⟨F,rfl⟩: ∃F:Nat,f=F:=⟨f.toNat,by omega⟩;obtain⟨T,rfl⟩: ∃T:Nat,t=T:=⟨t.toNat,by omega⟩
   have hFT:F≤T:=by omega
   have hTn:T≤n:=by omega
   have hm2:=mayR_iff.1 hmay
   have hnm:n=m:=by rw[HN.out,HM.out];exact hm2.2.1
   have hTm:T≤m:=by omega
   have hTc:T≤lc:=by omega
   have hcl2:(cutL cs F T).length=T-F:=cutL_len hFT (by rw[←HN.out];exact hTn);have hll2:(cutL lv F T).length=T-F:=cutL_len hFT (by rw[←HM.out];exact hTm)
   have hrem: ∀i,i<T-F→((cutL lv F T).getD i 0= -1↔remC ((cutL cs F T).getD i 0)=true):=fun i hi=>by
    rw[cutL_getD (by omega),cutL_getD (by omega)];have:=hm2.2.2 (F+i) (by rw[←HN.out];omega);unfold okL at this
    rcases hr:remC (cs.getD (F+i) 0)with _|_
    ·rw[hr,if_neg (by decide)]at this;simp only[Bool.and_eq_true,decide_eq_true_eq]at this;have hb:=hm2.1;constructor
     ·intro e;omega
     ·intro e;cases e
    ·rw[hr,if_pos rfl]at this;simp only[Bool.and_eq_true,beq_iff_eq]at this;exact⟨fun _=>rfl,fun _=>this.2⟩
   have hCi: ∀i,i<T-F→(cutL cs F T).getD i 0=cs.getD (F+i) 0:=fun i hi=>cutL_getD (by omega);obtain⟨C,hC⟩: ∃C,cutL cs F T=C:=⟨_,rfl⟩;obtain⟨L,hL⟩: ∃L,cutL lv F T=L:=⟨_,rfl⟩;have CC:=fun(W:World) (hW:Aft w W) (c':Nat)=>CloneL_ok (n:=T-F) (c:=c') hll2.symm ((h2'.aft hW).cuts (c:=lc) hFT (by rw[←HM.out];exact hTm) (by rw[←HM.out];exact hcl)) (by omega);rw[hC]at hcl2 hrem e2 hCi;rw[hL]at hll2 hrem e2 CC;have hstep:=fun(i:Nat) (hi:i<T-F)=>fallsL_step (C:=C) (i:=i) (by omega);have HSTEP:=Lib.hid hstep;have HREM:=Lib.hid hrem;have HCI:=Lib.hid hCi;have HCL:=Lib.hid hcl2;have HLL:=Lib.hid hll2;have HE:=Lib.hid e2;obtain⟨N,hN⟩: ∃N,T-F=N:=⟨_,rfl⟩;have HTF:=Lib.hid hN;clear hmay HX hsp hm2 hC hL hrem hcl2 hll2 e2 hstep hCi hf0 hft htn hN hnm
   go_enter Tryz.func24,Tryz.ntmps24
   go_upto_region 1 with(fail)
   clear hW1
   go_step3
   go_upto_region 7 with(first
    |(go_at_call 22;refine(CK _ a1).mono ?_;rintro r2 w2 ⟨rfl,a2⟩;have X2:=X.aft a2;have Y2:=Y.aft a2;obtain⟨x0,x1,x2,xf,xl⟩:=X2.c3;obtain⟨y0,y1,yf,yl⟩:=Y2.c2)
    |(go_at_call 57;refine(CC _ (a1.trans a2) _).mono ?_;rintro r3 w3 ⟨v3,rfl,I3,a3⟩))
   have a12:=a1.trans a2;generalize (if lc=F then lA else Option.map (fun x=>x.add F) lA)=SA;obtain⟨oA,oc,hv3,-,-,-⟩:=I3.val;rw[HLL.out,HTF.out]at hv3;subst hv3;have C1:=h1'.aft a12
   have hNb:N≤8388608:=by have:=HTF.out;omega
   clear CK CC X Y x0 x1 x2 xf xl y0 y1 yf yl;go_wp2
   go_step3
   go_wp2
   go_loopg [8,9] N (fun gk rv iv wr=> ∃(k:Nat) (z:Int) (V:List Int),k=gk∧k≤N∧z≤(k:Int)-1∧(k:Int)-1≤z∧iv= .int .i64 z∧rv= .bool (fallsL (C.drop k))∧Ints wr w2.heap.size 29 .i8 (.slice oA N oc) V∧V.length=N∧(∀j,j<k→V.getD j 0=L.getD j 0)∧(∀j,k≤j→j<N→V.getD j 0=ansL base C L j)∧Aft w2 wr)
   case atStart=>exact⟨N,(N:Int)-1,L,rfl,Nat.le_refl _,by omega,by omega,by go_num,by rw[List.drop_of_length_le (by rw[HCL.out,HTF.out];exact Nat.le_refl _)];rfl,I3,by rw[HLL.out,HTF.out],fun _ _=>rfl,fun j h1 h2=>by omega,a3⟩
   case round=>
    obtain⟨k,z,V,hk,hkN,hz1,hz2,rfl,rfl,IV,hVN,hV1,hV2,av⟩:=hrel
    by_cases hz:0≤z
    ·obtain⟨i,rfl⟩: ∃i:Nat,z=i:=⟨z.toNat,by omega⟩
     obtain rfl:k=i+1:=by omega
     have hiN:i<N:=by omega
     obtain⟨g,cap',e⟩:=IV.form (by omega)
     injection e with e1 e2 e3
     subst e1;obtain⟨-,-,-,hgB,hgl,hgf,hgc⟩:=IV.at_;have vc:=hgc i (by omega);rw[hV1 i (by omega)]at vc;have X3:=X2.aft av;have Y3:=Y2.aft av;obtain⟨x0,x1,x2,xf,xl⟩:=X3.c3;obtain⟨y0,y1,yf,yl⟩:=Y3.c2;obtain⟨q,o,rfl,_,hq,cc1⟩:=(C1.aft av).at_ (i:=F+i) (by have:=HN.out;have:=HTF.out;omega)
     have hFi:F+i<n:=by have:=HTF.out;omega
     rw[←HCI.out i (by have:=HTF.out;omega)]at cc1;have hst:=HSTEP.out i (by have:=HTF.out;omega);have hrm:=HREM.out i (by have:=HTF.out;omega)
     have hans:ansL base C L i=if L.getD i 0= -1 then-1 else if fallsL (C.drop i)=true then base else L.getD i 0:=rfl
     obtain⟨x,hx⟩: ∃x,C.getD i 0=x:=⟨_,rfl⟩;obtain⟨l,hll⟩: ∃l,L.getD i 0=l:=⟨_,rfl⟩;rw[hx]at cc1 hst hrm;rw[hll]at vc hrm hans;have HLl:=Lib.hid hll;have HV1:=Lib.hid hV1;have HV2:=Lib.hid hV2;have HI:=Lib.hid hiN;have HGK:=Lib.hid hk;have HVN:=Lib.hid hVN;clear hx hll hV1 hV2 hgc hz1 hz2 hkN hz hk hVN e2 e3;obtain⟨R,hR⟩: ∃R,fallsL (C.drop (i+1))=R:=⟨_,rfl⟩;rw[hR]at hst⊢
     by_cases hl1:l= -1
     ·have hr:=hrm.1 hl1;rw[rem_sep hr,if_neg (by decide),hr,Bool.or_true,if_pos rfl]at hst;rw[if_pos hl1]at hans;subst hl1;have HRel:=Lib.hid (lnV_keep HV1.out HV2.out (by rw[hans,HLl.out]));have HST:=Lib.hid hst;clear hst hans hrm hr hR
      go_wp2_with(go_at_call 58;refine(blank_ok _ _).mono ?_;rintro r4 w4 ⟨rfl,hw4⟩;subst hw4)
      go_roundg i
      case rel=>exact⟨i,(i:Int)-1,V,rfl,by have:=HI.out;omega,by omega,by omega,by go_num,by rw[HST.out],IV,HVN.out,HRel.out.1,HRel.out.2,av⟩
      case measure=>have:=HGK.out;omega
     ·have hr:remC x=false:=by
       rcases h:remC x with _|_
       ·rfl
       ·exact absurd (hrm.2 h) hl1
      rw[if_neg hl1]at hans;have e1:(l== -1)=false:=beq_eq_false_iff_ne.2 hl1;rw[hr,Bool.or_false]at hst
      by_cases hs:x=12∨x=11
      ·have hsp:sepW x=true:=by unfold sepW;rcases hs with rfl|rfl<;>rfl
       rw[if_pos hsp]at hst;rw[if_pos hst]at hans;have HRel:=Lib.hid (lnV_set HV1.out HV2.out (by rw[HVN.out];exact HI.out) hans);have HST:=Lib.hid hst;clear hst hans hrm hr hR hl1 hsp
       rcases hs with rfl|rfl
       all_goals
        go_wp2_with(go_at_call 58;refine(blank_ok _ _).mono ?_;rintro r4 w4 ⟨rfl,hw4⟩;subst hw4)
        go_roundg i
        case rel=>exact⟨i,(i:Int)-1,V.set i base,rfl,by have:=HI.out;omega,by omega,by omega,by go_num,by rw[HST.out],IV.set i base,by rw[List.length_set];exact HVN.out,HRel.out.1,HRel.out.2,av.set hgB _⟩
        case measure=>have:=HGK.out;omega
      ·have s1:(x==12)=false:=beq_eq_false_iff_ne.2 (fun e=>hs (.inl e));have s2:(x==11)=false:=beq_eq_false_iff_ne.2 (fun e=>hs (.inr e))
       have hsp:sepW x=false:=by unfold sepW;rw[s1,s2];rfl
       rw[hsp,if_neg (by decide)]at hst
       rcases hb:blkW x with _|_
       ·rw[hb,if_neg (by decide)]at hst;rw[hst,if_neg (by decide)]at hans;have HRel:=Lib.hid (lnV_keep HV1.out HV2.out (by rw[hans,HLl.out]));have HST:=Lib.hid hst;clear hst hans hrm hr hR hl1 hsp hs
        go_wp2_with(go_at_call 58;refine(blank_ok _ _).mono ?_;rintro r4 w4 ⟨rfl,hw4⟩;subst hw4)
        go_roundg i
        case rel=>exact⟨i,(i:Int)-1,V,rfl,by have:=HI.out;omega,by omega,by omega,by go_num,by rw[HST.out],IV,HVN.out,HRel.out.1,HRel.out.2,av⟩
        case measure=>have:=HGK.out;omega
       ·rw[hb,if_pos rfl]at hst
        rcases R with _|_
        ·rw[hst,if_neg (by decide)]at hans;have HRel:=Lib.hid (lnV_keep HV1.out HV2.out (by rw[hans,HLl.out]));have HST:=Lib.hid hst;clear hst hans hrm hr hR hl1 hsp hs
         go_wp2_with(go_at_call 58;refine(blank_ok _ _).mono ?_;rintro r4 w4 ⟨rfl,hw4⟩;subst hw4)
         go_roundg i
         case rel=>exact⟨i,(i:Int)-1,V,rfl,by have:=HI.out;omega,by omega,by omega,by go_num,by rw[HST.out],IV,HVN.out,HRel.out.1,HRel.out.2,av⟩
         case measure=>have:=HGK.out;omega
        ·rw[hst,if_pos rfl]at hans;have HRel:=Lib.hid (lnV_set HV1.out HV2.out (by rw[HVN.out];exact HI.out) hans);have HST:=Lib.hid hst;clear hst hans hrm hr hR hl1 hsp hs
         go_wp2_with(go_at_call 58;refine(blank_ok _ _).mono ?_;rintro r4 w4 ⟨rfl,hw4⟩;subst hw4)
         go_roundg i
         case rel=>exact⟨i,(i:Int)-1,V.set i base,rfl,by have:=HI.out;omega,by omega,by omega,by go_num,by rw[HST.out],IV.set i base,by rw[List.length_set];exact HVN.out,HRel.out.1,HRel.out.2,av.set hgB _⟩
         case measure=>have:=HGK.out;omega
    ·have hk0:k=0:=by omega
     subst hk0
     have hfin:V=XL:=by rw[←HE.out];refine ext_getDW (by rw[lineL_len,HLL.out,HTF.out,hVN]) (fun j hj=> ?_);rw[lineL_getD _ _ _ (by rw[HLL.out,HTF.out,←hVN];exact hj)];exact hV2 j (by omega) (by omega)
     clear hz1 hz2 hkN hV1 hV2 hk hVN;go_wp2
     go_ret2
     refine⟨_,rfl,?_,a12.trans av⟩;rw[←hfin];exact IV.base (fun j h=>by have:=(IV.lt j h).1;have:=a12.size;omega)
end Go.Proofs.YtllolnkkepacjaaGreat
end
