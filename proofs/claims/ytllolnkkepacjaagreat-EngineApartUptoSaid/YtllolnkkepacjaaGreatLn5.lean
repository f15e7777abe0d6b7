/- The reference's May and Line. -/
import Derived.Test.YtllolnkkepacjaaGreatLn4
import Derived.Test.YtllolnkkepacjaaGreatSp3
set_option maxRecDepth 100000
set_option maxHeartbeats 4000000
namespace Go.Proofs.YtllolnkkepacjaaGreat
open Go.RowKit
attribute [local go_sem] Oper.semAt_some
theorem rMay_ok {w:World}{B B2 n m cc lc:Nat}{cA lA:Option Addr}{base:Int}{cs lv:List Int}(hn:n=cs.length)(hm:m=lv.length)(h1:RdInts w B .u8 cA cs)(h2:RdInts w B2 .i8 lA lv)(hl:n≤1099511627776):
 Calls Tryz.prog 23 #[.agg #[.int .i8 base,.slice cA n cc,.slice lA m lc]] w fun r w'=>r= .returned (.bool (mayR base cs lv))∧Aft w w':=by
 have HN:=Lib.hid hn;have HM:=Lib.hid hm;have h1':=h1.clip;have h2':=h2.clip;obtain⟨W1,hW1⟩: ∃W1,w.alloc (.cells #[.int .i8 base,.slice cA n cc,.slice lA m lc] 33)=W1:=⟨_,rfl⟩
 have X:Blk W1 w.heap.size 33 #[.int .i8 base,.slice cA n cc,.slice lA m lc]:=by rw[←hW1];exact Blk.new w 33 _
 have a1:Aft w W1:=by rw[←hW1];exact(Aft.refl w).alloc _
 obtain⟨x0,x1,x2,xf,xl⟩:=X.c3;clear hn hm h1 h2
 by_cases hb:base=0∨base=1
 ·have HB:=Lib.hid hb
  by_cases hnm:n=m
  ·have HNM:=Lib.hid hnm
   have hnn:((n:Int) !=(m:Int))=false:=by rw[hnm];simp
   clear hnm
   go_enter Tryz.func23,Tryz.ntmps23
   go_upto_region 1 with(fail)
   clear hW1
   go_cut [22] from 6 to 22 (fun cv wx=>cv= .bool false∧wx=W1)
   case first=>
    rcases hb with rfl|rfl
    all_goals
     go_wp2;go_meet;exact⟨rfl,rfl⟩
   case rest=>
    obtain⟨rfl,hwc⟩:=hcut;subst hwc;obtain⟨W1,hW⟩: ∃W1,W1=wc:=⟨_,rfl⟩;subst hW;clear hb hnn;go_wp2
    go_loopg [3] n (fun gk iv wr=> ∃k:Nat,k+gk=n∧iv= .int .i64 k∧(∀j,j<k→okL base (cs.getD j 0) (lv.getD j 0)=true)∧Aft w wr∧Blk wr w.heap.size 33 #[.int .i8 base,.slice cA n cc,.slice lA m lc])
    case atStart=>exact⟨0,by omega,rfl,fun j h=>by omega,a1,X⟩
    case round=>
     clear x0 x1 x2 xf xl;obtain⟨k,hk,rfl,hok,ad,X⟩:=hrel;obtain⟨x0,x1,x2,xf,xl⟩:=X.c3;have HK:=Lib.hid hk;have HO:=Lib.hid hok;clear hk hok
     by_cases hkn:k<n
     ·obtain⟨q,o,rfl,_,hq,ck⟩:=(h1'.aft ad).at_ (i:=k) (by have:=HN.out;omega);obtain⟨q2,o2,rfl,_,hq2,lk⟩:=(h2'.aft ad).at_ (i:=k) (by have:=HM.out;have:=HNM.out;omega)
      have hkm:k<m:=by have:=HNM.out;omega
      have hno:=mayR_at (base:=base) (cs:=cs) (lv:=lv) (i:=k) (by have:=HN.out;omega);obtain⟨x,hx⟩: ∃x,cs.getD k 0=x:=⟨_,rfl⟩;obtain⟨l,hll⟩: ∃l,lv.getD k 0=l:=⟨_,rfl⟩;rw[hx]at ck hno;rw[hll]at lk hno;have HXX:=Lib.hid hx;have HLL:=Lib.hid hll;have HNO:=Lib.hid hno;clear hx hll hno
      go_upto_region 6 with(fail)
      go_quiet (fail)
      by_cases hc:1≤x∧x≤23
      ·obtain⟨hc1,hc2⟩:=hc;have e1:=cls_eq hc1 hc2;have g1:decide (x<1)=false:=decide_eq_false (by omega);have g2:decide (23<x)=false:=decide_eq_false (by omega)
       rcases hr:remC x with _|_
       ·by_cases hl1:l= -1
        ·subst hl1;have g3:decide ((-1:Int)<base)=true:=decide_eq_true (by have:=HB.out;omega)
         have hb1:(-1:Int)<base:=by have:=HB.out;omega
         clear hc1 hc2;have hfin:mayR base cs lv=false:=HNO.out (by unfold okL;rw[hr,if_neg (by decide),decide_eq_false (show¬base≤ -1 by omega)];simp);have HFIN:=Lib.hid hfin;clear hfin
         go_wp2_with((go_at_call 34;refine(rRemoved_ok _ _).mono ?_;rintro r3 w3 ⟨rfl,hw3⟩;subst hw3))
         go_ret;rw[HFIN.out];exact⟨rfl,⟨ad.os,ad.tape,ad.output,ad.size,ad.block⟩⟩
        ·have e2:(l== -1)=false:=beq_eq_false_iff_ne.2 hl1;have e3:(l != -1)=true:=bne_iff_ne.2 hl1
         by_cases hlb:l<base
         ·clear hl1;have hfin:mayR base cs lv=false:=HNO.out (by unfold okL;rw[hr,if_neg (by decide),decide_eq_false (show¬base≤l by omega)];simp);have HFIN:=Lib.hid hfin;clear hfin
          go_wp2_with((go_at_call 34;refine(rRemoved_ok _ _).mono ?_;rintro r3 w3 ⟨rfl,hw3⟩;subst hw3))
          go_ret;rw[HFIN.out];exact⟨rfl,⟨ad.os,ad.tape,ad.output,ad.size,ad.block⟩⟩
         ·by_cases hl126:126<l
          ·clear hl1;have hfin:mayR base cs lv=false:=HNO.out (by unfold okL;rw[hr,if_neg (by decide),decide_eq_false (show¬l≤126 by omega)];simp);have HFIN:=Lib.hid hfin;clear hfin
           go_wp2_with((go_at_call 34;refine(rRemoved_ok _ _).mono ?_;rintro r3 w3 ⟨rfl,hw3⟩;subst hw3))
           go_ret;rw[HFIN.out];exact⟨rfl,⟨ad.os,ad.tape,ad.output,ad.size,ad.block⟩⟩
          ·clear hl1
           have hok:okL base x l=true:=by unfold okL;rw[hr,if_neg (by decide),decide_eq_true hc1,decide_eq_true hc2,decide_eq_true (show base≤l by omega),decide_eq_true (show l≤126 by omega)];rfl
           have HOK:=Lib.hid hok;clear hok
           go_wp2_with((go_at_call 34;refine(rRemoved_ok _ _).mono ?_;rintro r3 w3 ⟨rfl,hw3⟩;subst hw3))
           go_roundg (n-(k+1))
           case rel=>exact⟨k+1,by have:=HK.out;omega,by go_num,fun j h=>(by
            by_cases e:j=k
            ·subst e;rw[HXX.out,HLL.out];exact HOK.out
            ·exact HO.out j (by omega)),⟨ad.os,ad.tape,ad.output,ad.size,ad.block⟩,X.drewN _⟩
           case measure=>have:=HK.out;omega
       ·by_cases hl1:l= -1
        ·subst hl1
         have hok:okL base x (-1)=true:=by unfold okL;rw[hr,if_pos rfl,decide_eq_true hc1,decide_eq_true hc2];rfl
         have HOK:=Lib.hid hok;clear hok
         go_wp2_with((go_at_call 34;refine(rRemoved_ok _ _).mono ?_;rintro r3 w3 ⟨rfl,hw3⟩;subst hw3))
         go_roundg (n-(k+1))
         case rel=>exact⟨k+1,by have:=HK.out;omega,by go_num,fun j h=>(by
          by_cases e:j=k
          ·subst e;rw[HXX.out,HLL.out];exact HOK.out
          ·exact HO.out j (by omega)),⟨ad.os,ad.tape,ad.output,ad.size,ad.block⟩,X.drewN _⟩
         case measure=>have:=HK.out;omega
        ·have e2:(l== -1)=false:=beq_eq_false_iff_ne.2 hl1;have e3:(l != -1)=true:=bne_iff_ne.2 hl1;clear hl1;have hfin:mayR base cs lv=false:=HNO.out (by unfold okL;rw[hr,if_pos rfl,e2];simp);have HFIN:=Lib.hid hfin;clear hfin
         go_wp2_with((go_at_call 34;refine(rRemoved_ok _ _).mono ?_;rintro r3 w3 ⟨rfl,hw3⟩;subst hw3))
         go_ret;rw[HFIN.out];exact⟨rfl,⟨ad.os,ad.tape,ad.output,ad.size,ad.block⟩⟩
      ·have hc3:x<1∨23<x:=by omega
       have e1:=cls_ne hc3
       have hokf:okL base x l=false:=by unfold okL;rcases hc3 with h|h;rw[decide_eq_false (by omega)];rfl;rw[decide_eq_false (show¬x≤23 by omega)];simp
       have HOF:=Lib.hid hokf;clear hokf hc
       rcases hc3 with hc3|hc3
       ·have hfin:mayR base cs lv=false:=HNO.out HOF.out;have HFIN:=Lib.hid hfin;clear hfin
        go_wp2_with((go_at_call 34;refine(rRemoved_ok _ _).mono ?_;rintro r3 w3 ⟨rfl,hw3⟩;subst hw3))
        go_ret;rw[HFIN.out];exact⟨rfl,⟨ad.os,ad.tape,ad.output,ad.size,ad.block⟩⟩
       ·have hfin:mayR base cs lv=false:=HNO.out HOF.out;have HFIN:=Lib.hid hfin;clear hfin
        go_wp2_with((go_at_call 34;refine(rRemoved_ok _ _).mono ?_;rintro r3 w3 ⟨rfl,hw3⟩;subst hw3))
        go_ret;rw[HFIN.out];exact⟨rfl,⟨ad.os,ad.tape,ad.output,ad.size,ad.block⟩⟩
     ·have hkn2:k=n:=by have:=HK.out;omega
      have hfin:mayR base cs lv=true:=mayR_iff.2 ⟨HB.out,by have:=HN.out;have:=HM.out;have:=HNM.out;omega,fun i hi=>HO.out i (by have:=HN.out;omega)⟩;have HFIN:=Lib.hid hfin;clear hfin HK hkn;subst hkn2;go_wp2;go_ret;rw[HFIN.out];exact⟨rfl,⟨ad.os,ad.tape,ad.output,ad.size,ad.block⟩⟩
  ·have hnn:((n:Int) !=(m:Int))=true:=bne_iff_ne.2 (by omega);have hfin:mayR base cs lv=false:=mayR_no (fun⟨_,h,_⟩=>hnm (by have:=HN.out;have:=HM.out;omega));rw[hfin];clear hfin hnm
   rcases hb with rfl|rfl
   all_goals
    go_enter Tryz.func23,Tryz.ntmps23
    go_upto_region 1 with(fail)
    clear hW1;go_wp2;go_ret;exact⟨rfl,a1⟩
 ·have e0:(base !=0)=true:=bne_iff_ne.2 (fun e=>hb (.inl e));have e1:(base !=1)=true:=bne_iff_ne.2 (fun e=>hb (.inr e));have hfin:mayR base cs lv=false:=mayR_no (fun⟨h,_,_⟩=>hb h);rw[hfin];clear hfin hb
  go_enter Tryz.func23,Tryz.ntmps23
  go_upto_region 1 with(fail)
  clear hW1;go_wp2;go_ret;exact⟨rfl,a1⟩
theorem falls_ok {w:World}{B n c:Nat}{A:Option Addr}{l:List Int}(hn:n=l.length)(h:RdInts w B .u8 A l)(hl:n≤8388608):
 Calls Tryz.prog 59 #[.slice A n c] w fun r w'=>r= .returned (.bool (fallsL l))∧w=w':=by
 obtain⟨F,hF⟩: ∃F,fallsL l=F:=⟨_,rfl⟩;rw[hF];have HF:=Lib.hid hF;have HN:=Lib.hid hn;clear hF hn
 go_enter Tryz.func59,Tryz.ntmps59
 go_wp2
 go_loopg [3] n (fun gk iv wr=> ∃k:Nat,k+gk=n∧iv= .int .i64 k∧fallsL (l.drop k)=F∧wr=w)
 case atStart=>exact⟨0,by omega,rfl,HF.out,rfl⟩
 case round=>
  obtain⟨k,hk,rfl,hf,rfl⟩:=hrel;have HK:=Lib.hid hk
  by_cases hkn:k<n
  ·obtain⟨q,o,rfl,_,hq,ck⟩:=h.at_ (i:=k) (by have:=HN.out;omega);rw[fallsL_step (by have:=HN.out;omega)]at hf;obtain⟨x,hx⟩: ∃x,l.getD k 0=x:=⟨_,rfl⟩;rw[hx]at ck hf;have HFF:=Lib.hid hf;clear hk hf hx
   by_cases hs:x=12∨x=11
   ·have hfin:F=true:=by rw[←HFF.out,if_pos (by rcases hs with rfl|rfl<;>rfl)]
    subst hfin
    rcases hs with rfl|rfl
    all_goals
     go_wp2;go_ret;exact⟨rfl,rfl⟩
   ·have s1:(x==12)=false:=beq_eq_false_iff_ne.2 (fun e=>hs (.inl e));have s2:(x==11)=false:=beq_eq_false_iff_ne.2 (fun e=>hs (.inr e))
    have hsep: ¬sepW x=true:=by unfold sepW;rw[s1,s2];decide
    by_cases hb:x=13∨x=20∨x=21∨x=22∨x=23
    ·have hfin:fallsL (l.drop (k+1))=F:=by rw[←HFF.out,if_neg hsep,if_pos (by rcases hb with rfl|rfl|rfl|rfl|rfl<;>rfl)]
     have HFIN:=Lib.hid hfin;clear hfin hs hsep s1 s2 HFF
     rcases hb with rfl|rfl|rfl|rfl|rfl
     all_goals
      go_wp2
      go_roundg (n-(k+1))
      case rel=>exact⟨k+1,by have:=HK.out;omega,by go_num,HFIN.out,rfl⟩
      case measure=>have:=HK.out;omega
    ·have b1:(x==13)=false:=beq_eq_false_iff_ne.2 (fun e=>hb (.inl e));have b2:(x==20)=false:=beq_eq_false_iff_ne.2 (fun e=>hb (.inr (.inl e)));have b3:(x==21)=false:=beq_eq_false_iff_ne.2 (fun e=>hb (.inr (.inr (.inl e))));have b4:(x==22)=false:=beq_eq_false_iff_ne.2 (fun e=>hb (.inr (.inr (.inr (.inl e)))));have b5:(x==23)=false:=beq_eq_false_iff_ne.2 (fun e=>hb (.inr (.inr (.inr (.inr e)))))
     have hbl:blkW x=false:=by unfold blkW;rw[b1,b2,b3,b4,b5];rfl
     rcases hr:remC x with _|_
     ·have hfin:F=false:=by rw[←HFF.out,if_neg hsep,hbl,hr];rfl
      subst hfin;clear hs hb HFF hsep
      go_wp2_with(go_at_call 34;refine(rRemoved_ok _ _).mono ?_;rintro r3 w3 ⟨rfl,hw3⟩;subst hw3)
      go_ret;exact⟨rfl,rfl⟩
     ·have hfin:fallsL (l.drop (k+1))=F:=by rw[←HFF.out,if_neg hsep,hbl,hr];rfl
      have HFIN:=Lib.hid hfin;clear hfin hs hb HFF hsep
      go_wp2_with(go_at_call 34;refine(rRemoved_ok _ _).mono ?_;rintro r3 w3 ⟨rfl,hw3⟩;subst hw3)
      go_roundg (n-(k+1))
      case rel=>exact⟨k+1,by have:=HK.out;omega,by go_num,HFIN.out,rfl⟩
      case measure=>have:=HK.out;omega
  ·have hkn2:k=n:=by have:=HK.out;omega
   have hfin:F=true:=by rw[←hf,hkn2,HN.out,List.drop_length];rfl
   subst hfin;clear hf hk HK hkn;subst hkn2;go_wp2;go_ret;exact⟨rfl,rfl⟩
theorem rLine_ok {w:World}{B B2 n m cc lc:Nat}{cA lA:Option Addr}{base:Int}{cs lv:List Int}(f t:Int)(hn:n=cs.length)(hm:m=lv.length)(h1:RdInts w B .u8 cA cs)(h2:RdInts w B2 .i8 lA lv)(hl:n≤8388608)(hcl:n≤cc):
 Calls Tryz.prog 25 #[.agg #[.int .i8 base,.slice cA n cc,.slice lA m lc],.agg #[.int .i64 f,.int .i64 t]] w fun r w'=> ∃v,r= .returned (.tuple #[v,.int .i64 (lineX base cs lv f t).1])∧Ints w' w.heap.size 29 .i8 v (lineX base cs lv f t).2∧Aft w w':=by
 obtain⟨Xe,XL,hX⟩: ∃e L,lineX base cs lv f t=(e,L):=⟨_,_,rfl⟩;rw[hX];have HX:=Lib.hid hX;have HN:=Lib.hid hn;have HM:=Lib.hid hm;have h1':=h1.clip;have h2':=h2.clip;obtain⟨X,Y,a1⟩:=blk_rs w (.int .i8 base) (.slice cA n cc) (.slice lA m lc) (.int .i64 f) (.int .i64 t);generalize hW1:(w.alloc (.cells #[.int .i8 base,.slice cA n cc,.slice lA m lc] 33)).alloc (.cells #[.int .i64 f,.int .i64 t] 44)=W1 at X Y a1;obtain⟨x0,x1,x2,xf,xl⟩:=X.c3;obtain⟨y0,y1,yf,yl⟩:=Y.c2;have CK:=fun(W:World) (hW:Aft w W)=>rMay_ok (cc:=cc) (lc:=lc) (base:=base) hn hm (h1'.aft hW) (h2'.aft hW) (by omega);clear hX hn hm h1 h2
 rcases hmay:mayR base cs lv with _|_
 ·have hx:(211,[])=(Xe,XL):=by rw[←HX.out];unfold lineX;rw[if_pos hmay]
  injection hx with e1 e2
  subst e1 e2;rw[hmay]at CK;clear hmay HX
  go_enter Tryz.func25,Tryz.ntmps25
  go_upto_region 1 with(fail)
  clear hW1
  go_wp2_with(go_at_call 23;refine(CK _ a1).mono ?_;rintro r2 w2 ⟨rfl,a2⟩)
  go_ret2
  exact⟨_,rfl,Ints.nil _ _ _ _,a1.trans a2⟩
 ·rw[hmay]at CK
  rcases hsp:spanB cs.length f t with _|_
  ·have hx:(212,[])=(Xe,XL):=by rw[←HX.out];unfold lineX;rw[if_neg (by rw[hmay];decide),if_pos hsp]
   injection hx with e1 e2
   subst e1 e2;rw[←HN.out]at hsp;clear hmay HX
   have hsp2: ¬(0≤f∧f≤t∧t≤n):=fun e=>by rw[spanB_iff.2 e]at hsp;cases hsp
   clear hsp
   by_cases hf0:f<0
   ·have g1:decide (f<0)=true:=decide_eq_true hf0;clear hsp2
    go_enter Tryz.func25,Tryz.ntmps25
    go_upto_region 1 with(fail)
    clear hW1
    go_wp2_with(go_at_call 23;refine(CK _ a1).mono ?_;rintro r2 w2 ⟨rfl,a2⟩;have X2:=X.aft a2;have Y2:=Y.aft a2;obtain⟨x0,x1,x2,xf,xl⟩:=X2.c3;obtain⟨y0,y1,yf,yl⟩:=Y2.c2)
    go_ret2
    exact⟨_,rfl,Ints.nil _ _ _ _,a1.trans a2⟩
   ·have g1:decide (f<0)=false:=decide_eq_false hf0
    by_cases htf:t<f
    ·have g2:decide (t<f)=true:=decide_eq_true htf;clear hsp2
     go_enter Tryz.func25,Tryz.ntmps25
     go_upto_region 1 with(fail)
     clear hW1
     go_wp2_with(go_at_call 23;refine(CK _ a1).mono ?_;rintro r2 w2 ⟨rfl,a2⟩;have X2:=X.aft a2;have Y2:=Y.aft a2;obtain⟨x0,x1,x2,xf,xl⟩:=X2.c3;obtain⟨y0,y1,yf,yl⟩:=Y2.c2)
     go_ret2
     exact⟨_,rfl,Ints.nil _ _ _ _,a1.trans a2⟩
    ·have g2:decide (t<f)=false:=decide_eq_false htf
     have hnt:(n:Int)<t:=by omega
     have g3:decide ((n:Int)<t)=true:=decide_eq_true hnt;clear hsp2
     go_enter Tryz.func25,Tryz.ntmps25
     go_upto_region 1 with(fail)
     clear hW1
     go_wp2_with(go_at_call 23;refine(CK _ a1).mono ?_;rintro r2 w2 ⟨rfl,a2⟩;have X2:=X.aft a2;have Y2:=Y.aft a2;obtain⟨x0,x1,x2,xf,xl⟩:=X2.c3;obtain⟨y0,y1,yf,yl⟩:=Y2.c2)
     go_ret2
     exact⟨_,rfl,Ints.nil _ _ _ _,a1.trans a2⟩
  ·have hx:(0,lineL base (cutL cs f t) (cutL lv f t))=(Xe,XL):=by rw[←HX.out];unfold lineX;rw[if_neg (by rw[hmay];decide),if_neg (by rw[hsp];decide)]
   injection hx with e1 e2
   subst e1;obtain⟨hf0,hft,htn⟩:=spanB_iff.1 hsp;rw[←HN.out]at htn;obtain⟨F,rfl⟩: ∃F:Nat,f=F:=⟨f.toNat,by omega⟩;obtain⟨T,rfl⟩: ∃T:Nat,t=T:=⟨t.toNat,by omega⟩
   have hFT:F≤T:=by omega
   have hTn:T≤n:=by omega
   have hm2:=mayR_iff.1 hmay
   have hnm:n=m:=by rw[HN.out,HM.out];exact hm2.2.1
   have hTm:T≤m:=by omega
   have hTc:T≤cc:=by omega
   have hcl2:(cutL cs F T).length=T-F:=cutL_len hFT (by rw[←HN.out];exact hTn);have hll2:(cutL lv F T).length=T-F:=cutL_len hFT (by rw[←HM.out];exact hTm);have hLi: ∀i,i<T-F→(cutL lv F T).getD i 0=lv.getD (F+i) 0:=fun i hi=>cutL_getD (by omega);obtain⟨C,hC⟩: ∃C,cutL cs F T=C:=⟨_,rfl⟩;obtain⟨L,hL⟩: ∃L,cutL lv F T=L:=⟨_,rfl⟩
   have CF: ∀(W:World),Aft w W→ ∀k p,F+k=p→k<T-F→Calls Tryz.prog 59 #[.slice (Option.map (fun x=>x.add p) cA) (T-p) (cc-p)] W fun r w'=>r= .returned (.bool (fallsL (C.drop k)))∧W=w':=fun W hW k p hp hk=>by
    refine falls_ok (n:=T-p) ?_ ?_ (by omega) (B:=w.heap.size)
    ·rw[←hC,cutL_drop,hp,cutL_len (by omega) (by rw[←HN.out];exact hTn)]
    ·rw[←hC,cutL_drop,hp];have:=(h1'.aft hW).cuts (f:=p) (t:=T) (c:=cc) (by omega) (by rw[←HN.out];exact hTn) (by rw[←HN.out];exact hcl);rw[if_neg (by omega)]at this;exact this
   have HLI:=Lib.hid hLi;rw[hC]at hcl2 e2;rw[hL]at hll2 e2 HLI;have HE:=Lib.hid e2;obtain⟨N,hN⟩: ∃N,T-F=N:=⟨_,rfl⟩;rw[hN]at CF HLI hll2;have HLL:=Lib.hid hll2;have HTF:=Lib.hid hN;have HCF:=Lib.hid CF
   have hNb:N≤8388608:=by omega
   clear hmay HX hsp hm2 hC hL hcl2 hll2 e2 hLi hf0 hft htn hN hnm CF;have g1:decide ((F:Int)<0)=false:=decide_eq_false (by omega);have g2:decide (T<F)=false:=decide_eq_false (by omega);have g3:decide (n<T)=false:=decide_eq_false (by omega)
   go_enter Tryz.func25,Tryz.ntmps25
   go_upto_region 1 with(fail)
   clear hW1
   go_upto_region 6 with(first
    |(go_at_call 23;refine(CK _ a1).mono ?_;rintro r2 w2 ⟨rfl,a2⟩;have X2:=X.aft a2;have Y2:=Y.aft a2;obtain⟨x0,x1,x2,xf,xl⟩:=X2.c3;obtain⟨y0,y1,yf,yl⟩:=Y2.c2))
   have a12:=a1.trans a2;have C2:=h2'.aft a12;clear CK X Y;go_wp2;clear x0 x1 x2 xf xl y0 y1 yf yl
   go_loopg [6,7] N (fun gk ov iv wr=> ∃(k p:Nat) (A:Option Addr) (cap:Nat),k+gk=N∧F+k=p∧iv= .int .i64 p∧ov= .slice A k cap∧Ints wr w2.heap.size 29 .i8 (.slice A k cap) ((lineL base C L).take k)∧Aft w2 wr)
   case atStart=>exact⟨0,F,none,0,by omega,rfl,rfl,rfl,by rw[List.take_zero];exact Ints.nil _ _ _ _,Aft.refl _⟩
   case round=>
    obtain⟨k,p,A,cap,hk,hp,rfl,rfl,I,av⟩:=hrel;have X3:=X2.aft av;have Y3:=Y2.aft av;obtain⟨x0,x1,x2,xf,xl⟩:=X3.c3;obtain⟨y0,y1,yf,yl⟩:=Y3.c2
    by_cases hkN:k<N
    ·have hpT:p<T:=by have:=HTF.out;omega
     have hpm:p<m:=by omega
     have hpn:p<n:=by omega
     have hpc:p≤T:=by omega
     obtain⟨q,o,rfl,_,hq,lc1⟩:=(C2.aft av).at_ (i:=p) (by have:=HM.out;omega);rw[←hp,←HLI.out k hkN,hp]at lc1;have CFk:=HCF.out wr (a12.trans av) k p hp hkN
     have hlen:((lineL base C L).take k).length=k:=by rw[List.length_take,lineL_len,HLL.out];omega
     have hnx:(lineL base C L).take k++[ansL base C L k]=(lineL base C L).take (k+1):=by rw[List.take_add_one,←lineL_getD base C L (by rw[HLL.out];exact hkN),List.getD_eq_getElem?_getD];rw[List.getElem?_eq_getElem (by rw[lineL_len,HLL.out];exact hkN)];rfl
     have hans:ansL base C L k=if L.getD k 0= -1 then-1 else if fallsL (C.drop k)=true then base else L.getD k 0:=rfl
     obtain⟨l,hll⟩: ∃l,L.getD k 0=l:=⟨_,rfl⟩;obtain⟨R,hR⟩: ∃R,fallsL (C.drop k)=R:=⟨_,rfl⟩;rw[hll]at lc1 hans;rw[hR]at CFk hans;obtain⟨LT,hLT⟩: ∃LT,(lineL base C L).take k=LT:=⟨_,rfl⟩;rw[hLT]at I hlen hnx;have HLEN:=Lib.hid hlen;have HK:=Lib.hid hk;have HP:=Lib.hid hp;have HKN:=Lib.hid hkN
     have hkb:k≤8388608:=by omega
     have hpb:p≤8388608:=by omega
     clear hll hR hlen hk hp hkN hLT
     by_cases hl1:l= -1
     ·have e1:(l != -1)=false:=by rw[hl1];rfl
      rw[if_pos hl1]at hans;rw[hans]at hnx;have HNX:=Lib.hid hnx;subst hl1;clear hnx hans
      go_wp2_with(at_builtin;go_must (refine wpList_appI ei35 rfl rfl rfl (I.alloc _) rfl (Blk.at_ (by simp)) ?_ ?_ ?_ ?_))
      ·rw[HLEN.out];unfold maxLen;omega
      ·rw[HLEN.out];omega
      ·simp;have:=av.size;omega
      intro g cap2 w5 I5 g5 hg5;have a5:Aft w2 w5:=(av.alloc _).grown g5 (fun j e=>(I.lt j e).1);rw[HNX.out,HLEN.out]at I5;rw[HLEN.out];go_wp2
      go_roundg (N-(k+1))
      case rel=>exact⟨k+1,p+1,_,cap2,by have:=HKN.out;omega,by have:=HP.out;omega,by go_num,rfl,I5,a5⟩
      case measure=>have:=HK.out;have:=HKN.out;omega
     ·have e1:(l != -1)=true:=bne_iff_ne.2 hl1;rw[if_neg hl1]at hans
      rcases R with _|_
      ·rw[if_neg (by decide)]at hans;rw[hans]at hnx;have HNX:=Lib.hid hnx;clear hnx hans hl1
       go_wp2_with(first
        |(go_at_call 59;refine CFk.mono ?_;rintro r4 w4 ⟨rfl,hw4⟩;subst hw4;generalize (Option.map (fun x=>x.add p) cA)=SA)
        |(at_builtin;go_must (refine wpList_appI ei35 rfl rfl rfl (I.alloc _) rfl (Blk.at_ (by simp)) ?_ ?_ ?_ ?_)))
       ·rw[HLEN.out];unfold maxLen;omega
       ·rw[HLEN.out];omega
       ·simp;have:=av.size;omega
       intro g cap2 w5 I5 g5 hg5;have a5:Aft w2 w5:=(av.alloc _).grown g5 (fun j e=>(I.lt j e).1);rw[HNX.out,HLEN.out]at I5;rw[HLEN.out];go_wp2
       go_roundg (N-(k+1))
       case rel=>exact⟨k+1,p+1,_,cap2,by have:=HKN.out;omega,by have:=HP.out;omega,by go_num,rfl,I5,a5⟩
       case measure=>have:=HK.out;have:=HKN.out;omega
      ·rw[if_pos rfl]at hans;rw[hans]at hnx;have HNX:=Lib.hid hnx;clear hnx hans hl1
       go_wp2_with(first
        |(go_at_call 59;refine CFk.mono ?_;rintro r4 w4 ⟨rfl,hw4⟩;subst hw4;generalize (Option.map (fun x=>x.add p) cA)=SA)
        |(at_builtin;go_must (refine wpList_appI ei35 rfl rfl rfl (I.alloc _) rfl (Blk.at_ (by simp)) ?_ ?_ ?_ ?_)))
       ·rw[HLEN.out];unfold maxLen;omega
       ·rw[HLEN.out];omega
       ·simp;have:=av.size;omega
       intro g cap2 w5 I5 g5 hg5;have a5:Aft w2 w5:=(av.alloc _).grown g5 (fun j e=>(I.lt j e).1);rw[HNX.out,HLEN.out]at I5;rw[HLEN.out];go_wp2
       go_roundg (N-(k+1))
       case rel=>exact⟨k+1,p+1,_,cap2,by have:=HKN.out;omega,by have:=HP.out;omega,by go_num,rfl,I5,a5⟩
       case measure=>have:=HK.out;have:=HKN.out;omega
    ·have hpT:p=T:=by have:=HTF.out;omega
     have hkk:k=N:=by omega
     have hfin:(lineL base C L).take k=XL:=by rw[←HE.out,List.take_of_length_le (by rw[lineL_len,HLL.out];omega)]
     rw[hfin]at I;clear hk hp hkN hkk hfin;subst hpT;go_wp2
     go_ret2
     exact⟨_,rfl,I.base (fun j h=>by have:=(I.lt j h).1;have:=a12.size;omega),a12.trans av⟩
end Go.Proofs.YtllolnkkepacjaaGreat
