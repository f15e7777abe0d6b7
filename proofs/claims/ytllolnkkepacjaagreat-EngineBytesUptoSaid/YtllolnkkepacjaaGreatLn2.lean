/- May a resolved paragraph be? By both. Rule L1: the plain law. Rule L1: the plain law; the reference's walk to the line's end; what is white. -/
import Derived.Test.YtllolnkkepacjaaGreatEw2
set_option maxRecDepth 100000
set_option maxHeartbeats 4000000
namespace Go.Proofs.YtllolnkkepacjaaGreat
open Go.RowKit
section
attribute [local go_sem] Oper.semAt_some
def okL (base c l:Int):Bool:=decide (1≤c) && decide (c≤23) && (if remC c=true then l== -1 else decide (base≤l) && decide (l≤126))
def mayR (base:Int)(cs lv:List Int):Bool:=(base==0||base==1) && decide (cs.length=lv.length) && (List.range cs.length).all fun i=>okL base (cs.getD i 0) (lv.getD i 0)
theorem mayR_iff {base:Int}{cs lv:List Int}:mayR base cs lv=true↔(base=0∨base=1)∧cs.length=lv.length∧ ∀i,i<cs.length→okL base (cs.getD i 0) (lv.getD i 0)=true:=by
 unfold mayR;simp only[Bool.and_eq_true,Bool.or_eq_true,beq_iff_eq,decide_eq_true_eq,List.all_eq_true,List.mem_range];constructor
 ·rintro⟨⟨h1,h2⟩,h3⟩;exact⟨h1,h2,h3⟩
 ·rintro⟨h1,h2,h3⟩;exact⟨⟨h1,h2⟩,h3⟩
theorem mayR_no {base:Int}{cs lv:List Int}(h: ¬((base=0∨base=1)∧cs.length=lv.length∧ ∀i,i<cs.length→okL base (cs.getD i 0) (lv.getD i 0)=true)):mayR base cs lv=false:=by
 rcases e:mayR base cs lv with _|_
 ·rfl
 ·exact absurd (mayR_iff.1 e) h
theorem mayR_at {base:Int}{cs lv:List Int}{i:Nat}(hi:i<cs.length)(h:okL base (cs.getD i 0) (lv.getD i 0)=false):mayR base cs lv=false:=mayR_no (fun⟨_,_,h3⟩=>by have:=h3 i hi;rw[h]at this;cases this)
theorem cls_ne {c:Int}(h:c<1∨23<c):(clsC c !=c)=true:=by
 refine bne_iff_ne.2 ?_;unfold clsC
 rcases h with h|h
 ·rw[if_pos h];omega
 ·rw[if_neg (by omega),if_pos h];omega
theorem cls_eq {c:Int}(h1:1≤c)(h2:c≤23):(clsC c !=c)=false:=by refine bne_eq_false_iff_eq.2 ?_;unfold clsC;rw[if_neg (by omega),if_neg (by omega)]
theorem ECheck_ok {w:World}{B B2 n m cc lc:Nat}{cA lA:Option Addr}{base:Int}{cs lv:List Int}(hn:n=cs.length)(hm:m=lv.length)(h1:RdInts w B .u8 cA cs)(h2:RdInts w B2 .i8 lA lv)(hl:n≤1099511627776):
 Calls Tryz.prog 22 #[.agg #[.int .i8 base,.slice cA n cc,.slice lA m lc]] w fun r w'=>r= .returned (.int .i64 (if mayR base cs lv=true then 0 else 211))∧Aft w w':=by
 obtain⟨ans,hans⟩: ∃ans:Int,ans=(if mayR base cs lv=true then 0 else 211):=⟨_,rfl⟩;rw[←hans];have HA:=Lib.hid hans;clear hans;have HN:=Lib.hid hn;have HM:=Lib.hid hm;have h1':=h1.clip;have h2':=h2.clip;obtain⟨W1,hW1⟩: ∃W1,w.alloc (.cells #[.int .i8 base,.slice cA n cc,.slice lA m lc] 33)=W1:=⟨_,rfl⟩
 have X:Blk W1 w.heap.size 33 #[.int .i8 base,.slice cA n cc,.slice lA m lc]:=by rw[←hW1];exact Blk.new w 33 _
 have a1:Aft w W1:=by rw[←hW1];exact(Aft.refl w).alloc _
 obtain⟨x0,x1,x2,xf,xl⟩:=X.c3;clear hn hm h1 h2
 by_cases hb:base=0∨base=1
 ·have HB:=Lib.hid hb
  by_cases hnm:n=m
  ·have HNM:=Lib.hid hnm
   have hnn:((n:Int) !=(m:Int))=false:=by rw[hnm];simp
   clear hnm
   go_enter Tryz.func22,Tryz.ntmps22
   go_upto_region 1 with(fail)
   clear hW1
   go_cut [22] from 6 to 22 (fun cv wx=>cv= .bool false∧wx=W1)
   case first=>
    rcases hb with rfl|rfl
    all_goals
     go_wp2;go_meet;exact⟨rfl,rfl⟩
   case rest=>
    obtain⟨rfl,hwc⟩:=hcut;subst hwc;obtain⟨W1,hW⟩: ∃W1,W1=wc:=⟨_,rfl⟩;subst hW;clear hb hnn;go_wp2
    go_loopg [26] n (fun gk iv wr=> ∃k:Nat,k+gk=n∧iv= .int .i64 k∧(∀j,j<k→okL base (cs.getD j 0) (lv.getD j 0)=true)∧wr=W1)
    case atStart=>exact⟨0,by omega,rfl,fun j h=>by omega,rfl⟩
    case round=>
     obtain⟨k,hk,rfl,hok,hw⟩:=hrel;subst hw;have HK:=Lib.hid hk;have HO:=Lib.hid hok;clear hk hok
     by_cases hkn:k<n
     ·obtain⟨q,o,rfl,_,hq,ck⟩:=(h1'.aft a1).at_ (i:=k) (by have:=HN.out;omega);obtain⟨q2,o2,rfl,_,hq2,lk⟩:=(h2'.aft a1).at_ (i:=k) (by have:=HM.out;have:=HNM.out;omega)
      have hkm:k<m:=by have:=HNM.out;omega
      have hno:=mayR_at (base:=base) (cs:=cs) (lv:=lv) (i:=k) (by have:=HN.out;omega);obtain⟨x,hx⟩: ∃x,cs.getD k 0=x:=⟨_,rfl⟩;obtain⟨l,hll⟩: ∃l,lv.getD k 0=l:=⟨_,rfl⟩;rw[hx]at ck hno;rw[hll]at lk hno;have HXX:=Lib.hid hx;have HLL:=Lib.hid hll;have HNO:=Lib.hid hno;clear hx hll hno
      by_cases hc:1≤x∧x≤23
      ·obtain⟨hc1,hc2⟩:=hc;have e1:=cls_eq hc1 hc2;have g1:decide (x<1)=false:=decide_eq_false (by omega);have g2:decide (23<x)=false:=decide_eq_false (by omega)
       rcases hr:remC x with _|_
       ·by_cases hl1:l= -1
        ·subst hl1;have g3:decide ((-1:Int)<base)=true:=decide_eq_true (by have:=HB.out;omega)
         have hb1:(-1:Int)<base:=by have:=HB.out;omega
         clear hc1 hc2;have hfin:mayR base cs lv=false:=HNO.out (by unfold okL;rw[hr,if_neg (by decide),decide_eq_false (show¬base≤ -1 by omega)];simp);have HFIN:=Lib.hid hfin;clear hfin
         go_wp2_with(first|(go_at_call 56;refine(Removed_ok _ _).mono ?_;rintro r3 w3 ⟨rfl,hw3⟩;subst hw3)|(go_at_call 55;refine(eknown_ok _ _).mono ?_;rintro r4 w4 ⟨rfl,hw4⟩;subst hw4))
         go_ret;rw[HA.out,HFIN.out];exact⟨rfl,a1⟩
        ·have e2:(l== -1)=false:=beq_eq_false_iff_ne.2 hl1;have e3:(l != -1)=true:=bne_iff_ne.2 hl1
         by_cases hlb:l<base
         ·clear hl1;have hfin:mayR base cs lv=false:=HNO.out (by unfold okL;rw[hr,if_neg (by decide),decide_eq_false (show¬base≤l by omega)];simp);have HFIN:=Lib.hid hfin;clear hfin
          go_wp2_with(first|(go_at_call 56;refine(Removed_ok _ _).mono ?_;rintro r3 w3 ⟨rfl,hw3⟩;subst hw3)|(go_at_call 55;refine(eknown_ok _ _).mono ?_;rintro r4 w4 ⟨rfl,hw4⟩;subst hw4))
          go_ret;rw[HA.out,HFIN.out];exact⟨rfl,a1⟩
         ·by_cases hl126:126<l
          ·clear hl1;have hfin:mayR base cs lv=false:=HNO.out (by unfold okL;rw[hr,if_neg (by decide),decide_eq_false (show¬l≤126 by omega)];simp);have HFIN:=Lib.hid hfin;clear hfin
           go_wp2_with(first|(go_at_call 56;refine(Removed_ok _ _).mono ?_;rintro r3 w3 ⟨rfl,hw3⟩;subst hw3)|(go_at_call 55;refine(eknown_ok _ _).mono ?_;rintro r4 w4 ⟨rfl,hw4⟩;subst hw4))
           go_ret;rw[HA.out,HFIN.out];exact⟨rfl,a1⟩
          ·clear hl1
           have hok:okL base x l=true:=by unfold okL;rw[hr,if_neg (by decide),decide_eq_true hc1,decide_eq_true hc2,decide_eq_true (show base≤l by omega),decide_eq_true (show l≤126 by omega)];rfl
           have HOK:=Lib.hid hok;clear hok
           go_wp2_with(first|(go_at_call 56;refine(Removed_ok _ _).mono ?_;rintro r3 w3 ⟨rfl,hw3⟩;subst hw3)|(go_at_call 55;refine(eknown_ok _ _).mono ?_;rintro r4 w4 ⟨rfl,hw4⟩;subst hw4))
           go_roundg (n-(k+1))
           case rel=>exact⟨k+1,by have:=HK.out;omega,by go_num,fun j h=>(by
            by_cases e:j=k
            ·subst e;rw[HXX.out,HLL.out];exact HOK.out
            ·exact HO.out j (by omega)),rfl⟩
           case measure=>have:=HK.out;omega
       ·by_cases hl1:l= -1
        ·subst hl1
         have hok:okL base x (-1)=true:=by unfold okL;rw[hr,if_pos rfl,decide_eq_true hc1,decide_eq_true hc2];rfl
         have HOK:=Lib.hid hok;clear hok
         go_wp2_with(first|(go_at_call 56;refine(Removed_ok _ _).mono ?_;rintro r3 w3 ⟨rfl,hw3⟩;subst hw3)|(go_at_call 55;refine(eknown_ok _ _).mono ?_;rintro r4 w4 ⟨rfl,hw4⟩;subst hw4))
         go_roundg (n-(k+1))
         case rel=>exact⟨k+1,by have:=HK.out;omega,by go_num,fun j h=>(by
          by_cases e:j=k
          ·subst e;rw[HXX.out,HLL.out];exact HOK.out
          ·exact HO.out j (by omega)),rfl⟩
         case measure=>have:=HK.out;omega
        ·have e2:(l== -1)=false:=beq_eq_false_iff_ne.2 hl1;have e3:(l != -1)=true:=bne_iff_ne.2 hl1;clear hl1;have hfin:mayR base cs lv=false:=HNO.out (by unfold okL;rw[hr,if_pos rfl,e2];simp);have HFIN:=Lib.hid hfin;clear hfin
         go_wp2_with(first|(go_at_call 56;refine(Removed_ok _ _).mono ?_;rintro r3 w3 ⟨rfl,hw3⟩;subst hw3)|(go_at_call 55;refine(eknown_ok _ _).mono ?_;rintro r4 w4 ⟨rfl,hw4⟩;subst hw4))
         go_ret;rw[HA.out,HFIN.out];exact⟨rfl,a1⟩
      ·have hc3:x<1∨23<x:=by omega
       have e1:=cls_ne hc3
       have hokf:okL base x l=false:=by unfold okL;rcases hc3 with h|h;rw[decide_eq_false (by omega)];rfl;rw[decide_eq_false (show¬x≤23 by omega)];simp
       have HOF:=Lib.hid hokf;clear hokf hc
       rcases hc3 with hc3|hc3
       ·have hfin:mayR base cs lv=false:=HNO.out HOF.out;have HFIN:=Lib.hid hfin;clear hfin
        go_wp2_with(first|(go_at_call 56;refine(Removed_ok _ _).mono ?_;rintro r3 w3 ⟨rfl,hw3⟩;subst hw3)|(go_at_call 55;refine(eknown_ok _ _).mono ?_;rintro r4 w4 ⟨rfl,hw4⟩;subst hw4))
        go_ret;rw[HA.out,HFIN.out];exact⟨rfl,a1⟩
       ·have hfin:mayR base cs lv=false:=HNO.out HOF.out;have HFIN:=Lib.hid hfin;clear hfin
        go_wp2_with(first|(go_at_call 56;refine(Removed_ok _ _).mono ?_;rintro r3 w3 ⟨rfl,hw3⟩;subst hw3)|(go_at_call 55;refine(eknown_ok _ _).mono ?_;rintro r4 w4 ⟨rfl,hw4⟩;subst hw4))
        go_ret;rw[HA.out,HFIN.out];exact⟨rfl,a1⟩
     ·have hkn2:k=n:=by have:=HK.out;omega
      have hfin:mayR base cs lv=true:=mayR_iff.2 ⟨HB.out,by have:=HN.out;have:=HM.out;have:=HNM.out;omega,fun i hi=>HO.out i (by have:=HN.out;omega)⟩;have HFIN:=Lib.hid hfin;clear hfin HK hkn;subst hkn2;go_wp2;go_ret;rw[HA.out,HFIN.out];exact⟨rfl,a1⟩
  ·have hnn:((n:Int) !=(m:Int))=true:=bne_iff_ne.2 (by omega);have hfin:mayR base cs lv=false:=mayR_no (fun⟨_,h,_⟩=>hnm (by have:=HN.out;have:=HM.out;omega));have HFIN:=Lib.hid hfin;clear hfin hnm
   rcases hb with rfl|rfl
   all_goals
    go_enter Tryz.func22,Tryz.ntmps22
    go_upto_region 1 with(fail)
    clear hW1;go_wp2;go_ret;rw[HA.out,HFIN.out];exact⟨rfl,a1⟩
 ·have e0:(base !=0)=true:=bne_iff_ne.2 (fun e=>hb (.inl e));have e1:(base !=1)=true:=bne_iff_ne.2 (fun e=>hb (.inr e));have hfin:mayR base cs lv=false:=mayR_no (fun⟨h,_,_⟩=>hb h);have HFIN:=Lib.hid hfin;clear hfin hb
  go_enter Tryz.func22,Tryz.ntmps22
  go_upto_region 1 with(fail)
  clear hW1;go_wp2;go_ret;rw[HA.out,HFIN.out];exact⟨rfl,a1⟩
end
section
attribute [local go_sem] Oper.semAt_some
def blkW (c:Int):Bool:=c==13||c==20||c==21||c==22||c==23
def sepW (c:Int):Bool:=c==12||c==11
def fallsL:List Int→Bool
 |[]=>true
 |c::t=>if sepW c=true then true else if(blkW c||remC c)=true then fallsL t else false
def ansL (base:Int)(C L:List Int)(i:Nat):Int:=if L.getD i 0= -1 then-1 else if fallsL (C.drop i)=true then base else L.getD i 0
def lineL (base:Int)(C L:List Int):List Int:=(List.range L.length).map (ansL base C L)
def cutL (l:List Int)(f t:Int):List Int:=(l.take t.toNat).drop f.toNat
def spanB (n:Nat)(f t:Int):Bool:=decide (0≤f) && decide (f≤t) && decide (t≤n)
def lineX (base:Int)(cs lv:List Int)(f t:Int):Int×List Int:=if mayR base cs lv=false then(211,[])else if spanB cs.length f t=false then(212,[])else(0,lineL base (cutL cs f t) (cutL lv f t))
theorem lineL_len (base:Int)(C L:List Int):(lineL base C L).length=L.length:=by unfold lineL;simp
theorem lineL_getD (base:Int)(C L:List Int){i:Nat}(h:i<L.length):(lineL base C L).getD i 0=ansL base C L i:=by unfold lineL;rw[List.getD_eq_getElem?_getD,List.getElem?_map,List.getElem?_range h];rfl
theorem cutL_len {l:List Int}{f t:Nat}(h1:f≤t)(h2:t≤l.length):(cutL l f t).length=t-f:=by unfold cutL;simp;omega
theorem cutL_getD {l:List Int}{f t:Nat}{i:Nat}(h:f+i<t):(cutL l f t).getD i 0=l.getD (f+i) 0:=by unfold cutL;rw[List.getD_eq_getElem?_getD,List.getElem?_drop,List.getD_eq_getElem?_getD,List.getElem?_take];simp only[Int.toNat_natCast];rw[if_pos (by omega)]
theorem cutL_drop (l:List Int)(f t i:Nat):(cutL l f t).drop i=cutL l ((f+i:Nat):Int) t:=by unfold cutL;rw[List.drop_drop];simp only[Int.toNat_natCast]
theorem fallsL_step {C:List Int}{i:Nat}(h:i<C.length):fallsL (C.drop i)=if sepW (C.getD i 0)=true then true else if(blkW (C.getD i 0)||remC (C.getD i 0))=true then fallsL (C.drop (i+1))else false:=by
 have e:C.drop i=C.getD i 0::C.drop (i+1):=by rw[List.drop_eq_getElem_cons h,List.getD_eq_getElem?_getD,List.getElem?_eq_getElem h];rfl
 rw[e];rfl
theorem spanB_iff {n:Nat}{f t:Int}:spanB n f t=true↔0≤f∧f≤t∧t≤n:=by
 unfold spanB;simp only[Bool.and_eq_true,decide_eq_true_eq];constructor
 ·rintro⟨⟨a,b⟩,c⟩;exact⟨a,b,c⟩
 ·rintro⟨a,b,c⟩;exact⟨⟨a,b⟩,c⟩
theorem RdInts.cutc {w:World}{B:Nat}{k:IntKind}{A:Option Addr}{l:List Int}(h:RdInts w B k A l){f t c:Nat}(h1:f≤t)(h2:t≤l.length)(h3:l.length≤c):
 RdInts w B k (if c=f then A else A.map (·.add (f*1))) (cutL l f t):=by
 refine⟨by simp,fun h0=> ?_⟩;rw[cutL_len h1 h2]at h0;obtain⟨b,off,e,h4,h5,hc⟩:=h.cells (by omega);rw[if_neg (by omega),e];refine⟨b,off+f,by simp[Addr.add],h4,h5,fun j u hj=> ?_⟩;rw[List.getElem?_map]at hj
 rcases hg:(cutL l f t)[j]? with _|x
 ·rw[hg]at hj;cases hj
 ·rw[hg]at hj
  have hl:j<(cutL l f t).length:=by
   rcases Nat.lt_or_ge j (cutL l f t).length with h|h
   ·exact h
   ·rw[List.getElem?_eq_none h]at hg;cases hg
  rw[cutL_len h1 h2]at hl
  have e2:(cutL l f t).getD j 0=x:=by rw[List.getD_eq_getElem?_getD,hg];rfl
  rw[cutL_getD (by omega)]at e2;have:=hc (f+j) (by omega);rw[Nat.add_assoc,this,e2]
  simpa using hj
theorem blank_ok (w:World)(c:Int):Calls Tryz.prog 58 #[.int .u8 c] w fun r w'=>r= .returned (.bool (blkW c))∧w=w':=by
 go_enter Tryz.func58,Tryz.ntmps58
 go_wp2
 all_goals (go_ret;exact⟨by simp[blkW, *],rfl⟩)
end
end Go.Proofs.YtllolnkkepacjaaGreat
