/- EngineMirrored walked. -/
import Derived.Test.YtllolnkkepacjaaGreatLb1
import Derived.Test.YtllolnkkepacjaaGreatMi2
set_option maxRecDepth 100000
set_option maxHeartbeats 8000000
namespace Go.Proofs.YtllolnkkepacjaaGreat
open Go.RowKit
attribute [local go_sem] Oper.semAt_some
theorem opMi_cls (c:Int):opMi (clsC c)=opMi c:=by
 unfold clsC
 by_cases h1:c<1
 ·rw[if_pos h1,show opMi c=false by unfold opMi;simp;omega];rfl
 ·by_cases h2:23<c
  ·rw[if_neg h1,if_pos h2,show opMi c=false by unfold opMi;simp;omega];rfl
  ·rw[if_neg h1,if_neg h2]
theorem opNi_cls (l:List Int): ∀k,k≤l.length→opNi (l.map clsC) k=opNi l k
 |0,_=>rfl
 |k+1,h=>by
  unfold opNi;rw[map_getD (by omega),opMi_cls,opNi_cls l k (by omega)]
theorem opNi_le (l:List Int): ∀k,opNi l k≤k
 |0=>Nat.le_refl _
 |k+1=>by
  have:=opNi_le l k;unfold opNi
  split<;>omega
def okT (c:Int):Prop:=c≠3∧c≠4∧c≠5∧c≠6∧c≠7∧c≠8∧c≠22
theorem okT_cls {c:Int}(h:okT c):okM (clsC c):=by
 have h1:=clsC_in c;unfold okT at h;unfold okM;unfold clsC at*
 (repeat' split at h1)<;>(repeat' split)<;>omega
theorem turn_ok (w:World)(c:Int):Calls Tryz.prog 32 #[.int .u8 c] w fun r w'=>r= .returned (.int .u8 (tn c))∧w'=w:=by
 rcases tn_cases c with⟨rfl,e⟩|⟨rfl,e⟩|⟨rfl,e⟩|⟨rfl,e⟩|⟨rfl,e⟩|⟨rfl,e⟩|⟨rfl,e⟩|⟨rfl,e⟩|⟨d1,d2,d3,d4,d5,d6,d7,d8,e⟩
 iterate 8
  ·rw[e];clear e
   go_enter Tryz.func32,Tryz.ntmps32
   go_wp2;go_ret;exact⟨rfl,rfl⟩
 ·rw[e];have f1:(c==1)=false:=beq_eq_false_iff_ne.2 d1;have f2:(c==2)=false:=beq_eq_false_iff_ne.2 d2;have f3:(c==15)=false:=beq_eq_false_iff_ne.2 d3;have f4:(c==17)=false:=beq_eq_false_iff_ne.2 d4;have f5:(c==16)=false:=beq_eq_false_iff_ne.2 d5;have f6:(c==18)=false:=beq_eq_false_iff_ne.2 d6;have f7:(c==20)=false:=beq_eq_false_iff_ne.2 d7;have f8:(c==21)=false:=beq_eq_false_iff_ne.2 d8;clear d1 d2 d3 d4 d5 d6 d7 d8 e
  go_enter Tryz.func32,Tryz.ntmps32
  go_wp2;go_ret;exact⟨rfl,rfl⟩
theorem mirrored_ok {w:World}{A:Option Addr}{n c:Nat}{l:List Int}(h:RdInts w w.heap.size .u8 A l)(hn:n=l.length)(hl:n≤140737488351232):
 Calls Tryz.prog 10 #[.slice A n c] w fun r w'=>r= .returned (.bool true)∧Aft w w':=by
 have CT:=fun W x=>turn_ok W x;obtain⟨⟨Xe,Xb,Xc,Xl⟩,hX⟩: ∃X,classesX l 0=X:=⟨_,rfl⟩;obtain⟨⟨Ye,Yb,Yc,Yl⟩,hY⟩: ∃X,classesX (l.map tn) 1=X:=⟨_,rfl⟩;have hee:=mirrored_e l;rw[hX,hY]at hee;have hee:Ye=Xe:=hee;subst hee
 have hMir:(∀i,i<n→okT (l.getD i 0))→opNi l n≤60→Ye=0→Yb=1∧Xb=0∧Xl.length=n∧Yl.length=n∧ ∀i,i<n→(Xl.getD i 0= -1∧Yl.getD i 0= -1)∨(Xl.getD i 0≠ -1∧Yl.getD i 0=Xl.getD i 0+1∧Xl.getD i 0≤126∧0≤Xl.getD i 0):=fun h1 h2 h3=>by have hm:=mirrored (l:=l) (fun i hi=>okT_cls (h1 i (by omega))) (by rw[opNi_cls l _ (Nat.le_refl _),←hn];exact h2) (by rw[hX];exact h3);have b1:=classesX_may (l:=l) (b:=0) (by rw[hX];exact h3);have b2:=classesX_may (l:=l.map tn) (b:=1) (by rw[hY];exact h3);rw[hX,hY]at hm;rw[hX]at b1;rw[hY]at b2;obtain⟨_,m2,m3,m4⟩:=hm;have m2:Yb=Xb+1:=m2;have m3:Xb=0:=m3;refine⟨by omega,m3,by rw[hn];exact b1.2.2.1,by have h9:=b2.2.2.1;rw[List.length_map]at h9;rw[hn];exact h9,fun i hi=>m4 i (by omega)⟩
 obtain⟨p,hp⟩: ∃p,Xc.length=p:=⟨_,rfl⟩;obtain⟨q,hq⟩: ∃q,Xl.length=q:=⟨_,rfl⟩;obtain⟨p',hp'⟩: ∃p,Yc.length=p:=⟨_,rfl⟩;obtain⟨q',hq'⟩: ∃q,Yl.length=q:=⟨_,rfl⟩;have C29:=EClasses_at (c:=c) h hn 0 hX hp hq;have HD:=fun(W:World) (A2:Option Addr) (c2:Nat) (hr:RdInts W W.heap.size .u8 A2 (l.map tn))=>EClasses_at (n:=n) (c:=c2) hr (by rw[List.length_map];exact hn) 1 hY hp' hq' W (Aft.refl W);rw[hq,hq']at hMir;have HN:=Lib.hid hn;have HQ:=Lib.hid hq;have HQ':=Lib.hid hq';have HM:=Lib.hid hMir;have HC29:=Lib.hid C29;have HCD:=Lib.hid HD;clear hn hX hY hp hq hp' hq' hMir C29 HD
 go_enter Tryz.func10,Tryz.ntmps10
 go_upto_region 3 with(go_at_call 18;refine(awake_ok _).mono ?_;rintro r1 w1 ⟨rfl,a1⟩)
 go_wp2
 go_loopg [3,4,5] n (fun gk bv ov iv wr=> ∃j:Nat,j+gk=n∧bv= .int .i64 (opNi l j:Nat)∧iv= .int .i64 j∧(∀i,i<j→okT (l.getD i 0))∧Ints wr w1.heap.size 22 .u8 ov ((l.take j).map tn)∧Aft w1 wr)
 case atStart=>exact⟨0,by omega,rfl,rfl,by omega,Ints.nil _ _ _ _,Aft.refl _⟩
 case round=>
  obtain⟨j,hj,rfl,rfl,hok,I,ar⟩:=hrel;have HJ:=Lib.hid hj;have HOK:=Lib.hid hok;clear hj hok;have hNj:=opNi_le l j
  by_cases hjn:j<n
  ·obtain⟨qb,o,rfl,_,hq,k1⟩:=((h.aft a1).aft ar).at_ (i:=j) (by have:=HN.out;omega);obtain⟨x,hx⟩: ∃x,l.getD j 0=x:=⟨_,rfl⟩;rw[hx]at k1
   have hN1:opNi l (j+1)=if opMi x=true then opNi l j+1 else opNi l j:=by rw[←hx];rfl
   have htk:(l.take (j+1)).map tn=(l.take j).map tn++[tn x]:=by rw[List.take_succ_eq_append_getElem (by have:=HN.out;omega),List.map_append,←hx,List.getD_eq_getElem?_getD,List.getElem?_eq_getElem (by have:=HN.out;omega)];rfl
   have hlen:((l.take j).map tn).length=j:=by rw[List.length_map,List.length_take];have:=HN.out;omega
   obtain⟨D,hD⟩: ∃D,(l.take j).map tn=D:=⟨_,rfl⟩;rw[hD]at I htk hlen;have HX:=Lib.hid hx;have HTK:=Lib.hid htk;have HLEN:=Lib.hid hlen;have HN1:=Lib.hid hN1;clear hx htk hlen hN1 hD;obtain⟨N,hN⟩: ∃N,opNi l j=N:=⟨_,rfl⟩;rw[hN]at hNj HN1⊢;clear hN;have hws:w1.heap.size≤wr.heap.size:=ar.size
   have hok1:okT x→ ∀i,i<j+1→okT (l.getD i 0):=fun h1 i hi=>by
    by_cases e:i=j
    ·rw[e,HX.out];exact h1
    ·exact HOK.out i (by omega)
   have HOK1:=Lib.hid hok1;clear hok1
   have key:(x=3∨x=4∨x=5∨x=6∨x=7∨x=8∨x=22)∨(okT x∧(x=15∨x=17∨x=16∨x=18∨x=20∨x=21))∨(okT x∧x≠15∧x≠17∧x≠16∧x≠18∧x≠20∧x≠21):=by unfold okT;omega
   rcases key with hk|⟨hk,ho⟩|⟨hk,n1,n2,n3,n4,n5,n6⟩
   ·rcases hk with rfl|rfl|rfl|rfl|rfl|rfl|rfl
    all_goals
     go_wp2;go_ret;exact⟨rfl,a1.trans ar⟩
   ·have HK:=Lib.hid hk
    rcases ho with rfl|rfl|rfl|rfl|rfl|rfl
    all_goals
     have hN2:=HN1.out.trans (if_pos rfl);have HN2:=Lib.hid hN2;clear hN2 hk
     go_wp2_with(first
      |(go_at_call 32;refine(CT _ _).mono ?_;rintro r5 w5 ⟨rfl,hw5⟩;subst hw5)
      |(at_builtin;go_must (refine wpList_appI ei22 rfl rfl rfl (I.alloc _) rfl (Blk.at_ (by simp)) ?_ ?_ ?_ ?_)))
     ·rw[HLEN.out];unfold maxLen;omega
     ·rw[HLEN.out];omega
     ·simp;omega
     intro g cap w6 I6 g6 hg6;have a6:Aft w1 w6:=(ar.alloc _).grown g6 (fun j e=>by have:=(I.lt j e).1;omega);go_wp2
     go_roundg (n-(j+1))
     case rel=>exact⟨j+1,by have:=HJ.out;omega,by rw[HN2.out];go_num,by go_num,HOK1.out HK.out,by rw[HTK.out];exact I6,a6⟩
     case measure=>have:=HJ.out;omega
   ·have HK:=Lib.hid hk;unfold okT at hk;obtain⟨m1,m2,m3,m4,m5,m6,m7⟩:=hk;have hN2:=HN1.out.trans (if_neg (by unfold opMi;simp[n1,n2,n3,n4,n5,n6]));have HN2:=Lib.hid hN2;have g1:(x==3)=false:=beq_eq_false_iff_ne.2 m1;have g2:(x==4)=false:=beq_eq_false_iff_ne.2 m2;have g3:(x==5)=false:=beq_eq_false_iff_ne.2 m3;have g4:(x==6)=false:=beq_eq_false_iff_ne.2 m4;have g5:(x==7)=false:=beq_eq_false_iff_ne.2 m5;have g6':(x==8)=false:=beq_eq_false_iff_ne.2 m6;have g7:(x==22)=false:=beq_eq_false_iff_ne.2 m7;have f1:(x==15)=false:=beq_eq_false_iff_ne.2 n1;have f2:(x==17)=false:=beq_eq_false_iff_ne.2 n2;have f3:(x==16)=false:=beq_eq_false_iff_ne.2 n3;have f4:(x==18)=false:=beq_eq_false_iff_ne.2 n4;have f5:(x==20)=false:=beq_eq_false_iff_ne.2 n5;have f6:(x==21)=false:=beq_eq_false_iff_ne.2 n6;clear m1 m2 m3 m4 m5 m6 m7 n1 n2 n3 n4 n5 n6 hN2
    go_wp2_with(first
     |(go_at_call 32;refine(CT _ _).mono ?_;rintro r5 w5 ⟨rfl,hw5⟩;subst hw5)
     |(at_builtin;go_must (refine wpList_appI ei22 rfl rfl rfl (I.alloc _) rfl (Blk.at_ (by simp)) ?_ ?_ ?_ ?_)))
    ·rw[HLEN.out];unfold maxLen;omega
    ·rw[HLEN.out];omega
    ·simp;omega
    intro g cap w6 I6 g6 hg6;have a6:Aft w1 w6:=(ar.alloc _).grown g6 (fun j e=>by have:=(I.lt j e).1;omega);go_wp2
    go_roundg (n-(j+1))
    case rel=>exact⟨j+1,by have:=HJ.out;omega,by rw[HN2.out],by go_num,HOK1.out HK.out,by rw[HTK.out];exact I6,a6⟩
    case measure=>have:=HJ.out;omega
  ·have hjq:j=n:=by have:=HJ.out;omega
   subst hjq
   have hfull:(l.take j).map tn=l.map tn:=by rw[List.take_of_length_le (by have:=HN.out;omega)]
   rw[hfull]at I;obtain⟨oA,oc,hov,-,-,RO⟩:=I.val;rw[show(l.map tn).length=j by rw[List.length_map];exact HN.out.symm]at hov;subst hov;have HMs:=Lib.hid (HM.out HOK.out);obtain⟨N,hN⟩: ∃N,opNi l j=N:=⟨_,rfl⟩;rw[hN]at hNj HMs⊢;clear hN hfull I HJ HOK HM hjn;have b1:=a1.trans ar
   go_upto_region 26 with(go_at_call 29;refine(HC29.out _ b1).mono ?_;rintro r4 w4 ⟨cA,lA,cc,lc,rfl,-,IL,b4⟩)
   have X6:=Blk.new w4 33 #[.int .i8 Xb,.slice cA p cc,.slice lA q lc];have b5:Aft w4 (w4.alloc (.cells #[.int .i8 Xb,.slice cA p cc,.slice lA q lc] 33)):=(Aft.refl w4).alloc _;obtain⟨x6,hx6⟩: ∃x,w4.heap.size=x:=⟨_,rfl⟩;generalize w4.alloc (.cells #[.int .i8 Xb,.slice cA p cc,.slice lA q lc] 33)=w5 at X6 b5⊢;rw[hx6]at X6⊢;have b45:=b4.trans b5;have RO5:=((RO.aft b45).more b45.size);have RL5:=(IL.aft b5).rd;have b15:=b1.trans b45;clear hx6 b4 b5 IL RO b45
   go_upto_region 27 with(go_at_call 29;refine(HCD.out _ _ _ RO5.clip).mono ?_;rintro r6 w6 ⟨dA,mA,dc,mc,rfl,-,JL,b6⟩)
   have X8:=Blk.new w6 33 #[.int .i8 Yb,.slice dA p' dc,.slice mA q' mc];have b7:Aft w6 (w6.alloc (.cells #[.int .i8 Yb,.slice dA p' dc,.slice mA q' mc] 33)):=(Aft.refl w6).alloc _;obtain⟨x8,hx8⟩: ∃x,w6.heap.size=x:=⟨_,rfl⟩;generalize w6.alloc (.cells #[.int .i8 Yb,.slice dA p' dc,.slice mA q' mc] 33)=w7 at X8 b7⊢;rw[hx8]at X8⊢;have b67:=b6.trans b7;have X67:=X6.aft b67;have RX:=RL5.aft b67;have RY:=(JL.aft b7).rd;have b17:=b15.trans b67;obtain⟨x0,x1,x2,xf,xl⟩:=X67.c3;obtain⟨y0,y1,y2,yf,yl⟩:=X8.c3;clear hx8 b6 b7 RO5 RL5 JL X6 b15 HC29 HCD b67
   by_cases hYe: ¬Ye=0
   ·have e1:(Ye !=0)=true:=bne_iff_ne.2 hYe;have e2:(Ye==Ye)=true:=beq_self_eq_true Ye;clear hYe;go_wp2;go_ret;exact⟨rfl,b17⟩
   have hYe:Ye=0:=by omega
   by_cases h60:60<N
   ·subst hYe
    have e3:(60:Int)<(N:Int):=by omega
    go_wp2;go_ret;exact⟨rfl,b17⟩
   obtain⟨m1,m2,m3,m4,m5⟩:=HMs.out (by omega) hYe;subst hYe m1 m2;have hq:=m3;have hq':=m4;subst hq hq';have HALL:=Lib.hid m5
   have e3: ¬(60:Int)<(N:Int):=by omega
   have eqq:((q':Int) !=(q':Int))=false:=bne_self_eq_false _;clear m3 m4 m5 HMs x0 x1 x2 xf xl y0 y1 y2 yf yl;obtain⟨x0,x1,x2,xf,xl⟩:=X67.c3;obtain⟨y0,y1,y2,yf,yl⟩:=X8.c3;go_wp2
   go_loopg [10,11] q' (fun gk iv _ wr=> ∃j:Nat,j+gk=q'∧iv= .int .i64 j∧Aft w7 wr)
   case atStart=>exact⟨0,by omega,rfl,Aft.refl _⟩
   case round=>
    clear x0 x1 x2 xf xl y0 y1 y2 yf yl;obtain⟨i,hi,rfl,ai⟩:=hrel;have HI:=Lib.hid hi;clear hi;obtain⟨x0,x1,x2,xf,xl⟩:=(X67.aft ai).c3;obtain⟨y0,y1,y2,yf,yl⟩:=(X8.aft ai).c3
    by_cases hin:i<q'
    ·obtain⟨qb,o,rfl,_,hq,k1⟩:=(RX.aft ai).at_ (i:=i) (by have:=HQ.out;omega);obtain⟨qb2,o2,rfl,_,hq2,k2⟩:=(RY.aft ai).at_ (i:=i) (by have:=HQ'.out;omega);obtain⟨v,hv⟩: ∃v,Xl.getD i 0=v:=⟨_,rfl⟩;obtain⟨u,hu⟩: ∃u,Yl.getD i 0=u:=⟨_,rfl⟩;have hall:=HALL.out i hin;rw[hv]at k1 hall;rw[hu]at k2 hall;clear hv hu
     rcases hall with⟨rfl,rfl⟩|⟨v1,rfl,v3,v4⟩
     ·go_wp2
      go_quiet (fail)
      go_wp2
      go_roundg (q'-(i+1))
      case rel=>exact⟨i+1,by have:=HI.out;omega,by go_num,⟨ai.os,ai.tape,ai.output,ai.size,ai.block⟩⟩
      case measure=>have:=HI.out;omega
     ·have g1:(v== -1)=false:=beq_eq_false_iff_ne.2 v1;have g2:(v+1== -1)=false:=beq_eq_false_iff_ne.2 (by omega);have g3:(v+1 !=v+1)=false:=bne_self_eq_false _;clear v1;go_wp2
      go_quiet (fail)
      go_wp2
      go_roundg (q'-(i+1))
      case rel=>exact⟨i+1,by have:=HI.out;omega,by go_num,⟨ai.os,ai.tape,ai.output,ai.size,ai.block⟩⟩
      case measure=>have:=HI.out;omega
    ·go_wp2;go_ret;exact⟨rfl,b17.trans ai⟩
end Go.Proofs.YtllolnkkepacjaaGreat
