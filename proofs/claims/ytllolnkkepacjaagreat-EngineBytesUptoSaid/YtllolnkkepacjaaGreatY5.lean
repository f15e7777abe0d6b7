/- May props be? What a bracket's key is. -/
import Derived.Test.YtllolnkkepacjaaGreatR12
import Derived.Test.YtllolnkkepacjaaGreatH6
import Derived.BigQuiet
import Derived.Deep.QuietTactic
set_option maxRecDepth 100000
set_option maxHeartbeats 4000000
namespace Go.Proofs.YtllolnkkepacjaaGreat
open Go.RowKit
attribute [local go_sem] Oper.semAt_some
def mayC (rest:Int)(ch:List Chr)(r:Int):Bool:=
 if(brL ch r).2=0 then true
 else if(brL ch (brL ch r).1).2=0 then false
 else if(brL ch (brL ch r).1).2=(brL ch r).2 then false
 else if(brL ch (brL ch r).1).1≠r then false
 else if clsC (cpL rest ch r)≠14 then false
 else if(brL ch (twL ch r)).2≠(brL ch r).2 then false
 else if twL ch (twL ch r)≠twL ch r then false
 else if(brL ch (twL ch r)).1≠twL ch (brL ch r).1 then false
 else true
def mayP (rest:Int)(ch:List Chr):Bool:=ch.all fun x=>mayC rest ch x.r
theorem mayP_at {rest:Int}{ch:List Chr}(h:mayP rest ch=true): ∀x∈ch,mayC rest ch x.r=true:=fun x hx=>List.all_eq_true.1 h x hx
theorem mayP_no {rest:Int}{ch:List Chr}{i:Nat}{x:Chr}(hx:ch[i]?=some x)(h:mayC rest ch x.r=false):mayP rest ch=false:=by
 rcases hp:mayP rest ch with _|_
 ·rfl
 ·have:=mayP_at hp x (List.mem_of_getElem? hx);rw[h]at this;cases this
theorem mayP_yes {rest:Int}{ch:List Chr}(h: ∀(i:Nat) (x:Chr),ch[i]?=some x→mayC rest ch x.r=true):mayP rest ch=true:=by refine List.all_eq_true.2 fun x hx=> ?_;obtain⟨i,hi⟩:=List.getElem?_of_mem hx;exact h i x hi
theorem May_ok {w:World}{B:Nat}{pv:Value}{rest:Int}{ch:List Chr}(hP:PropsIs w B pv rest ch):
 Calls Tryz.prog 16 #[pv] w fun e w'=>e= .returned (.bool (mayP rest ch))∧Below w.heap.size w w':=by
 replace hP:=hP.clip;have hP0:=hP;obtain⟨A,c,rfl,hR,hm⟩:=hP;obtain⟨z,hz⟩: ∃z,mayP rest ch=z:=⟨_,rfl⟩;obtain⟨n,hn⟩: ∃n,ch.length=n:=⟨_,rfl⟩;rw[hz,hn];rw[hn]at hm hP0;have HN:=Lib.hid hn;have HZ:=Lib.hid hz;clear hn hz;obtain⟨W1,hW1⟩: ∃W1,w.alloc (.cells #[.int .u8 rest,.slice A n c] 25)=W1:=⟨_,rfl⟩
 have bW:Below w.heap.size w W1:=by rw[←hW1];exact(Below.refl _ w).alloc (Nat.le_refl _) _
 have X:Blk W1 w.heap.size 25 #[.int .u8 rest,.slice A n c]:=by rw[←hW1];exact Blk.new w 25 _
 have hP1:=hP0.below bW (.inl (Nat.le_refl _));have hR1:=hR.below bW (.inl (Nat.le_refl _));have HW1:=Lib.hid hW1;have hwW:w.heap.size≤W1.heap.size:=bW.size;clear hW1 hP0 hR
 go_enter Tryz.func16,Tryz.ntmps16
 go_upto_region 1 with(fail)
 rw[HW1.out];go_wp2
 go_loopg [3] n (fun gk iv wr=> ∃i:Nat,i+gk=n∧iv= .int .i64 i∧(∀(j:Nat) (x:Chr),j<i→ch[j]?=some x→mayC rest ch x.r=true)∧Aft W1 wr)
 case atStart=>exact⟨0,by omega,rfl,fun j x h=>by omega,Aft.refl _⟩
 case round=>
  obtain⟨i,hi,rfl,hall,bb⟩:=hrel;have HI:=Lib.hid hi;have HALL:=Lib.hid hall;clear hi hall;have Xw:=X.aft bb;obtain⟨y0,y1,yf,yl⟩:=Xw.c2
  by_cases hlt:i<n
  ·obtain⟨x,hx⟩: ∃x,ch[i]?=some x:=⟨_,List.getElem?_eq_getElem (by have:=HN.out;omega)⟩;have hPw:=hP1.below bb (.inr (Nat.le_refl _));obtain⟨ab,off,rfl,a1,a2,hc⟩:=(hR1.below bb (.inr (Nat.le_refl _))).at_ encC hx (by omega);have c0:=hc 0 _ rfl;rw[Nat.add_zero]at c0;have HX:=Lib.hid hx;clear hx hc;obtain⟨r,hr⟩: ∃r,x.r=r:=⟨_,rfl⟩;rw[hr]at c0
   have hC:mayC rest ch r=if(brL ch r).2=0 then true
    else if(brL ch (brL ch r).1).2=0 then false
    else if(brL ch (brL ch r).1).2=(brL ch r).2 then false
    else if(brL ch (brL ch r).1).1≠r then false
    else if clsC (cpL rest ch r)≠14 then false
    else if(brL ch (twL ch r)).2≠(brL ch r).2 then false
    else if twL ch (twL ch r)≠twL ch r then false
    else if(brL ch (twL ch r)).1≠twL ch (brL ch r).1 then false
    else true:=rfl
   obtain⟨v,hv⟩: ∃v,mayC rest ch r=v:=⟨_,rfl⟩;rw[hv]at hC
   have hno:v=false→z=false:=fun h=>by rw[←HZ.out];exact mayP_no HX.out (by rw[hr,hv,h])
   have hyes:v=true→ ∀(j:Nat) (y:Chr),j<i+1→ch[j]?=some y→mayC rest ch y.r=true:=by
    intro h j y hj hy
    by_cases hji:j=i
    ·subst hji;rw[HX.out]at hy;cases hy;rw[hr,hv,h]
    ·exact HALL.out j y (by omega) hy
   have HNO:=Lib.hid hno;have HYES:=Lib.hid hyes;clear hno hyes hv;obtain⟨ot,hot⟩: ∃ot,(brL ch r).1=ot:=⟨_,rfl⟩;obtain⟨sd,hsd⟩: ∃sd,(brL ch r).2=sd:=⟨_,rfl⟩;obtain⟨tw,htw⟩: ∃tw,twL ch r=tw:=⟨_,rfl⟩;rw[hot,hsd,htw]at hC;obtain⟨bk,hbk⟩: ∃bk,(brL ch ot).1=bk:=⟨_,rfl⟩;obtain⟨fa,hfa⟩: ∃fa,(brL ch ot).2=fa:=⟨_,rfl⟩;obtain⟨it,hit⟩: ∃it,(brL ch tw).1=it:=⟨_,rfl⟩;obtain⟨sm,hsm⟩: ∃sm,(brL ch tw).2=sm:=⟨_,rfl⟩;obtain⟨t2,ht2⟩: ∃t2,twL ch tw=t2:=⟨_,rfl⟩;obtain⟨t3,ht3⟩: ∃t3,twL ch ot=t3:=⟨_,rfl⟩;obtain⟨cp,hcp⟩: ∃cp,cpL rest ch r=cp:=⟨_,rfl⟩;rw[hcp]at hC;obtain⟨cl,hcl⟩: ∃cl,clsC cp=cl:=⟨_,rfl⟩;rw[hbk,hfa,hit,hsm,ht2,ht3,hcl]at hC
   have P1: ∀W,Aft wr W→Calls Tryz.prog 49 #[.agg #[.int .u8 rest,.slice (some ⟨ab,off,none⟩) n c],.int .i32 r] W fun e w'=>e= .returned (.tuple #[.int .i32 ot,.int .u8 sd])∧Below W.heap.size W w':=fun W hb=>by rw[←hot,←hsd];exact brack_ok r (hPw.below hb (.inr (Nat.le_refl _)))
   have P2: ∀W,Aft wr W→Calls Tryz.prog 49 #[.agg #[.int .u8 rest,.slice (some ⟨ab,off,none⟩) n c],.int .i32 ot] W fun e w'=>e= .returned (.tuple #[.int .i32 bk,.int .u8 fa])∧Below W.heap.size W w':=fun W hb=>by rw[←hbk,←hfa];exact brack_ok ot (hPw.below hb (.inr (Nat.le_refl _)))
   have P3: ∀W,Aft wr W→Calls Tryz.prog 49 #[.agg #[.int .u8 rest,.slice (some ⟨ab,off,none⟩) n c],.int .i32 tw] W fun e w'=>e= .returned (.tuple #[.int .i32 it,.int .u8 sm])∧Below W.heap.size W w':=fun W hb=>by rw[←hit,←hsm];exact brack_ok tw (hPw.below hb (.inr (Nat.le_refl _)))
   have Q1: ∀W,Aft wr W→Calls Tryz.prog 52 #[.agg #[.int .u8 rest,.slice (some ⟨ab,off,none⟩) n c],.int .i32 r] W fun e w'=>e= .returned (.int .i32 tw)∧Below W.heap.size W w':=fun W hb=>by rw[←htw];exact twin_ok r (hPw.below hb (.inr (Nat.le_refl _)))
   have Q2: ∀W,Aft wr W→Calls Tryz.prog 52 #[.agg #[.int .u8 rest,.slice (some ⟨ab,off,none⟩) n c],.int .i32 tw] W fun e w'=>e= .returned (.int .i32 t2)∧Below W.heap.size W w':=fun W hb=>by rw[←ht2];exact twin_ok tw (hPw.below hb (.inr (Nat.le_refl _)))
   have Q3: ∀W,Aft wr W→Calls Tryz.prog 52 #[.agg #[.int .u8 rest,.slice (some ⟨ab,off,none⟩) n c],.int .i32 ot] W fun e w'=>e= .returned (.int .i32 t3)∧Below W.heap.size W w':=fun W hb=>by rw[←ht3];exact twin_ok ot (hPw.below hb (.inr (Nat.le_refl _)))
   have C1: ∀W,Aft wr W→Calls Tryz.prog 51 #[.agg #[.int .u8 rest,.slice (some ⟨ab,off,none⟩) n c],.int .i32 r] W fun e w'=>e= .returned (.int .u8 cp)∧Below W.heap.size W w':=fun W hb=>by rw[←hcp];exact class_ok r (hPw.below hb (.inr (Nat.le_refl _)))
   have C2: ∀W,Calls Tryz.prog 50 #[.int .u8 cp] W fun e w'=>e= .returned (.int .u8 cl)∧W=w':=fun W=>by rw[←hcl];exact rClass_ok W cp
   have HC:=Lib.hid hC;have a0:Aft wr wr:=Aft.refl wr;clear hot hsd htw hbk hfa hit hsm ht2 ht3 hcp hcl hC hr
   by_cases g0:sd=0
   case pos=>
    have e0a:(sd==0)=true:=by simpa using g0
    have e0b:(sd !=0)=false:=by simpa using g0
    have hv:v=true:=by rw[HC.out,if_pos g0]
    go_wp2_with fail
    refine(P1 _ a0).mono ?_;rintro r1 w1 ⟨rfl,b1⟩;have a1:=Aft.trans a0 b1;obtain⟨y10,y11,y1f,y1l⟩:=(Xw.aft a1).c2;go_wp2
    go_roundg (n-(i+1))
    case rel=>exact⟨i+1,by have:=HI.out;omega,by go_num,HYES.out hv,bb.trans a1⟩
    case measure=>have:=HI.out;omega
   have e0a:(sd==0)=false:=by simpa using g0
   have e0b:(sd !=0)=true:=by simpa using g0
   by_cases g1:fa=0
   case pos=>
    have e1a:(fa==0)=true:=by simpa using g1
    have e1b:(fa !=0)=false:=by simpa using g1
    have hz:=HNO.out (by rw[HC.out,if_neg g0,if_pos g1]);subst hz
    go_wp2_with fail
    refine(P1 _ a0).mono ?_;rintro r1 w1 ⟨rfl,b1⟩;have a1:=Aft.trans a0 b1;obtain⟨y10,y11,y1f,y1l⟩:=(Xw.aft a1).c2
    go_wp2_with fail
    refine(P2 _ a1).mono ?_;rintro r2 w2 ⟨rfl,b2⟩;have a2:=Aft.trans a1 b2;obtain⟨y20,y21,y2f,y2l⟩:=(Xw.aft a2).c2;go_wp2;go_ret;exact⟨rfl,bW.trans ((bb.trans a2).mono hwW)⟩
   have e1a:(fa==0)=false:=by simpa using g1
   have e1b:(fa !=0)=true:=by simpa using g1
   by_cases g2:fa=sd
   case pos=>
    have e2a:(fa==sd)=true:=by simpa using g2
    have e2b:(fa !=sd)=false:=by simpa using g2
    have hz:=HNO.out (by rw[HC.out,if_neg g0,if_neg g1,if_pos g2]);subst hz
    go_wp2_with fail
    refine(P1 _ a0).mono ?_;rintro r1 w1 ⟨rfl,b1⟩;have a1:=Aft.trans a0 b1;obtain⟨y10,y11,y1f,y1l⟩:=(Xw.aft a1).c2
    go_wp2_with fail
    refine(P2 _ a1).mono ?_;rintro r2 w2 ⟨rfl,b2⟩;have a2:=Aft.trans a1 b2;obtain⟨y20,y21,y2f,y2l⟩:=(Xw.aft a2).c2;go_wp2;go_ret;exact⟨rfl,bW.trans ((bb.trans a2).mono hwW)⟩
   have e2a:(fa==sd)=false:=by simpa using g2
   have e2b:(fa !=sd)=true:=by simpa using g2
   by_cases g3:bk=r
   case neg=>
    have e3a:(bk==r)=false:=by simpa using g3
    have e3b:(bk !=r)=true:=by simpa using g3
    have hz:=HNO.out (by rw[HC.out,if_neg g0,if_neg g1,if_neg g2,if_pos (by simpa using g3)]);subst hz
    go_wp2_with fail
    refine(P1 _ a0).mono ?_;rintro r1 w1 ⟨rfl,b1⟩;have a1:=Aft.trans a0 b1;obtain⟨y10,y11,y1f,y1l⟩:=(Xw.aft a1).c2
    go_wp2_with fail
    refine(P2 _ a1).mono ?_;rintro r2 w2 ⟨rfl,b2⟩;have a2:=Aft.trans a1 b2;obtain⟨y20,y21,y2f,y2l⟩:=(Xw.aft a2).c2;go_wp2;go_ret;exact⟨rfl,bW.trans ((bb.trans a2).mono hwW)⟩
   have e3a:(bk==r)=true:=by simpa using g3
   have e3b:(bk !=r)=false:=by simpa using g3
   by_cases g4:cl=14
   case neg=>
    have e4a:(cl==14)=false:=by simpa using g4
    have e4b:(cl !=14)=true:=by simpa using g4
    have hz:=HNO.out (by rw[HC.out,if_neg g0,if_neg g1,if_neg g2,if_neg (by simpa using g3),if_pos (by simpa using g4)]);subst hz
    go_wp2_with fail
    refine(P1 _ a0).mono ?_;rintro r1 w1 ⟨rfl,b1⟩;have a1:=Aft.trans a0 b1;obtain⟨y10,y11,y1f,y1l⟩:=(Xw.aft a1).c2
    go_wp2_with fail
    refine(P2 _ a1).mono ?_;rintro r2 w2 ⟨rfl,b2⟩;have a2:=Aft.trans a1 b2;obtain⟨y20,y21,y2f,y2l⟩:=(Xw.aft a2).c2
    go_wp2_with fail
    refine(C1 _ a2).mono ?_;rintro r3 w3 ⟨rfl,b3⟩;have a3:=Aft.trans a2 b3;obtain⟨y30,y31,y3f,y3l⟩:=(Xw.aft a3).c2
    go_wp2_with fail
    refine(C2 _).mono ?_;rintro rc wc ⟨rfl,rfl⟩;go_wp2;go_ret;exact⟨rfl,bW.trans ((bb.trans a3).mono hwW)⟩
   have e4a:(cl==14)=true:=by simpa using g4
   have e4b:(cl !=14)=false:=by simpa using g4
   by_cases g5:sm=sd
   case neg=>
    have e5a:(sm==sd)=false:=by simpa using g5
    have e5b:(sm !=sd)=true:=by simpa using g5
    have hz:=HNO.out (by rw[HC.out,if_neg g0,if_neg g1,if_neg g2,if_neg (by simpa using g3),if_neg (by simpa using g4),if_pos (by simpa using g5)]);subst hz
    go_wp2_with fail
    refine(P1 _ a0).mono ?_;rintro r1 w1 ⟨rfl,b1⟩;have a1:=Aft.trans a0 b1;obtain⟨y10,y11,y1f,y1l⟩:=(Xw.aft a1).c2
    go_wp2_with fail
    refine(P2 _ a1).mono ?_;rintro r2 w2 ⟨rfl,b2⟩;have a2:=Aft.trans a1 b2;obtain⟨y20,y21,y2f,y2l⟩:=(Xw.aft a2).c2
    go_wp2_with fail
    refine(C1 _ a2).mono ?_;rintro r3 w3 ⟨rfl,b3⟩;have a3:=Aft.trans a2 b3;obtain⟨y30,y31,y3f,y3l⟩:=(Xw.aft a3).c2
    go_wp2_with fail
    refine(C2 _).mono ?_;rintro rc wc ⟨rfl,rfl⟩
    go_wp2_with fail
    refine(Q1 _ a3).mono ?_;rintro r4 w4 ⟨rfl,b4⟩;have a4:=Aft.trans a3 b4;obtain⟨y40,y41,y4f,y4l⟩:=(Xw.aft a4).c2
    go_wp2_with fail
    refine(P3 _ a4).mono ?_;rintro r5 w5 ⟨rfl,b5⟩;have a5:=Aft.trans a4 b5;obtain⟨y50,y51,y5f,y5l⟩:=(Xw.aft a5).c2;go_wp2;go_ret;exact⟨rfl,bW.trans ((bb.trans a5).mono hwW)⟩
   have e5a:(sm==sd)=true:=by simpa using g5
   have e5b:(sm !=sd)=false:=by simpa using g5
   by_cases g6:t2=tw
   case neg=>
    have e6a:(t2==tw)=false:=by simpa using g6
    have e6b:(t2 !=tw)=true:=by simpa using g6
    have hz:=HNO.out (by rw[HC.out,if_neg g0,if_neg g1,if_neg g2,if_neg (by simpa using g3),if_neg (by simpa using g4),if_neg (by simpa using g5),if_pos (by simpa using g6)]);subst hz
    go_wp2_with fail
    refine(P1 _ a0).mono ?_;rintro r1 w1 ⟨rfl,b1⟩;have a1:=Aft.trans a0 b1;obtain⟨y10,y11,y1f,y1l⟩:=(Xw.aft a1).c2
    go_wp2_with fail
    refine(P2 _ a1).mono ?_;rintro r2 w2 ⟨rfl,b2⟩;have a2:=Aft.trans a1 b2;obtain⟨y20,y21,y2f,y2l⟩:=(Xw.aft a2).c2
    go_wp2_with fail
    refine(C1 _ a2).mono ?_;rintro r3 w3 ⟨rfl,b3⟩;have a3:=Aft.trans a2 b3;obtain⟨y30,y31,y3f,y3l⟩:=(Xw.aft a3).c2
    go_wp2_with fail
    refine(C2 _).mono ?_;rintro rc wc ⟨rfl,rfl⟩
    go_wp2_with fail
    refine(Q1 _ a3).mono ?_;rintro r4 w4 ⟨rfl,b4⟩;have a4:=Aft.trans a3 b4;obtain⟨y40,y41,y4f,y4l⟩:=(Xw.aft a4).c2
    go_wp2_with fail
    refine(P3 _ a4).mono ?_;rintro r5 w5 ⟨rfl,b5⟩;have a5:=Aft.trans a4 b5;obtain⟨y50,y51,y5f,y5l⟩:=(Xw.aft a5).c2
    go_wp2_with fail
    refine(Q2 _ a5).mono ?_;rintro r6 w6 ⟨rfl,b6⟩;have a6:=Aft.trans a5 b6;obtain⟨y60,y61,y6f,y6l⟩:=(Xw.aft a6).c2;go_wp2;go_ret;exact⟨rfl,bW.trans ((bb.trans a6).mono hwW)⟩
   have e6a:(t2==tw)=true:=by simpa using g6
   have e6b:(t2 !=tw)=false:=by simpa using g6
   by_cases g7:it=t3
   case neg=>
    have e7a:(it==t3)=false:=by simpa using g7
    have e7b:(it !=t3)=true:=by simpa using g7
    have hz:=HNO.out (by rw[HC.out,if_neg g0,if_neg g1,if_neg g2,if_neg (by simpa using g3),if_neg (by simpa using g4),if_neg (by simpa using g5),if_neg (by simpa using g6),if_pos (by simpa using g7)]);subst hz
    go_wp2_with fail
    refine(P1 _ a0).mono ?_;rintro r1 w1 ⟨rfl,b1⟩;have a1:=Aft.trans a0 b1;obtain⟨y10,y11,y1f,y1l⟩:=(Xw.aft a1).c2
    go_wp2_with fail
    refine(P2 _ a1).mono ?_;rintro r2 w2 ⟨rfl,b2⟩;have a2:=Aft.trans a1 b2;obtain⟨y20,y21,y2f,y2l⟩:=(Xw.aft a2).c2
    go_wp2_with fail
    refine(C1 _ a2).mono ?_;rintro r3 w3 ⟨rfl,b3⟩;have a3:=Aft.trans a2 b3;obtain⟨y30,y31,y3f,y3l⟩:=(Xw.aft a3).c2
    go_wp2_with fail
    refine(C2 _).mono ?_;rintro rc wc ⟨rfl,rfl⟩
    go_wp2_with fail
    refine(Q1 _ a3).mono ?_;rintro r4 w4 ⟨rfl,b4⟩;have a4:=Aft.trans a3 b4;obtain⟨y40,y41,y4f,y4l⟩:=(Xw.aft a4).c2
    go_wp2_with fail
    refine(P3 _ a4).mono ?_;rintro r5 w5 ⟨rfl,b5⟩;have a5:=Aft.trans a4 b5;obtain⟨y50,y51,y5f,y5l⟩:=(Xw.aft a5).c2
    go_wp2_with fail
    refine(Q2 _ a5).mono ?_;rintro r6 w6 ⟨rfl,b6⟩;have a6:=Aft.trans a5 b6;obtain⟨y60,y61,y6f,y6l⟩:=(Xw.aft a6).c2
    go_wp2_with fail
    refine(Q3 _ a6).mono ?_;rintro r7 w7 ⟨rfl,b7⟩;have a7:=Aft.trans a6 b7;obtain⟨y70,y71,y7f,y7l⟩:=(Xw.aft a7).c2;go_wp2;go_ret;exact⟨rfl,bW.trans ((bb.trans a7).mono hwW)⟩
   have e7a:(it==t3)=true:=by simpa using g7
   have e7b:(it !=t3)=false:=by simpa using g7
   have hv:v=true:=by rw[HC.out,if_neg g0,if_neg g1,if_neg g2,if_neg (by simpa using g3),if_neg (by simpa using g4),if_neg (by simpa using g5),if_neg (by simpa using g6),if_neg (by simpa using g7)]
   go_wp2_with fail
   refine(P1 _ a0).mono ?_;rintro r1 w1 ⟨rfl,b1⟩;have a1:=Aft.trans a0 b1;obtain⟨y10,y11,y1f,y1l⟩:=(Xw.aft a1).c2
   go_wp2_with fail
   refine(P2 _ a1).mono ?_;rintro r2 w2 ⟨rfl,b2⟩;have a2:=Aft.trans a1 b2;obtain⟨y20,y21,y2f,y2l⟩:=(Xw.aft a2).c2
   go_wp2_with fail
   refine(C1 _ a2).mono ?_;rintro r3 w3 ⟨rfl,b3⟩;have a3:=Aft.trans a2 b3;obtain⟨y30,y31,y3f,y3l⟩:=(Xw.aft a3).c2
   go_wp2_with fail
   refine(C2 _).mono ?_;rintro rc wc ⟨rfl,rfl⟩
   go_wp2_with fail
   refine(Q1 _ a3).mono ?_;rintro r4 w4 ⟨rfl,b4⟩;have a4:=Aft.trans a3 b4;obtain⟨y40,y41,y4f,y4l⟩:=(Xw.aft a4).c2
   go_wp2_with fail
   refine(P3 _ a4).mono ?_;rintro r5 w5 ⟨rfl,b5⟩;have a5:=Aft.trans a4 b5;obtain⟨y50,y51,y5f,y5l⟩:=(Xw.aft a5).c2
   go_wp2_with fail
   refine(Q2 _ a5).mono ?_;rintro r6 w6 ⟨rfl,b6⟩;have a6:=Aft.trans a5 b6;obtain⟨y60,y61,y6f,y6l⟩:=(Xw.aft a6).c2
   go_wp2_with fail
   refine(Q3 _ a6).mono ?_;rintro r7 w7 ⟨rfl,b7⟩;have a7:=Aft.trans a6 b7;obtain⟨y70,y71,y7f,y7l⟩:=(Xw.aft a7).c2;go_wp2
   go_roundg (n-(i+1))
   case rel=>exact⟨i+1,by have:=HI.out;omega,by go_num,HYES.out hv,bb.trans a7⟩
   case measure=>have:=HI.out;omega
  ·have hin:i=n:=by have:=HI.out;omega
   subst hin
   have hz:z=true:=by rw[←HZ.out];exact mayP_yes (fun j x hx=>HALL.out j x (by have:=(List.getElem?_eq_some_iff.1 hx).1;have:=HN.out;omega) hx)
   subst hz;go_wp2;go_ret;exact⟨rfl,bW.trans (bb.mono hwW)⟩
end Go.Proofs.YtllolnkkepacjaaGreat
