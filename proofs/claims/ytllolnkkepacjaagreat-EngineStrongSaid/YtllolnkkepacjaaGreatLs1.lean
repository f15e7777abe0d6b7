/- EngineStrong walked. -/
import Derived.Test.YtllolnkkepacjaaGreatLb1
set_option maxRecDepth 100000
set_option maxHeartbeats 8000000
namespace Go.Proofs.YtllolnkkepacjaaGreat
open Go.RowKit
attribute [local go_sem] Oper.semAt_some
theorem strong_ok {w:World}{A:Option Addr}{n c:Nat}{l:List Int}(h:RdInts w w.heap.size .u8 A l)(hn:n=l.length)(b:Int):
 Calls Tryz.prog 8 #[.slice A n c,.int .i8 b] w fun r w'=>r= .returned (.bool true)∧Aft w w':=by
 obtain⟨⟨Xe,Xb,Xc,Xl⟩,hX⟩: ∃X,classesX l b=X:=⟨_,rfl⟩
 have mX:Xe=0→Xc.length=n∧Xl.length=n∧n≤1048576:=fun e=>by have:=classesX_may (l:=l) (b:=b) (by rw[hX];exact e);rw[hX]at this;rw[hn];exact⟨this.2.1,this.2.2.1,this.2.2.2⟩
 have mS:=fun(e:Xe=0)=>classesX_strong (l:=l) (b:=b) (by rw[hX];exact e);rw[hX]at mS;simp only at mS;obtain⟨p,hp⟩: ∃p,Xc.length=p:=⟨_,rfl⟩;obtain⟨q,hq⟩: ∃q,Xl.length=q:=⟨_,rfl⟩;have C29:=EClasses_at (c:=c) h hn b hX hp hq;rw[hp,hq]at mX;rw[hp]at mS;have HP:=Lib.hid hp;have HQ:=Lib.hid hq;have HX0:=Lib.hid hX;clear hn hX hp hq h
 go_enter Tryz.func8,Tryz.ntmps8
 go_upto_region 3 with(go_at_call 18;refine(awake_ok _).mono ?_;rintro r1 w1 ⟨rfl,a1⟩)
 go_upto_region 4 with(go_at_call 29;refine(C29 _ a1).mono ?_;rintro r2 w2 ⟨cA,lA,cc,lc,rfl,IC,IL,b2⟩)
 have X5:=Blk.new w2 33 #[.int .i8 Xb,.slice cA p cc,.slice lA q lc];have b3:Aft w2 (w2.alloc (.cells #[.int .i8 Xb,.slice cA p cc,.slice lA q lc] 33)):=(Aft.refl w2).alloc _;obtain⟨x5,hx5⟩: ∃x,w2.heap.size=x:=⟨_,rfl⟩;generalize w2.alloc (.cells #[.int .i8 Xb,.slice cA p cc,.slice lA q lc] 33)=w3 at X5 b3⊢;rw[hx5]at X5⊢;have a3:=(a1.trans b2).trans b3;replace IC:=IC.aft b3;replace IL:=IL.aft b3;clear hx5 b2 b3 a1;obtain⟨y0,y1,y2,yf,yl⟩:=X5.c3
 by_cases hXe:Xe=0
 ·have e1:(Xe !=0)=false:=by simpa using hXe
  obtain⟨m1,m2,m3⟩:=mX hXe;have mS:=mS hXe
  obtain rfl:q=p:=by omega
  have hqb:q≤1048576:=by omega
  clear mX m1 m2 m3;have HS:=Lib.hid mS;have RC:=IC.rd;have RL:=IL.rd;clear mS hXe IC IL;go_wp2
  go_loopg [7,8] q (fun gk pv iv wr=> ∃(j:Nat) (P:Bool),j+gk=q∧iv= .int .i64 j∧pv= .bool P∧(P=true→b=0∧ ∀i,i<j→plP (Xc.getD i 0))∧(∀i,i<j→Xc.getD i 0≠16∧Xc.getD i 0≠18)∧w3=wr)
  case atStart=>exact⟨0,(b==0),by omega,rfl,rfl,fun e=>⟨by simpa using e,fun i h=>by omega⟩,fun i h=>by omega,rfl⟩
  case round=>
   obtain⟨j,P,hj,rfl,rfl,hP,hno,hwr⟩:=hrel;subst hwr;have HJ:=Lib.hid hj;have HPP:=Lib.hid hP;have HNO:=Lib.hid hno;clear hj hP hno
   by_cases hjp:j<q
   ·obtain⟨qb,o,rfl,_,hq,k1⟩:=RC.at_ (i:=j) (by have:=HP.out;omega);obtain⟨x,hx⟩: ∃x,Xc.getD j 0=x:=⟨_,rfl⟩;rw[hx]at k1;have HX:=Lib.hid hx;clear hx
    have next:x≠16→x≠18→ ∀i,i<j+1→Xc.getD i 0≠16∧Xc.getD i 0≠18:=fun h1 h2 i hi=>by
     by_cases e:i=j
     ·rw[e,HX.out];exact⟨h1,h2⟩
     ·exact HNO.out i (by omega)
    have HNX:=Lib.hid next;clear next
    have key:x=16∨x=18∨plP x∨(x≠16∧x≠18∧ ¬plP x):=by unfold plP;omega
    rcases key with rfl|rfl|hpl|hot
    ·go_wp2;go_ret;exact⟨rfl,a3⟩
    ·go_wp2;go_ret;exact⟨rfl,a3⟩
    ·have HPL:=Lib.hid hpl;unfold plP at hpl
     rcases hpl with rfl|rfl|rfl|rfl|rfl|rfl|rfl|rfl|rfl|rfl
     all_goals
      go_wp2
      go_roundg (q-(j+1))
      case rel=>
       refine⟨j+1,P,by have:=HJ.out;omega,by go_num,rfl,fun e=>⟨(HPP.out e).1,fun i hi=> ?_⟩,HNX.out (by decide) (by decide),rfl⟩
       by_cases e2:i=j
       ·rw[e2,HX.out];exact HPL.out
       ·exact(HPP.out e).2 i (by omega)
      case measure=>have:=HJ.out;omega
    ·obtain⟨h16,h18,hnp⟩:=hot;have HOT:=Lib.hid (And.intro h16 h18);have f1:(x==16)=false:=beq_eq_false_iff_ne.2 h16;have f2:(x==18)=false:=beq_eq_false_iff_ne.2 h18;have g1:(x==1)=false:=beq_eq_false_iff_ne.2 (fun e=>hnp (by unfold plP;omega));have g2:(x==4)=false:=beq_eq_false_iff_ne.2 (fun e=>hnp (by unfold plP;omega));have g3:(x==5)=false:=beq_eq_false_iff_ne.2 (fun e=>hnp (by unfold plP;omega));have g4:(x==6)=false:=beq_eq_false_iff_ne.2 (fun e=>hnp (by unfold plP;omega));have g5:(x==8)=false:=beq_eq_false_iff_ne.2 (fun e=>hnp (by unfold plP;omega));have g6:(x==9)=false:=beq_eq_false_iff_ne.2 (fun e=>hnp (by unfold plP;omega));have g7:(x==11)=false:=beq_eq_false_iff_ne.2 (fun e=>hnp (by unfold plP;omega));have g8:(x==12)=false:=beq_eq_false_iff_ne.2 (fun e=>hnp (by unfold plP;omega));have g9:(x==13)=false:=beq_eq_false_iff_ne.2 (fun e=>hnp (by unfold plP;omega));have g0:(x==14)=false:=beq_eq_false_iff_ne.2 (fun e=>hnp (by unfold plP;omega));clear h16 h18 hnp;go_wp2
     go_roundg (q-(j+1))
     case rel=>exact⟨j+1,false,by have:=HJ.out;omega,by go_num,rfl,fun e=>(by cases e),HNX.out HOT.out.1 HOT.out.2,rfl⟩
     case measure=>have:=HJ.out;omega
   ·have hjq:j=q:=by have:=HJ.out;omega
    have hS1:=HS.out.1 (fun i hi=>HNO.out i (by omega));have hS2:P=true→ ∀i,i<q→Xl.getD i 0=0:=fun e=>HS.out.2 (HPP.out e).1 (fun i hi=>(HPP.out e).2 i (by omega));have HS1:=Lib.hid hS1;have HS2:=Lib.hid hS2;clear hS1 hS2 HNO HPP HJ hjq HS;go_wp2
    go_loopg [9] q (fun gk iv wr=> ∃j:Nat,j+gk=q∧iv= .int .i64 j∧w3=wr)
    case atStart=>exact⟨0,by omega,rfl,rfl⟩
    case round=>
     obtain⟨i,hi,rfl,hwr⟩:=hrel;subst hwr;have HI:=Lib.hid hi;clear hi hjp
     by_cases hip:i<q
     ·obtain⟨qb,o,rfl,_,hq,k1⟩:=RC.at_ (i:=i) (by have:=HP.out;omega);obtain⟨qb2,o2,rfl,_,hq2,k2⟩:=RL.at_ (i:=i) (by have:=HQ.out;omega);have s1:=HS1.out i hip;have s2:P=true→Xl.getD i 0=0:=fun e=>HS2.out e i hip;obtain⟨x,hx⟩: ∃x,Xc.getD i 0=x:=⟨_,rfl⟩;obtain⟨v,hv⟩: ∃v,Xl.getD i 0=v:=⟨_,rfl⟩;rw[hx]at k1 s1;rw[hv]at k2 s1 s2;clear hx hv
      have hP:P=false∨(P=true∧v=0):=by
       cases P
       ·exact .inl rfl
       ·exact .inr ⟨rfl,s2 rfl⟩
      clear s2;obtain⟨s1,s3⟩:=s1
      have key:(evC x)∨(odC x)∨(¬evC x∧ ¬odC x):=by unfold evC odC;omega
      rcases key with hk|hk|hk
      ·obtain⟨v0,v2⟩:=s1 hk
       have e2:(Int.tmod v 2 !=0)=false:=by rw[Int.tmod_eq_emod_of_nonneg v0,v2];rfl
       clear s1 s3 v0 v2;unfold evC at hk
       rcases hk with rfl|rfl|rfl
       all_goals
        rcases hP with rfl|⟨rfl,rfl⟩
        all_goals
         go_wp2
         go_roundg (q-(i+1))
         case rel=>exact⟨i+1,by have:=HI.out;omega,by go_num,rfl⟩
         case measure=>have:=HI.out;omega
      ·obtain⟨v0,v2⟩:=s3 hk
       have e2:(Int.tmod v 2 !=1)=false:=by rw[Int.tmod_eq_emod_of_nonneg v0,v2];rfl
       have hP:P=false:=by
        rcases hP with h|⟨_,h⟩
        ·exact h
        ·subst h;cases v2
       subst hP;clear s1 s3 v0 v2;unfold odC at hk
       rcases hk with rfl|rfl
       all_goals
        go_wp2
        go_roundg (q-(i+1))
        case rel=>exact⟨i+1,by have:=HI.out;omega,by go_num,rfl⟩
        case measure=>have:=HI.out;omega
      ·obtain⟨h1,h2⟩:=hk;have g1:(x==1)=false:=beq_eq_false_iff_ne.2 (fun e=>h1 (by unfold evC;omega));have g2:(x==4)=false:=beq_eq_false_iff_ne.2 (fun e=>h1 (by unfold evC;omega));have g3:(x==7)=false:=beq_eq_false_iff_ne.2 (fun e=>h1 (by unfold evC;omega));have g4:(x==2)=false:=beq_eq_false_iff_ne.2 (fun e=>h2 (by unfold odC;omega));have g5:(x==3)=false:=beq_eq_false_iff_ne.2 (fun e=>h2 (by unfold odC;omega));clear h1 h2 s1 s3
       rcases hP with rfl|⟨rfl,rfl⟩
       all_goals
        go_wp2
        go_roundg (q-(i+1))
        case rel=>exact⟨i+1,by have:=HI.out;omega,by go_num,rfl⟩
        case measure=>have:=HI.out;omega
     ·go_wp2;go_ret;exact⟨rfl,a3⟩
 ·have e1:(Xe !=0)=true:=bne_iff_ne.2 hXe;go_wp2;go_ret;exact⟨rfl,a3⟩
end Go.Proofs.YtllolnkkepacjaaGreat
