/- EngineCut walked. -/
import Derived.Test.YtllolnkkepacjaaGreatLb1
import Derived.Test.YtllolnkkepacjaaGreatSp3
import Derived.Test.YtllolnkkepacjaaGreatCt1
set_option maxRecDepth 100000
set_option maxHeartbeats 8000000
namespace Go.Proofs.YtllolnkkepacjaaGreat
open Go.RowKit
attribute [local go_sem] Oper.semAt_some
theorem tmod7 (v:Int):Int.tmod v 7≤6∧ -6≤Int.tmod v 7:=by
 rcases Int.le_total 0 v with h|h
 ·rw[Int.tmod_eq_emod_of_nonneg h];omega
 ·have e:Int.tmod v 7= -Int.tmod (-v) 7:=by rw[Int.neg_tmod,Int.neg_neg]
  rw[e,Int.tmod_eq_emod_of_nonneg (by omega)];omega
theorem cut_ok {w:World}{A:Option Addr}{n c:Nat}{l:List Int}(h:RdInts w w.heap.size .u8 A l)(hn:n=l.length)(b:Int){A2:Option Addr}{n2 k2:Nat}{cu:List Int}(h2:RdInts w w.heap.size .i64 A2 cu)(hn2:n2=cu.length)(hl2:n2≤140737488351232):
 Calls Tryz.prog 12 #[.slice A n c,.int .i8 b,.slice A2 n2 k2] w fun r w'=>r= .returned (.bool true)∧Aft w w':=by
 obtain⟨⟨Xe,Xb,Xc,Xl⟩,hX⟩: ∃X,classesX l b=X:=⟨_,rfl⟩
 have mX:Xe=0→mayR Xb Xc Xl=true∧Xc.length=n∧Xl.length=n∧n≤1048576:=fun e=>by have:=classesX_may (l:=l) (b:=b) (by rw[hX];exact e);rw[hX]at this;rw[hn];exact this
 obtain⟨p,hp⟩: ∃p,Xc.length=p:=⟨_,rfl⟩;obtain⟨q,hq⟩: ∃q,Xl.length=q:=⟨_,rfl⟩;have C29:=EClasses_at (c:=c) h hn b hX hp hq;rw[hp,hq]at mX;have HP:=Lib.hid hp;have HQ:=Lib.hid hq;have HN2:=Lib.hid hn2;clear hn hX hp hq h hn2
 go_enter Tryz.func12,Tryz.ntmps12
 go_upto_region 3 with(go_at_call 18;refine(awake_ok _).mono ?_;rintro r1 w1 ⟨rfl,a1⟩)
 go_upto_region 4 with(go_at_call 29;refine(C29 _ a1).mono ?_;rintro r2 w2 ⟨cA,lA,cc,lc,rfl,IC,IL,b2⟩)
 have X5:=Blk.new w2 33 #[.int .i8 Xb,.slice cA p cc,.slice lA q lc];have b3:Aft w2 (w2.alloc (.cells #[.int .i8 Xb,.slice cA p cc,.slice lA q lc] 33)):=(Aft.refl w2).alloc _;obtain⟨x5,hx5⟩: ∃x,w2.heap.size=x:=⟨_,rfl⟩;generalize w2.alloc (.cells #[.int .i8 Xb,.slice cA p cc,.slice lA q lc] 33)=w3 at X5 b3⊢;rw[hx5]at X5⊢;have a3:=(a1.trans b2).trans b3;replace IC:=IC.aft b3;replace IL:=IL.aft b3;clear hx5 b2 b3 a1 C29;obtain⟨y0,y1,y2,yf,yl⟩:=X5.c3
 by_cases hXe: ¬Xe=0
 ·have e1:(Xe !=0)=true:=bne_iff_ne.2 hXe;clear mX;go_wp2;go_ret;exact⟨rfl,a3⟩
 have hXe:Xe=0:=by omega
 obtain⟨m1,m2,m3,m4⟩:=mX hXe;subst m2;subst m3
 have e1:(Xe !=0)=false:=by simpa using hXe
 have hlc:q≤lc:=by
  obtain⟨A',cap,e,h',_,_⟩:=IL.val
  injection e with _ _ e
  have:=HQ.out;omega
 have CW:=EWhole_ok (w:=w3) (cc:=cc) (lc:=lc) (base:=Xb) HP.out.symm HQ.out.symm IC.rd IL.rd (by omega) hlc;rw[HP.out,lineX_all m1 HP.out.symm]at CW;have CL:=fun(W:World) (hW:Aft w3 W) (f t:Nat) (h1:f≤t) (h2:t≤q)=>ELine_ok (w:=W) (cc:=cc) (lc:=lc) (base:=Xb) (f:Int) (t:Int) HP.out.symm HQ.out.symm (IC.aft hW).rd (IL.aft hW).rd (by omega) hlc
 have CL: ∀(W:World),Aft w3 W→ ∀(f t:Nat),f≤t→t≤q→Calls Tryz.prog 24 #[.agg #[.int .i8 Xb,.slice cA q cc,.slice lA q lc],.agg #[.int .i64 f,.int .i64 t]] W fun r w'=> ∃v vc,r= .returned (.tuple #[.slice v (t-f) vc,.int .i64 0])∧Ints w' W.heap.size 29 .i8 (.slice v (t-f) vc) (lineL Xb (cutL Xc f t) (cutL Xl f t))∧Aft W w':=fun W hW f t h1 h2=>by
  have:=CL W hW f t h1 h2;rw[lineX_ok m1 h1 (by rw[HP.out];exact h2)]at this;refine this.mono ?_;rintro r w' ⟨v,rfl,I,a⟩;obtain⟨vA,vc,e,_,_,_⟩:=I.val
  have el:(lineL Xb (cutL Xc f t) (cutL Xl f t)).length=t-f:=by rw[lineL_len,cutL_len h1 (by rw[HQ.out];exact h2)]
  rw[el]at e;subst e;exact⟨vA,vc,rfl,I,a⟩
 have hCut:=fun(f t k:Nat) (T:Bool) (h1:f≤k) (h2:k<t) (h3:t≤q) (hT:T=true↔ ∀j,k≤j→j<t→rowC (Xc.getD j 0)=true)=>cut_at Xb (cs:=Xc) (lv:=Xl) (by rw[HP.out,HQ.out]) h1 h2 (by rw[HP.out];exact h3) hT;have hbase:=(mayR_iff.1 m1).1;have HB:=Lib.hid hbase;have H4:=Lib.hid m4;have HCut:=Lib.hid hCut;have HCL:=Lib.hid CL;have hen:((q:Int) !=(q:Int))=false:=bne_self_eq_false _;clear mX m1 hXe hlc hbase m4 hCut CL
 have CW':Calls Tryz.prog 26 #[.agg #[.int .i8 Xb,.slice cA q cc,.slice lA q lc]] w3 fun r w'=> ∃vA vc,r= .returned (.tuple #[.slice vA q vc,.int .i64 0])∧Ints w' w3.heap.size 29 .i8 (.slice vA q vc) (lineL Xb Xc Xl)∧Aft w3 w':=by
  refine CW.mono ?_;rintro r w' ⟨v,rfl,I,a⟩;obtain⟨vA,vc,e,_,_,_⟩:=I.val
  have el:(lineL Xb Xc Xl).length=q:=by rw[lineL_len,HQ.out]
  rw[el]at e;subst e;exact⟨vA,vc,rfl,I,a⟩
 clear CW
 go_upto_region 7 with(go_at_call 26;refine CW'.mono ?_;rintro r3 w4 ⟨vA,vc,rfl,IW,b4⟩)
 have a4:=a3.trans b4;clear CW';go_wp2
 go_loopg [10,11] (n2+1) (fun gk fv iv wr=> ∃F I:Nat,I+gk=n2+1∧fv= .int .i64 F∧iv= .int .i64 I∧F≤q∧Aft w4 wr)
 case atStart=>exact⟨0,0,by omega,rfl,rfl,Nat.zero_le _,Aft.refl _⟩
 case round=>
  clear y0 y1 y2 yf yl;obtain⟨F,I,hI,rfl,rfl,hF,ar⟩:=hrel;have HI:=Lib.hid hI;clear hI;have a34:=b4.trans ar;obtain⟨y0,y1,y2,yf,yl⟩:=(X5.aft a34).c3
  by_cases hin: ¬I≤n2
  ·have hin:n2<I:=by omega
   go_wp2;go_ret;exact⟨rfl,a4.trans ar⟩
  have hin:I≤n2:=by omega
  have hF2:(F:Int)≤(q:Int):=by omega
  have h4:=H4.out
  go_upto_region 14 with(fail)
  go_cut [62] from 59 to 62 (fun v wx=> ∃tb:Bool,v= .bool tb∧(tb=true↔I<n2)∧wx=wr)
  case first=>go_wp2;go_meet;exact⟨_,rfl,by simp,rfl⟩
  case rest=>
   obtain⟨tb,rfl,htb,hwc⟩:=hcut;subst hwc
   apply_assumption
   go_cut [12,13] from 63 to 77 (fun tv _ wx=> ∃T:Nat,tv= .int .i64 T∧F≤T∧T≤q∧wx=wc)
   case first=>
    by_cases hlt:I<n2
    ·obtain rfl:tb=true:=htb.2 hlt;obtain⟨qb,o,rfl,_,hq,k1⟩:=(h2.aft (a4.trans ar)).at_ (i:=I) (by have:=HN2.out;omega);generalize cu.getD I 0=v at k1;have t0:=tmod7 v;obtain⟨u,hu⟩: ∃u,Int.tmod v 7=u:=⟨_,rfl⟩;rw[hu]at t0;obtain⟨t1,t2⟩:=t0
     by_cases hneg:u<0
     ·have b5:(F:Int)+ -u≤9223372036854775807:=by have:=H4.out;omega
      have b6: -9223372036854775808≤(F:Int)+ -u:=by omega
      go_wp2
      all_goals go_meet
      all_goals first
       |exact⟨q,rfl,hF,Nat.le_refl _,rfl⟩
       |exact⟨min (F+(-u).toNat) q,by congr 1;omega,by omega,by omega,rfl⟩
     ·have b5:(F:Int)+u≤9223372036854775807:=by have:=H4.out;omega
      have b6: -9223372036854775808≤(F:Int)+u:=by omega
      go_wp2
      all_goals go_meet
      all_goals first
       |exact⟨q,rfl,hF,Nat.le_refl _,rfl⟩
       |exact⟨min (F+u.toNat) q,by congr 1;omega,by omega,by omega,rfl⟩
    ·obtain rfl:tb=false:=by cases tb;rfl;exact absurd (htb.1 rfl) hlt
     go_wp2;go_meet;exact⟨q,rfl,hF,Nat.le_refl _,rfl⟩
   case rest=>
    obtain⟨T,rfl,hFT,hTq,hwc⟩:=hcut;subst hwc;have CL:=HCL.out _ a34 F T hFT hTq;obtain⟨D,hD⟩: ∃D,T-F=D:=⟨_,rfl⟩;rw[hD]at CL;have HD:=Lib.hid hD
    have hne:((D:Int) !=(T:Int)-(F:Int))=false:=by rw[show(T:Int)-(F:Int)=(D:Int) by omega];exact bne_self_eq_false _
    clear hD
    first|apply_assumption|skip
    go_upto_region 20 with(go_at_call 24;refine CL.mono ?_;rintro r5 w5 ⟨uA,uc,rfl,IU,b5⟩)
    have a35:=a34.trans b5;clear CL y0 y1 y2 yf yl;go_wp2
    go_loopg [16,17] D (fun gk pv kv wr=> ∃P:Bool,gk≤D∧pv= .bool P∧kv= .int .i64 ((F:Int)+(gk:Int)-1)∧(P=true↔ ∀j,F+gk≤j→j<T→rowC (Xc.getD j 0)=true)∧w5=wr)
    case atStart=>exact⟨true,Nat.le_refl _,rfl,by have:=HD.out;congr 1;omega,⟨fun _ j h1 h2=>by have:=HD.out;omega,fun _=>rfl⟩,rfl⟩
    case round=>
     obtain⟨P,hgk,rfl,rfl,hP,hwr⟩:=hrel;subst hwr;have HPP:=Lib.hid hP;clear hP;obtain⟨y0,y1,y2,yf,yl⟩:=(X5.aft a35).c3
     rcases gk with _|G
     ·have hc: ¬(F:Int)≤(F:Int)+((0:Nat):Int)-1:=by omega
      go_wp2
      go_roundg (n2-I)
      case rel=>exact⟨T,I+1,by have:=HI.out;omega,rfl,by go_num,hTq,ar.trans b5⟩
      case measure=>have:=HI.out;omega
     ·have ek:(F:Int)+((G+1:Nat):Int)-1=((F+G:Nat):Int):=by omega
      rw[ek];clear ek;obtain⟨K,hK⟩: ∃K,F+G=K:=⟨_,rfl⟩;rw[hK];have HK:=Lib.hid hK
      have hKq:K<q:=by have:=HD.out;omega
      have hFK:(F:Int)≤(K:Int):=by omega
      have hdFK:decide (F≤K)=true:=decide_eq_true (by omega)
      have hsub:(K:Int)-(F:Int)=(G:Int):=by omega
      have hGD:G<D:=by omega
      obtain⟨qb,o,rfl,_,hq,k1⟩:=(IC.aft a35).rd.at_ (i:=K) (by have:=HP.out;omega);obtain⟨qb3,o3,rfl,_,hq3,k3⟩:=(IW.aft (ar.trans b5)).rd.at_ (i:=K) (by rw[lineL_len];have:=HQ.out;omega);obtain⟨qb4,o4,rfl,_,hq4,k4⟩:=IU.rd.at_ (i:=G) (by rw[lineL_len,cutL_len hFT (by have:=HQ.out;omega)];have:=HD.out;omega);obtain⟨x,hx⟩: ∃x,Xc.getD K 0=x:=⟨_,rfl⟩;rw[hx]at k1
      have hnew:(P && rowC x)=true↔ ∀j,K≤j→j<T→rowC (Xc.getD j 0)=true:=by
       rw[Bool.and_eq_true,HPP.out];constructor
       ·rintro⟨h1,h2⟩ j h3 h4
        by_cases e:j=K
        ·rw[e,hx];exact h2
        ·exact h1 j (by omega) h4
       ·intro h1;exact⟨fun j h3 h4=>h1 j (by omega) h4,by rw[←hx];exact h1 K (Nat.le_refl _) (by have:=HD.out;omega)⟩
      have hC:=HCut.out F T K (P && rowC x) (by omega) (by have:=HD.out;omega) hTq hnew;rw[show K-F=G by omega]at hC;generalize (lineL Xb (cutL Xc F T) (cutL Xl F T)).getD G 0=got at k4 hC;generalize (lineL Xb Xc Xl).getD K 0=wh at k3 hC;have HC:=Lib.hid hC;have HNEW:=Lib.hid hnew;have hxx:=Lib.hid hx;clear hC hnew hx hK hFK;have CR:=rRemoved_ok w5 x
      go_upto_region 27 with(fail)
      go_cut [19] from 108 to 129 (fun rv wx=>rv= .bool (rowC x)∧w5=wx)
      case first=>
       have key:x=13∨x=20∨x=21∨x=22∨x=23∨(x≠13∧x≠20∧x≠21∧x≠22∧x≠23):=by omega
       rcases key with rfl|rfl|rfl|rfl|rfl|⟨n1,n2',n3,n4,n5⟩
       iterate 5
        ·go_wp2;go_meet;exact⟨rfl,rfl⟩
       ·have g1:(x==13)=false:=beq_eq_false_iff_ne.2 n1;have g2:(x==20)=false:=beq_eq_false_iff_ne.2 n2';have g3:(x==21)=false:=beq_eq_false_iff_ne.2 n3;have g4:(x==22)=false:=beq_eq_false_iff_ne.2 n4;have g5:(x==23)=false:=beq_eq_false_iff_ne.2 n5
        have e:rowC x=remC x:=by unfold rowC blkW;rw[g1,g2,g3,g4,g5];rfl
        have HE:=Lib.hid e;clear n1 n2' n3 n4 n5 e
        go_wp2_with(go_at_call 34;refine CR.mono ?_;rintro r7 w7 ⟨rfl,hw7⟩;subst hw7)
        go_meet;exact⟨by rw[HE.out],rfl⟩
      case rest=>
       obtain⟨rfl,hwc⟩:=hcut;subst hwc;obtain⟨row,hrow⟩: ∃z,rowC x=z:=⟨_,rfl⟩;rw[hrow]at HC HNEW⊢;clear hrow CR
       have fin:(P && row)=false∧(got !=wh)=false∨(P && row)=true∧((got !=Xb)=false∨(got !=Xb)=true∧got= -1):=by
        rcases e:(P && row)with _|_
        ·left;exact⟨rfl,by rw[HC.out.1 e];exact bne_self_eq_false _⟩
        ·right;refine⟨rfl,?_⟩
         rcases HC.out.2 e with h1|h1
         ·exact .inl (by rw[h1];exact bne_self_eq_false _)
         ·exact .inr ⟨by rw[h1];rcases HB.out with h2|h2<;>rw[h2]<;>rfl,h1⟩
       have hrel2:(P && row)=true↔ ∀j,F+G≤j→j<T→rowC (Xc.getD j 0)=true:=by rw[HK.out];exact HNEW.out
       have HREL:=Lib.hid hrel2;clear hrel2;clear HC HNEW
       rcases fin with⟨hPR,f1⟩|⟨hPR,f1|⟨f1,rfl⟩⟩
       ·rcases P with _|_
        ·rcases row with _|_
         ·go_wp2
          go_roundg G
          case rel=>exact⟨_,by omega,rfl,by have:=HK.out;congr 1;omega,HREL.out,rfl⟩
          case measure=>omega
         ·go_wp2
          go_roundg G
          case rel=>exact⟨_,by omega,rfl,by have:=HK.out;congr 1;omega,HREL.out,rfl⟩
          case measure=>omega
        ·rcases row with _|_
         ·go_wp2
          go_roundg G
          case rel=>exact⟨_,by omega,rfl,by have:=HK.out;congr 1;omega,HREL.out,rfl⟩
          case measure=>omega
         ·cases hPR
       ·obtain⟨rfl,rfl⟩:P=true∧row=true:=by simpa using hPR
        go_wp2
        go_roundg G
        case rel=>exact⟨_,by omega,rfl,by have:=HK.out;congr 1;omega,HREL.out,rfl⟩
        case measure=>omega
       ·obtain⟨rfl,rfl⟩:P=true∧row=true:=by simpa using hPR
        go_wp2
        go_roundg G
        case rel=>exact⟨_,by omega,rfl,by have:=HK.out;congr 1;omega,HREL.out,rfl⟩
        case measure=>omega
end Go.Proofs.YtllolnkkepacjaaGreat
