/- The reference's Copy walked. Two lists of pairs compared; the reference's strong ones. What a pair becomes, by the reference. -/
import Derived.Test.YtllolnkkepacjaaGreatR18
import Derived.Test.YtllolnkkepacjaaGreatH6
set_option maxRecDepth 100000
set_option maxHeartbeats 2000000
namespace Go.Proofs.YtllolnkkepacjaaGreat
open Go.RowKit
section
attribute [local go_sem] Oper.semAt_some
theorem rCopy_ok {w:World}{B1 B2 n m c d:Nat}{A C:Option Addr}{s:Sq}(hn:n=s.pl.length)(hm:m=s.cs.length)(h1:RdInts w B1 .i64 A s.pl)(h2:RdInts w B2 .u8 C s.cs)(hl:n*8≤140737488351232)(hl2:m≤140737488351232):
 Calls Tryz.prog 137 #[.agg (s.is (.slice A n c) (.slice C m d))] w fun r w'=> ∃pv cv,r= .returned (.agg (s.is pv cv))∧Ints w' w.heap.size 3 .i64 pv s.pl∧Ints w' w.heap.size 22 .u8 cv s.cs∧(∀j,pv.ownBlock=some j→cv.ownBlock≠some j)∧Below w.heap.size w w':=by
 obtain⟨pl,cs,lv,so,eo⟩:=s;simp only[Sq.is]at*;have HN:=Lib.hid hn;have HM:=Lib.hid hm;clear hn hm;obtain⟨W2,hW2⟩: ∃W2,(w.alloc (.cells #[.slice A n c,.slice C m d,.int .i8 lv,.int .u8 so,.int .u8 eo] 87)).alloc (.cells #[.slice none 0 0,.slice none 0 0,.int .i8 0,.int .u8 0,.int .u8 0] 87)=W2:=⟨_,rfl⟩
 have bb:Aft w W2:=by rw[←hW2];exact((Aft.refl w).alloc _).alloc _
 have Bs:Blk W2 w.heap.size 87 #[.slice A n c,.slice C m d,.int .i8 lv,.int .u8 so,.int .u8 eo]:=by rw[←hW2];exact(Blk.new w 87 _).alloc _
 have Br:Blk W2 (w.heap.size+1) 87 #[.slice none 0 0,.slice none 0 0,.int .i8 0,.int .u8 0,.int .u8 0]:=by rw[←hW2];exact Blk.at_ (by simp)
 have hs2:W2.heap.size=w.heap.size+2:=by rw[←hW2];simp
 have HW2:=Lib.hid hW2;have HS2:=Lib.hid hs2;have h1':=h1.aft bb;have h2':=h2.aft bb;clear hW2 hs2;obtain⟨q0,q1,q2,q3,q4,qf,ql⟩:=Bs.c5
 go_enter Tryz.func137,Tryz.ntmps137
 go_upto_region 1 with(fail)
 rw[HW2.out]
 go_wp2_with(at_builtin;go_must (refine wpList_appIs ei24 rfl rfl rfl (Ints.nil _ (w.heap.size+2) 3 .i64) HN.out rfl h1' ?_ ?_ ?_ ?_))
 ·have:=HN.out;simp;unfold maxLen;omega
 ·have:=HN.out;simp;omega
 ·have:=HS2.out;omega
 intro v1 w1 I1 g1 hv1;have I1:Ints w1 (w.heap.size+2) 3 .i64 v1 pl:=I1;have b1:Aft w w1:=Aft.grown bb g1 (by simp[Value.ownBlock]);have Bs1:=Bs.grown g1 (by simp[Value.ownBlock]);have Br1:=Br.grown g1 (by simp[Value.ownBlock]);obtain⟨pA,pc,rfl,-,-,-⟩:=I1.val
 have hs1:w.heap.size+2≤w1.heap.size:=by have:=g1.size;have:=HS2.out;omega
 have F2:=(Frm.refl (fun k=>k=w.heap.size) w1).set (b:=w.heap.size) (j:=0) rfl (.slice pA pl.length pc);have Bs2:=Bs1.set_ 0 (.slice pA pl.length pc);have Br2:=Br1.frm F2 (by omega);have I2:=I1.frm F2 (fun j e=>by have:=(I1.lt j e).1;omega);have bw2:Aft w (w1.setCell ⟨w.heap.size,0,none⟩ (.slice pA pl.length pc)):=b1.set (Nat.le_refl _) _
 have hs2:(w1.setCell ⟨w.heap.size,0,none⟩ (.slice pA pl.length pc)).heap.size=w1.heap.size:=by simp
 have HS3:=Lib.hid hs2;clear hs2 q0 q1 q2 q3 q4 qf ql h1' h2' g1 hv1 bb Bs Br;obtain⟨q0,q1,q2,q3,q4,qf,ql⟩:=Bs1.c5
 go_upto_region 4 with(fail)
 clear q0 q1 q2 q3 q4 qf ql Bs1 Br1 I1 F2;generalize w1.setCell ⟨w.heap.size,0,none⟩ (.slice pA pl.length pc)=w2 at*
 have Bs2:Blk w2 w.heap.size 87 #[.slice pA pl.length pc,.slice C m d,.int .i8 lv,.int .u8 so,.int .u8 eo]:=by simpa using Bs2
 obtain⟨q0,q1,q2,q3,q4,qf,ql⟩:=Bs2.c5
 have hsz2:w.heap.size+2≤w2.heap.size:=by rw[HS3.out];exact hs1
 go_wp2_with(at_builtin;go_must (refine wpList_appIs ei22 rfl rfl rfl (Ints.nil _ w2.heap.size 22 .u8) HM.out rfl (h2.aft bw2) ?_ ?_ ?_ ?_))
 ·have:=HM.out;simp;unfold maxLen;omega
 ·have:=HM.out;simp;omega
 ·exact Nat.le_refl _
 intro v3 w3 I3 g3 hv3;have I3:Ints w3 w2.heap.size 22 .u8 v3 cs:=I3;have b3:Aft w2 w3:=Aft.of_grown g3;obtain⟨cA,cc,rfl,-,-,-⟩:=I3.val;have Bs3:=Bs2.aft b3;clear q0 q1 q2 q3 q4 qf ql g3 hv3;obtain⟨q0,q1,q2,q3,q4,qf,ql⟩:=Bs3.c5;obtain⟨y0,y1,y2,y3,y4,yf,yl⟩:=(Br2.aft b3).c5;go_wp2;have hs3:=b3.le
 have F3:Frm (fun k=>k=w.heap.size∨k=w.heap.size+1) w3 ((((((w3.setCell ⟨w.heap.size,1,none⟩ (.slice cA cs.length cc)).setCell ⟨w.heap.size+1,0,none⟩ (.slice pA pl.length pc)).setCell ⟨w.heap.size+1,1,none⟩ (.slice cA cs.length cc)).setCell ⟨w.heap.size+1,2,none⟩ (.int .i8 lv)).setCell ⟨w.heap.size+1,3,none⟩ (.int .u8 so)).setCell ⟨w.heap.size+1,4,none⟩ (.int .u8 eo)):=(((((((Frm.refl _ w3).set (.inl rfl) _).set (.inr rfl) _).set (.inr rfl) _).set (.inr rfl) _).set (.inr rfl) _).set (.inr rfl) _)
 have Br3:=((((((Br2.aft b3).far (p:=⟨w.heap.size,1,none⟩) (by simp) (.slice cA cs.length cc)).set_ 0 (.slice pA pl.length pc)).set_ 1 (.slice cA cs.length cc)).set_ 2 (.int .i8 lv)).set_ 3 (.int .u8 so)).set_ 4 (.int .u8 eo);have I2':=(I2.aft b3).frm F3 (fun j e=>by have:=(I2.lt j e).1;omega);have I3':=I3.frm F3 (fun j e=>by have:=(I3.lt j e).1;omega);have bw3:=bw2.trans b3;have bwF:=Below.trans bw3 (F3.below bw3.le (fun k hk e=>by omega));refine bodyPost_ret (results_row0 rfl _ _ (w.heap.size+1) 87 #[.slice pA pl.length pc,.slice cA cs.length cc,.int .i8 lv,.int .u8 so,.int .u8 eo] _ rfl (by simpa using Br3) Tryz.underlying87 rfl rfl) rfl ?_;exact⟨_,_,rfl,I2'.base (fun j e=>by have:=(I2.lt j e).1;omega),I3'.base (fun j e=>by have:=(I3.lt j e).1;omega),fun j e1 e2=>by have:=(I2.lt j e1).2;have:=(I3.lt j e2).1;omega,bwF⟩
end
section
attribute [local go_sem] Oper.semAt_some
theorem strong_ok (w:World)(c:Int):Calls Tryz.prog 170 #[.int .u8 c] w fun e w'=>e= .returned (.int .u8 (sdL c))∧w'=w:=by
 unfold sdL
 by_cases h4:c=4
 ·subst h4
  go_enter Tryz.func170,Tryz.ntmps170
  go_wp2;go_ret;exact⟨rfl,rfl⟩
 by_cases h7:c=7
 ·subst h7
  go_enter Tryz.func170,Tryz.ntmps170
  go_wp2;go_ret;exact⟨rfl,rfl⟩
 by_cases h3:c=3
 ·subst h3
  go_enter Tryz.func170,Tryz.ntmps170
  go_wp2;go_ret;exact⟨rfl,rfl⟩
 by_cases h2:c=2
 ·subst h2
  go_enter Tryz.func170,Tryz.ntmps170
  go_wp2;go_ret;exact⟨rfl,rfl⟩
 by_cases h1:c=1
 ·subst h1
  go_enter Tryz.func170,Tryz.ntmps170
  go_wp2;go_ret;exact⟨rfl,rfl⟩
 ·rw[if_neg (by omega),if_neg h1]
  have q4:(c==4)=false:=by simpa using h4
  have q7:(c==7)=false:=by simpa using h7
  have q3:(c==3)=false:=by simpa using h3
  have q2:(c==2)=false:=by simpa using h2
  have q1:(c==1)=false:=by simpa using h1
  go_enter Tryz.func170,Tryz.ntmps170
  go_wp2;go_ret;exact⟨rfl,rfl⟩
theorem RdR.pair {W:World}{B:Nat}{A:Option Addr}{D:List (Int×Int)}(h:RdR brC 2 W B A D){i:Nat}(hi:i<D.length): ∃b off,A=some ⟨b,off,none⟩∧b<B∧b<W.heap.size∧W.cell? ⟨b,off+i*2,none⟩=some (.int .i64 (D.getD i (0,0)).1)∧W.cell? ⟨b,off+i*2+1,none⟩=some (.int .i64 (D.getD i (0,0)).2):=by
 have hx:D[i]?=some (D.getD i (0,0)):=by rw[List.getD_eq_getElem?_getD,List.getElem?_eq_getElem hi];rfl
 obtain⟨b,off,rfl,h1,h2,h3⟩:=h.at_ encB hx (by omega);refine⟨b,off,rfl,h1,h2,?_,?_⟩
 ·have:=h3 0 _ rfl;rwa [Nat.add_zero]at this
 ·have:=h3 1 _ rfl;rwa [←Nat.add_assoc]at this
end
section
attribute [local go_sem] Oper.semAt_some
theorem wiS_mono {cs:List Int}{way:Int}{o k:Nat}(h:wiS cs way o k=true): ∀d,wiS cs way o (k+d)=true
 |0=>h
 |d+1=>by rw[←Nat.add_assoc,wiS,wiS_mono h d,Bool.true_or]
theorem ahT_at {cs:List Int}{so:Int}{k:Nat}:ahT cs so (k+1)=if sdL (cs.getD k 0)≠0 then sdL (cs.getD k 0)else ahT cs so k:=rfl
theorem becomes_ok {w:World}{B n c o d:Nat}{A:Option Addr}{cs:List Int}(way so:Int)(hn:n=cs.length)(h:RdInts w B .u8 A cs)(hod:o<d)(hd:d<n)(hm:n≤1048576):
 Calls Tryz.prog 138 #[.slice A n c,.agg #[.int .i64 o,.int .i64 d],.int .u8 way,.int .u8 so] w fun r w'=>r= .returned (.int .u8 (seC cs way so o d))∧Below w.heap.size w w':=by
 obtain⟨m,hm2⟩: ∃m,d-(o+1)=m:=⟨_,rfl⟩
 have hC:seC cs way so o d=if wiS cs way (o+1) (d-(o+1))then way else if wiA cs (o+1) (d-(o+1))then ahT cs so o else 0:=rfl
 rw[hm2]at hC;obtain⟨z,hz⟩: ∃z,seC cs way so o d=z:=⟨_,rfl⟩;rw[hz]at hC⊢;have HC:=Lib.hid hC;have HM:=Lib.hid hm2;have HN:=Lib.hid hn
 have hdm:o+1+m=d:=by omega
 have HDM:=Lib.hid hdm;clear hC hm2 hn hz hdm;obtain⟨W1,hW1⟩: ∃W1,w.alloc (.cells #[.int .i64 o,.int .i64 d] 129)=W1:=⟨_,rfl⟩
 have b1:Below w.heap.size w W1:=by rw[←hW1];exact(Below.refl _ w).alloc (Nat.le_refl _) _
 have X:Blk W1 w.heap.size 129 #[.int .i64 o,.int .i64 d]:=by rw[←hW1];exact Blk.new w 129 _
 have h1:=h.below b1 (.inr (Nat.le_refl _));have HW1:=Lib.hid hW1;clear hW1 h;obtain⟨x0,x1,xf,xl⟩:=X.c2
 have e1:IntKind.i64.wrap ((o:Int)+1)=((o+1:Nat):Int):=by rw[IntWalk.i64_in _ (by omega)];omega
 have e2:IntKind.i64.wrap ((o:Int)-1)=(o:Int)-1:=IntWalk.i64_in _ (by omega)
 go_enter Tryz.func138,Tryz.ntmps138
 go_upto_region 1 with(fail)
 rw[HW1.out];go_wp2
 go_loopg [9,10] m (fun gk ov iv wr=> ∃k:Nat,k+gk=m∧iv= .int .i64 ((o+1+k:Nat):Int)∧ov= .bool (wiA cs (o+1) k)∧wiS cs way (o+1) k=false∧wr=W1)
 case atStart=>exact⟨0,by omega,by first|rfl|go_num,rfl,rfl,rfl⟩
 case round=>
  obtain⟨k,hk,rfl,rfl,hs,rfl⟩:=hrel;have HK:=Lib.hid hk;have HS:=Lib.hid hs;clear hk hs;obtain⟨q,hq⟩: ∃q,o+1+k=q:=⟨_,rfl⟩
  have hqo:o+1≤q:=by omega
  rw[hq];have HQ:=Lib.hid hq;clear hq
  by_cases hlt:q<d
  ·obtain⟨b,off,rfl,a1,a2,c0⟩:=h1.at_ (i:=q) (by have:=HN.out;omega);obtain⟨x,hx⟩: ∃x,cs.getD q 0=x:=⟨_,rfl⟩;rw[hx]at c0;obtain⟨s,hs⟩: ∃s,sdL x=s:=⟨_,rfl⟩
   have CS: ∀W,Calls Tryz.prog 170 #[.int .u8 x] W fun e w'=>e= .returned (.int .u8 s)∧w'=W:=fun W=>by rw[←hs];exact strong_ok W x
   have hqn:q<n:=by omega
   have hstep:wiS cs way (o+1) (k+1)=(s==way):=by rw[wiS,HS.out,HQ.out,hx,hs,Bool.false_or]
   have hstepA:wiA cs (o+1) (k+1)=(wiA cs (o+1) k||(s !=0)):=by rw[wiA,HQ.out,hx,hs]
   have HST:=Lib.hid hstep;have HSA:=Lib.hid hstepA;clear hstep hstepA hx hs
   have e3:IntKind.i64.wrap ((q:Int)+1)=((q+1:Nat):Int):=by rw[IntWalk.i64_in _ (by omega)];omega
   by_cases hsw:s=way
   ·subst hsw
    have hzz:z=s:=by
     rw[HC.out,if_pos];have:=wiS_mono (d:=m-(k+1)) (show wiS cs s (o+1) (k+1)=true by rw[HST.out];simp)
     rwa [show k+1+(m-(k+1))=m from by have:=HQ.out;have:=HDM.out;omega]at this
    have hss:(s==s)=true:=by simp
    have HZ:=Lib.hid hzz;clear hzz
    go_wp2_with(go_at_call 170;refine(CS _).mono ?_;rintro r2 w2 ⟨rfl,rfl⟩)
    go_ret;exact⟨by rw[HZ.out];rfl,b1⟩
   ·have hss:(s==way)=false:=by simpa using hsw
    obtain⟨oa,hoa⟩: ∃oa,wiA cs (o+1) k=oa:=⟨_,rfl⟩;rw[hoa];have HOA:=Lib.hid hoa;clear hoa;cases oa
    ·go_wp2_with(go_at_call 170;refine(CS _).mono ?_;rintro r2 w2 ⟨rfl,rfl⟩)
     go_roundg (m-(k+1))
     case rel=>exact⟨k+1,by have:=HQ.out;have:=HDM.out;omega,by have:=HQ.out;subst this;go_num,by rw[HSA.out,HOA.out,Bool.false_or],by rw[HST.out];exact hss,rfl⟩
     case measure=>have:=HK.out;have:=HQ.out;have:=HDM.out;omega
    ·go_wp2_with(go_at_call 170;refine(CS _).mono ?_;rintro r2 w2 ⟨rfl,rfl⟩)
     go_roundg (m-(k+1))
     case rel=>exact⟨k+1,by have:=HQ.out;have:=HDM.out;omega,by have:=HQ.out;subst this;go_num,by rw[HSA.out,HOA.out,Bool.true_or],by rw[HST.out];exact hss,rfl⟩
     case measure=>have:=HK.out;have:=HQ.out;have:=HDM.out;omega
  ·have hkm:k=m:=by have:=HQ.out;have:=HDM.out;have:=HK.out;omega
   subst hkm
   have hqd:q=d:=by have:=HQ.out;have:=HDM.out;omega
   subst hqd;obtain⟨oa,hoa⟩: ∃oa,wiA cs (o+1) k=oa:=⟨_,rfl⟩;rw[hoa]
   have hz2:z=if oa=true then ahT cs so o else 0:=by rw[HC.out,HS.out,hoa];rfl
   clear hoa;cases oa
   ·have hz0:z=0:=hz2.trans (if_neg (by decide));subst hz0;clear hz2;go_wp2;exact bodyPost_ret (v:=.int .u8 0) (by simp[results,Tryz.results138,go_sem]) rfl ⟨rfl,b1⟩
   ·have HZ:=Lib.hid (hz2.trans (if_pos rfl));clear hz2;obtain⟨W0,rfl⟩: ∃W0,W0=wr:=⟨_,rfl⟩;go_wp2
    go_loopg [12] o (fun gk iv wr=> ∃(j:Nat) (t:Int),j=gk∧j≤o∧t=(j:Int)-1∧iv= .int .i64 t∧ahT cs so o=ahT cs so j∧wr=W0)
    case atStart=>exact⟨o,(o:Int)-1,rfl,Nat.le_refl _,rfl,rfl,rfl,rfl⟩
    case round=>
     obtain⟨j,t,rfl,hjo,ht,rfl,ha,rfl⟩:=hrel;have HA:=Lib.hid ha;clear ha e1 e2
     rcases j with _|j
     ·have ht2:t= -1:=by omega
      subst ht2;clear ht
      have hd0:decide ((0:Int)≤ -1)=false:=by decide
      go_wp2;go_ret;exact⟨by rw[HZ.out,HA.out];rfl,b1⟩
     ·have ht2:t=(j:Int):=by omega
      subst ht2;clear ht;obtain⟨b,off,rfl,a1,a2,c0⟩:=h1.at_ (i:=j) (by have:=HN.out;omega);obtain⟨x,hx⟩: ∃x,cs.getD j 0=x:=⟨_,rfl⟩;rw[hx]at c0;obtain⟨s,hs⟩: ∃s,sdL x=s:=⟨_,rfl⟩
      have CS: ∀W,Calls Tryz.prog 170 #[.int .u8 x] W fun e w'=>e= .returned (.int .u8 s)∧w'=W:=fun W=>by rw[←hs];exact strong_ok W x
      have hjn:j<n:=by omega
      have hst:ahT cs so (j+1)=if s≠0 then s else ahT cs so j:=by rw[ahT_at,hx,hs]
      have HST:=Lib.hid hst;clear hst hx hs;have e4:IntKind.i64.wrap ((j:Int)-1)=(j:Int)-1:=IntWalk.i64_in _ (by omega)
      have hge:decide ((0:Int)≤(j:Int))=true:=by simp
      by_cases hs0:s=0
      ·have hs1:(s !=0)=false:=by simpa using hs0
       go_wp2_with(go_at_call 170;refine(CS _).mono ?_;rintro r2 w2 ⟨rfl,rfl⟩)
       go_roundg j
       case rel=>exact⟨j,_,rfl,by omega,rfl,rfl,by rw[HA.out,HST.out,if_neg (by simpa using hs0)],rfl⟩
       case measure=>omega
      ·have hs1:(s !=0)=true:=by simpa using hs0
       go_wp2_with(go_at_call 170;refine(CS _).mono ?_;rintro r2 w2 ⟨rfl,rfl⟩)
       go_ret;exact⟨by rw[HZ.out,HA.out,HST.out,if_pos hs0];rfl,b1⟩
end
end Go.Proofs.YtllolnkkepacjaaGreat
