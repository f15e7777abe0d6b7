/- The reference's rules N1 and N2 walked. -/
import Derived.Test.YtllolnkkepacjaaGreatRs4
import Derived.Test.YtllolnkkepacjaaGreatSp3
import Derived.Deep.CutBlock
set_option maxRecDepth 100000
set_option maxHeartbeats 4000000
namespace Go.Proofs.YtllolnkkepacjaaGreat
open Go.RowKit
attribute [local go_sem] Oper.semAt_some
theorem st_back {lv eo so:Int}{cs:List Int}{k:Nat}(hk:k<cs.length):stW (g8 lv eo) so cs (k+1)=if neuC (cs.getD k 0)=true then stW (g8 lv eo) so cs k else wyC (cs.getD k 0):=by
 rw[stW_succ so cs k hk]
 by_cases h:neuC (cs.getD k 0)=true
 ·rw[if_pos h,g8_neu h]
 ·rw[if_neg h,g8_not (by simpa using h)]
theorem nx_next {eo:Int}{cs:List Int}{k:Nat}(hk:k<cs.length):nxN eo (cs.drop k)=if neuC (cs.getD k 0)=true then nxN eo (cs.drop (k+1))else wyC (cs.getD k 0):=by rw[drop_cons hk];rfl
theorem rRest_ok {w:World}{B2 m d:Nat}{pv:Value}{C:Option Addr}{cs:List Int}{lv so eo:Int}(hm:m=cs.length)(h2:RdInts w B2 .u8 C cs)(hl2:m≤1048576)(hm0:0<m)(hpv: ∃A n c,pv= .slice A n c):
 Calls Tryz.prog 88 #[.agg #[pv,.slice C m d,.int .i8 lv,.int .u8 so,.int .u8 eo]] w fun r w'=> ∃v,r= .returned v∧Ints w' w.heap.size 22 .u8 v (restL lv so eo cs)∧Below w.heap.size w w':=by
 obtain⟨pA,pn,pc,rfl⟩:=hpv;have h2c:=h2.clip1;obtain⟨cb,co,rfl,hcb⟩:=h2c.cells (by omega)
 have hcell: ∀(W:World),Below w.heap.size w W→ ∀k,k<m→W.cell? ⟨cb,co+k,none⟩=some (.int .u8 (cs.getD k 0)):=fun W hW k hk=>by have hx:=(hcb.2.2 k (by omega));rw[hW.cell (p:=⟨cb,co+k,none⟩) hcb.2.1];exact hx
 have HC:=Lib.hid hcell;have HM:=Lib.hid hm;clear hm hcell;obtain⟨W1,hW1⟩: ∃W1,w.alloc (.cells #[.slice pA pn pc,.slice (some ⟨cb,co,none⟩) m d,.int .i8 lv,.int .u8 so,.int .u8 eo] 87)=W1:=⟨_,rfl⟩
 have X0:Blk W1 w.heap.size 87 #[.slice pA pn pc,.slice (some ⟨cb,co,none⟩) m d,.int .i8 lv,.int .u8 so,.int .u8 eo]:=by rw[←hW1];exact Blk.new w 87 _
 have a1:Below w.heap.size w W1:=by rw[←hW1];exact(Below.refl _ w).alloc (Nat.le_refl _) _
 have R1:RdInts W1 w.heap.size .u8 (some ⟨cb,co,none⟩) cs:=h2c.below a1 (.inl (Nat.le_refl _))
 have hz1:w.heap.size+1≤W1.heap.size:=by rw[←hW1];simp
 go_enter Tryz.func88,Tryz.ntmps88
 go_upto_region 1 with(fail)
 clear hW1;obtain⟨x0,x1,x2,x3,x4,xf,xl⟩:=X0.c5
 go_upto_region 3 with(at_builtin;go_must (refine wpList_appIs (base:=w.heap.size+1) (v:=.slice none 0 0) ei22 rfl rfl rfl (Ints.nil _ _ _ _) HM.out rfl R1 (by have:=HM.out;simp;unfold maxLen;omega) (by have:=HM.out;simp;omega) hz1 ?_);intro v2 w2 I2 g2 hv2)
 have a2:Below w.heap.size w w2:=a1.grown g2 (by omega) (by simp[Value.ownBlock]);have X2:=X0.grown g2 (by simp[Value.ownBlock]);rw[List.nil_append]at I2;obtain⟨g,cap,rfl⟩:=I2.form (by have:=HM.out;omega);rw[←HM.out]at I2⊢;clear x0 x1 x2 x3 x4 xf xl X0 a1 R1 g2 hv2 hz1 h2 h2c hcb;have hg1:w.heap.size+1≤g:=(I2.lt g rfl).1;go_wp2
 go_loopg [4] m (fun gk iv wr=> ∃i:Nat,i+gk=m∧iv= .int .i64 i∧Ints wr (w.heap.size+1) 22 .u8 (.slice (some ⟨g,0,none⟩) m cap) (curW (g8 lv eo) so cs i)∧Blk wr w.heap.size 87 #[.slice pA pn pc,.slice (some ⟨cb,co,none⟩) m d,.int .i8 lv,.int .u8 so,.int .u8 eo]∧Below w.heap.size w wr)
 case atStart=>exact⟨0,by omega,rfl,by rw[curW_zero];exact I2,X2,a2⟩
 case round=>
  clear I2 X2 a2;obtain⟨i,hi,rfl,I,X,b⟩:=hrel;have HI:=Lib.hid hi;clear hi;obtain⟨x0,x1,x2,x3,x4,xf,xl⟩:=X.c5
  by_cases him:i<m
  ·have hil:i<cs.length:=by have:=HM.out;omega
   have ci:=HC.out wr b i him;obtain⟨W0,hW0⟩: ∃W0,W0=wr:=⟨_,rfl⟩;subst hW0
   rcases hneu:neuC (cs.getD i 0)with _|_
   ·have hsame:=curW_same (g:=g8 lv eo) so cs hil (by rw[g8_not hneu])
    have hcn: ∀W:World,Calls Tryz.prog 139 #[.int .u8 (cs.getD i 0)] W fun r w'=>r= .returned (.bool false)∧W=w':=fun W=>by have:=rneutral_ok W (cs.getD i 0);rwa [hneu]at this
    generalize cs.getD i 0=x at*;have HS:=Lib.hid hsame;have HII:=Lib.hid I;clear hneu hsame I
    go_wp2_with(go_at_call 139;refine(hcn _).mono ?_;rintro r1 w1 ⟨rfl,rfl⟩)
    go_roundg (m-(i+1))
    case rel=>exact⟨i+1,by have:=HI.out;omega,by go_num,by rw[←HS.out];exact HII.out,X,b⟩
    case measure=>have:=HI.out;omega
   ·have hset:=curW_set (g:=g8 lv eo) so cs hil;rw[g8_neu hneu]at hset
    have hcn: ∀W:World,Calls Tryz.prog 139 #[.int .u8 (cs.getD i 0)] W fun r w'=>r= .returned (.bool true)∧W=w':=fun W=>by have:=rneutral_ok W (cs.getD i 0);rwa [hneu]at this
    have hst:=fun(k:Nat) (hk:k<cs.length)=>st_back (lv:=lv) (eo:=eo) (so:=so) (cs:=cs) hk;have hnx:=fun(k:Nat) (hk:k<cs.length)=>nx_next (eo:=eo) (cs:=cs) hk;obtain⟨S,hS⟩: ∃S,stW (g8 lv eo) so cs i=S:=⟨_,rfl⟩;obtain⟨N,hN⟩: ∃N,nxN eo (cs.drop (i+1))=N:=⟨_,rfl⟩;rw[hS,hN]at hset;have HSET:=Lib.hid hset;have HST:=Lib.hid hst;have HNX:=Lib.hid hnx;have HS:=Lib.hid hS;have HN:=Lib.hid hN;have HII:=Lib.hid I;have hcw:=curW_len (g:=g8 lv eo) so cs i;obtain⟨-,i1,i2,_,i4,i5,i6⟩:=I.at_;have i6:=i6 i (by rw[hcw];exact hil)
    have hcapm:m≤cap:=by rw[hcw]at i1;have:=HM.out;omega
    generalize (curW (g8 lv eo) so cs i).getD i 0=y at*;obtain⟨x,hx⟩: ∃x,cs.getD i 0=x:=⟨_,rfl⟩;rw[hx]at ci hcn;clear hneu hset hst hnx hS hN I hcw i1 hx
    go_upto_region 7 with(go_at_call 139;refine(hcn _).mono ?_;rintro r1 w1 ⟨rfl,rfl⟩)
    clear hcn ci
    go_quiet (fail)
    have bq: ∀k,k<m→(W0.drewN nq).cell? ⟨cb,co+k,none⟩=some (.int .u8 (cs.getD k 0)):=fun k hk=>HC.out W0 b k hk
    go_upto_block 2 with(fail)
    go_cut [5] from 32 to 48 (fun av wx=>av= .int .u8 S∧wx=W0.drewN nq)
    case first=>
     have HBQ:=Lib.hid bq;clear bq
     go_wp2_with(fail)
     go_loopg [5,7] (i+1) (fun gk av iv wr=> ∃(k:Nat) (z:Int),k<gk∧k≤i∧z≤(k:Int)-1∧(k:Int)-1≤z∧av= .int .u8 so∧iv= .int .i64 z∧stW (g8 lv eo) so cs k=S∧wr=W0.drewN nq)
     case atStart=>exact⟨i,_,by omega,by omega,by omega,by omega,rfl,rfl,HS.out,rfl⟩
     case round=>
      obtain⟨k,z,hgk,hki,hz1,hz2,rfl,rfl,hk,hw⟩:=hrel;subst hw;have HK:=Lib.hid hk;clear hk
      rcases Nat.eq_zero_or_pos k with hk0|hk0
      ·have hfin:so=S:=by
        rw[←HK.out,hk0]
        rcases cs with _|_<;>rfl
       have HF:=Lib.hid hfin
       have hzl:z<0:=by omega
       have hzb:decide (0≤z)=false:=decide_eq_false (by omega);clear hfin hk0 hz1 hz2;go_wp2;go_meet;exact⟨by rw[HF.out],rfl⟩
      ·obtain⟨j,hj⟩: ∃j,k=j+1:=⟨k-1,by omega⟩
       obtain rfl:z=(j:Int):=by omega
       have hjk:j<k:=by omega
       have hkj:k≤j+1:=by omega
       have hjm:j<m:=by omega
       have hstep:=HST.out j (by have:=HM.out;omega);rw[←hj,HK.out]at hstep;have cj:=HBQ.out j hjm;have hcn:=fun W:World=>rneutral_ok W (cs.getD j 0);have hcw:=fun W:World=>rway_ok W (cs.getD j 0);obtain⟨x,hx⟩: ∃x,cs.getD j 0=x:=⟨_,rfl⟩;rw[hx]at cj hcn hcw hstep;have HSTEP:=Lib.hid hstep;clear hstep hx hj hz1 hz2
       rcases hneu:neuC x with _|_
       ·rw[hneu]at hcn
        have hfin:wyC x=S:=by rw[HSTEP.out,if_neg (by rw[hneu];decide)]
        rw[hfin]at hcw;have HF:=Lib.hid hfin;clear hneu hfin
        go_wp2_with(first|(go_at_call 139;refine(hcn _).mono ?_;rintro r1 w1 ⟨rfl,rfl⟩)|(go_at_call 140;refine(hcw _).mono ?_;rintro r1 w1 ⟨rfl,rfl⟩))
        go_meet;exact⟨rfl,rfl⟩
       ·rw[hneu]at hcn
        have hfin:stW (g8 lv eo) so cs j=S:=by rw[HSTEP.out,if_pos hneu]
        have HF:=Lib.hid hfin;clear hneu hfin
        go_wp2_with(go_at_call 139;refine(hcn _).mono ?_;rintro r1 w1 ⟨rfl,rfl⟩)
        go_roundg (j+1)
        case rel=>exact⟨j,_,by omega,by omega,by omega,by omega,rfl,rfl,HF.out,rfl⟩
        case measure=>omega
    case rest=>
     obtain⟨rfl,hw⟩:=hcut;subst hw
     go_upto_block 4 with(fail)
     go_cut [6] from 51 to 69 (fun av wx=>av= .int .u8 N∧wx=W0.drewN nq)
     case first=>
      have HBQ:=Lib.hid bq;clear bq
      go_wp2_with(fail)
      go_loopg [6,8] m (fun gk av iv wr=> ∃k:Nat,k+gk=m+i+1∧i<k∧k≤m∧av= .int .u8 eo∧iv= .int .i64 k∧nxN eo (cs.drop k)=N∧wr=W0.drewN nq)
      case atStart=>exact⟨i+1,by omega,by omega,by omega,rfl,by go_num,HN.out,rfl⟩
      case round=>
       obtain⟨k,hk,hik,hkm,rfl,rfl,hkN,hw⟩:=hrel;subst hw;have HK:=Lib.hid hk;have HKN:=Lib.hid hkN;clear hk hkN
       by_cases hlt:k<m
       ·have hstep:=HNX.out k (by have:=HM.out;omega);rw[HKN.out]at hstep;have ck:=HBQ.out k hlt;have hcn:=fun W:World=>rneutral_ok W (cs.getD k 0);have hcw:=fun W:World=>rway_ok W (cs.getD k 0);obtain⟨x,hx⟩: ∃x,cs.getD k 0=x:=⟨_,rfl⟩;rw[hx]at ck hcn hcw hstep;have HSTEP:=Lib.hid hstep;clear hstep hx
        rcases hneu:neuC x with _|_
        ·rw[hneu]at hcn
         have hfin:wyC x=N:=by rw[HSTEP.out,if_neg (by rw[hneu];decide)]
         rw[hfin]at hcw;clear hneu hfin
         go_wp2_with(first|(go_at_call 139;refine(hcn _).mono ?_;rintro r1 w1 ⟨rfl,rfl⟩)|(go_at_call 140;refine(hcw _).mono ?_;rintro r1 w1 ⟨rfl,rfl⟩))
         go_meet;exact⟨rfl,rfl⟩
        ·rw[hneu]at hcn
         have hfin:nxN eo (cs.drop (k+1))=N:=by rw[HSTEP.out,if_pos hneu]
         have HF:=Lib.hid hfin;clear hneu hfin
         go_wp2_with(go_at_call 139;refine(hcn _).mono ?_;rintro r1 w1 ⟨rfl,rfl⟩)
         go_roundg (m+i+1-(k+1))
         case rel=>exact⟨k+1,by have:=HK.out;omega,by omega,by omega,rfl,by go_num,HF.out,rfl⟩
         case measure=>have:=HK.out;omega
       ·have hkm2:k=m:=by omega
        have hfin:eo=N:=by rw[←HKN.out,List.drop_eq_nil_of_le (by have:=HM.out;omega)];rfl
        have HF:=Lib.hid hfin;clear hfin hlt hkm;subst hkm2;go_wp2;go_meet;exact⟨by rw[HF.out],rfl⟩
     case rest=>
      obtain⟨rfl,hw⟩:=hcut;subst hw;have hWy:=fun W:World=>rWay_ok W lv;have bd:Below w.heap.size w (W0.drewN nq):=⟨b.os,b.tape,b.output,b.size,b.block⟩;have Id:Ints (W0.drewN nq) (w.heap.size+1) 22 .u8 (.slice (some ⟨g,0,none⟩) m cap) (curW (g8 lv eo) so cs i):=HII.out;have HID:=Lib.hid Id;clear Id bq
      by_cases hSN:S=N
      ·have e1:(S==N)=true:=beq_iff_eq.2 hSN;have hv:=HSET.out;rw[if_pos hSN.symm]at hv;have HV:=Lib.hid hv;clear hv hSN;go_wp2
       go_roundg (m-(i+1))
       case rel=>exact⟨i+1,by have:=HI.out;omega,by go_num,by rw[←HV.out];exact HID.out.set i S,(X.drewN nq).far (p:=⟨g,i,none⟩) (by show w.heap.size≠g;omega) _,bd.setCell (p:=⟨g,i,none⟩) (by show w.heap.size≤g;omega) _⟩
       case measure=>have:=HI.out;omega
      ·have e1:(S==N)=false:=beq_eq_false_iff_ne.2 hSN;have hv:=HSET.out;rw[if_neg (fun e=>hSN e.symm)]at hv;have HV:=Lib.hid hv;clear hv hSN
       go_wp2_with(go_at_call 132;refine(hWy _).mono ?_;rintro r1 w1 ⟨rfl,rfl⟩)
       go_roundg (m-(i+1))
       case rel=>exact⟨i+1,by have:=HI.out;omega,by go_num,by rw[←HV.out];exact HID.out.set i (wayL lv),(X.drewN nq).far (p:=⟨g,i,none⟩) (by show w.heap.size≠g;omega) _,bd.setCell (p:=⟨g,i,none⟩) (by show w.heap.size≤g;omega) _⟩
       case measure=>have:=HI.out;omega
  ·have him2:i=m:=by have:=HI.out;omega
   have hfin:curW (g8 lv eo) so cs i=restL lv so eo cs:=curW_end so cs (by have:=HM.out;omega);rw[hfin]at I;have HII:=Lib.hid I;clear hfin I;subst him2;go_wp2;go_ret;exact⟨_,rfl,HII.out.base (fun j e=>by have:=(HII.out.lt j e).1;omega),b⟩
end Go.Proofs.YtllolnkkepacjaaGreat
