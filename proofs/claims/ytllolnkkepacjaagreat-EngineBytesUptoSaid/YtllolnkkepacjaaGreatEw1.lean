/- The classes of a text, by both. Whether classes are a paragraph's, by both; the engine's small functions. -/
import Derived.Test.YtllolnkkepacjaaGreatR12
import Derived.Test.YtllolnkkepacjaaGreatT4
import Derived.Test.YtllolnkkepacjaaGreatH6
import Derived.Test.YtllolnkkepacjaaGreatP1
import Derived.Test.YtllolnkkepacjaaGreatLv1
set_option maxRecDepth 100000
set_option maxHeartbeats 4000000
namespace Go.Proofs.YtllolnkkepacjaaGreat
open Go.RowKit
section
attribute [local go_sem] Oper.semAt_some
theorem pknown_ok (w:World)(c:Int):Calls Tryz.prog 66 #[.int .u8 c] w fun r w'=>r= .returned (.int .u8 (clsC c))∧w'=w:=by
 go_enter Tryz.func66,Tryz.ntmps66
 go_wp2
 all_goals (go_ret;refine⟨congrArg (fun z=>Ending.returned (Value.int .u8 z)) ?_,rfl⟩;unfold clsC;(repeat' split)<;>omega)
theorem asked_ok (w:World)(c:Int):Calls Tryz.prog 67 #[.int .i32 c] w fun r w'=>r= .returned (.int .i32 (runC c))∧w'=w:=by
 go_enter Tryz.func67,Tryz.ntmps67
 go_wp2
 all_goals (go_ret;refine⟨congrArg (fun z=>Ending.returned (Value.int .i32 z)) ?_,rfl⟩;unfold runC;(repeat' split)<;>omega)
@[go_sem] theorem meth_class (w:World) (pv:Value):(method 389 25 pv "Class").run Tryz.prog w= .ok (51,pv) w:=by kernel_rfl
@[go_sem] theorem nil_class (w:World) (pv:Value):(nilAhead 389 25 pv "Class").run Tryz.prog w= .ok (some false) w:=by kernel_rfl
def clsL (rest:Int)(ch:List Chr)(rs:List Int):List Int:=rs.map fun r=>clsC (cpL rest ch (runC r))
theorem clsL_take {rest:Int}{ch:List Chr}{rs:List Int}{k:Nat}(h:k<rs.length):clsL rest ch (rs.take (k+1))=clsL rest ch (rs.take k)++[clsC (cpL rest ch (runC (rs.getD k 0)))]:=by unfold clsL;rw[List.take_succ_eq_append_getElem h,List.map_append,List.getD_eq_getElem?_getD,List.getElem?_eq_getElem h];rfl
theorem Classes_ok {w:World}{B B2 n c2:Nat}{pv:Value}{rest:Int}{ch:List Chr}{A:Option Addr}{rs:List Int}(hP:PropsIs w B pv rest ch)(hR:RdInts w B2 .i32 A rs)(hn:n=rs.length)(hl:n≤1099511627776):
 Calls Tryz.prog 41 #[.iface 25 pv,.slice A n c2] w fun e w'=> ∃v,e= .returned (.tuple #[v,.int .i64 0])∧Ints w' w.heap.size 22 .u8 v (clsL rest ch rs)∧Aft w w':=by
 replace hP:=hP.clip;replace hR:RdInts w w.heap.size .i32 A rs:=Reads.clip hR;have CT: ∀W r,Aft w W→Calls Tryz.prog 51 #[pv,.int .i32 r] W fun e w'=>e= .returned (.int .u8 (cpL rest ch r))∧Below W.heap.size W w':=fun W r hb=>class_ok r (hP.below hb (.inl (Nat.le_refl _)));have HN:=Lib.hid hn;clear hn hP
 go_enter Tryz.func41,Tryz.ntmps41
 go_wp2
 go_loopg [6,13] n (fun gk lv iv wr=> ∃k:Nat,k+gk=n∧iv= .int .i64 k∧Ints wr w.heap.size 22 .u8 lv (clsL rest ch (rs.take k))∧Aft w wr)
 case atStart=>exact⟨0,by omega,rfl,Ints.nil _ _ _ _,Aft.refl _⟩
 case round=>
  obtain⟨k,hk,rfl,I,b1⟩:=hrel
  by_cases hkn:k<n
  ·have hkl:k<rs.length:=by have:=HN.out;omega
   have hRr:=hR.below b1 (.inl (Nat.le_refl _));obtain⟨b,off,rfl,hb1,hb2,c0⟩:=hRr.at_ (i:=k) hkl;have hcl:=clsL_take (rest:=rest) (ch:=ch) hkl;obtain⟨r,hr⟩: ∃r,rs.getD k 0=r:=⟨_,rfl⟩;rw[hr]at c0 hcl;have CA:=fun W=>asked_ok W r;have CR: ∀W,Aft w W→Calls Tryz.prog 51 #[pv,.int .i32 (runC r)] W fun e w'=>e= .returned (.int .u8 (cpL rest ch (runC r)))∧Below W.heap.size W w':=fun W hb=>CT W _ hb;generalize runC r=r2 at*;generalize cpL rest ch r2=cp at*;have CK:=fun W=>pknown_ok W cp;generalize clsC cp=cc at*
   have hlen:(clsL rest ch (rs.take k)).length=k:=by unfold clsL;simp;omega
   have HCL:=Lib.hid hcl;have HK:=Lib.hid hk;have HLEN:=Lib.hid hlen;clear hcl hr hk hlen hRr;have b1d:Aft w wr.drew:=b1.drew;have hws:=b1.size
   go_upto_region 7 with(fail)
   go_region_law (first
    |(go_simp;go_at_call 67;refine(CA _).mono ?_;rintro r5 w5 ⟨rfl,rfl⟩)
    |(go_simp;go_at_call 51;refine(CR _ b1.drew).mono ?_;rintro r6 w6 ⟨rfl,b6⟩;have I6:Ints w6 w.heap.size 22 .u8 u6 (clsL rest ch (rs.take k)):=(show Ints wr.drew _ _ _ _ _ from I).below b6 (Nat.le_refl _);have b7:=b1d.trans b6;have hw6:=b7.size;have hz6:=b6.size)
    |(go_simp;go_at_call 66;refine(CK _).mono ?_;rintro r7 w7 ⟨rfl,rfl⟩)
    |(refine step_appI (v:=u6) ei22 rfl (.tmp 17) (.tmp 26) rfl rfl (I6.alloc _) rfl (Blk.new _ _ _) (by rw[HLEN.out];unfold maxLen;omega) (by rw[HLEN.out];omega) (by rw[World.size_alloc];omega) ?_
      intro g2 cap2 w8 I8 g8 hg8
      rw[HLEN.out]at I8⊢))
   all_goals
    have a8:Aft w w8:=(b7.alloc _).grown g8 (fun j e=>by have:=(I6.lt j e).1;omega);go_wp2
    go_roundg (n-(k+1))
    case rel=>exact⟨k+1,by have:=HK.out;omega,by go_num,by rw[HCL.out];exact I8,a8⟩
    case measure=>have:=HK.out;omega
  ·have hke:k=n:=by omega
   subst hke;rw[List.take_of_length_le (by have:=HN.out;omega)]at I;go_wp2
   go_ret2
   exact⟨_,rfl,I,b1⟩
theorem rClasses_ok {w:World}{B B2 n c2:Nat}{pv:Value}{rest:Int}{ch:List Chr}{A:Option Addr}{rs:List Int}(hP:PropsIs w B pv rest ch)(hR:RdInts w B2 .i32 A rs)(hn:n=rs.length)(hl:n≤1099511627776):
 Calls Tryz.prog 37 #[pv,.slice A n c2] w fun e w'=> ∃v,e= .returned v∧Ints w' w.heap.size 22 .u8 v (clsL rest ch rs)∧Aft w w':=by
 replace hP:=hP.clip;replace hR:RdInts w w.heap.size .i32 A rs:=Reads.clip hR;have CT: ∀W r,Aft w W→Calls Tryz.prog 51 #[pv,.int .i32 r] W fun e w'=>e= .returned (.int .u8 (cpL rest ch r))∧Below W.heap.size W w':=fun W r hb=>class_ok r (hP.below hb (.inl (Nat.le_refl _)));obtain⟨pA,pc,rfl,-,-⟩:=hP;obtain⟨pn,hpn⟩: ∃pn,ch.length=pn:=⟨_,rfl⟩;rw[hpn]at CT⊢;have HN:=Lib.hid hn;clear hn hpn;obtain⟨W1,hW1⟩: ∃W1,w.alloc (.cells #[.int .u8 rest,.slice pA pn pc] 25)=W1:=⟨_,rfl⟩
 have bW:Aft w W1:=by rw[←hW1];exact(Aft.refl w).alloc _
 have X:Blk W1 w.heap.size 25 #[.int .u8 rest,.slice pA pn pc]:=by rw[←hW1];exact Blk.new w 25 _
 go_enter Tryz.func37,Tryz.ntmps37
 go_upto_region 1 with(fail)
 clear hW1;have hwW:=bW.size;go_wp2
 go_loopg [5,6] n (fun gk lv iv wr=> ∃k:Nat,k+gk=n∧iv= .int .i64 k∧Ints wr W1.heap.size 22 .u8 lv (clsL rest ch (rs.take k))∧Aft W1 wr)
 case atStart=>exact⟨0,by omega,rfl,Ints.nil _ _ _ _,Aft.refl _⟩
 case round=>
  obtain⟨k,hk,rfl,I,b1⟩:=hrel
  by_cases hkn:k<n
  ·have hkl:k<rs.length:=by have:=HN.out;omega
   have hRr:=hR.below (bW.trans b1) (.inl (Nat.le_refl _));obtain⟨b,off,rfl,hb1,hb2,c0⟩:=hRr.at_ (i:=k) hkl;have hcl:=clsL_take (rest:=rest) (ch:=ch) hkl;obtain⟨r,hr⟩: ∃r,rs.getD k 0=r:=⟨_,rfl⟩;rw[hr]at c0 hcl;have CA:=fun W=>rRune_ok W r;have CR: ∀W,Aft w W→Calls Tryz.prog 51 #[.agg #[.int .u8 rest,.slice pA pn pc],.int .i32 (runC r)] W fun e w'=>e= .returned (.int .u8 (cpL rest ch (runC r)))∧Below W.heap.size W w':=fun W hb=>CT W _ hb;generalize runC r=r2 at*;generalize cpL rest ch r2=cp at*;have CK:=fun W=>rClass_ok W cp;generalize clsC cp=cc at*
   have hlen:(clsL rest ch (rs.take k)).length=k:=by unfold clsL;simp;omega
   have HCL:=Lib.hid hcl;have HK:=Lib.hid hk;have HLEN:=Lib.hid hlen;clear hcl hr hk hlen hRr;have bw:Aft w wr:=bW.trans b1;have b1d:Aft W1 wr.drew:=b1.drew;have hws:=b1.size;obtain⟨x0,x1,xf,xl⟩:=(X.below b1 X.lt).c2
   go_upto_region 5 with(fail)
   go_region_law (first
    |(go_simp;go_at_call 64;refine(CA _).mono ?_;rintro r5 w5 ⟨rfl,rfl⟩)
    |(go_simp;go_at_call 51;refine(CR _ bw.drew).mono ?_;rintro r6 w6 ⟨rfl,b6⟩;have I6:Ints w6 W1.heap.size 22 .u8 u5 (clsL rest ch (rs.take k)):=(show Ints wr.drew _ _ _ _ _ from I).below b6 (Nat.le_refl _);have b7:=b1d.trans b6;have hw6:=b7.size;have hz6:=b6.size;obtain⟨y0,y1,yf,yl⟩:=(X.below b7 X.lt).c2)
    |(go_simp;go_at_call 50;refine(CK _).mono ?_;rintro r7 w7 ⟨rfl,rfl⟩)
    |(refine step_appI (v:=u5) ei22 rfl (.tmp 13) (.tmp 22) rfl rfl (I6.alloc _) rfl (Blk.new _ _ _) (by rw[HLEN.out];unfold maxLen;omega) (by rw[HLEN.out];omega) (by rw[World.size_alloc];omega) ?_
      intro g2 cap2 w8 I8 g8 hg8
      rw[HLEN.out]at I8⊢))
   all_goals
    have a8:Aft W1 w8:=(b7.alloc _).grown g8 (fun j e=>by have:=(I6.lt j e).1;omega);go_wp2
    go_roundg (n-(k+1))
    case rel=>exact⟨k+1,by have:=HK.out;omega,by go_num,by rw[HCL.out];exact I8,a8⟩
    case measure=>have:=HK.out;omega
  ·have hke:k=n:=by omega
   subst hke;rw[List.take_of_length_le (by have:=HN.out;omega)]at I;go_wp2;go_ret;exact⟨_,rfl,I.base (fun j e=>by have:=(I.lt j e).1;omega),bW.trans b1⟩
end
section
attribute [local go_sem] Oper.semAt_some
def okB (cl rs:List Int)(i:Nat):Bool:=cl.getD i 0 !=11||decide (i+1=cl.length)||
 (decide (i+2=cl.length) && decide (0<rs.length) && rs.getD i 0==13 && rs.getD (i+1) 0==10 && cl.getD (i+1) 0==11)
def paraB (cl rs:List Int):Bool:=(List.range cl.length).all (okB cl rs)
theorem paraB_no {cl rs:List Int}{i:Nat}(hi:i<cl.length)(h:okB cl rs i=false):paraB cl rs=false:=by
 unfold paraB
 rcases e:(List.range cl.length).all (okB cl rs)with _|_
 ·rfl
 ·have:=List.all_eq_true.1 e i (List.mem_range.2 hi);rw[h]at this;cases this
theorem paraB_yes {cl rs:List Int}(h: ∀i,i<cl.length→okB cl rs i=true):paraB cl rs=true:=List.all_eq_true.2 fun i hi=>h i (List.mem_range.1 hi)
theorem emay_ok (w:World)(b:Int):Calls Tryz.prog 40 #[.int .i8 b] w fun r w'=>r= .returned (.bool (decide (b= -1∨b=0∨b=1)))∧w=w':=by
 by_cases h1:b= -1
 ·subst h1
  go_enter Tryz.func40,Tryz.ntmps40
  go_wp2;go_ret;exact⟨rfl,rfl⟩
 ·by_cases h2:b=0
  ·subst h2
   go_enter Tryz.func40,Tryz.ntmps40
   go_wp2;go_ret;exact⟨rfl,rfl⟩
  ·by_cases h3:b=1
   ·subst h3
    go_enter Tryz.func40,Tryz.ntmps40
    go_wp2;go_ret;exact⟨rfl,rfl⟩
   ·have e1:(b== -1)=false:=beq_eq_false_iff_ne.2 h1;have e2:(b==0)=false:=beq_eq_false_iff_ne.2 h2;have e3:(b==1)=false:=beq_eq_false_iff_ne.2 h3;have e:decide (b= -1∨b=0∨b=1)=false:=decide_eq_false (by omega);rw[e];clear e h1 h2 h3
    go_enter Tryz.func40,Tryz.ntmps40
    go_wp2;go_ret;exact⟨rfl,rfl⟩
theorem eknown_ok (w:World)(c:Int):Calls Tryz.prog 55 #[.int .u8 c] w fun r w'=>r= .returned (.int .u8 (clsC c))∧w=w':=by
 go_enter Tryz.func55,Tryz.ntmps55
 go_wp2
 all_goals (go_ret;refine⟨congrArg (fun z=>Ending.returned (Value.int .u8 z)) ?_,rfl⟩;unfold clsC;(repeat' split)<;>omega)
theorem whole_ok {w:World}{B B2 n c m c2:Nat}{A A2:Option Addr}{cl rs:List Int}(hn:n=cl.length)(hm:m=rs.length)(h:RdInts w B .u8 A cl)(h2:RdInts w B2 .i32 A2 rs)(hl:n≤1048576)(hmn:m=0∨m=n):
 Calls Tryz.prog 42 #[.slice A n c,.slice A2 m c2] w fun r w'=>r= .returned (.bool (paraB cl rs))∧w=w':=by
 have HN:=Lib.hid hn;have HM:=Lib.hid hm;have HMN:=Lib.hid hmn
 have hw1:(n:Int)-1≤1048575:=by omega
 obtain⟨P,hP⟩: ∃P,paraB cl rs=P:=⟨_,rfl⟩;rw[hP];have HP:=Lib.hid hP;clear hn hm hmn hP
 go_enter Tryz.func42,Tryz.ntmps42
 go_wp2
 go_loopg [13] n (fun gk iv wr=> ∃k:Nat,k+gk=n∧iv= .int .i64 k∧(∀j,j<k→okB cl rs j=true)∧wr=w)
 case atStart=>exact⟨0,by omega,rfl,fun j h=>by omega,rfl⟩
 case round=>
  obtain⟨k,hk,rfl,hok,hw⟩:=hrel;subst hw;have HK:=Lib.hid hk;have HO:=Lib.hid hok;clear hk hok
  by_cases hkn:k<n
  ·obtain⟨q,o,rfl,_,hq,hcells⟩:=h.cells (by have:=HN.out;omega);have ck:=hcells k (by have:=HN.out;omega);have HC:=Lib.hid hcells;clear hcells
   by_cases h11:cl.getD k 0=11
   ·rw[h11]at ck
    by_cases hlast:k+1=n
    ·have hok:okB cl rs k=true:=by unfold okB;rw[decide_eq_true (by have:=HN.out;omega)];simp
     have hlast2:(k:Int)=(n:Int)-1:=by omega
     have e1:((k:Int)==(n:Int)-1)=true:=beq_iff_eq.2 hlast2;have HOK:=Lib.hid hok;have HLT:=Lib.hid hlast;clear hok hlast2 h11 hlast;go_wp2
     go_roundg (n-(k+1))
     case rel=>exact⟨k+1,by have:=HK.out;omega,by go_num,fun j h=>(by
      by_cases e:j=k
      ·subst e;exact HOK.out
      ·exact HO.out j (by omega)),rfl⟩
     case measure=>have:=HK.out;omega
    ·have e1:((k:Int)==(n:Int)-1)=false:=beq_eq_false_iff_ne.2 (by omega);have HL:=Lib.hid hlast;have H11:=Lib.hid h11;clear hlast h11
     by_cases h2n:k+2=n
     ·have e2:((k:Int) !=(n:Int)-1-1)=false:=by simp;omega
      have hk1:k+1<n:=by omega
      have hki:((n:Int)-1).toNat=k+1:=by omega
      have hkj:(0:Int)≤(n:Int)-1:=by omega
      have hkl:(1:Int)≤(n:Int):=by omega
      have ck1:=HC.out (k+1) (by have:=HN.out;omega);have H2N:=Lib.hid h2n
      rcases HMN.out with hm0|hmn
      ·have hm1:m=0:=hm0;subst hm1;clear h2n hki
       have hfin:P=false:=by rw[←HP.out];exact paraB_no (i:=k) (by have:=HN.out;omega) (by unfold okB;rw[H11.out,decide_eq_false (show¬k+1=cl.length by have:=HN.out;have:=HL.out;omega),decide_eq_false (show¬0<rs.length by have:=HM.out;omega)];simp)
       have HFIN:=Lib.hid hfin;clear hfin;go_wp2;go_ret;rw[HFIN.out];exact⟨rfl,rfl⟩
      ·subst hmn;obtain⟨q2,o2,rfl,_,hq2,hrc⟩:=h2.cells (by have:=HM.out;omega);have r0:=hrc k (by have:=HM.out;omega);have r1:=hrc (k+1) (by have:=HM.out;omega);have hm0:((m:Int)==0)=false:=beq_eq_false_iff_ne.2 (by omega)
       have hokv:okB cl rs k=(rs.getD k 0==13 && rs.getD (k+1) 0==10 && cl.getD (k+1) 0==11):=by unfold okB;rw[H11.out,decide_eq_false (show¬k+1=cl.length by have:=HN.out;have:=HL.out;omega),decide_eq_true (show k+2=cl.length by have:=HN.out;omega),decide_eq_true (show 0<rs.length by have:=HM.out;omega)];simp
       obtain⟨x0,hx0⟩: ∃x,rs.getD k 0=x:=⟨_,rfl⟩;obtain⟨x1,hx1⟩: ∃x,rs.getD (k+1) 0=x:=⟨_,rfl⟩;obtain⟨x2,hx2⟩: ∃x,cl.getD (k+1) 0=x:=⟨_,rfl⟩;rw[hx0,hx1,hx2]at hokv;rw[hx0]at r0;rw[hx1]at r1;rw[hx2]at ck1;have HV:=Lib.hid hokv;clear hokv hx0 hx1 hx2 hrc h2n
       by_cases b0:x0=13
       ·subst b0
        by_cases b1:x1=10
        ·subst b1
         by_cases b2:x2=11
         ·subst b2
          have hok:okB cl rs k=true:=by rw[HV.out];rfl
          have HOK:=Lib.hid hok;clear hok;go_wp2
          go_roundg (m-(k+1))
          case rel=>exact⟨k+1,by have:=HK.out;omega,by go_num,fun j h=>(by
           by_cases e:j=k
           ·subst e;exact HOK.out
           ·exact HO.out j (by omega)),rfl⟩
          case measure=>have:=HK.out;omega
         ·have e5:(x2 !=11)=true:=bne_iff_ne.2 b2;have e6:(x2==11)=false:=beq_eq_false_iff_ne.2 b2;have HB:=Lib.hid e6;clear b2 e6
          have hfin:P=false:=by rw[←HP.out];exact paraB_no (i:=k) (by have:=HN.out;omega) (by rw[HV.out,HB.out];rfl)
          have HFIN:=Lib.hid hfin;clear hfin;go_wp2;go_ret;rw[HFIN.out];exact⟨rfl,rfl⟩
        ·have e5:(x1 !=10)=true:=bne_iff_ne.2 b1;have e6:(x1==10)=false:=beq_eq_false_iff_ne.2 b1;have HB:=Lib.hid e6;clear b1 e6
         have hfin:P=false:=by rw[←HP.out];exact paraB_no (i:=k) (by have:=HN.out;omega) (by rw[HV.out,HB.out];rfl)
         have HFIN:=Lib.hid hfin;clear hfin;go_wp2;go_ret;rw[HFIN.out];exact⟨rfl,rfl⟩
       ·have e5:(x0 !=13)=true:=bne_iff_ne.2 b0;have e6:(x0==13)=false:=beq_eq_false_iff_ne.2 b0;have HB:=Lib.hid e6;clear b0 e6
        have hfin:P=false:=by rw[←HP.out];exact paraB_no (i:=k) (by have:=HN.out;omega) (by rw[HV.out,HB.out];rfl)
        have HFIN:=Lib.hid hfin;clear hfin;go_wp2;go_ret;rw[HFIN.out];exact⟨rfl,rfl⟩
     ·have e2:((k:Int) !=(n:Int)-1-1)=true:=by simp;omega
      have H2N:=Lib.hid h2n;clear h2n
      have hfin:P=false:=by rw[←HP.out];exact paraB_no (i:=k) (by have:=HN.out;omega) (by unfold okB;rw[H11.out,decide_eq_false (show¬k+1=cl.length by have:=HN.out;have:=HL.out;omega),decide_eq_false (show¬k+2=cl.length by have:=HN.out;have:=H2N.out;omega)];rfl)
      have HFIN:=Lib.hid hfin;clear hfin;go_wp2;go_ret;rw[HFIN.out];exact⟨rfl,rfl⟩
   ·have hok:okB cl rs k=true:=by unfold okB;rw[bne_iff_ne.2 h11];rfl
    have e1:(cl.getD k 0 !=11)=true:=bne_iff_ne.2 h11;obtain⟨x,hx⟩: ∃x,cl.getD k 0=x:=⟨_,rfl⟩;rw[hx]at e1 ck;have HOK:=Lib.hid hok;clear hok hx h11;go_wp2
    go_roundg (n-(k+1))
    case rel=>exact⟨k+1,by have:=HK.out;omega,by go_num,fun j h=>(by
     by_cases e:j=k
     ·subst e;exact HOK.out
     ·exact HO.out j (by omega)),rfl⟩
    case measure=>have:=HK.out;omega
  ·have hkn2:k=n:=by have:=HK.out;omega
   have hfin:P=true:=by rw[←HP.out];exact paraB_yes (fun j hj=>HO.out j (by have:=HN.out;omega))
   have HFIN:=Lib.hid hfin;clear hfin HK hkn;subst hkn2;go_wp2;go_ret;rw[HFIN.out];exact⟨rfl,rfl⟩
theorem para_ok {w:World}{B B2 n c m c2:Nat}{A A2:Option Addr}{cl rs:List Int}(hn:n=cl.length)(hm:m=rs.length)(h:RdInts w B .u8 A cl)(h2:RdInts w B2 .i32 A2 rs)(hl:n≤1048576)(hmn:m=0∨m=n):
 Calls Tryz.prog 53 #[.slice A2 m c2,.slice A n c] w fun r w'=>r= .returned (.bool (paraB cl rs))∧w=w':=by
 have HN:=Lib.hid hn;have HM:=Lib.hid hm;have HMN:=Lib.hid hmn
 have hw1:(n:Int)-1≤1048575:=by omega
 obtain⟨P,hP⟩: ∃P,paraB cl rs=P:=⟨_,rfl⟩;rw[hP];have HP:=Lib.hid hP;clear hn hm hmn hP
 go_enter Tryz.func53,Tryz.ntmps53
 go_wp2
 go_loopg [5] n (fun gk iv wr=> ∃k:Nat,k+gk=n∧iv= .int .i64 k∧(∀j,j<k→okB cl rs j=true)∧wr=w)
 case atStart=>exact⟨0,by omega,rfl,fun j h=>by omega,rfl⟩
 case round=>
  obtain⟨k,hk,rfl,hok,hw⟩:=hrel;subst hw;have HK:=Lib.hid hk;have HO:=Lib.hid hok;clear hk hok
  by_cases hkn:k<n
  ·obtain⟨q,o,rfl,_,hq,hcells⟩:=h.cells (by have:=HN.out;omega);have ck:=hcells k (by have:=HN.out;omega);have HC:=Lib.hid hcells;clear hcells
   by_cases h11:cl.getD k 0=11
   ·rw[h11]at ck
    by_cases hlast:k+1=n
    ·have hok:okB cl rs k=true:=by unfold okB;rw[decide_eq_true (by have:=HN.out;omega)];simp
     have hlast2:(k:Int)=(n:Int)-1:=by omega
     have e1:((k:Int)==(n:Int)-1)=true:=beq_iff_eq.2 hlast2;have HOK:=Lib.hid hok;have HLT:=Lib.hid hlast;clear hok hlast2 h11 hlast;go_wp2
     go_roundg (n-(k+1))
     case rel=>exact⟨k+1,by have:=HK.out;omega,by go_num,fun j h=>(by
      by_cases e:j=k
      ·subst e;exact HOK.out
      ·exact HO.out j (by omega)),rfl⟩
     case measure=>have:=HK.out;omega
    ·have e1:((k:Int)==(n:Int)-1)=false:=beq_eq_false_iff_ne.2 (by omega);have HL:=Lib.hid hlast;have H11:=Lib.hid h11;clear hlast h11
     by_cases h2n:k+2=n
     ·have e2:((k:Int)==(n:Int)-2)=true:=beq_iff_eq.2 (by omega)
      have hk1:k+1<n:=by omega
      have hki:True:=trivial;have ck1:=HC.out (k+1) (by have:=HN.out;omega);have H2N:=Lib.hid h2n
      rcases HMN.out with hm0|hmn
      ·have hm1:m=0:=hm0;subst hm1;clear h2n hki
       have hfin:P=false:=by rw[←HP.out];exact paraB_no (i:=k) (by have:=HN.out;omega) (by unfold okB;rw[H11.out,decide_eq_false (show¬k+1=cl.length by have:=HN.out;have:=HL.out;omega),decide_eq_false (show¬0<rs.length by have:=HM.out;omega)];simp)
       have HFIN:=Lib.hid hfin;clear hfin;go_wp2;go_ret;rw[HFIN.out];exact⟨rfl,rfl⟩
      ·subst hmn;obtain⟨q2,o2,rfl,_,hq2,hrc⟩:=h2.cells (by have:=HM.out;omega);have r0:=hrc k (by have:=HM.out;omega);have r1:=hrc (k+1) (by have:=HM.out;omega);have hm0:decide (0<m)=true:=decide_eq_true (by omega)
       have hokv:okB cl rs k=(rs.getD k 0==13 && rs.getD (k+1) 0==10 && cl.getD (k+1) 0==11):=by unfold okB;rw[H11.out,decide_eq_false (show¬k+1=cl.length by have:=HN.out;have:=HL.out;omega),decide_eq_true (show k+2=cl.length by have:=HN.out;omega),decide_eq_true (show 0<rs.length by have:=HM.out;omega)];simp
       obtain⟨x0,hx0⟩: ∃x,rs.getD k 0=x:=⟨_,rfl⟩;obtain⟨x1,hx1⟩: ∃x,rs.getD (k+1) 0=x:=⟨_,rfl⟩;obtain⟨x2,hx2⟩: ∃x,cl.getD (k+1) 0=x:=⟨_,rfl⟩;rw[hx0,hx1,hx2]at hokv;rw[hx0]at r0;rw[hx1]at r1;rw[hx2]at ck1;have HV:=Lib.hid hokv;clear hokv hx0 hx1 hx2 hrc h2n
       by_cases b0:x0=13
       ·subst b0
        by_cases b1:x1=10
        ·subst b1
         by_cases b2:x2=11
         ·subst b2
          have hok:okB cl rs k=true:=by rw[HV.out];rfl
          have HOK:=Lib.hid hok;clear hok;go_wp2
          go_roundg (m-(k+1))
          case rel=>exact⟨k+1,by have:=HK.out;omega,by go_num,fun j h=>(by
           by_cases e:j=k
           ·subst e;exact HOK.out
           ·exact HO.out j (by omega)),rfl⟩
          case measure=>have:=HK.out;omega
         ·have e6:(x2==11)=false:=beq_eq_false_iff_ne.2 b2;have HB:=Lib.hid e6;clear b2
          have hfin:P=false:=by rw[←HP.out];exact paraB_no (i:=k) (by have:=HN.out;omega) (by rw[HV.out,HB.out];rfl)
          have HFIN:=Lib.hid hfin;clear hfin;go_wp2;go_ret;rw[HFIN.out];exact⟨rfl,rfl⟩
        ·have e6:(x1==10)=false:=beq_eq_false_iff_ne.2 b1;have HB:=Lib.hid e6;clear b1
         have hfin:P=false:=by rw[←HP.out];exact paraB_no (i:=k) (by have:=HN.out;omega) (by rw[HV.out,HB.out];rfl)
         have HFIN:=Lib.hid hfin;clear hfin;go_wp2;go_ret;rw[HFIN.out];exact⟨rfl,rfl⟩
       ·have e6:(x0==13)=false:=beq_eq_false_iff_ne.2 b0;have HB:=Lib.hid e6;clear b0
        have hfin:P=false:=by rw[←HP.out];exact paraB_no (i:=k) (by have:=HN.out;omega) (by rw[HV.out,HB.out];rfl)
        have HFIN:=Lib.hid hfin;clear hfin;go_wp2;go_ret;rw[HFIN.out];exact⟨rfl,rfl⟩
     ·have e2:((k:Int)==(n:Int)-2)=false:=beq_eq_false_iff_ne.2 (by omega);have H2N:=Lib.hid h2n;clear h2n
      have hfin:P=false:=by rw[←HP.out];exact paraB_no (i:=k) (by have:=HN.out;omega) (by unfold okB;rw[H11.out,decide_eq_false (show¬k+1=cl.length by have:=HN.out;have:=HL.out;omega),decide_eq_false (show¬k+2=cl.length by have:=HN.out;have:=H2N.out;omega)];rfl)
      have HFIN:=Lib.hid hfin;clear hfin;go_wp2;go_ret;rw[HFIN.out];exact⟨rfl,rfl⟩
   ·have hok:okB cl rs k=true:=by unfold okB;rw[bne_iff_ne.2 h11];rfl
    have e1:(cl.getD k 0 !=11)=true:=bne_iff_ne.2 h11;obtain⟨x,hx⟩: ∃x,cl.getD k 0=x:=⟨_,rfl⟩;rw[hx]at e1 ck;have HOK:=Lib.hid hok;clear hok hx h11;go_wp2
    go_roundg (n-(k+1))
    case rel=>exact⟨k+1,by have:=HK.out;omega,by go_num,fun j h=>(by
     by_cases e:j=k
     ·subst e;exact HOK.out
     ·exact HO.out j (by omega)),rfl⟩
    case measure=>have:=HK.out;omega
  ·have hkn2:k=n:=by have:=HK.out;omega
   have hfin:P=true:=by rw[←HP.out];exact paraB_yes (fun j hj=>HO.out j (by have:=HN.out;omega))
   have HFIN:=Lib.hid hfin;clear hfin HK hkn;subst hkn2;go_wp2;go_ret;rw[HFIN.out];exact⟨rfl,rfl⟩
end
end Go.Proofs.YtllolnkkepacjaaGreat
