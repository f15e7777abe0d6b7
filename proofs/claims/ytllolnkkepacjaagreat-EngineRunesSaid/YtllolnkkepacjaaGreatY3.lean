/- The reference's Check walked. The brackets of a sequence, by the reference. -/
import Derived.Test.YtllolnkkepacjaaGreatR12
import Derived.BigQuiet
import Derived.Deep.QuietTactic
set_option maxRecDepth 100000
set_option maxHeartbeats 4000000
namespace Go.Proofs.YtllolnkkepacjaaGreat
open Go.RowKit
section
attribute [local go_sem] Oper.semAt_some
theorem last_nn {pl:List Int}(i:Nat)(hi:0<i):lastAt pl i=pl.getD (i-1) 0:=by unfold lastAt;rw[if_neg (by omega)]
theorem cls_bad {c:Int}(h:c<1∨23<c):(clsC c !=c)=true:=by
 apply bne_iff_ne.2;unfold clsC
 rcases h with h|h
 ·rw[if_pos h];omega
 ·rw[if_neg (by omega),if_pos h];omega
theorem cls_good {c:Int}(h: ¬c<1)(h2: ¬23<c):(clsC c !=c)=false:=by unfold clsC;rw[if_neg h,if_neg h2];exact bne_self_eq_false c
theorem last_ge {s:Sq}: ∀i:Nat,(∀j,j<i→chkAt s j=false)→ -1≤lastAt s.pl i
 |0,_=>by simp[lastAt]
 |i+1,h=>by
  have h1:=last_ge i (fun j hj=>h j (by omega));have h2:=h i (by omega);rw[last_nn (i+1) (by omega)];unfold chkAt at h2;simp only[Bool.or_eq_false_iff,decide_eq_false_iff_not]at h2
  have e:i+1-1=i:=by omega
  rw[e];omega
theorem r19Check_ok {w:World}{B B2 n n2 c c2:Nat}{A A2:Option Addr}{s:Sq}(hn:n=s.pl.length)(hn2:n2=s.cs.length)(h:RdInts w B .i64 A s.pl)(h2:RdInts w B2 .u8 A2 s.cs)(hl:n≤9223372036854775807):
 Calls Tryz.prog 165 #[.agg (s.is (.slice A n c) (.slice A2 n2 c2))] w fun r w'=>r= .returned (.int .i64 (chkL s))∧Below w.heap.size w w':=by
 have HN:=Lib.hid hn;have HN2:=Lib.hid hn2;obtain⟨pl,cs,lv,so,eo⟩:=s;simp only[Sq.is]at*;obtain⟨bd,hbd⟩: ∃bd:Bool,decide (pl.length=0∨pl.length≠cs.length∨lv<0∨126<lv∨edgeI so=false∨edgeI eo=false)=bd:=⟨_,rfl⟩
 have hbs:bd=true→chkL ⟨pl,cs,lv,so,eo⟩=170:=fun h=>by unfold chkL;rw[if_pos (of_decide_eq_true (hbd.trans h))]
 have hok:bd=false→chkL ⟨pl,cs,lv,so,eo⟩=if(List.range n).any (chkAt ⟨pl,cs,lv,so,eo⟩)=true then 170 else 0:=fun h=>by unfold chkL;rw[if_neg (of_decide_eq_false (hbd.trans h)),←hn]
 have hlen:bd=false→n=n2:=fun h=>by have:=of_decide_eq_false (hbd.trans h);rw[not_or,not_or]at this;have:=Classical.not_not.1 this.2.1;omega
 have HBS:=Lib.hid hbs;have HOK:=Lib.hid hok;have HLEN:=Lib.hid hlen;have HBD:=Lib.hid hbd;have hal:=(Below.refl w.heap.size w).alloc (Nat.le_refl _) (.cells #[.slice A n c,.slice A2 n2 c2,.int .i8 lv,.int .u8 so,.int .u8 eo] 87);clear hbs hok hlen hbd hn hn2
 go_enter Tryz.func165,Tryz.ntmps165
 go_upto_region 1 with(fail)
 go_cut [48] from 6 to 48 (fun cv wx=>cv= .bool bd∧wx=w.alloc (.cells #[.slice A n c,.slice A2 n2 c2,.int .i8 lv,.int .u8 so,.int .u8 eo] 87))
 case first=>
  by_cases g1:n=0
  ·have hz:decide ((n:Int)<1)=true:=by simp;omega
   have hz3:(n:Int)<1:=by omega
   have hv:bd=true:=by rw[←HBD.out];exact decide_eq_true (.inl (by have:=HN.out;omega))
   clear HBD HBS HOK HLEN HN HN2
   try clear g1
   try clear g2
   try clear g5e
   try clear g6e
   try clear g7e
   try clear g8e
   subst hv;go_wp2;go_meet;exact⟨rfl,rfl⟩
  have hz:decide ((n:Int)<1)=false:=by simp;omega
  have hz3: ¬(n:Int)<1:=by omega
  by_cases g2:n=n2
  case neg=>
   have hg:((n:Int) !=(n2:Int))=true:=bne_iff_ne.2 (by omega)
   have hv:bd=true:=by rw[←HBD.out];exact decide_eq_true (.inr (.inl (by have:=HN.out;have:=HN2.out;omega)))
   clear HBD HBS HOK HLEN HN HN2
   try clear g1
   try clear g2
   try clear g5e
   try clear g6e
   try clear g7e
   try clear g8e
   subst hv;go_wp2;go_meet;exact⟨rfl,rfl⟩
  have hg:((n:Int) !=(n2:Int))=false:=by simp;omega
  by_cases g3:lv<0
  ·skip
   have hv:bd=true:=by rw[←HBD.out];exact decide_eq_true (.inr (.inr (.inl g3)))
   clear HBD HBS HOK HLEN HN HN2
   try clear g1
   try clear g2
   try clear g5e
   try clear g6e
   try clear g7e
   try clear g8e
   subst hv;go_wp2;go_meet;exact⟨rfl,rfl⟩
  have hg3:decide (lv<0)=false:=decide_eq_false g3
  by_cases g4:126<lv
  ·skip
   have hv:bd=true:=by rw[←HBD.out];exact decide_eq_true (.inr (.inr (.inr (.inl g4))))
   clear HBD HBS HOK HLEN HN HN2
   try clear g1
   try clear g2
   try clear g5e
   try clear g6e
   try clear g7e
   try clear g8e
   subst hv;go_wp2;go_meet;exact⟨rfl,rfl⟩
  have hg4:decide (126<lv)=false:=decide_eq_false g4
  rcases g5:(so !=1)with _|_
  ·have g5e:so=1:=by simpa using g5
   rcases g7:(eo !=1)with _|_
   ·have g7e:eo=1:=by simpa using g7
    have hv:bd=false:=by
     rw[←HBD.out];refine decide_eq_false ?_;rintro(h|h|h|h|h|h)
     ·have:=HN.out;omega
     ·have:=HN.out;have:=HN2.out;omega
     ·omega
     ·omega
     ·simp[edgeI,g5e]at h
     ·simp[edgeI,g7e]at h
    clear HBD HBS HOK HLEN HN HN2
    try clear g1
    try clear g2
    try clear g5e
    try clear g6e
    try clear g7e
    try clear g8e
    subst hv;go_wp2;go_meet;exact⟨rfl,rfl⟩
   rcases g8:(eo !=2)with _|_
   ·have g8e:eo=2:=by simpa using g8
    have hv:bd=false:=by
     rw[←HBD.out];refine decide_eq_false ?_;rintro(h|h|h|h|h|h)
     ·have:=HN.out;omega
     ·have:=HN.out;have:=HN2.out;omega
     ·omega
     ·omega
     ·simp[edgeI,g5e]at h
     ·simp[edgeI,g8e]at h
    clear HBD HBS HOK HLEN HN HN2
    try clear g1
    try clear g2
    try clear g5e
    try clear g6e
    try clear g7e
    try clear g8e
    subst hv;go_wp2;go_meet;exact⟨rfl,rfl⟩
   have hv:bd=true:=by rw[←HBD.out];exact decide_eq_true (.inr (.inr (.inr (.inr (.inr (by have h7:=bne_iff_ne.1 g7;have h8:=bne_iff_ne.1 g8;simp[edgeI,h7,h8]))))))
   clear HBD HBS HOK HLEN HN HN2
   try clear g1
   try clear g2
   try clear g5e
   try clear g6e
   try clear g7e
   try clear g8e
   subst hv;go_wp2;go_meet;exact⟨rfl,rfl⟩
  rcases g6:(so !=2)with _|_
  ·have g6e:so=2:=by simpa using g6
   rcases g7:(eo !=1)with _|_
   ·have g7e:eo=1:=by simpa using g7
    have hv:bd=false:=by
     rw[←HBD.out];refine decide_eq_false ?_;rintro(h|h|h|h|h|h)
     ·have:=HN.out;omega
     ·have:=HN.out;have:=HN2.out;omega
     ·omega
     ·omega
     ·simp[edgeI,g6e]at h
     ·simp[edgeI,g7e]at h
    clear HBD HBS HOK HLEN HN HN2
    try clear g1
    try clear g2
    try clear g5e
    try clear g6e
    try clear g7e
    try clear g8e
    subst hv;go_wp2;go_meet;exact⟨rfl,rfl⟩
   rcases g8:(eo !=2)with _|_
   ·have g8e:eo=2:=by simpa using g8
    have hv:bd=false:=by
     rw[←HBD.out];refine decide_eq_false ?_;rintro(h|h|h|h|h|h)
     ·have:=HN.out;omega
     ·have:=HN.out;have:=HN2.out;omega
     ·omega
     ·omega
     ·simp[edgeI,g6e]at h
     ·simp[edgeI,g8e]at h
    clear HBD HBS HOK HLEN HN HN2
    try clear g1
    try clear g2
    try clear g5e
    try clear g6e
    try clear g7e
    try clear g8e
    subst hv;go_wp2;go_meet;exact⟨rfl,rfl⟩
   have hv:bd=true:=by rw[←HBD.out];exact decide_eq_true (.inr (.inr (.inr (.inr (.inr (by have h7:=bne_iff_ne.1 g7;have h8:=bne_iff_ne.1 g8;simp[edgeI,h7,h8]))))))
   clear HBD HBS HOK HLEN HN HN2
   try clear g1
   try clear g2
   try clear g5e
   try clear g6e
   try clear g7e
   try clear g8e
   subst hv;go_wp2;go_meet;exact⟨rfl,rfl⟩
  have hv:bd=true:=by rw[←HBD.out];exact decide_eq_true (.inr (.inr (.inr (.inr (.inl (by have h5:=bne_iff_ne.1 g5;have h6:=bne_iff_ne.1 g6;simp[edgeI,h5,h6]))))))
  clear HBD HBS HOK HLEN HN HN2
  try clear g1
  try clear g2
  try clear g5e
  try clear g6e
  try clear g7e
  try clear g8e
  subst hv;go_wp2;go_meet;exact⟨rfl,rfl⟩
 case rest=>
  obtain⟨rfl,rfl⟩:=hcut
  rcases hb:bd with _|_
  case true=>have hv:=HBS.out hb;clear HBS HOK HLEN HBD;subst hb;go_wp2;go_ret;rw[hv];exact⟨rfl,hal⟩
  case false=>
   have hv:=HOK.out hb;have hl2:=HLEN.out hb;subst hl2;have HV:=Lib.hid hv;clear HBS HOK HLEN HBD hv;subst hb;go_wp2
   go_loopg [3] n (fun gk iv wr=> ∃i:Nat,i+gk=n∧iv= .int .i64 i∧(∀j,j<i→chkAt ⟨pl,cs,lv,so,eo⟩ j=false)∧ ∃d,wr=(w.alloc (.cells #[.slice A n c,.slice A2 n c2,.int .i8 lv,.int .u8 so,.int .u8 eo] 87)).drewN d)
   case atStart=>exact⟨0,by omega,rfl,by omega,0,rfl⟩
   case round=>
    obtain⟨i,hi,rfl,hgood,d,rfl⟩:=hrel;have HI:=Lib.hid hi;have HG:=Lib.hid hgood;have HGE:=Lib.hid (last_ge i hgood);clear hi hgood;have hbk:Blk ((w.alloc (.cells #[.slice A n c,.slice A2 n c2,.int .i8 lv,.int .u8 so,.int .u8 eo] 87)).drewN d) w.heap.size 87 #[.slice A n c,.slice A2 n c2,.int .i8 lv,.int .u8 so,.int .u8 eo]:=(Blk.new w 87 _).drewN d;obtain⟨q0,q1,q2,q3,q4,qf,ql⟩:=hbk.c5;clear hbk
    by_cases hlt:i<n
    ·obtain⟨b1,o1,rfl,_,hb1,kc1⟩:=h.cells (by have:=HN.out;omega);have k1:=kc1 i (by have:=HN.out;omega);obtain⟨b2,o2,rfl,_,hb2,k2⟩:=h2.at_ (i:=i) (by have:=HN2.out;omega);have HKC:=Lib.hid kc1;clear kc1;have hbadv:chkAt ⟨pl,cs,lv,so,eo⟩ i=(decide (pl.getD i 0≤lastAt pl i)||remC (cs.getD i 0)||(clsC (cs.getD i 0) !=cs.getD i 0)):=rfl;obtain⟨px,hpx⟩: ∃px,pl.getD i 0=px:=⟨_,rfl⟩;obtain⟨cx,hcx⟩: ∃cx,cs.getD i 0=cx:=⟨_,rfl⟩;rw[hpx,hcx]at hbadv;rw[hpx]at k1;rw[hcx]at k2;clear hpx hcx;have HBV:=Lib.hid hbadv;clear hbadv
     go_upto_region 7 with(fail)
     go_cut [5] from 61 to 82 (fun rv wx=>rv= .bool (remC cx)∧wx=(w.alloc (.cells #[.slice (some ⟨b1,o1,none⟩) n c,.slice (some ⟨b2,o2,none⟩) n c2,.int .i8 lv,.int .u8 so,.int .u8 eo] 87)).drewN d)
     case first=>
      clear HBV HG HGE HI HV HN HN2 HKC
      by_cases q15:cx=15
      ·subst q15;go_wp2;go_meet;exact⟨rfl,rfl⟩
      have r15:(cx==15)=false:=by simpa using q15
      by_cases q16:cx=16
      ·subst q16;go_wp2;go_meet;exact⟨rfl,rfl⟩
      have r16:(cx==16)=false:=by simpa using q16
      by_cases q17:cx=17
      ·subst q17;go_wp2;go_meet;exact⟨rfl,rfl⟩
      have r17:(cx==17)=false:=by simpa using q17
      by_cases q18:cx=18
      ·subst q18;go_wp2;go_meet;exact⟨rfl,rfl⟩
      have r18:(cx==18)=false:=by simpa using q18
      by_cases q19:cx=19
      ·subst q19;go_wp2;go_meet;exact⟨rfl,rfl⟩
      have r19:(cx==19)=false:=by simpa using q19
      by_cases q10:cx=10
      ·subst q10;go_wp2;go_meet;exact⟨rfl,rfl⟩
      have r10:(cx==10)=false:=by simpa using q10
      have hrr:remC cx=false:=by unfold remC;rw[r15,r16,r17,r18,r19,r10];rfl
      have HRR:=Lib.hid hrr;clear hrr;go_wp2;go_meet;exact⟨by rw[HRR.out],rfl⟩
     case rest=>
      obtain⟨rfl,rfl⟩:=hcut
      go_upto_region 8 with(fail)
      go_cut [5,117] from 83 to 117 (fun _ cv wx=>cv= .bool (chkAt ⟨pl,cs,lv,so,eo⟩ i)∧ ∃d',wx=(w.alloc (.cells #[.slice (some ⟨b1,o1,none⟩) n c,.slice (some ⟨b2,o2,none⟩) n c2,.int .i8 lv,.int .u8 so,.int .u8 eo] 87)).drewN d')
      case first=>
       by_cases f1:px<0
       ·have HLA:=Lib.hid (show decide (px≤lastAt pl i)=true from decide_eq_true (by have: -1≤lastAt pl i:=HGE.out;omega));clear HGE
        have hv2:chkAt ⟨pl,cs,lv,so,eo⟩ i=true:=by rw[HBV.out];rw[HLA.out];simp
        clear HBV HLA HG HI HV HN HN2
        go_quiet (fail)
        go_wp2;go_meet;exact⟨by rw[hv2],_,by first|rfl|exact World.drewN_drewN _ _ _⟩
       have hf1:decide (px<0)=false:=decide_eq_false f1
       rcases Nat.eq_zero_or_pos i with hz0|hz0
       ·have HLA:=Lib.hid (show decide (px≤lastAt pl i)=false from decide_eq_false (by rw[hz0];simp only[lastAt,if_pos];omega));have hpos:decide ((0:Int)<(i:Int))=false:=decide_eq_false (by omega);have hpos2:decide (0<i)=false:=decide_eq_false (by omega);clear HGE HKC hz0
        by_cases f2:cx<1
        ·have hcb:=cls_bad (.inl f2)
         have hv2:chkAt ⟨pl,cs,lv,so,eo⟩ i=true:=by rw[HBV.out];simp[hcb]
         clear HBV HLA HG HI HV HN HN2
         go_quiet (fail)
         go_wp2;go_meet;exact⟨by rw[hv2],_,by first|rfl|exact World.drewN_drewN _ _ _⟩
        have hf2:decide (cx<1)=false:=decide_eq_false f2
        by_cases f3:23<cx
        ·have hcb:=cls_bad (.inr f3)
         have hv2:chkAt ⟨pl,cs,lv,so,eo⟩ i=true:=by rw[HBV.out];simp[hcb]
         clear HBV HLA HG HI HV HN HN2
         go_quiet (fail)
         go_wp2;go_meet;exact⟨by rw[hv2],_,by first|rfl|exact World.drewN_drewN _ _ _⟩
        have hf3:decide (23<cx)=false:=decide_eq_false f3;have hcg:=cls_good f2 f3
        rcases f4:remC cx with _|_
        ·skip
         have hv2:chkAt ⟨pl,cs,lv,so,eo⟩ i=false:=by rw[HBV.out];rw[hcg,f4];simp;exact Int.not_le.1 (of_decide_eq_false HLA.out)
         clear HBV HLA HG HI HV HN HN2
         go_quiet (fail)
         go_wp2;go_meet;exact⟨by rw[hv2],_,by first|rfl|exact World.drewN_drewN _ _ _⟩
        have hv2:chkAt ⟨pl,cs,lv,so,eo⟩ i=true:=by rw[HBV.out];simp[f4]
        clear HBV HLA HG HI HV HN HN2
        go_quiet (fail)
        go_wp2;go_meet;exact⟨by rw[hv2],_,by first|rfl|exact World.drewN_drewN _ _ _⟩
       have hw1:IntKind.i64.wrap ((i:Int)-1)=((i-1:Nat):Int):=by rw[IntWalk.i64_in _ (by omega)];omega
       have k5:=HKC.out (i-1) (by have:=HN.out;omega);have hla:=last_nn (pl:=pl) i hz0;rw[←hla]at k5;obtain⟨la,hle⟩: ∃la,lastAt pl i=la:=⟨_,rfl⟩;rw[hle]at k5;have HLE:=Lib.hid hle;have hpos:decide ((0:Int)<(i:Int))=true:=decide_eq_true (by omega);have hpos2:decide (0<i)=true:=decide_eq_true (by omega);clear hla hle
       by_cases f6:px≤la
       ·have HLA:=Lib.hid (show decide (px≤lastAt pl i)=true from decide_eq_true (by rw[HLE.out];exact f6));clear HGE HLE HKC
        have hv2:chkAt ⟨pl,cs,lv,so,eo⟩ i=true:=by rw[HBV.out];rw[HLA.out];simp
        clear HBV HLA HG HI HV HN HN2
        go_quiet (fail)
        go_wp2;go_meet;exact⟨by rw[hv2],_,by first|rfl|exact World.drewN_drewN _ _ _⟩
       have hf6:decide (px≤la)=false:=decide_eq_false f6;have HLA:=Lib.hid (show decide (px≤lastAt pl i)=false from decide_eq_false (by rw[HLE.out];exact f6));clear HGE HLE HKC
       by_cases f2:cx<1
       ·have hcb:=cls_bad (.inl f2)
        have hv2:chkAt ⟨pl,cs,lv,so,eo⟩ i=true:=by rw[HBV.out];simp[hcb]
        clear HBV HLA HG HI HV HN HN2
        go_quiet (fail)
        go_wp2;go_meet;exact⟨by rw[hv2],_,by first|rfl|exact World.drewN_drewN _ _ _⟩
       have hf2:decide (cx<1)=false:=decide_eq_false f2
       by_cases f3:23<cx
       ·have hcb:=cls_bad (.inr f3)
        have hv2:chkAt ⟨pl,cs,lv,so,eo⟩ i=true:=by rw[HBV.out];simp[hcb]
        clear HBV HLA HG HI HV HN HN2
        go_quiet (fail)
        go_wp2;go_meet;exact⟨by rw[hv2],_,by first|rfl|exact World.drewN_drewN _ _ _⟩
       have hf3:decide (23<cx)=false:=decide_eq_false f3;have hcg:=cls_good f2 f3
       rcases f4:remC cx with _|_
       ·skip
        have hv2:chkAt ⟨pl,cs,lv,so,eo⟩ i=false:=by rw[HBV.out];rw[hcg,f4];simp;exact Int.not_le.1 (of_decide_eq_false HLA.out)
        clear HBV HLA HG HI HV HN HN2
        go_quiet (fail)
        go_wp2;go_meet;exact⟨by rw[hv2],_,by first|rfl|exact World.drewN_drewN _ _ _⟩
       have hv2:chkAt ⟨pl,cs,lv,so,eo⟩ i=true:=by rw[HBV.out];simp[f4]
       clear HBV HLA HG HI HV HN HN2
       go_quiet (fail)
       go_wp2;go_meet;exact⟨by rw[hv2],_,by first|rfl|exact World.drewN_drewN _ _ _⟩
      case rest=>
       obtain⟨rfl,d2,rfl⟩:=hcut;clear HKC HGE HBV
       rcases hck:chkAt ⟨pl,cs,lv,so,eo⟩ i with _|_
       ·go_wp2
        go_roundg (n-(i+1))
        case rel=>
         refine⟨i+1,by have:=HI.out;omega,by go_num,fun j hj=> ?_,_,rfl⟩
         by_cases e:j=i
         ·rw[e];exact hck
         ·exact HG.out j (by omega)
        case measure=>have:=HI.out;omega
       ·have hv:chkL ⟨pl,cs,lv,so,eo⟩=170:=by
         rw[HV.out,if_pos];exact List.any_eq_true.2 ⟨i,List.mem_range.2 hlt,hck⟩
        go_wp2;go_ret;rw[hv];exact⟨rfl,hal.os,hal.tape,hal.output,hal.size,hal.block⟩
    ·have hin:i=n:=by have:=HI.out;omega
     subst hin
     have hv:chkL ⟨pl,cs,lv,so,eo⟩=0:=by rw[HV.out,if_neg];rw[List.any_eq_true];rintro⟨j,hj,h3⟩;rw[HG.out j (List.mem_range.1 hj)]at h3;cases h3
     go_wp2;go_ret
     try rw[hv]
     exact⟨rfl,hal.os,hal.tape,hal.output,hal.size,hal.block⟩
end
section
attribute [local go_sem] Oper.semAt_some
theorem et3:ElemT Tryz.prog 250 255 3 16:=etM
theorem mkT_succ {ch:List Chr}{rs:List Int}{s:Sq}(k:Nat):mkT ch rs s (k+1)=mkT ch rs s k++mk1 ch rs s k:=rfl
theorem mk1_len (ch:List Chr)(rs:List Int)(s:Sq)(k:Nat):(mk1 ch rs s k).length≤1:=by
 unfold mk1
 split
 ·simp only
  split
  ·simp
  ·split<;>simp
 ·simp
theorem mkT_len (ch:List Chr)(rs:List Int)(s:Sq): ∀k,(mkT ch rs s k).length≤k
 |0=>Nat.le_refl _
 |k+1=>by rw[mkT_succ,List.length_append];have:=mkT_len ch rs s k;have:=mk1_len ch rs s k;omega
theorem rMarks_ok {w:World}{Bp Br Bs rc:Nat}{pv sv:Value}{rest:Int}{ch:List Chr}{rA:Option Addr}{rs:List Int}{s:Sq}(hP:PropsIs w Bp pv rest ch)(hR:RdInts w Br .i32 rA rs)(hS:SqIs w Bs sv s)(hn:s.pl.length≤1048576)
 (hlen:s.pl.length=s.cs.length) (hin: ∀i,i<s.pl.length→0≤s.pl.getD i 0∧s.pl.getD i 0<(rs.length:Int)):
 Calls Tryz.prog 166 #[pv,.slice rA rs.length rc,sv] w fun r w'=> ∃v,r= .returned v∧Rw m3C 3 w' w.heap.size 255 v (mkT ch rs s s.pl.length)∧Below w.heap.size w w':=by
 replace hP:=hP.clip;replace hR:=hR.clip;obtain⟨rn,hrl⟩: ∃rn,rs.length=rn:=⟨_,rfl⟩;rw[hrl]at hin⊢;have HRL:=Lib.hid hrl;have HIN:=Lib.hid hin;have HLEN:=Lib.hid hlen;obtain⟨A,A2,c,c2,hsv,h1,h2,h3,h4⟩:=hS;replace h1:=h1.clip;replace h2:=h2.clip;obtain⟨n,hnn⟩: ∃n,s.pl.length=n:=⟨_,rfl⟩;rw[hnn]at hsv hn h3⊢;have HN:=Lib.hid hnn;subst hsv;simp only[Sq.is];obtain⟨n2,hn2⟩: ∃n2,s.cs.length=n2:=⟨_,rfl⟩;rw[hn2]at h4⊢;have HN2:=Lib.hid hn2;obtain⟨pA,pc,rfl,hPr,hPn⟩:=hP;obtain⟨pn,hpn⟩: ∃pn,ch.length=pn:=⟨_,rfl⟩;rw[hpn]at hPn⊢;have HPN:=Lib.hid hpn;clear hrl hin hlen hnn hn2 hpn;obtain⟨W1,hW1⟩: ∃W1,(w.alloc (.cells #[.int .u8 rest,.slice pA pn pc] 25)).alloc (.cells #[.slice A n c,.slice A2 n2 c2,.int .i8 s.lv,.int .u8 s.so,.int .u8 s.eo] 87)=W1:=⟨_,rfl⟩
 have b1:Below w.heap.size w W1:=by rw[←hW1];exact((Below.refl _ w).alloc (Nat.le_refl _) _).alloc (by simp) _
 have X3:Blk W1 w.heap.size 25 #[.int .u8 rest,.slice pA pn pc]:=by rw[←hW1];exact(Blk.new w 25 _).alloc _
 have X5:Blk W1 (w.heap.size+1) 87 #[.slice A n c,.slice A2 n2 c2,.int .i8 s.lv,.int .u8 s.so,.int .u8 s.eo]:=by rw[←hW1];exact Blk.at_ (by simp)
 have hP1:PropsIs W1 w.heap.size (.agg #[.int .u8 rest,.slice pA pn pc]) rest ch:=⟨pA,pc,by rw[HPN.out],hPr.below b1 (.inl (Nat.le_refl _)),by rw[HPN.out];exact hPn⟩;have HW1:=Lib.hid hW1;obtain⟨D,hD⟩: ∃D,W1.heap.size=D:=⟨_,rfl⟩
 have hwD:w.heap.size+1<D:=by rw[←hD];exact X5.lt
 clear hW1
 go_enter Tryz.func166,Tryz.ntmps166
 go_upto_region 1 with(fail)
 rw[HW1.out];go_wp2
 go_loopg [7,8] n (fun gk ov kv wr=> ∃(k:Nat),k+gk=n∧kv= .int .i64 k∧Rw m3C 3 wr W1.heap.size 255 ov (mkT ch rs s k)∧Below W1.heap.size W1 wr)
 case atStart=>exact⟨0,by omega,rfl,Rw.nil _ _ _,Below.refl _ _⟩
 case round=>
  obtain⟨k,hk,rfl,R,bb⟩:=hrel;have HK:=Lib.hid hk;have HD:=Lib.hid hD;clear hk hD;have hsz:=bb.size
  have hszD:D≤wr.heap.size:=by have:=HD.out;omega
  have X3w:=X3.below bb X3.lt;have X5w:=X5.below bb X5.lt;obtain⟨x0,x1,x2,x3,x4,xf,xl⟩:=X5w.c5;obtain⟨y0,y1,yf,yl⟩:=X3w.c2
  by_cases hlt:k<n
  ·have hPw:=hP1.below bb (.inr (Nat.le_refl _));obtain⟨ab,ao,rfl,a1,a2,ca⟩:=((h1.below b1 (.inl (Nat.le_refl _))).below bb (.inr (Nat.le_refl _))).at_ (i:=k) (by have:=HN.out;omega);obtain⟨cb,co,rfl,d1,d2,cc⟩:=((h2.below b1 (.inl (Nat.le_refl _))).below bb (.inr (Nat.le_refl _))).at_ (i:=k) (by have:=HN.out;have:=HLEN.out;omega);have hmk:=HIN.out k (by have:=HN.out;omega);have hstep:=mkT_succ (ch:=ch) (rs:=rs) (s:=s) k
   have hm1:mk1 ch rs s k=if s.cs.getD k 0=14 then
    (if(brL ch (runC (rs.getD (s.pl.getD k 0).toNat 0))).2=1 then [⟨k,1,twL ch (brL ch (runC (rs.getD (s.pl.getD k 0).toNat 0))).1⟩]else if(brL ch (runC (rs.getD (s.pl.getD k 0).toNat 0))).2=2 then [⟨k,2,twL ch (runC (rs.getD (s.pl.getD k 0).toNat 0))⟩]else [])else []:=rfl
   obtain⟨a,ha⟩: ∃a:Nat,s.pl.getD k 0=a:=⟨(s.pl.getD k 0).toNat,by omega⟩;obtain⟨cl,hcl⟩: ∃cl,s.cs.getD k 0=cl:=⟨_,rfl⟩;rw[ha]at ca hmk hm1;rw[hcl]at cc hm1
   have har:a<rn:=by omega
   obtain⟨rb,ro,rfl,r1,r2,cr⟩:=((hR.below b1 (.inl (Nat.le_refl _))).below bb (.inr (Nat.le_refl _))).at_ (i:=a) (by have:=HRL.out;omega);obtain⟨r0,hr0⟩: ∃r0,rs.getD a 0=r0:=⟨_,rfl⟩;rw[Int.toNat_natCast,hr0]at hm1;rw[hr0]at cr;obtain⟨ru,hru⟩: ∃ru,runC r0=ru:=⟨_,rfl⟩;rw[hru]at hm1
   have CP: ∀W,Calls Tryz.prog 64 #[.int .i32 r0] W fun e w'=>e= .returned (.int .i32 ru)∧w'=W:=fun W=>by rw[←hru];exact rRune_ok W r0
   obtain⟨ot,hot⟩: ∃ot,(brL ch ru).1=ot:=⟨_,rfl⟩;obtain⟨sd,hsd⟩: ∃sd,(brL ch ru).2=sd:=⟨_,rfl⟩;have CB:=brack_ok ru hPw;rw[hot,hsd]at CB hm1
   have hkn:n2=n:=by have:=HN.out;have:=HN2.out;have:=HLEN.out;omega
   have hk2:k<n2:=by omega
   have hlm:=mkT_len ch rs s k;obtain⟨M,hM⟩: ∃M,mkT ch rs s k=M:=⟨_,rfl⟩;rw[hM]at R hstep hlm;have HM1:=Lib.hid hm1;have HST:=Lib.hid hstep;clear hm1 hstep hot hsd hru hr0 hmk ha hcl hkn hM;obtain⟨oA,oc,rfl,_,_,_⟩:=R.val;obtain⟨ml,hml⟩: ∃ml,M.length=ml:=⟨_,rfl⟩;rw[hml]at R hlm⊢;have HML:=Lib.hid hml;clear hml
   by_cases hc14:cl=14
   ·have hcc:(cl !=14)=false:=by simpa using hc14
    by_cases hs1:sd=1
    ·subst hs1
     have hm2:mk1 ch rs s k=[⟨k,1,twL ch ot⟩]:=by rw[HM1.out,if_pos hc14,if_pos rfl]
     obtain⟨ky,hky⟩: ∃ky,twL ch ot=ky:=⟨_,rfl⟩;rw[hky]at hm2;have HM2:=Lib.hid hm2
     have CT: ∀W,Below wr.heap.size wr W→Calls Tryz.prog 52 #[.agg #[.int .u8 rest,.slice pA pn pc],.int .i32 ot] W fun e w'=>e= .returned (.int .i32 ky)∧Below W.heap.size W w':=fun W hb=>by rw[←hky];exact twin_ok ot (hPw.below hb (.inr (Nat.le_refl _)))
     clear hm2 hky
     go_wp2_with(first
      |(go_at_call 64;refine(CP _).mono ?_;rintro r3 w3 ⟨rfl,rfl⟩)
      |(go_at_call 49;refine CB.mono ?_;rintro r4 w4 ⟨rfl,b4⟩;have X34:=X3w.below b4 yl;obtain⟨z0,z1,zf,zl⟩:=X34.c2)
      |(go_at_call 52;refine(CT _ b4).mono ?_;rintro r5 w5 ⟨rfl,b5⟩;have R5:=(R.below b4 (Nat.le_refl _)).below b5 (Nat.le_refl _))
      |(at_builtin;go_must (refine wpList_appR (y:=(⟨k,1,ky⟩:Mk)) enc3 et3 rfl rfl rfl (R5.alloc _) rfl (Blk.at_ (by simp)) rfl ?_ ?_ ?_ ?_)))
     ·have:=HML.out;unfold maxLen;omega
     ·have:=HML.out;omega
     ·have:=b4.size;have:=b5.size;simp;omega
     intro g cap w6 R6 g6 hg;have b6:Below W1.heap.size W1 w6:=((bb.trans (b4.mono hsz)).trans (b5.mono (by have:=b4.size;omega))).alloc (by have:=b4.size;have:=b5.size;omega) _|>.grown g6 (by have:=b4.size;have:=b5.size;simp;omega) (fun j e=>(R.lt j e).1)
     have HR6:Rw m3C 3 w6 W1.heap.size 255 (.slice (some ⟨g,0,none⟩) (M.length+1) cap) (mkT ch rs s (k+1)):=by rw[HST.out,HM2.out];exact R6
     clear R6 g6 hg;go_wp2
     go_roundg (n-(k+1))
     case rel=>exact⟨k+1,by have:=HK.out;omega,by go_num,HR6,b6⟩
     case measure=>have:=HK.out;omega
    ·by_cases hs2:sd=2
     ·subst hs2
      have hm2:mk1 ch rs s k=[⟨k,2,twL ch ru⟩]:=by rw[HM1.out,if_pos hc14,if_neg (by decide),if_pos rfl]
      obtain⟨ky,hky⟩: ∃ky,twL ch ru=ky:=⟨_,rfl⟩;rw[hky]at hm2;have HM2:=Lib.hid hm2
      have CT: ∀W,Below wr.heap.size wr W→Calls Tryz.prog 52 #[.agg #[.int .u8 rest,.slice pA pn pc],.int .i32 ru] W fun e w'=>e= .returned (.int .i32 ky)∧Below W.heap.size W w':=fun W hb=>by rw[←hky];exact twin_ok ru (hPw.below hb (.inr (Nat.le_refl _)))
      clear hm2 hky
      go_wp2_with(first
       |(go_at_call 64;refine(CP _).mono ?_;rintro r3 w3 ⟨rfl,rfl⟩)
       |(go_at_call 49;refine CB.mono ?_;rintro r4 w4 ⟨rfl,b4⟩;have X34:=X3w.below b4 yl;obtain⟨z0,z1,zf,zl⟩:=X34.c2)
       |(go_at_call 52;refine(CT _ b4).mono ?_;rintro r5 w5 ⟨rfl,b5⟩;have R5:=(R.below b4 (Nat.le_refl _)).below b5 (Nat.le_refl _))
       |(at_builtin;go_must (refine wpList_appR (y:=(⟨k,2,ky⟩:Mk)) enc3 et3 rfl rfl rfl (R5.alloc _) rfl (Blk.at_ (by simp)) rfl ?_ ?_ ?_ ?_)))
      ·have:=HML.out;unfold maxLen;omega
      ·have:=HML.out;omega
      ·have:=b4.size;have:=b5.size;simp;omega
      intro g cap w6 R6 g6 hg;have b6:Below W1.heap.size W1 w6:=((bb.trans (b4.mono hsz)).trans (b5.mono (by have:=b4.size;omega))).alloc (by have:=b4.size;have:=b5.size;omega) _|>.grown g6 (by have:=b4.size;have:=b5.size;simp;omega) (fun j e=>(R.lt j e).1)
      have HR6:Rw m3C 3 w6 W1.heap.size 255 (.slice (some ⟨g,0,none⟩) (M.length+1) cap) (mkT ch rs s (k+1)):=by rw[HST.out,HM2.out];exact R6
      clear R6 g6 hg;go_wp2
      go_roundg (n-(k+1))
      case rel=>exact⟨k+1,by have:=HK.out;omega,by go_num,HR6,b6⟩
      case measure=>have:=HK.out;omega
     ·have e1:(sd==1)=false:=by simpa using hs1
      have e2:(sd==2)=false:=by simpa using hs2
      go_wp2_with(first
       |(go_at_call 64;refine(CP _).mono ?_;rintro r3 w3 ⟨rfl,rfl⟩)
       |(go_at_call 49;refine CB.mono ?_;rintro r4 w4 ⟨rfl,b4⟩;have X34:=X3w.below b4 yl;obtain⟨z0,z1,zf,zl⟩:=X34.c2))
      go_roundg (n-(k+1))
      case rel=>exact⟨k+1,by have:=HK.out;omega,by go_num,by rw[HST.out,HM1.out,if_pos hc14,if_neg hs1,if_neg hs2,List.append_nil];exact R.below b4 (Nat.le_refl _),bb.trans (b4.mono hsz)⟩
      case measure=>have:=HK.out;omega
   ·have hcc:(cl !=14)=true:=by simpa using hc14
    go_wp2
    go_roundg (n-(k+1))
    case rel=>exact⟨k+1,by have:=HK.out;omega,by go_num,by rw[HST.out,HM1.out,if_neg hc14,List.append_nil];exact R,bb⟩
    case measure=>have:=HK.out;omega
  ·have hkn:k=n:=by have:=HK.out;omega
   subst hkn;go_wp2;go_ret;exact⟨_,rfl,R.base (fun j e=>by have:=(R.lt j e).1;have:=HD.out;omega),b1.trans (bb.mono (by have:=b1.size;omega))⟩
end
end Go.Proofs.YtllolnkkepacjaaGreat
