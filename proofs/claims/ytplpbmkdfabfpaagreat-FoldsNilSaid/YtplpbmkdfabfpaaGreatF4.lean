/- Where lines may begin: the lists, by both. -/
import Derived.Test.YtplpbmkdfabfpaaGreatF3
set_option maxRecDepth 100000
set_option maxHeartbeats 2000000
namespace Go.Proofs.YtplpbmkdfabfpaaGreat
open Go.RowKit
theorem Breaks_ok {w:World}{B:Nat}{A:Option Addr}{c:Nat}{l:List Int}(h:RdInts w B .u8 A l)(hl:l.length≤1048576):
 Calls Tryz.prog 21 #[.slice A l.length c] w fun r w'=> ∃v,r= .returned v∧Ints w' w.heap.size 3 .i64 v (brkL l)∧Below w.heap.size w w':=by
 go_enter Tryz.func21,Tryz.ntmps21
 go_wp2_with(go_at_call 10;refine(Clusters_ok h hl).mono ?_;rintro r1 w1 ⟨v1,rfl,I1,b1⟩;obtain⟨A1,c1,rfl,_,_,_⟩:=I1.val)
 have rd1:=I1.rd;have hcl:=clusL_length l;have hin: ∀i,i<(clusL l).length→0≤(clusL l).getD i 0∧(clusL l).getD i 0<l.length:=fun i hi=>clusL_in l hi;have hL:brkL l=brkT l (clusL l) (clusL l).length:=rfl;have HLL:=Lib.hid hL;clear hL I1;generalize clusL l=cs at rd1 hcl hin HLL;have HIN:=Lib.hid hin;clear hin;have hs1:=b1.size
 go_loopg [4,11] cs.length (fun gk ov iv wr=> ∃j:Nat,j+gk=cs.length∧iv= .int .i64 j∧Ints wr w1.heap.size 3 .i64 ov (brkT l cs j)∧Below w1.heap.size w1 wr)
 case atStart=>exact⟨0,by omega,rfl,Ints.nil _ _ _ _,Below.refl _ _⟩
 case round=>
  obtain⟨j,hj,rfl,I,b⟩:=hrel;have HJ:=Lib.hid hj;clear hj;have hbs:=b.size
  by_cases hlt:j<cs.length
  ·have rdl:=h.below (b1.trans (b.mono hs1)) (.inr (Nat.le_refl _));have rdc:=rd1.below b (.inr (Nat.le_refl _));have hbk:=breaks_ok (c:=c) (c2:=c1) rfl rfl rdl rdc hlt (by omega) HIN.out;obtain⟨ab,off,rfl,_,_,hc⟩:=rdc.at_ hlt
   have hN:brkT l cs (j+1)=if brkB l cs j=true then brkT l cs j++[cs.getD j 0]else brkT l cs j:=rfl
   have hlen:=brkT_length l cs j;generalize brkB l cs j=bb at hbk hN;generalize cs.getD j 0=x at hc hN;generalize hC:brkT l cs j=os at I hN hlen;have HN:=Lib.hid hN;have HL:=Lib.hid hlen;clear hN hlen hC;cases bb
   ·go_wp2_with(go_at_call 43;refine hbk.mono ?_;rintro r1 w5 ⟨rfl,rfl⟩)
    go_roundg (cs.length-(j+1))
    case rel=>exact⟨j+1,by have:=HJ.out;omega,by go_num,by rw[HN.out,if_neg (by simp)];exact I,b⟩
    case measure=>have:=HJ.out;omega
   ·go_wp2_with(first
     |(go_at_call 43;refine hbk.mono ?_;rintro r1 w5 ⟨rfl,rfl⟩)
     |(at_builtin;go_must (refine wpList_appI ei24 rfl rfl rfl (I.alloc _) rfl (Blk.at_ (by simp)) ?_ ?_ ?_ ?_)))
    ·have:=HL.out;unfold maxLen;omega
    ·have:=HL.out;omega
    ·first|omega|(simp;omega)
    intro g cap w2 I2 g2 hg;go_wp2
    go_roundg (cs.length-(j+1))
    case rel=>exact⟨j+1,by have:=HJ.out;omega,by go_num,by rw[HN.out,if_pos (by first|trivial|rfl)];exact I2,(b.alloc hbs _).grown g2 (by simp;omega) (fun k hk=>(I.lt k hk).1)⟩
    case measure=>have:=HJ.out;omega
  ·have hjl:j=cs.length:=by have:=HJ.out;omega
   subst hjl;go_wp2;go_ret;exact⟨_,rfl,by rw[HLL.out];exact I.base (fun j hj=>by have:=I.lt j hj;omega),b1.trans (b.mono hs1)⟩
end Go.Proofs.YtplpbmkdfabfpaaGreat
