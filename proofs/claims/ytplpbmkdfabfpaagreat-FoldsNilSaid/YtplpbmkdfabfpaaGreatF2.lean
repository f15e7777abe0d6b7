/- Clusters, by both. -/
import Derived.Test.YtplpbmkdfabfpaaGreatF1
set_option maxRecDepth 100000
set_option maxHeartbeats 1000000
namespace Go.Proofs.YtplpbmkdfabfpaaGreat
open Go.RowKit
def clusT (l:List Int):Nat→List Int
 |0=>[]
 |k+1=>if k=0∨begC (l.getD k 0)=true then clusT l k++[(k:Int)]else clusT l k
def clusL (l:List Int):List Int:=clusT l l.length
theorem clusT_length (l:List Int): ∀k,(clusT l k).length≤k
 |0=>by simp[clusT]
 |k+1=>by
  have:=clusT_length l k;unfold clusT
  split<;>simp<;>omega
theorem clusT_map (l:List Int): ∀k,k≤l.length→clusT (l.map clsC) k=clusT l k
 |0,_=>rfl
 |k+1,h=>by
  have e:(l.map clsC).getD k 0=clsC (l.getD k 0):=by simp only[List.getD_eq_getElem?_getD,List.getElem?_map];rw[List.getElem?_eq_getElem (by omega)];rfl
  simp only[clusT,e,begC_clsC,clusT_map l k (by omega)]
theorem clusL_map (l:List Int):clusL (l.map clsC)=clusL l:=by unfold clusL;rw[List.length_map];exact clusT_map l _ (Nat.le_refl _)
theorem Clusters_ok {w:World}{B:Nat}{A:Option Addr}{c:Nat}{l:List Int}(h:RdInts w B .u8 A l)(hl:l.length≤1048576):
 Calls Tryz.prog 10 #[.slice A l.length c] w fun r w'=> ∃v,r= .returned v∧Ints w' w.heap.size 3 .i64 v (clusL l)∧Below w.heap.size w w':=by
 go_enter Tryz.func10,Tryz.ntmps10
 go_wp2
 go_loopg [3,8] l.length (fun gk ov iv wr=> ∃j:Nat,j+gk=l.length∧iv= .int .i64 j∧Ints wr w.heap.size 3 .i64 ov (clusT l j)∧Below w.heap.size w wr)
 case atStart=>exact⟨0,by omega,rfl,Ints.nil _ _ _ _,Below.refl _ _⟩
 case round=>
  obtain⟨j,hj,rfl,I,b⟩:=hrel;have HJ:=Lib.hid hj;clear hj
  by_cases hlt:j<l.length
  ·obtain⟨ab,off,rfl,_,_,hc⟩:=(h.below b (.inr (Nat.le_refl _))).at_ hlt
   have hN:clusT l (j+1)=if j=0∨begC (l.getD j 0)=true then clusT l j++[(j:Int)]else clusT l j:=rfl
   have hlen:=clusT_length l j;generalize l.getD j 0=x at hc hN;generalize hC:clusT l j=cs at I hN hlen;have HN:=Lib.hid hN;have HL:=Lib.hid hlen;clear hN hlen hC;have hbs:=b.size
   by_cases hj0:j=0
   ·have hj1:((j:Int)==0)=true:=by simp[hj0]
    have HJ0:=Lib.hid hj0;clear hj0
    go_wp2_with(at_builtin;go_must (refine wpList_appI ei24 rfl rfl rfl (I.alloc _) rfl (Blk.at_ (by simp)) ?_ ?_ ?_ ?_))
    ·have:=HL.out;unfold maxLen;omega
    ·have:=HL.out;omega
    ·first|omega|(simp;omega)
    intro g cap w2 I2 g2 hg;go_wp2
    go_roundg (l.length-(j+1))
    case rel=>exact⟨j+1,by have:=HJ.out;omega,by go_num,by rw[HN.out,if_pos (.inl HJ0.out)];exact I2,(b.alloc hbs _).grown g2 (by simp;omega) (fun k hk=>(I.lt k hk).1)⟩
    case measure=>have:=HJ.out;omega
   ·have hj1:((j:Int)==0)=false:=by simp;omega
    by_cases hb:begC x=true
    ·go_wp2_with(first
      |(go_at_call 27;refine(begins_ok _ _).mono ?_;rintro r1 w1 ⟨rfl,rfl⟩)
      |(at_builtin;go_must (refine wpList_appI ei24 rfl rfl rfl (I.alloc _) rfl (Blk.at_ (by simp)) ?_ ?_ ?_ ?_)))
     ·have:=HL.out;unfold maxLen;omega
     ·have:=HL.out;omega
     ·first|omega|(simp;omega)
     intro g cap w2 I2 g2 hg;go_wp2
     go_roundg (l.length-(j+1))
     case rel=>exact⟨j+1,by have:=HJ.out;omega,by go_num,by rw[HN.out,if_pos (.inr hb)];exact I2,(b.alloc hbs _).grown g2 (by simp;omega) (fun k hk=>(I.lt k hk).1)⟩
     case measure=>have:=HJ.out;omega
    ·have hb':begC x=false:=by simpa using hb
     go_wp2_with(go_at_call 27;refine(begins_ok _ _).mono ?_;rintro r1 w1 ⟨rfl,rfl⟩)
     go_roundg (l.length-(j+1))
     case rel=>exact⟨j+1,by have:=HJ.out;omega,by go_num,by rw[HN.out,if_neg (fun e=>e.elim hj0 hb)];exact I,b⟩
     case measure=>have:=HJ.out;omega
  ·have hjl:j=l.length:=by have:=HJ.out;omega
   subst hjl;go_wp2;go_ret;exact⟨_,rfl,I,b⟩
end Go.Proofs.YtplpbmkdfabfpaaGreat
