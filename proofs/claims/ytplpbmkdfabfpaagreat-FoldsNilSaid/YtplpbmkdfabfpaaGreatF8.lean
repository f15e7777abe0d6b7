/- Widths looked through. -/
import Derived.Test.YtplpbmkdfabfpaaGreatF7
set_option maxRecDepth 100000
set_option maxHeartbeats 1000000
namespace Go.Proofs.YtplpbmkdfabfpaaGreat
open Go.RowKit
def badW (x:Int):Bool:=decide (x<0)||decide (1048576<x)
theorem badW_fine {ws:List Int}:Fine ws↔ ∀k,k<ws.length→badW (ws.getD k 0)=false:=by
 constructor
 ·intro h k hk;have:=h.at k;simp only[badW,Bool.or_eq_false_iff,decide_eq_false_iff_not];omega
 ·intro h x hx;obtain⟨k,hk,rfl⟩:=List.getElem_of_mem hx;have:=h k hk;rw[List.getD_eq_getElem?_getD,List.getElem?_eq_getElem hk]at this;simp[badW]at this;omega
theorem bad_ok (w:World)(x:Int):Calls Tryz.prog 45 #[.int .i64 x] w fun r w'=>r= .returned (.bool (badW x))∧w=w':=by
 go_enter Tryz.func45,Tryz.ntmps45
 go_wp2
 all_goals (go_ret;exact⟨by simp[badW, *],rfl⟩)
theorem index_bad {w:World}{B:Nat}{A:Option Addr}{n c:Nat}{ws:List Int}(hn:n=ws.length)(h:RdInts w B .i64 A ws)(hl:n≤1048576):
 Calls Tryz.prog 73 #[.slice A n c,.func (.func 45) #[] #[]] w fun r w'=> ∃z,r= .returned (.int .i64 z)∧(Fine ws↔z= -1)∧ -1≤z∧w=w':=by
 have HN:=Lib.hid hn;clear hn
 go_enter Tryz.func73,Tryz.ntmps73
 go_wp2
 go_loopg [8] n (fun gk iv wr=> ∃j:Nat,j+gk=n∧iv= .int .i64 j∧(∀k,k<j→badW (ws.getD k 0)=false)∧wr=w)
 case atStart=>exact⟨0,by omega,rfl,by omega,rfl⟩
 case round=>
  obtain⟨j,hj,rfl,hf,rfl⟩:=hrel;have HJ:=Lib.hid hj;have HF:=Lib.hid hf;clear hj hf
  by_cases hlt:j<n
  ·obtain⟨ab,off,rfl,_,_,hc⟩:=h.at_ (i:=j) (by have:=HN.out;omega);generalize hx:ws.getD j 0=x at hc;have HX:=Lib.hid hx;clear hx;cases hb:badW x
   ·go_wp2_with(go_at_call 45;refine(bad_ok _ _).mono ?_;rintro r1 w1 ⟨rfl,rfl⟩)
    go_roundg (n-(j+1))
    case rel=>exact⟨j+1,by have:=HJ.out;omega,by go_num,fun k hk=>by
     by_cases e:k=j
     ·subst e;rw[HX.out];exact hb
     ·exact HF.out k (by omega),rfl⟩
    case measure=>have:=HJ.out;omega
   ·go_wp2_with(go_at_call 45;refine(bad_ok _ _).mono ?_;rintro r1 w1 ⟨rfl,rfl⟩)
    go_ret;refine⟨_,rfl,⟨fun e=> ?_,fun e=>by omega⟩,by omega,rfl⟩;have:=badW_fine.1 e j (by have:=HN.out;omega);rw[HX.out,hb]at this;cases this
  ·have hjl:j=n:=by have:=HJ.out;omega
   subst hjl;go_wp2;go_ret;exact⟨_,rfl,⟨fun _=>rfl,fun _=>badW_fine.2 (fun k hk=>HF.out k (by have:=HN.out;omega))⟩,by omega,rfl⟩
theorem contains_bad {w:World}{B:Nat}{A:Option Addr}{n c:Nat}{ws:List Int}(hn:n=ws.length)(h:RdInts w B .i64 A ws)(hl:n≤1048576):
 Calls Tryz.prog 44 #[.slice A n c,.func (.func 45) #[] #[]] w fun r w'=> ∃b,r= .returned (.bool b)∧(Fine ws↔b=false)∧w=w':=by
 have HN:=Lib.hid hn;clear hn
 go_enter Tryz.func44,Tryz.ntmps44
 go_wp2_with(go_at_call 73;refine(index_bad HN.out h hl).mono ?_;rintro r1 w1 ⟨z,rfl,hz,hz1,rfl⟩)
 go_ret;refine⟨_,rfl,?_,rfl⟩;rw[hz];simp;omega
end Go.Proofs.YtplpbmkdfabfpaaGreat
