/- The laws' own helpers: two lists of numbers, an answer written over and grown, classes lent and kept. -/
import Derived.Test.YtplpbmkdfabfpaaGreatF1
set_option maxRecDepth 100000
set_option maxHeartbeats 2000000
namespace Go.Proofs.YtplpbmkdfabfpaaGreat
open Go.RowKit
theorem numbers_ok {w:World}{B B2:Nat}{A A2:Option Addr}{n n2 c c2:Nat}{l:List Int}(hn:n=l.length)(hn2:n2=l.length)(h:RdInts w B .i64 A l)(h2:RdInts w B2 .i64 A2 l)(hl:l.length≤1152921504606846976):
 Calls Tryz.prog 38 #[.slice A n c,.slice A2 n2 c2] w fun r w'=>r= .returned (.bool true)∧Below w.heap.size w w':=by
 obtain rfl:n2=n:=hn2.trans hn.symm;have HN:=Lib.hid hn
 have hl':n2≤1152921504606846976:=by omega
 clear hn hn2
 go_enter Tryz.func38,Tryz.ntmps38
 go_wp2
 go_loopg [5] n2 (fun gk iv wr=> ∃j:Nat,j+gk=n2∧iv= .int .i64 j∧Below w.heap.size w wr)
 case atStart=>exact⟨0,by omega,rfl,Below.refl _ _⟩
 case round=>
  obtain⟨j,hj,rfl,b⟩:=hrel;have HJ:=Lib.hid hj;clear hj
  by_cases hlt:j<n2
  ·obtain⟨ab,off,rfl,_,_,hc⟩:=(h.below b (.inr (Nat.le_refl _))).at_ (i:=j) (by have:=HN.out;omega);obtain⟨bb,of2,rfl,_,_,hc2⟩:=(h2.below b (.inr (Nat.le_refl _))).at_ (i:=j) (by have:=HN.out;omega);generalize l.getD j 0=x at hc hc2
   go_wp2_with(go_quiet (fail))
   go_roundg (n2-(j+1))
   case rel=>exact⟨j+1,by have:=HJ.out;omega,by go_num,⟨b.os,b.tape,b.output,b.size,b.block⟩⟩
   case measure=>have:=HJ.out;omega
  ·have hjl:j=n2:=by have:=HJ.out;omega
   subst hjl;go_wp2;go_ret;exact⟨rfl,b⟩
end Go.Proofs.YtplpbmkdfabfpaaGreat
