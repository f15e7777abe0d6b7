/- Lines have the levels of the whole, but at their ends: plainly. -/
import Derived.Test.YtllolnkkepacjaaGreatLn2
import Derived.Test.YtllolnkkepacjaaGreatEn4
namespace Go.Proofs.YtllolnkkepacjaaGreat
open Go.RowKit
def rowC (c:Int):Bool:=blkW c||remC c
theorem falls_all: ∀{A:List Int},(∀c∈A,rowC c=true)→fallsL A=true
 |[],_=>rfl
 |c::A,h=>by
  unfold fallsL;have h1:(blkW c||remC c)=true:=h c List.mem_cons_self;rw[h1,if_pos rfl,falls_all (fun x hx=>h x (List.mem_cons_of_mem _ hx))]
  split<;>rfl
theorem falls_more (B:List Int): ∀{A:List Int},(∃c∈A,rowC c=false)→fallsL (A++B)=fallsL A
 |[],h=>by obtain⟨_,h,_⟩:=h;cases h
 |c::A,h=>by
  show fallsL (c::(A++B))=_;unfold fallsL
  rcases e:rowC c with _|_
  ·have e:(blkW c||remC c)=false:=e;rw[e];rfl
  ·have e2:(blkW c||remC c)=true:=e;rw[e2,if_pos rfl,if_pos rfl,falls_more B (A:=A)];obtain⟨x,hx,hr⟩:=h
   rcases List.mem_cons.1 hx with rfl|hx
   ·rw[e]at hr;cases hr
   ·exact⟨x,hx,hr⟩
theorem cutL_all (l:List Int){n:Nat}(h:n=l.length):cutL l 0 (n:Int)=l:=by subst h;unfold cutL;simp
theorem cutL_drop_app (l:List Int){k t:Nat}(h:k≤t)(h2:t≤l.length):l.drop k=cutL l k t++l.drop t:=by
 unfold cutL;simp only[Int.toNat_natCast]
 conv=>lhs;rw[←List.take_append_drop t l]
 rw[List.drop_append_of_le_length (by simp;omega)]
theorem cutL_mem {l:List Int}{k t:Nat}(h2:t≤l.length){c:Int}:c∈cutL l k t↔ ∃j,k≤j∧j<t∧l.getD j 0=c:=by
 constructor
 ·intro h;obtain⟨i,hi,e⟩:=List.mem_iff_getElem.1 h
  have hl:(cutL l k t).length=t-k:=by unfold cutL;simp;omega
  refine⟨k+i,by omega,by omega,?_⟩;rw[←cutL_getD (l:=l) (f:=k) (t:=t) (i:=i) (by omega),List.getD_eq_getElem?_getD,List.getElem?_eq_getElem hi];exact e
 ·rintro⟨j,h1,h3,e⟩
  have hl:(cutL l k t).length=t-k:=by unfold cutL;simp;omega
  have:=getD_mem0 (0:Int) (l:=cutL l k t) (i:=j-k) (by omega);rw[cutL_getD (by omega),show k+(j-k)=j by omega,e]at this;exact this
theorem line_at (base:Int){cs lv:List Int}{f t k:Nat}(hl:cs.length=lv.length)(h1:f≤k)(h2:k<t)(h3:t≤cs.length):
 (lineL base (cutL cs f t) (cutL lv f t)).getD (k-f) 0=if lv.getD k 0= -1 then-1 else if fallsL (cutL cs k t)=true then base else lv.getD k 0:=by
 rw[lineL_getD _ _ _ (by rw[cutL_len (by omega) (by omega)];omega)];unfold ansL;rw[cutL_getD (by omega),cutL_drop,show f+(k-f)=k by omega]
theorem cut_at (base:Int){cs lv:List Int}{f t k:Nat}(hl:cs.length=lv.length)(h1:f≤k)(h2:k<t)(h3:t≤cs.length){T:Bool}(hT:T=true↔ ∀j,k≤j→j<t→rowC (cs.getD j 0)=true):
 (T=false→(lineL base (cutL cs f t) (cutL lv f t)).getD (k-f) 0=(lineL base cs lv).getD k 0)∧
 (T=true→(lineL base (cutL cs f t) (cutL lv f t)).getD (k-f) 0=base∨(lineL base (cutL cs f t) (cutL lv f t)).getD (k-f) 0= -1):=by
 rw[line_at base hl h1 h2 h3,lineL_getD _ _ _ (by omega)];unfold ansL;constructor
 ·intro hF
  have hex: ∃c∈cutL cs k t,rowC c=false:=by
   by_cases h: ∀j,k≤j→j<t→rowC (cs.getD j 0)=true
   ·rw[hT.2 h]at hF;cases hF
   ·obtain⟨j,hj⟩:=Classical.not_forall.1 h;obtain⟨q1,hj⟩:=Classical.not_imp.1 hj;obtain⟨q2,hj⟩:=Classical.not_imp.1 hj;exact⟨_,(cutL_mem h3).2 ⟨j,q1,q2,rfl⟩,by simpa using hj⟩
  rw[cutL_drop_app cs (Nat.le_of_lt h2) h3,falls_more _ hex]
 ·intro hF
  have hall: ∀c∈cutL cs k t,rowC c=true:=fun c hc=>by obtain⟨j,q1,q2,rfl⟩:=(cutL_mem h3).1 hc;exact hT.1 hF j q1 q2
  rw[falls_all hall]
  split
  ·exact .inr rfl
  ·exact .inl rfl
theorem lineX_ok {b:Int}{cs lv:List Int}{f t:Nat}(hm:mayR b cs lv=true)(h1:f≤t)(h2:t≤cs.length):lineX b cs lv f t=(0,lineL b (cutL cs f t) (cutL lv f t)):=by have hs:spanB cs.length (f:Int) (t:Int)=true:=spanB_iff.2 ⟨by omega,by omega,by omega⟩;unfold lineX;rw[hm,hs];rfl
theorem lineX_all {b:Int}{cs lv:List Int}(hm:mayR b cs lv=true){n:Nat}(h:n=cs.length):lineX b cs lv 0 (n:Int)=(0,lineL b cs lv):=by have:=lineX_ok (f:=0) (t:=n) hm (Nat.zero_le _) (by omega);have hl:=(mayR_iff.1 hm).2.1;have e1:cutL cs ((0:Nat):Int) (n:Int)=cs:=cutL_all cs h;have e2:cutL lv ((0:Nat):Int) (n:Int)=lv:=cutL_all lv (by omega);rw[e1,e2]at this;exact this
end Go.Proofs.YtllolnkkepacjaaGreat
