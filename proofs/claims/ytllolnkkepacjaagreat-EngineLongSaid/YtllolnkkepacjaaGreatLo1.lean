/- Paragraphs of one class throughout: plainly. -/
import Derived.Test.YtllolnkkepacjaaGreatEn4
import Derived.Test.YtllolnkkepacjaaGreatKn2
namespace Go.Proofs.YtllolnkkepacjaaGreat
open Go.RowKit
theorem rep_getD {n i:Nat}(h:i<n)(c:Int):(List.replicate n c).getD i 0=c:=by rw[List.getD_eq_getElem?_getD,List.getElem?_replicate,if_pos h];rfl
theorem paraB_all {cl:List Int}(rs:List Int)(h: ∀i,i<cl.length→cl.getD i 0≠11):paraB cl rs=true:=paraB_yes fun i hi=>by
 unfold okB
 have:(cl.getD i 0 !=11)=true:=by simpa using h i hi
 rw[this];rfl
theorem lvlB_rep {n:Nat}(hn:0<n){c:Int}(hc:str3L c=true):lvlB (List.replicate n c) (-1)=if c=1 then 0 else 1:=by
 obtain⟨m,rfl⟩: ∃m,n=m+1:=⟨n-1,by omega⟩
 have e:fsAt (List.replicate (m+1) c) 0=some 0:=by unfold fsAt;rw[show(List.replicate (m+1) c).length-0=m+1 by simp];unfold fsT;rw[if_neg (by simp),if_pos (by rw[rep_getD (by omega)];exact hc)]
 unfold lvlB;rw[if_neg (by decide),if_neg (by decide),e];simp only;rw[rep_getD (by omega)]
theorem long_c {n:Nat}(h0:0<n)(h1:n≤1048576):classesX (List.replicate n 2) (-1)=⟨0,1,List.replicate n 2,List.replicate n 1⟩:=by
 have e0:(List.replicate n (2:Int)).map clsC=List.replicate n 2:=by rw[List.map_replicate];rfl
 unfold classesX;rw[if_neg (by simp[okBase]),if_neg (by rw[List.length_replicate];omega),e0,paraB_all _ (fun i hi=>by rw[rep_getD (by simpa using hi)];decide),if_neg (by decide),lvlB_rep h0 rfl];rw[if_neg (by decide)];have hcl: ∀i,i<(List.replicate n (2:Int)).length→(List.replicate n (2:Int)).getD i 0=2:=fun i hi=>rep_getD (by simpa using hi) 2;refine res4 rfl rfl rfl ?_;refine ext_getDW (by rw[levE_len,exL_len];simp) fun i hi=> ?_;rw[levE_len,exL_len]at hi;have hb:(1:Int)=0∨(1:Int)=1:=.inr rfl
 have hs: ∀(c au:Int),c=2→(stepS 1 ⟨[⟨1,0,false⟩],0,0,0⟩ c au).s=⟨[⟨1,0,false⟩],0,0,0⟩∧(stepS 1 ⟨[⟨1,0,false⟩],0,0,0⟩ c au).lv=1∧(stepS 1 ⟨[⟨1,0,false⟩],0,0,0⟩ c au).cl=2:=fun c au e=>by subst e;exact⟨rfl,rfl,rfl⟩
 have hrun: ∀(au:Nat→Int) k,k≤(List.replicate n (2:Int)).length→(runS 1 (List.replicate n 2) au k).1=⟨[⟨1,0,false⟩],0,0,0⟩:=fun au k=>by
  induction k with
  |zero=>intro _;rfl
  |succ k ih=>
   intro hk;show(stepS 1 (runS 1 _ au k).1 _ (au k)).s=_;rw[ih (by omega)];exact(hs _ _ (hcl k (by omega))).1
 have hex: ∀i,i<(List.replicate n (2:Int)).length→(exL 1 (List.replicate n 2)).getD i 0=1∧(exC 1 (List.replicate n 2)).getD i 0=2:=fun i hi=>by obtain⟨h1,h2⟩:=runS_get (base:=1) (l:=List.replicate n 2) (au:=auP (List.replicate n 2)) (List.replicate n (2:Int)).length hi;unfold exL exC;rw[h1,h2,hrun _ i (by omega)];exact(hs _ _ (hcl i hi)).2
 obtain⟨s,_,k,hk,q1,q2,q3,q4⟩:=levE_kept hb (List.replicate n 2) keeps_C hi (by rw[hcl i hi];rfl);rw[q4,q3,(hex i hi).1];rw[(stpC_strong q2 (by have:=(chk_edges q2).2.2.2.2.1;omega)).2 (by rw[q1,(hex i hi).2];exact .inl rfl)];rw[rep_getD (by simpa using hi)];rfl
theorem find_none {ch:List Chr}{rs:List Int}{s:Sq}(h: ∀i,(brL ch (runC (rs.getD i 0))).2=0):findF ch rs s=[]:=by
 have h1: ∀i,mk1 ch rs s i=[]:=fun i=>by
  unfold mk1;simp only[h]
  split<;>rfl
 have h2: ∀k,mkT ch rs s k=[]:=fun k=>by
  induction k with
  |zero=>rfl
  |succ k ih=>show mkT ch rs s k++mk1 ch rs s k=[];rw[ih,h1];rfl
 unfold findF fdT;rw[h2]
 split<;>rfl
theorem brS_none {ch:List Chr}{rs fs:List Int}{s:Sq}(h: ∀i,(brL ch (runC (rs.getD i 0))).2=0):(stpR ch rs fs s).cs=(stpC s).cs:=by unfold stpR brS;rw[find_none h];rfl
theorem long_r {n:Nat}(h0:0<n)(h1:n≤1048576):runesX 14 knP (List.replicate n 97) (-1)=⟨0,0,List.replicate n 1,List.replicate n 0⟩:=by
 have e0:clsL 14 knP (List.replicate n (97:Int))=List.replicate n 1:=by unfold clsL;rw[List.map_replicate];rfl
 unfold runesX;rw[if_neg (by simp[okBase]),if_neg (by rw[List.length_replicate];omega),e0,paraB_all _ (fun i hi=>by rw[rep_getD (by simpa using hi)];decide),if_neg (by decide),lvlB_rep h0 rfl];rw[if_pos rfl];refine res4 rfl rfl rfl ?_;refine ext_getDW (by rw[levE_len,exL_len];simp) fun i hi=> ?_;rw[levE_len,exL_len]at hi
 have hcl: ∀i,i<(List.replicate n (1:Int)).length→plP ((List.replicate n (1:Int)).getD i 0):=fun i hi=>by rw[rep_getD (by simpa using hi) 1];exact .inl rfl
 rw[pl_lev hcl (keeps_R _ _ _) (fun s _=>brS_none (fun i=> ?_)) hi,rep_getD (by simpa using hi)];rw[List.getD_eq_getElem?_getD,List.getElem?_replicate]
 split<;>rfl
theorem long_no {n:Nat}(h1:1048576<n):(classesX (List.replicate n 2) (-1))=Res.no 4∧runesX 14 knP (List.replicate n 97) (-1)=Res.no 4:=by unfold classesX runesX;rw[if_neg (by simp[okBase]),if_pos (by rw[List.length_replicate];exact h1),if_neg (by simp[okBase]),if_pos (by rw[List.length_replicate];exact h1)];exact⟨rfl,rfl⟩
end Go.Proofs.YtllolnkkepacjaaGreat
