/- Rules W1 to W7 as plain functions: one pass from left to right each, with a state. Rules W1 to W7 as the reference makes them, place by place in the list that is turned: the same. -/
import Derived.Test.YtllolnkkepacjaaGreatKit3
namespace Go.Proofs.YtllolnkkepacjaaGreat
section
section
variable{σ:Type} (g:σ→Int→List Int→Int×σ)
def passW:σ→List Int→List Int
 |_,[]=>[]
 |s,c::l=>(g s c l).1::passW (g s c l).2 l
def stW:σ→List Int→Nat→σ
 |s,_,0=>s
 |s,[],_+1=>s
 |s,c::l,k+1=>stW (g s c l).2 l k
variable{g}
theorem scan_len: ∀(s:σ) (l:List Int),(passW g s l).length=l.length
 |_,[]=>rfl
 |s,c::l=>by unfold passW;rw[List.length_cons,List.length_cons,scan_len]
theorem scan_at: ∀(s:σ) (l:List Int) (k:Nat),k<l.length→(passW g s l).getD k 0=(g (stW g s l k) (l.getD k 0) (l.drop (k+1))).1
 |_,[],_,h=>by simp at h
 |s,c::l,0,_=>rfl
 |s,c::l,k+1,h=>by
  have:=scan_at (g s c l).2 l k (by simpa using h);unfold passW stW
  simpa using this
theorem stW_succ: ∀(s:σ) (l:List Int) (k:Nat),k<l.length→stW g s l (k+1)=(g (stW g s l k) (l.getD k 0) (l.drop (k+1))).2
 |_,[],_,h=>by simp at h
 |s,c::l,0,_=>by unfold stW;rcases l with _|_<;>rfl
 |s,c::l,k+1,h=>by
  have:=stW_succ (g s c l).2 l k (by simpa using h);show stW g (g s c l).2 l (k+1)=(g (stW g (g s c l).2 l k) _ _).2;rw[this];simp
def curW (g:σ→Int→List Int→Int×σ)(s:σ)(l:List Int)(k:Nat):List Int:=(passW g s l).take k++l.drop k
theorem curW_len (s:σ)(l:List Int)(k:Nat):(curW g s l k).length=l.length:=by unfold curW;rw[List.length_append,List.length_take,List.length_drop,scan_len];omega
theorem curW_zero (s:σ)(l:List Int):curW g s l 0=l:=by simp[curW]
theorem curW_end (s:σ)(l:List Int){k:Nat}(h:l.length≤k):curW g s l k=passW g s l:=by unfold curW;rw[List.take_of_length_le (by rw[scan_len];exact h),List.drop_eq_nil_of_le h,List.append_nil]
theorem curW_ge (s:σ)(l:List Int){k i:Nat}(hk:k≤l.length)(h:k≤i):(curW g s l k).getD i 0=l.getD i 0:=by
 have hl:((passW g s l).take k).length=k:=by rw[List.length_take,scan_len];omega
 unfold curW;rw[List.getD_eq_getElem?_getD,List.getElem?_append_right (by omega),hl,List.getElem?_drop,List.getD_eq_getElem?_getD];congr 2;omega
theorem curW_lt (s:σ)(l:List Int){k i:Nat}(hk:k≤l.length)(h:i<k):(curW g s l k).getD i 0=(passW g s l).getD i 0:=by
 have hl:((passW g s l).take k).length=k:=by rw[List.length_take,scan_len];omega
 unfold curW;rw[List.getD_eq_getElem?_getD,List.getElem?_append_left (by omega),List.getElem?_take,if_pos h,List.getD_eq_getElem?_getD]
theorem ext_getDW {a b:List Int}(hl:a.length=b.length)(h: ∀i,i<a.length→a.getD i 0=b.getD i 0):a=b:=by apply List.ext_getElem hl;intro i h1 h2;have:=h i h1;rw[List.getD_eq_getElem?_getD,List.getElem?_eq_getElem h1,List.getD_eq_getElem?_getD,List.getElem?_eq_getElem h2]at this;exact this
theorem getD_setW (l:List Int)(i j:Nat)(x:Int):(l.set i x).getD j 0=if i=j∧i<l.length then x else l.getD j 0:=by
 rw[List.getD_eq_getElem?_getD,List.getElem?_set,List.getD_eq_getElem?_getD]
 by_cases h:i=j
 ·subst h
  by_cases h2:i<l.length
  ·rw[if_pos rfl,if_pos h2,if_pos ⟨rfl,h2⟩];rfl
  ·rw[if_pos rfl,if_neg h2,if_neg (fun e=>h2 e.2),List.getElem?_eq_none (by omega)]
 ·rw[if_neg h,if_neg (fun e=>h e.1)]
theorem curW_set (s:σ)(l:List Int){k:Nat}(hk:k<l.length):(curW g s l k).set k ((g (stW g s l k) (l.getD k 0) (l.drop (k+1))).1)=curW g s l (k+1):=by
 refine ext_getDW (by rw[List.length_set,curW_len,curW_len]) fun i hi=> ?_;rw[List.length_set,curW_len]at hi;rw[getD_setW,curW_len]
 by_cases h:k=i
 ·subst h;rw[if_pos ⟨rfl,hk⟩,curW_lt s l (by omega) (by omega),scan_at s l k hk]
 ·rw[if_neg (fun e=>h e.1)]
  by_cases h2:i<k
  ·rw[curW_lt s l (by omega) h2,curW_lt s l (by omega) (by omega)]
  ·rw[curW_ge s l (by omega) (by omega),curW_ge s l (by omega) (by omega)]
theorem curW_same (s:σ)(l:List Int){k:Nat}(hk:k<l.length)(h:(g (stW g s l k) (l.getD k 0) (l.drop (k+1))).1=l.getD k 0):curW g s l k=curW g s l (k+1):=by
 refine ext_getDW (by rw[curW_len,curW_len]) fun i hi=> ?_;rw[curW_len]at hi
 by_cases h2:i<k
 ·rw[curW_lt s l (by omega) h2,curW_lt s l (by omega) (by omega)]
 ·by_cases h3:i=k
  ·subst h3;rw[curW_ge s l (by omega) (by omega),curW_lt s l (by omega) (by omega),scan_at s l i hk,h]
  ·rw[curW_ge s l (by omega) (by omega),curW_ge s l (by omega) (by omega)]
end
def isoK (c:Int):Bool:=c==20||c==21||c==22||c==23
def nxE:List Int→Int
 |[]=>0
 |c::l=>if c=6 then nxE l else c
def g1 (p c:Int)(_:List Int):Int×Int:=if c=9 then(if isoK p=true then(14,14)else(p,p))else(c,c)
def g2 (s c:Int)(_:List Int):Int×Int:=(if c=4∧s=3 then 7 else c,if c=1∨c=2∨c=3 then c else s)
def g3 (s c:Int)(_:List Int):Int×Int:=(if c=3 then 2 else c,s)
def g4 (p c:Int)(r:List Int):Int×Int:=if(c=5∨c=8)∧p=r.headD 0∧(p=4∨(p=7∧c=8))then(p,p)else(c,c)
def g5 (p c:Int)(r:List Int):Int×Int:=if c=6 then(if p=4∨nxE r=4 then(4,4)else(6,p))else(c,c)
def g6 (s c:Int)(_:List Int):Int×Int:=(if c=5∨c=6∨c=8 then 14 else c,s)
def g7 (s c:Int)(_:List Int):Int×Int:=(if c=4∧s=1 then 1 else c,if c=1∨c=2 then c else s)
def ruleL (n:Nat)(sos:Int)(l:List Int):List Int:=
 match n with
 |1=>passW g1 sos l
 |2=>passW g2 sos l
 |3=>passW g3 0 l
 |4=>passW g4 0 l
 |5=>passW g5 0 l
 |6=>passW g6 0 l
 |7=>passW g7 sos l
 |_=>l
def rulesL (sos:Int)(l:List Int):Nat→List Int
 |0=>l
 |n+1=>ruleL (n+1) sos (rulesL sos l n)
def weakL (sos:Int)(l:List Int):List Int:=rulesL sos l 7
theorem ruleL_len (n:Nat)(sos:Int)(l:List Int):(ruleL n sos l).length=l.length:=by
 unfold ruleL
 split<;>first|exact scan_len _ _|rfl
theorem rulesL_len (sos:Int)(l:List Int): ∀n,(rulesL sos l n).length=l.length
 |0=>rfl
 |n+1=>by unfold rulesL;rw[ruleL_len,rulesL_len sos l n]
end
section
def lookB (P:Int→Bool)(l:List Int)(sos:Int):Nat→Int
 |0=>sos
 |k+1=>if P (l.getD k 0)=true then l.getD k 0 else lookB P l sos k
def backN (l:List Int):Nat→Int
 |0=>0
 |k+1=>if l.getD k 0=6 then backN l k else l.getD k 0
def str3 (c:Int):Bool:=c==2||c==1||c==3
def str2 (c:Int):Bool:=c==2||c==1
def prK (l:List Int)(i:Nat):Int:=if i=0 then 0 else l.getD (i-1) 0
def placeF (n:Nat)(l:List Int)(sos:Int)(i:Nat):Int:=
 let c:=l.getD i 0
 if n=1∧c=9 then(if i=0 then sos else if isoK (l.getD (i-1) 0)=true then 14 else l.getD (i-1) 0)
 else if n=2∧c=4 then(if lookB str3 l sos i=3 then 7 else c)
 else if n=3∧c=3 then 2
 else if n=4∧(c=5∨c=8)then(if prK l i=4∧l.getD (i+1) 0=4 then 4 else if c=8∧prK l i=7∧l.getD (i+1) 0=7 then 7 else c)
 else if n=5∧c=6 then(if backN l i=4∨nxE (l.drop (i+1))=4 then 4 else c)
 else if n=6∧(c=5∨c=6∨c=8)then 14
 else if n=7∧c=4 then(if lookB str2 l sos i=1 then 1 else c)
 else c
theorem lookB_ext {P:Int→Bool}{a b:List Int}{sos:Int}: ∀k,(∀i,i<k→a.getD i 0=b.getD i 0)→lookB P a sos k=lookB P b sos k
 |0,_=>rfl
 |k+1,h=>by
  unfold lookB;rw[h k (by omega),lookB_ext k (fun i hi=>h i (by omega))]
theorem backN_ext {a b:List Int}: ∀k,(∀i,i<k→a.getD i 0=b.getD i 0)→backN a k=backN b k
 |0,_=>rfl
 |k+1,h=>by
  unfold backN;rw[h k (by omega),backN_ext k (fun i hi=>h i (by omega))]
theorem drop_cur {σ:Type}{g:σ→Int→List Int→Int×σ}(s:σ)(l:List Int){k:Nat}(hk:k≤l.length):(curW g s l k).drop (k+1)=l.drop (k+1):=by
 have hl:((passW g s l).take k).length=k:=by rw[List.length_take,scan_len];omega
 unfold curW;rw[List.drop_append,hl,List.drop_drop,List.drop_eq_nil_of_le (by omega),List.nil_append];congr 1;omega
theorem st1 (sos:Int)(l:List Int): ∀k,k≤l.length→stW g1 sos l k=if k=0 then sos else(passW g1 sos l).getD (k-1) 0
 |0,_=>by unfold stW;simp
 |k+1,h=>by
  rw[stW_succ _ _ _ (by omega),if_neg (by omega),Nat.add_sub_cancel,scan_at _ _ _ (by omega)];unfold g1
  (repeat' split)<;>rfl
theorem st4 (l:List Int): ∀k,k≤l.length→stW g4 0 l k=prK (passW g4 0 l) k
 |0,_=>by unfold stW prK;simp
 |k+1,h=>by
  unfold prK;rw[stW_succ _ _ _ (by omega),if_neg (by omega),Nat.add_sub_cancel,scan_at _ _ _ (by omega)];unfold g4
  split<;>rfl
theorem st2 (sos:Int)(l:List Int): ∀k,k≤l.length→stW g2 sos l k=lookB str3 (passW g2 sos l) sos k
 |0,_=>by unfold stW lookB;rfl
 |k+1,h=>by
  unfold lookB;rw[stW_succ _ _ _ (by omega),←st2 sos l k (by omega),scan_at _ _ _ (by omega)];generalize stW g2 sos l k=s;generalize l.getD k 0=c;unfold g2 str3;simp only
  by_cases h1:c=4∧s=3
  ·rw[if_pos h1,if_neg (by omega)];simp
  ·rw[if_neg h1]
   by_cases h2:c=1∨c=2∨c=3
   ·rw[if_pos h2,if_pos (by simp;omega)]
   ·rw[if_neg h2,if_neg (by simp;omega)]
theorem st7 (sos:Int)(l:List Int): ∀k,k≤l.length→stW g7 sos l k=lookB str2 (passW g7 sos l) sos k
 |0,_=>by unfold stW lookB;rfl
 |k+1,h=>by
  unfold lookB;rw[stW_succ _ _ _ (by omega),←st7 sos l k (by omega),scan_at _ _ _ (by omega)];generalize stW g7 sos l k=s;generalize l.getD k 0=c;unfold g7 str2;simp only
  by_cases h1:c=4∧s=1
  ·rw[if_pos h1,if_neg (by omega)];simp;omega
  ·rw[if_neg h1]
   by_cases h2:c=1∨c=2
   ·rw[if_pos h2,if_pos (by simp;omega)]
   ·rw[if_neg h2,if_neg (by simp;omega)]
theorem st5 (l:List Int): ∀k,k≤l.length→stW g5 0 l k=backN (passW g5 0 l) k
 |0,_=>by unfold stW backN;rfl
 |k+1,h=>by
  unfold backN;rw[stW_succ _ _ _ (by omega),←st5 l k (by omega),scan_at _ _ _ (by omega)];generalize stW g5 0 l k=s;generalize l.getD k 0=c;unfold g5
  by_cases h1:c=6
  ·rw[if_pos h1]
   split
   ·rw[if_neg (by decide)]
   ·rw[if_pos rfl]
  ·rw[if_neg h1,if_neg h1]
theorem nx_head (l:List Int)(i:Nat):l.getD (i+1) 0=(l.drop (i+1)).headD 0:=by
 rw[List.getD_eq_getElem?_getD]
 rcases h:l.drop (i+1)with _|⟨x,r⟩
 ·rw[List.getElem?_eq_none (by have:=congrArg List.length h;rw[List.length_drop]at this;simp at this;omega)];rfl
 ·have:=congrArg (·[0]?) h;rw[List.getElem?_drop]at this;simp only[Nat.add_zero]at this;rw[this];rfl
theorem place_at (n:Nat){sos:Int}(hs:isoK sos=false)(l:List Int){k:Nat}(hk:k<l.length):1≤n→n≤7→
 (n=1→placeF 1 (curW g1 sos l k) sos k=(passW g1 sos l).getD k 0)∧(n=2→placeF 2 (curW g2 sos l k) sos k=(passW g2 sos l).getD k 0)∧(n=3→placeF 3 (curW g3 0 l k) sos k=(passW g3 0 l).getD k 0)∧
 (n=4→placeF 4 (curW g4 0 l k) sos k=(passW g4 0 l).getD k 0)∧(n=5→placeF 5 (curW g5 0 l k) sos k=(passW g5 0 l).getD k 0)∧(n=6→placeF 6 (curW g6 0 l k) sos k=(passW g6 0 l).getD k 0)∧(n=7→placeF 7 (curW g7 sos l k) sos k=(passW g7 sos l).getD k 0):=by
 intro _ _;refine⟨fun _=> ?_,fun _=> ?_,fun _=> ?_,fun _=> ?_,fun _=> ?_,fun _=> ?_,fun _=> ?_⟩
 all_goals
  rw[scan_at _ _ _ hk];unfold placeF;simp only[show(2:Nat)≠1 by decide,show(3:Nat)≠1 by decide,show(3:Nat)≠2 by decide,show(4:Nat)≠1 by decide,show(4:Nat)≠2 by decide,show(4:Nat)≠3 by decide,show(5:Nat)≠1 by decide,show(5:Nat)≠2 by decide,show(5:Nat)≠3 by decide,show(5:Nat)≠4 by decide,show(6:Nat)≠1 by decide,show(6:Nat)≠2 by decide,show(6:Nat)≠3 by decide,show(6:Nat)≠4 by decide,show(6:Nat)≠5 by decide,show(7:Nat)≠1 by decide,show(7:Nat)≠2 by decide,show(7:Nat)≠3 by decide,show(7:Nat)≠4 by decide,show(7:Nat)≠5 by decide,show(7:Nat)≠6 by decide,show(1:Nat)≠2 by decide,show(1:Nat)≠3 by decide,show(1:Nat)≠4 by decide,show(1:Nat)≠5 by decide,show(1:Nat)≠6 by decide,show(1:Nat)≠7 by decide,show(2:Nat)≠3 by decide,show(2:Nat)≠4 by decide,show(2:Nat)≠5 by decide,show(2:Nat)≠6 by decide,show(2:Nat)≠7 by decide,show(3:Nat)≠4 by decide,show(3:Nat)≠5 by decide,show(3:Nat)≠6 by decide,show(3:Nat)≠7 by decide,show(4:Nat)≠5 by decide,show(4:Nat)≠6 by decide,show(4:Nat)≠7 by decide,show(5:Nat)≠6 by decide,show(5:Nat)≠7 by decide,show(6:Nat)≠7 by decide,false_and,true_and,if_false];rw[curW_ge _ l (by omega) (Nat.le_refl k)]
 ·rw[st1 sos l k (by omega)];unfold g1
  by_cases h:l.getD k 0=9
  ·rw[if_pos h,if_pos h]
   by_cases h0:k=0
   ·rw[if_pos h0,if_pos h0,hs];rfl
   ·rw[if_neg h0,if_neg h0,curW_lt _ l (by omega) (by omega)]
    split<;>rfl
  ·rw[if_neg h,if_neg h]
 ·rw[st2 sos l k (by omega),lookB_ext k (fun i hi=>curW_lt sos l (by omega) hi)];generalize lookB str3 (passW g2 sos l) sos k=s;unfold g2
  by_cases h:l.getD k 0=4
  ·rw[if_pos h]
   by_cases h2:s=3
   ·rw[if_pos h2];simp only;rw[if_pos ⟨h,h2⟩]
   ·rw[if_neg h2];simp only;rw[if_neg (fun e=>h2 e.2)]
  ·rw[if_neg h];simp only;rw[if_neg (fun e=>h e.1)]
 ·rfl
 ·have hp:prK (curW g4 0 l k) k=prK (passW g4 0 l) k:=by
   unfold prK
   split
   ·rfl
   ·exact curW_lt 0 l (by omega) (by omega)
  rw[st4 l k (by omega),hp,curW_ge _ l (by omega) (Nat.le_succ k),nx_head];generalize prK (passW g4 0 l) k=p;unfold g4;generalize (l.drop (k+1)).headD 0=x;generalize l.getD k 0=c
  (repeat' split)<;>simp only<;>omega
 ·rw[st5 l k (by omega),backN_ext k (fun i hi=>curW_lt 0 l (by omega) hi),drop_cur _ l (by omega)];unfold g5
  by_cases h:l.getD k 0=6
  ·rw[if_pos h,if_pos h]
   split<;>first|rfl|exact h
  ·rw[if_neg h,if_neg h]
 ·rfl
 ·rw[st7 sos l k (by omega),lookB_ext k (fun i hi=>curW_lt sos l (by omega) hi)];generalize lookB str2 (passW g7 sos l) sos k=s;unfold g7
  by_cases h:l.getD k 0=4
  ·rw[if_pos h]
   by_cases h2:s=1
   ·rw[if_pos h2];simp only;rw[if_pos ⟨h,h2⟩]
   ·rw[if_neg h2];simp only;rw[if_neg (fun e=>h2 e.2)]
  ·rw[if_neg h];simp only;rw[if_neg (fun e=>h e.1)]
end
end Go.Proofs.YtllolnkkepacjaaGreat
