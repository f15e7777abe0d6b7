/- Where lines are cut: the plain law. -/
import Derived.Test.YtplpbmkdfabfpaaGreatF3
namespace Go.Proofs.YtplpbmkdfabfpaaGreat
theorem clusT_sorted (l:List Int): ∀k i j,i<j→j<(clusT l k).length→(clusT l k).getD i 0<(clusT l k).getD j 0
 |0,i,j,_,h=>by simp[clusT]at h
 |k+1,i,j,hij,h=>by
  have ih:=clusT_sorted l k i j hij;have hm:=clusT_mem l k;unfold clusT at h⊢
  split at h
  ·rename_i hc
   rw[if_pos hc];simp only[List.length_append,List.length_singleton]at h
   by_cases hj:j<(clusT l k).length
   ·simp only[List.getD_eq_getElem?_getD,List.getElem?_append_left hj,List.getElem?_append_left (show i<(clusT l k).length by omega)]at ih⊢;exact ih hj
   ·have hj':j=(clusT l k).length:=by omega
    have h1:=hm _ (getD_mem (d:=0) (show i<(clusT l k).length by omega));simp only[List.getD_eq_getElem?_getD]at h1⊢;rw[List.getElem?_append_left (show i<(clusT l k).length by omega),hj',List.getElem?_append_right (Nat.le_refl _)]
    simpa using h1.2
  ·rename_i hc
   rw[if_neg hc];exact ih h
def posC (l:List Int)(j:Nat):Nat:=((clusL l).getD j (l.length:Int)).toNat
theorem posC_lt {l:List Int}{j:Nat}(h:j<(clusL l).length):(clusL l).getD j 0=(posC l j:Int)∧posC l j<l.length:=by
 have h1:=clusL_in l h
 have e:(clusL l).getD j (l.length:Int)=(clusL l).getD j 0:=by simp only[List.getD_eq_getElem?_getD,List.getElem?_eq_getElem h];rfl
 unfold posC;rw[e];omega
theorem posC_end (l:List Int):posC l (clusL l).length=l.length:=by unfold posC;rw[List.getD_eq_getElem?_getD,List.getElem?_eq_none (Nat.le_refl _)];simp
theorem posC_mono {l:List Int}{i j:Nat}(hij:i<j)(hj:j≤(clusL l).length):posC l i<posC l j:=by
 have h1:=posC_lt (l:=l) (j:=i) (by omega)
 by_cases h:j<(clusL l).length
 ·have h2:=posC_lt h;have h3:=clusT_sorted l l.length i j hij h;have e1:(clusT l l.length).getD i 0=(posC l i:Int):=h1.1;have e2:(clusT l l.length).getD j 0=(posC l j:Int):=h2.1;omega
 ·have:j=(clusL l).length:=by omega
  rw[this,posC_end];exact h1.2
theorem posC_le {l:List Int}{i j:Nat}(hij:i≤j)(hj:j≤(clusL l).length):posC l i≤posC l j:=by
 rcases Nat.lt_or_ge i j with h|h
 ·exact Nat.le_of_lt (posC_mono h hj)
 ·obtain rfl:i=j:=by omega
  exact Nat.le_refl _
theorem posC_lt_iff {l:List Int}{i j:Nat}(hi:i≤(clusL l).length)(hj:j≤(clusL l).length):posC l i<posC l j↔i<j:=by
 constructor
 ·intro h
  rcases Nat.lt_or_ge i j with h1|h1
  ·exact h1
  ·have:=posC_le h1 hi;omega
 ·intro h;exact posC_mono h hj
theorem clusT_first (l:List Int): ∀k,0<k→0<(clusT l k).length∧(clusT l k).getD 0 0=0
 |0,h=>by omega
 |1,_=>by simp[clusT]
 |k+2,_=>by
  have ih:=clusT_first l (k+1) (by omega);rw[clusT]
  split
  ·refine⟨by simp,?_⟩;rw[List.getD_eq_getElem?_getD,List.getElem?_append_left ih.1,←List.getD_eq_getElem?_getD];exact ih.2
  ·exact ih
theorem posC_zero (l:List Int):posC l 0=0:=by
 by_cases h:0<l.length
 ·obtain⟨h1,h2⟩:=clusT_first l l.length h;have:=posC_lt (l:=l) (j:=0) h1;have e:(clusL l).getD 0 0=0:=h2;omega
 ·have hl:l.length=0:=by omega
  have:(clusL l).length=0:=by have:=clusL_length l;omega
  have h2:=posC_end l;rw[this]at h2;omega
theorem clusL_pos {l:List Int}(h:0<l.length):0<(clusL l).length:=(clusT_first l l.length h).1
def psum (ws:List Int):Nat→Int
 |0=>0
 |k+1=>psum ws k+ws.getD k 0
def Fine (ws:List Int):Prop:= ∀x∈ws,0≤x∧x≤1048576
theorem Fine.at {ws:List Int}(h:Fine ws)(k:Nat):0≤ws.getD k 0∧ws.getD k 0≤1048576:=by
 by_cases hk:k<ws.length
 ·exact h _ (getD_mem hk)
 ·rw[List.getD_eq_getElem?_getD,List.getElem?_eq_none (by omega)];simp
theorem psum_le {ws:List Int}(h:Fine ws){i j:Nat}(hij:i≤j):psum ws i≤psum ws j:=by
 induction hij with
 |refl=>exact Int.le_refl _
 |step _ ih=>have:=h.at (ws:=ws);rw[psum];have:=this (by assumption);omega
theorem psum_bound {ws:List Int}(h:Fine ws): ∀k,0≤psum ws k∧psum ws k≤1048576*(k:Int)
 |0=>by simp[psum]
 |k+1=>by
  have ih:=psum_bound h k;have:=h.at k;rw[psum]
  push_cast
  omega
section
variable(l ws:List Int)
def PP (j:Nat):Int:=psum ws (posC l j)
def blkJ (j:Nat):Bool:=blkC (l.getD (posC l j) 0)
def Wd (a:Nat):Nat→Int
 |0=>0
 |k+1=>if k<a then 0 else if blkJ l k=true then Wd a k else PP l ws (k+1)-PP l ws a
def lastW (most:Int)(ok:Nat→Bool)(a:Nat):Nat→Nat
 |0=>0
 |k+1=>if a<k+1∧ok (k+1)=true∧Wd l ws a (k+1)≤most then k+1 else lastW most ok a k
def mayJ (k:Nat):Bool:=brkB l (clusL l) k
def nextC (most:Int)(a:Nat):Nat:=
 if Wd l ws a (clusL l).length≤most then(clusL l).length
 else if 0<lastW l ws most (mayJ l) a ((clusL l).length-1)then lastW l ws most (mayJ l) a ((clusL l).length-1)
 else if 0<lastW l ws most (fun _=>true) a ((clusL l).length-1)then lastW l ws most (fun _=>true) a ((clusL l).length-1)
 else a+1
end
section
variable{l ws:List Int} {most:Int} {ok:Nat→Bool} {a:Nat}
theorem PP_le (h:Fine ws){i j:Nat}(hij:i≤j)(hj:j≤(clusL l).length):PP l ws i≤PP l ws j:=psum_le h (posC_le hij hj)
theorem PP_bound (h:Fine ws)(hl:l.length≤1048576){j:Nat}(hj:j≤(clusL l).length):0≤PP l ws j∧PP l ws j≤1099511627776:=by have h1:=psum_bound h (posC l j);have h2:=posC_le hj (Nat.le_refl _);rw[posC_end]at h2;unfold PP;omega
theorem Wd_self:Wd l ws a a=0:=by
 cases a with
 |zero=>rfl
 |succ a=>rw[Wd,if_pos (by omega)]
theorem Wd_le (h:Fine ws): ∀k,a≤k→k≤(clusL l).length→0≤Wd l ws a k∧Wd l ws a k≤PP l ws k-PP l ws a:=by
 intro k hk hm
 induction hk with
 |refl=>rw[Wd_self];omega
 |step hk ih=>
  rename_i k
  have ih:=ih (by omega);change 0≤Wd l ws a (k+1)∧Wd l ws a (k+1)≤PP l ws (k+1)-PP l ws a;have h1:=PP_le (l:=l) h (show k≤k+1 by omega) hm;have h2:=PP_le (l:=l) h (show a≤k by assumption) (by omega)
  have hka:a≤k:=by assumption
  rw[Wd,if_neg (by omega)]
  split<;>omega
theorem Wd_mono (h:Fine ws){k:Nat}(hk:a≤k)(hm:k<(clusL l).length):Wd l ws a k≤Wd l ws a (k+1):=by
 have h1:=PP_le (l:=l) h (show k≤k+1 by omega) (by omega);have h2:=Wd_le (l:=l) h k hk (by omega);rw[Wd,if_neg (by omega)]
 split<;>omega
theorem Wd_up (h:Fine ws){k:Nat}(hk:a≤k): ∀j,k≤j→j≤(clusL l).length→Wd l ws a k≤Wd l ws a j:=by
 intro j hj
 induction hj with
 |refl=>intro _;exact Int.le_refl _
 |step hj ih=>
  rename_i j
  intro hm
  exact Int.le_trans (ih (by omega)) (Wd_mono h (by have:k≤j:=by assumption
                                                    omega) (by omega))
theorem lastW_le: ∀k,lastW l ws most ok a k≤k
 |0=>Nat.le_refl _
 |k+1=>by have:=lastW_le k;rw[lastW];split<;>omega
theorem lastW_gt: ∀k,0<lastW l ws most ok a k→a<lastW l ws most ok a k
 |0,h=>by simp[lastW]at h
 |k+1,h=>by
  rw[lastW]at h⊢
  split
  ·rename_i hc;exact hc.1
  ·rename_i hc;rw[if_neg hc]at h;exact lastW_gt k h
theorem lastW_cut {K:Nat}: ∀k,K≤k→(∀j,K<j→j≤k→most<Wd l ws a j)→lastW l ws most ok a k=lastW l ws most ok a K:=by
 intro k hk
 induction hk with
 |refl=>intro _;rfl
 |step hk ih=>
  rename_i k
  intro h
  have hk':K≤k:=by assumption
  rw[lastW,if_neg,ih (fun j h1 h2=>h j h1 (by omega))];rintro⟨_,_,h3⟩;have:=h (k+1) (by omega) (Nat.le_refl _);omega
theorem nextC_stop (h:Fine ws){K:Nat}(ha:a≤K)(hK:K<(clusL l).length)(hle:Wd l ws a K≤most)(hb:blkJ l K=false)(hgt:most<PP l ws (K+1)-PP l ws a):
 nextC l ws most a=if 0<lastW l ws most (mayJ l) a K then lastW l ws most (mayJ l) a K else if a<K then K else a+1:=by
 have h1:Wd l ws a (K+1)=PP l ws (K+1)-PP l ws a:=by rw[Wd,if_neg (by omega),if_neg (by simp[hb])]
 have h2: ∀j,K<j→j≤(clusL l).length→most<Wd l ws a j:=fun j h3 h4=>by have:=Wd_up (l:=l) h (show a≤K+1 by omega) j h3 h4;omega
 have h3:=h2 (clusL l).length hK (Nat.le_refl _);unfold nextC;rw[if_neg (by omega),lastW_cut (ok:=mayJ l) ((clusL l).length-1) (by omega) (fun j h4 h5=>h2 j h4 (by omega)),lastW_cut (ok:=fun _=>true) ((clusL l).length-1) (by omega) (fun j h4 h5=>h2 j h4 (by omega))]
 have h4:lastW l ws most (fun _=>true) a K=if a<K then K else 0:=by
  cases K with
  |zero=>simp[lastW]
  |succ k=>
   rw[lastW]
   by_cases hak:a<k+1
   ·rw[if_pos ⟨hak,rfl,hle⟩,if_pos hak]
   ·rw[if_neg (fun e=>hak e.1),if_neg hak];have h6:=lastW_le (l:=l) (ws:=ws) (most:=most) (ok:=fun _=>true) (a:=a) k
    by_cases h7:0<lastW l ws most (fun _=>true) a k
    ·have:=lastW_gt k h7;omega
    ·omega
 rw[h4]
 by_cases hak:a<K
 ·rw[if_pos hak,if_pos (show 0<K by omega),if_pos hak]
 ·simp only[if_neg hak,Nat.lt_irrefl,if_false]
theorem nextC_end (h:Wd l ws a (clusL l).length≤most):nextC l ws most a=(clusL l).length:=if_pos h
theorem nextC_gt (ha:a<(clusL l).length):a<nextC l ws most a∧nextC l ws most a≤(clusL l).length:=by
 have h1:=lastW_le (l:=l) (ws:=ws) (most:=most) (ok:=mayJ l) (a:=a) ((clusL l).length-1);have h2:=lastW_le (l:=l) (ws:=ws) (most:=most) (ok:=fun _=>true) (a:=a) ((clusL l).length-1);have h3:=lastW_gt (l:=l) (ws:=ws) (most:=most) (ok:=mayJ l) (a:=a) ((clusL l).length-1);have h4:=lastW_gt (l:=l) (ws:=ws) (most:=most) (ok:=fun _=>true) (a:=a) ((clusL l).length-1);unfold nextC
 split
 ·omega
 ·split
  ·rename_i h5;have:=h3 h5;omega
  ·split
   ·rename_i h5;have:=h4 h5;omega
   ·omega
def cutF (l ws:List Int)(most:Int):Nat→Nat→List Nat
 |0,_=>[]
 |f+1,k=>if k<(clusL l).length then k::cutF l ws most f (nextC l ws most k)else []
def cutX (l ws:List Int)(most:Int):List Nat:=cutF l ws most (clusL l).length 0
theorem cutF_more: ∀f f' k,(clusL l).length≤k+f→(clusL l).length≤k+f'→cutF l ws most f k=cutF l ws most f' k
 |0,0,_,_,_=>rfl
 |0,f'+1,k,h,_=>by rw[cutF,cutF,if_neg (by omega)]
 |f+1,0,k,_,h=>by rw[cutF,cutF,if_neg (by omega)]
 |f+1,f'+1,k,h1,h2=>by
  rw[cutF,cutF]
  split
  ·rename_i hk
   have:=nextC_gt (l:=l) (ws:=ws) (most:=most) hk;rw[cutF_more f f' _ (by omega) (by omega)]
  ·rfl
theorem cutF_step {k f:Nat}(hk:k<(clusL l).length)(hf:(clusL l).length≤k+f):cutF l ws most f k=k::cutF l ws most f (nextC l ws most k):=by have h1:=nextC_gt (l:=l) (ws:=ws) (most:=most) hk;rw[cutF_more f (f+1) k hf (by omega),cutF,if_pos hk]
theorem cutF_end {k f:Nat}(hk:(clusL l).length≤k):cutF l ws most f k=[]:=by
 cases f with
 |zero=>rfl
 |succ f=>rw[cutF,if_neg (by omega)]
theorem cutF_length: ∀f k,(cutF l ws most f k).length≤f
 |0,_=>by simp[cutF]
 |f+1,k=>by
  have:=cutF_length f (nextC l ws most k);rw[cutF]
  split<;>simp<;>omega
end
end Go.Proofs.YtplpbmkdfabfpaaGreat
