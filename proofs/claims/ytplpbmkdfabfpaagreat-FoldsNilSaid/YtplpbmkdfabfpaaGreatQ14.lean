/- Stable sorting of pairs by their first number: insertion and merging, as plain functions. A row of pairs of numbers in a block: its cells, a pair that is stored, two that are exchanged, two ranges that are exchanged. swapRange of pairs walked. rotate of pairs walked. The comparison of two pairs walked. insertionSort of pairs walked. insertionSort of pairs walked. Sorted rows and the places that a binary search ends at. symMerge of pairs walked: one on the left. symMerge of pairs walked: one on the right. symMerge of pairs: what the binary search of the general case has found. symMerge of pairs walked. symMerge of pairs, of any size. Stable sorting of pairs walked: by blocks. -/
import Derived.Test.YtplpbmkdfabfpaaGreatKit3
import Derived.WalkKit
import Derived.BigRegion
import Derived.IntWalk
import Derived.Deep.RegionHeld3
import Derived.BigQuiet
import Derived.Deep.QuietTactic
set_option maxRecDepth 100000
set_option maxHeartbeats 4000000
namespace Go.Proofs.YtplpbmkdfabfpaaGreat
open Go.RowKit
section
def ins (x:Int×Int):List (Int×Int)→List (Int×Int)
 |[]=>[x]
 |y::t=>if y.1≤x.1 then y::ins x t else x::y::t
def ssort (l:List (Int×Int)):List (Int×Int):=l.foldl (fun a x=>ins x a) []
def mrg:List (Int×Int)→List (Int×Int)→List (Int×Int)
 |[],R=>R
 |x::L,[]=>x::L
 |x::L,y::R=>if y.1<x.1 then y::mrg (x::L) R else x::mrg L (y::R)
termination_by L R=>L.length+R.length
def Srt (l:List (Int×Int)):Prop:=l.Pairwise (fun a b=>a.1≤b.1)
theorem mrg_nil: ∀L:List (Int×Int),mrg L []=L
 |[]=>by rw[mrg]
 |x::L=>by rw[mrg]
theorem nil_mrg (R:List (Int×Int)):mrg [] R=R:=by rw[mrg]
theorem mrg_cons (x y:Int×Int)(L R:List (Int×Int)):mrg (x::L) (y::R)=if y.1<x.1 then y::mrg (x::L) R else x::mrg L (y::R):=by rw[mrg]
theorem ins_length (x:Int×Int): ∀l,(ins x l).length=l.length+1
 |[]=>rfl
 |y::t=>by
  unfold ins
  split
  ·simp[ins_length x t]
  ·simp
theorem ssort_snoc (l:List (Int×Int))(x:Int×Int):ssort (l++[x])=ins x (ssort l):=by simp[ssort]
theorem snoc_ind {p:List (Int×Int)→Prop}(h0:p [])(h1: ∀l x,p l→p (l++[x])): ∀l,p l:=by
 intro l
 have: ∀n (l:List (Int×Int)),l.length=n→p l:=by
  intro n
  induction n with
  |zero=>intro l hl;have:=List.length_eq_zero_iff.1 hl;subst this;exact h0
  |succ n ih=>
   intro l hl
   have hne:l≠[]:=by intro e;subst e;simp at hl
   rw[←List.dropLast_concat_getLast hne];exact h1 _ _ (ih _ (by simp[hl]))
 exact this _ l rfl
theorem ssort_length: ∀l,(ssort l).length=l.length:=by refine snoc_ind rfl fun l x h=> ?_;rw[ssort_snoc,ins_length,h];simp
theorem mem_ins {x z:Int×Int}: ∀{l:List (Int×Int)},z∈ins x l↔z=x∨z∈l
 |[]=>by simp[ins]
 |y::t=>by
  unfold ins
  split
  ·rw[List.mem_cons,mem_ins,List.mem_cons];constructor
   ·rintro(h|h|h)
    ·exact .inr (.inl h)
    ·exact .inl h
    ·exact .inr (.inr h)
   ·rintro(h|h|h)
    ·exact .inr (.inl h)
    ·exact .inl h
    ·exact .inr (.inr h)
  ·rw[List.mem_cons]
theorem mem_ssort {z:Int×Int}: ∀l:List (Int×Int),z∈ssort l↔z∈l:=by refine snoc_ind (by simp[ssort]) fun l x h=> ?_;rw[ssort_snoc,mem_ins,h,List.mem_append,List.mem_singleton];exact Or.comm
theorem ins_srt {x:Int×Int}: ∀{l:List (Int×Int)},Srt l→Srt (ins x l)
 |[],_=>by simp[ins,Srt]
 |y::t,h=>by
  unfold Srt at h;rw[List.pairwise_cons]at h;unfold ins
  split
  ·rename_i hy
   unfold Srt;rw[List.pairwise_cons];refine⟨fun z hz=> ?_,ins_srt h.2⟩
   rcases mem_ins.1 hz with rfl|hz
   ·exact hy
   ·exact h.1 z hz
  ·rename_i hy
   unfold Srt;rw[List.pairwise_cons,List.pairwise_cons];refine⟨fun z hz=> ?_,h⟩
   rcases List.mem_cons.1 hz with rfl|hz
   ·omega
   ·have:=h.1 z hz;omega
theorem ssort_srt: ∀l,Srt (ssort l):=by refine snoc_ind (by simp[ssort,Srt]) fun l x h=> ?_;rw[ssort_snoc];exact ins_srt h
theorem ins_mid {x:Int×Int}: ∀{l r:List (Int×Int)},(∀y∈l,y.1≤x.1)→(∀y∈r,x.1<y.1)→ins x (l++r)=l++x::r
 |[],[],_,_=>rfl
 |[],y::r,_,h=>by
  have:=h y List.mem_cons_self;show ins x (y::r)=x::y::r;unfold ins;rw[if_neg (by omega)]
 |y::l,r,h,h2=>by
  have:=h y List.mem_cons_self;show ins x (y::(l++r))=y::(l++x::r);unfold ins;rw[if_pos this,ins_mid (fun z hz=>h z (List.mem_cons_of_mem _ hz)) h2]
theorem srt_cut {x:Int×Int}: ∀{l:List (Int×Int)},Srt l→ ∃a b,l=a++b∧(∀y∈a,y.1≤x.1)∧(∀y∈b,x.1<y.1)
 |[],_=>⟨[],[],rfl,by simp,by simp⟩
 |y::t,h=>by
  unfold Srt at h;rw[List.pairwise_cons]at h
  by_cases hy:y.1≤x.1
  ·obtain⟨a,b,rfl,ha,hb⟩:=srt_cut (x:=x) h.2;exact⟨y::a,b,rfl,fun z hz=>by rcases List.mem_cons.1 hz with rfl|hz;exact hy;exact ha z hz,hb⟩
  ·exact⟨[],y::t,rfl,by simp,fun z hz=>by rcases List.mem_cons.1 hz with rfl|hz;omega;have:=h.1 z hz;omega⟩
theorem mrg_parts: ∀(L1 R1 L2 R2:List (Int×Int)),(∀x∈L2,∀y∈R1,y.1<x.1)→(∀x∈L1,∀y∈R2,x.1≤y.1)→mrg (L1++L2) (R1++R2)=mrg L1 R1++mrg L2 R2
 |[],[],L2,R2,_,_=>by simp[nil_mrg]
 |[],y::R1,[],R2,_,_=>by simp[nil_mrg]
 |[],y::R1,x::L2,R2,h1,h2=>by
  have h:=h1 x List.mem_cons_self y List.mem_cons_self;have ih:=mrg_parts [] R1 (x::L2) R2 (fun a ha b hb=>h1 a ha b (List.mem_cons_of_mem _ hb)) (by simp);simp only[List.nil_append,nil_mrg]at ih⊢;rw[List.cons_append,mrg_cons,if_pos h,ih];rfl
 |x::L1,[],L2,[],_,_=>by simp[mrg_nil]
 |x::L1,[],L2,y::R2,h1,h2=>by
  have h:=h2 x List.mem_cons_self y List.mem_cons_self;have ih:=mrg_parts L1 [] L2 (y::R2) (by simp) (fun a ha b hb=>h2 a (List.mem_cons_of_mem _ ha) b hb);simp only[List.nil_append,mrg_nil]at ih⊢;rw[List.cons_append,mrg_cons,if_neg (by omega),ih];rfl
 |x::L1,y::R1,L2,R2,h1,h2=>by
  rw[List.cons_append,List.cons_append,mrg_cons,mrg_cons]
  by_cases h:y.1<x.1
  ·rw[if_pos h,if_pos h];have ih:=mrg_parts (x::L1) R1 L2 R2 (fun a ha b hb=>h1 a ha b (List.mem_cons_of_mem _ hb)) h2;rw[List.cons_append]at ih;rw[ih];rfl
  ·rw[if_neg h,if_neg h];have ih:=mrg_parts L1 (y::R1) L2 R2 h1 (fun a ha b hb=>h2 a (List.mem_cons_of_mem _ ha) b hb);rw[List.cons_append]at ih;rw[ih];rfl
termination_by L1 R1 L2 R2=>L1.length+R1.length+L2.length+R2.length
theorem one_mrg {x:Int×Int}{L:List (Int×Int)}(h: ∀y∈L,x.1<y.1):mrg L [x]=x::L:=by
 have:=mrg_parts [] [x] L [] (fun a ha b hb=>by simp at hb;subst hb;exact h a ha) (by simp)
 simpa[mrg_nil,nil_mrg]using this
theorem left_mrg {x:Int×Int}{R:List (Int×Int)}(h: ∀y∈R,x.1≤y.1):mrg [x] R=x::R:=by
 have:=mrg_parts [x] [] [] R (by simp) (fun a ha b hb=>by simp at ha;subst ha;exact h b hb)
 simpa[mrg_nil,nil_mrg]using this
theorem mrg_ins: ∀(n:Nat) (A B:List (Int×Int)) (x:Int×Int),A.length+B.length≤n→Srt A→Srt B→mrg A (ins x B)=ins x (mrg A B)
 |_,[],B,x,_,_,_=>by rw[nil_mrg,nil_mrg]
 |_,a::A,[],x,_,hA,_=>by
  obtain⟨p,q,e,hp,hq⟩:=srt_cut (x:=x) hA;rw[e,mrg_nil,ins_mid hp hq];show mrg (p++q) [x]=_;have:=mrg_parts p [] q [x] (by simp) (fun a ha b hb=>by simp at hb;subst hb;exact hp a ha);simp only[List.nil_append,mrg_nil]at this;rw[this,one_mrg hq]
 |0,a::A,b::B,x,hn,_,_=>by simp at hn
 |n+1,a::A,b::B,x,hn,hA,hB=>by
  have hA':=hA;have hB':=hB;unfold Srt at hA' hB';rw[List.pairwise_cons]at hA' hB';simp only[List.length_cons]at hn
  by_cases hb:b.1≤x.1
  ·have e:ins x (b::B)=b::ins x B:=by
    show(if b.1≤x.1 then b::ins x B else x::b::B)=_;rw[if_pos hb]
   rw[e,mrg_cons,mrg_cons]
   by_cases h:b.1<a.1
   ·rw[if_pos h,if_pos h,mrg_ins n (a::A) B x (by simp;omega) hA hB'.2];show _=(if b.1≤x.1 then b::ins x (mrg (a::A) B)else _);rw[if_pos hb]
   ·rw[if_neg h,if_neg h];have ih:=mrg_ins n A (b::B) x (by simp;omega) hA'.2 hB;rw[e]at ih;rw[ih];show _=(if a.1≤x.1 then a::ins x (mrg A (b::B))else _);rw[if_pos (by omega)]
  ·have e:ins x (b::B)=x::b::B:=by
    show(if b.1≤x.1 then b::ins x B else x::b::B)=_;rw[if_neg hb]
   rw[e]
   have hxB: ∀y∈b::B,x.1<y.1:=by
    intro y hy
    rcases List.mem_cons.1 hy with rfl|hy
    ·omega
    ·have:=hB'.1 y hy;omega
   obtain⟨p,q,e2,hp,hq⟩:=srt_cut (x:=x) hA;rw[e2];have h1:=mrg_parts p [] q (b::B) (by simp) (fun a ha c hc=>by have:=hp a ha;have:=hxB c hc;omega)
   have h2:=mrg_parts p [] q (x::b::B) (by simp) (fun a ha c hc=>by
    have:=hp a ha
    rcases List.mem_cons.1 hc with rfl|hc
    ·exact this
    ·have:=hxB c hc;omega)
   simp only[List.nil_append,mrg_nil]at h1 h2;rw[h1,h2,ins_mid hp]
   ·congr 1;have h3:=mrg_parts [] [x] q (b::B) (fun a ha c hc=>by simp at hc;subst hc;exact hq a ha) (by simp);simp only[List.nil_append,nil_mrg]at h3;exact h3
   ·intro y hy
    have hm: ∀(L R:List (Int×Int)) (y:Int×Int),y∈mrg L R→y∈L∨y∈R:=by
     intro L R
     induction L,R using mrg.induct with
     |case1 R=>intro y h;rw[nil_mrg]at h;exact .inr h
     |case2 x L=>intro y h;rw[mrg_nil]at h;exact .inl h
     |case3 x L y R hlt ih=>
      intro z h;rw[mrg_cons,if_pos hlt]at h
      rcases List.mem_cons.1 h with rfl|h
      ·exact .inr List.mem_cons_self
      ·rcases ih z h with h|h
       ·exact .inl h
       ·exact .inr (List.mem_cons_of_mem _ h)
     |case4 x L y R hlt ih=>
      intro z h;rw[mrg_cons,if_neg hlt]at h
      rcases List.mem_cons.1 h with rfl|h
      ·exact .inl List.mem_cons_self
      ·rcases ih z h with h|h
       ·exact .inl (List.mem_cons_of_mem _ h)
       ·exact .inr h
    rcases hm _ _ _ hy with h|h
    ·exact hq y h
    ·exact hxB y h
theorem mrg_ssort (A:List (Int×Int)): ∀B,mrg (ssort A) (ssort B)=ssort (A++B):=by
 refine snoc_ind ?_ fun l x h=> ?_
 ·show mrg (ssort A) []=_;rw[mrg_nil,List.append_nil]
 ·rw[ssort_snoc,mrg_ins _ _ _ _ (Nat.le_refl _) (ssort_srt A) (ssort_srt l),h,←List.append_assoc,ssort_snoc]
def brC (x:Int×Int):List Value:=[.int .i64 x.1,.int .i64 x.2]
def Prs (W:World)(g:Nat)(D:List (Int×Int)):Prop:= ∃cs:Array Value,Blk W g 134 cs∧D.length*2≤cs.size∧ ∀i,i<D.length→cs[i*2]?=some (.int .i64 (D.getD i (0,0)).1)∧cs[i*2+1]?=some (.int .i64 (D.getD i (0,0)).2)
section
variable{W W':World} {g:Nat} {D:List (Int×Int)}
theorem Prs.lt (h:Prs W g D):g<W.heap.size:=by obtain⟨cs,hb,_⟩:=h;exact hb.lt
theorem Prs.cell (h:Prs W g D){i:Nat}(hi:i<D.length):W.cell? ⟨g,i*2,none⟩=some (.int .i64 (D.getD i (0,0)).1)∧W.cell? ⟨g,i*2+1,none⟩=some (.int .i64 (D.getD i (0,0)).2):=by obtain⟨cs,hb,_,hc⟩:=h;rw[hb.cell,hb.cell];exact hc i hi
theorem Prs.free (h:Prs W g D)(j:Nat):W.frozen? ⟨g,j,none⟩=false:=by obtain⟨cs,hb,_⟩:=h;exact hb.frozen j
theorem Prs.frm {F:Nat→Prop}(h:Prs W g D)(hf:Frm F W W')(hn: ¬F g):Prs W' g D:=by obtain⟨cs,hb,h2,h3⟩:=h;exact⟨cs,hb.frm hf hn,h2,h3⟩
theorem Prs.below {B:Nat}(h:Prs W g D)(hb:Below B W W')(hg:g<B):Prs W' g D:=by obtain⟨cs,h1,h2,h3⟩:=h;exact⟨cs,h1.below hb hg,h2,h3⟩
theorem Prs.drew (h:Prs W g D):Prs W.drew g D:=h
theorem Prs.drewN (h:Prs W g D)(n:Nat):Prs (W.drewN n) g D:=h
theorem Prs.alloc (h:Prs W g D)(o:Obj):Prs (W.alloc o) g D:=by obtain⟨cs,h1,h2,h3⟩:=h;exact⟨cs,h1.alloc o,h2,h3⟩
theorem Prs.set (h:Prs W g D)(i:Nat)(x:Int×Int):Prs ((W.setCell ⟨g,i*2,none⟩ (.int .i64 x.1)).setCell ⟨g,i*2+1,none⟩ (.int .i64 x.2)) g (D.set i x):=by
 obtain⟨cs,hb,h2,h3⟩:=h;refine⟨_,(hb.set_ (i*2) _).set_ (i*2+1) _,by simpa using h2,fun k hk=> ?_⟩;rw[List.length_set]at hk;have:=h3 k hk;rw[List.getD_eq_getElem?_getD,List.getElem?_set]
 by_cases hik:i=k
 ·subst hik;rw[if_pos rfl,if_pos hk];simp[Array.getElem?_setIfInBounds];omega
 ·rw[if_neg hik,←List.getD_eq_getElem?_getD];simp only[Array.getElem?_setIfInBounds];rw[if_neg (by omega),if_neg (by omega),if_neg (by omega),if_neg (by omega)];exact this
end
def swp (D:List (Int×Int))(i j:Nat):List (Int×Int):=(D.set i (D.getD j (0,0))).set j (D.getD i (0,0))
theorem swp_length (D:List (Int×Int))(i j:Nat):(swp D i j).length=D.length:=by simp[swp]
theorem swp_get {D:List (Int×Int)}{i j k:Nat}(hi:i<D.length)(hj:j<D.length):(swp D i j).getD k (0,0)=if k=j then D.getD i (0,0)else if k=i then D.getD j (0,0)else D.getD k (0,0):=by
 have e:(swp D i j).getD k (0,0)=((swp D i j)[k]?).getD (0,0):=List.getD_eq_getElem?_getD;rw[e];unfold swp;rw[List.getElem?_set,List.getElem?_set]
 by_cases h1:j=k
 ·subst h1;rw[if_pos rfl,if_pos rfl,if_pos (by simpa using hj)];rfl
 ·rw[if_neg (c:=j=k) h1,if_neg (c:=k=j) (fun e=>h1 e.symm)]
  by_cases h2:i=k
  ·subst h2;rw[if_pos rfl,if_pos (c:=i=i) rfl,if_pos hi];rfl
  ·rw[if_neg (c:=i=k) h2,if_neg (c:=k=i) (fun e=>h2 e.symm)];exact List.getD_eq_getElem?_getD.symm
def swpR (D:List (Int×Int))(a b:Nat):Nat→List (Int×Int)
 |0=>D
 |k+1=>swp (swpR D a b k) (a+k) (b+k)
theorem swpR_length (D:List (Int×Int))(a b:Nat): ∀k,(swpR D a b k).length=D.length
 |0=>rfl
 |k+1=>by unfold swpR;rw[swp_length,swpR_length D a b k]
theorem swpR_get {D:List (Int×Int)}{a b:Nat}: ∀{k:Nat},a+k≤b→b+k≤D.length→ ∀j,(swpR D a b k).getD j (0,0)=if a≤j∧j<a+k then D.getD (j-a+b) (0,0)else if b≤j∧j<b+k then D.getD (j-b+a) (0,0)else D.getD j (0,0)
 |0,_,_,j=>by rw[if_neg (by omega),if_neg (by omega)];rfl
 |k+1,h1,h2,j=>by
  have ih:=swpR_get (D:=D) (a:=a) (b:=b) (k:=k) (by omega) (by omega);unfold swpR;rw[swp_get (by rw[swpR_length];omega) (by rw[swpR_length];omega)]
  by_cases e1:j=b+k
  ·subst e1;rw[if_pos rfl,ih,if_neg (by omega),if_neg (by omega),if_neg (by omega),if_pos (by omega)];congr 1;omega
  ·rw[if_neg e1]
   by_cases e2:j=a+k
   ·subst e2;rw[if_pos rfl,ih,if_neg (by omega),if_neg (by omega),if_pos (by omega)];congr 1;omega
   ·rw[if_neg e2,ih]
    by_cases e3:a≤j∧j<a+k
    ·rw[if_pos e3,if_pos (by omega)]
    ·rw[if_neg e3,if_neg (c:=a≤j∧j<a+(k+1)) (by omega)]
     by_cases e4:b≤j∧j<b+k
     ·rw[if_pos e4,if_pos (by omega)]
     ·rw[if_neg e4,if_neg (by omega)]
theorem ext_getD {l m:List (Int×Int)}(h:l.length=m.length)(hj: ∀j,j<l.length→l.getD j (0,0)=m.getD j (0,0)):l=m:=by refine List.ext_getElem h fun j h1 h2=> ?_;have:=hj j h1;rw[List.getD_eq_getElem?_getD,List.getD_eq_getElem?_getD,List.getElem?_eq_getElem h1,List.getElem?_eq_getElem h2]at this;exact this
theorem getD_left {l m:List (Int×Int)}{j:Nat}(h:j<l.length):(l++m).getD j (0,0)=l.getD j (0,0):=by rw[List.getD_eq_getElem?_getD,List.getElem?_append_left h,←List.getD_eq_getElem?_getD]
theorem getD_right {l m:List (Int×Int)}{j:Nat}(h:l.length≤j):(l++m).getD j (0,0)=m.getD (j-l.length) (0,0):=by rw[List.getD_eq_getElem?_getD,List.getElem?_append_right h,←List.getD_eq_getElem?_getD]
theorem swpR_parts (P u Q v S:List (Int×Int))(h:u.length=v.length):swpR (P++(u++(Q++(v++S)))) P.length (P.length+u.length+Q.length) u.length=P++(v++(Q++(u++S))):=by
 refine ext_getD (by rw[swpR_length];simp;omega) fun j hj=> ?_;rw[swpR_length]at hj;rw[swpR_get (by omega) (by simp;omega)];simp only[List.length_append]at hj
 by_cases h1:j<P.length
 ·rw[if_neg (by omega),if_neg (by omega),getD_left h1,getD_left h1]
 ·rw[getD_right (l:=P) (m:=v++(Q++(u++S))) (by omega)]
  by_cases h2:j<P.length+u.length
  ·rw[if_pos (by omega),getD_right (by omega),getD_right (by omega),getD_right (by omega),getD_left (by omega),getD_left (by omega)];congr 1;omega
  ·rw[if_neg (by omega),getD_right (l:=v) (by omega)]
   by_cases h3:j<P.length+u.length+Q.length
   ·rw[if_neg (by omega),getD_right (by omega),getD_right (by omega),getD_left (by omega),getD_left (by omega)];congr 1;omega
   ·rw[getD_right (l:=Q) (m:=u++S) (by omega)]
    by_cases h4:j<P.length+u.length+Q.length+u.length
    ·rw[if_pos (by omega),getD_right (by omega),getD_left (by omega),getD_left (by omega)];congr 1;omega
    ·rw[if_neg (by omega),getD_right (by omega),getD_right (by omega),getD_right (by omega),getD_right (by omega),getD_right (l:=u) (by omega)];congr 1;omega
attribute [local go_sem] Oper.semAt_some
theorem swapRange_ok {w:World}{g n cap a b k:Nat}{D:List (Int×Int)}(hn:n=D.length)(hP:Prs w g D)(h1:a+k≤b)(h2:b+k≤n)(hm:n≤4611686018427387904)(fv:Value):
 Calls Tryz.prog 132 #[.slice (some ⟨g,0,none⟩) n cap,.int .i64 a,.int .i64 b,.int .i64 k,fv] w fun r w'=>r= .returned (.tuple #[])∧Prs w' g (swpR D a b k)∧Frm (fun j=>j=g) w w':=by
 have HN:=Lib.hid hn;clear hn
 go_enter Tryz.func132,Tryz.ntmps132
 go_wp2
 go_loopg [10] k (fun gk iv wr=> ∃i:Nat,i+gk=k∧iv= .int .i64 i∧Prs wr g (swpR D a b i)∧Frm (fun j=>j=g) w wr)
 case atStart=>exact⟨0,by omega,rfl,hP,Frm.refl _ _⟩
 case round=>
  clear hP;obtain⟨i,hi,rfl,hP,F⟩:=hrel;have HI:=Lib.hid hi;clear hi
  by_cases hlt:i<k
  ·have hl:(swpR D a b i).length=n:=by rw[swpR_length];exact HN.out.symm
   obtain⟨x0,x1⟩:=hP.cell (i:=a+i) (by omega);obtain⟨y0,y1⟩:=hP.cell (i:=b+i) (by omega);have fr:=hP.free;have hg:=hP.lt;have HL:=Lib.hid hl;clear hl;have v1:IntKind.i64.wrap ((a:Int)+(i:Int))=(a:Int)+(i:Int):=IntWalk.i64_in _ (by omega);have v2:IntKind.i64.wrap ((b:Int)+(i:Int))=(b:Int)+(i:Int):=IntWalk.i64_in _ (by omega)
   have v3:(0:Int)≤(a:Int)+(i:Int):=by omega
   have v4:(0:Int)≤(b:Int)+(i:Int):=by omega
   have v5:(a:Int)+(i:Int)<(n:Int):=by omega
   have v6:(b:Int)+(i:Int)<(n:Int):=by omega
   have v7:((a:Int)+(i:Int)).toNat=a+i:=by omega
   have v8:((b:Int)+(i:Int)).toNat=b+i:=by omega
   go_wp2
   go_region
   all_goals
    go_wp2
    go_roundg (k-(i+1))
    case rel=>have P2:=((hP.set (a+i) ((swpR D a b i).getD (b+i) (0,0))).set (b+i) ((swpR D a b i).getD (a+i) (0,0))).drew;exact⟨i+1,by have:=HI.out;omega,by go_num,P2,((((F.set rfl _).set rfl _).set rfl _).set rfl _).drew⟩
    case measure=>have:=HI.out;omega
  ·have e:i=k:=by have:=HI.out;omega
   subst e;go_wp2
   go_end0
   exact⟨rfl,hP,F⟩
attribute [local go_sem] Oper.semAt_some
theorem swapRange_z {w:World}{g n cap:Nat}{P u Q v S:List (Int×Int)}{A B K:Int}(hA:A=(P.length:Int))(hB:B=((P.length+u.length+Q.length:Nat):Int))(hK:K=(u.length:Int))(hn:n=(P++(u++(Q++(v++S)))).length)
 (hP:Prs w g (P++(u++(Q++(v++S))))) (h:u.length=v.length) (hm:n≤4611686018427387904) (fv:Value):
 Calls Tryz.prog 132 #[.slice (some ⟨g,0,none⟩) n cap,.int .i64 A,.int .i64 B,.int .i64 K,fv] w fun r w'=>r= .returned (.tuple #[])∧Prs w' g (P++(v++(Q++(u++S))))∧Frm (fun j=>j=g) w w':=by
 subst hA hB hK;have:=swapRange_ok (cap:=cap) (a:=P.length) (b:=P.length+u.length+Q.length) (k:=u.length) hn hP (by omega) (by rw[hn];simp;omega) hm fv;rw[swpR_parts _ _ _ _ _ h]at this;exact this
theorem rotate_ok {w:World}{g n cap m:Nat}{P u v S:List (Int×Int)}{A M B:Int}(hA:A=(P.length:Int))(hM:M=(m:Int))(hm:m=P.length+u.length)(hB:B=((P.length+u.length+v.length:Nat):Int))(hn:n=(P++(u++(v++S))).length)
 (hP:Prs w g (P++(u++(v++S)))) (hu:0<u.length) (hv:0<v.length) (hm2:n≤4611686018427387904) (fv:Value):
 Calls Tryz.prog 131 #[.slice (some ⟨g,0,none⟩) n cap,.int .i64 A,.int .i64 M,.int .i64 B,fv] w fun r w'=>r= .returned (.tuple #[])∧Prs w' g (P++(v++(u++S)))∧Frm (fun j=>j=g) w w':=by
 subst hA hM hB
 have hlen:n=P.length+u.length+v.length+S.length:=by rw[hn];simp;omega
 have HM:=Lib.hid hm;have HL:=Lib.hid hlen
 have e1:IntKind.i64.wrap ((m:Int)-(P.length:Int))=(u.length:Int):=by rw[IntWalk.i64_in _ (by omega)];omega
 have e2:IntKind.i64.wrap (((P.length+u.length+v.length:Nat):Int)-(m:Int))=(v.length:Int):=by rw[IntWalk.i64_in _ (by omega)];omega
 obtain⟨T,hT⟩: ∃T,P++(v++(u++S))=T:=⟨_,rfl⟩;rw[hT];have HT:=Lib.hid hT
 have hTl:T.length=n:=by rw[←hT,hlen];simp;omega
 have HTL:=Lib.hid hTl;obtain⟨bb,hbb⟩: ∃bb:Nat,P.length+u.length+v.length=bb:=⟨_,rfl⟩;rw[hbb]at e2⊢;obtain⟨pl,hpl⟩: ∃pl:Nat,P.length=pl:=⟨_,rfl⟩;obtain⟨ul,hul⟩: ∃ul:Nat,u.length=ul:=⟨_,rfl⟩;obtain⟨vl,hvl⟩: ∃vl:Nat,v.length=vl:=⟨_,rfl⟩
 have hmle:m≤4611686018427387904:=by omega
 have hble:bb≤4611686018427387904:=by omega
 rw[hpl,hul]at e1;rw[hvl]at e2;rw[hpl];have HUL:=Lib.hid hul;have HVL:=Lib.hid hvl;have HPL:=Lib.hid hpl;clear hm hn hlen hT hTl hbb hpl hul hvl
 go_enter Tryz.func131,Tryz.ntmps131
 go_wp2;clear e1 e2
 go_loopg [10,11] (ul+vl) (fun gk iv jv wr=> ∃(P' u' v' S':List (Int×Int)) (i j:Nat),gk=i+j∧u'.length=i∧v'.length=j∧iv= .int .i64 i∧jv= .int .i64 j∧P'.length+i=m∧0<i∧0<j∧P'++(v'++(u'++S'))=T∧Prs wr g (P'++(u'++(v'++S')))∧Frm (fun j=>j=g) w wr)
 case atStart=>exact⟨P,u,v,S,ul,vl,rfl,HUL.out,HVL.out,rfl,rfl,by have:=HM.out;have:=HUL.out;omega,by have:=HUL.out;omega,by have:=HVL.out;omega,HT.out,hP,Frm.refl _ _⟩
 case round=>
  clear hP;obtain⟨P',u',v',S',i,j,hgk,hui,hvj,rfl,rfl,hPm,hi0,hj0,hTT,hP,F⟩:=hrel;have hle:=congrArg List.length hTT;simp only[List.length_append]at hle;rw[HTL.out,hui,hvj]at hle
  have v1:IntKind.i64.wrap ((m:Int)-(i:Int))=((P'.length:Nat):Int):=by rw[IntWalk.i64_in _ (by omega)];omega
  have hd:=hP.lt;obtain⟨pl',hpl'⟩: ∃pl':Nat,P'.length=pl':=⟨_,rfl⟩;rw[hpl']at v1 hle hPm
  have hib:i≤4611686018427387904:=by omega
  have hjb:j≤4611686018427387904:=by omega
  have HGK:=Lib.hid hgk;have HUI:=Lib.hid hui;have HVJ:=Lib.hid hvj;have HPM:=Lib.hid hPm;have HTT:=Lib.hid hTT;have HLE:=Lib.hid hle;have HPL':=Lib.hid hpl';clear hgk hui hvj hPm hTT hle hpl'
  have hN:n=(P'++(u'++(v'++S'))).length:=by have:=HLE.out;have:=HUI.out;have:=HVJ.out;have:=HPL'.out;simp;omega
  have HN:=Lib.hid hN;clear hN
  rcases Nat.lt_trichotomy i j with hlt|hlt|hlt
  ·
   obtain⟨d,hd2⟩: ∃d:Nat,j-i=d:=⟨_,rfl⟩;obtain⟨c1,hc1⟩: ∃c1:Nat,m+j=c1:=⟨_,rfl⟩;obtain⟨c2,hc2⟩: ∃c2:Nat,m+j-i=c2:=⟨_,rfl⟩
   have hmj:m+j≤n:=by have:=HLE.out;have:=HPM.out;omega
   have w1:IntKind.i64.wrap ((m:Int)+(j:Int))=(c1:Int):=by rw[IntWalk.i64_in _ (by omega)];omega
   have w2:IntKind.i64.wrap ((c1:Int)-(i:Int))=(c2:Int):=by rw[IntWalk.i64_in _ (by omega)];omega
   have w3:IntKind.i64.wrap ((j:Int)-(i:Int))=(d:Int):=by rw[IntWalk.i64_in _ (by omega)];omega
   have e:P'++(u'++(v'++S'))=P'++(u'++(v'.take d++(v'.drop d++S'))):=by rw[←List.append_assoc (v'.take d),List.take_append_drop]
   have hP2:Prs wr g (P'++(u'++(v'.take d++(v'.drop d++S')))):=e▸hP;have hN2:n=(P'++(u'++(v'.take d++(v'.drop d++S')))).length:=e▸HN.out
   have hA:(pl':Int)=(P'.length:Int):=by have:=HPL'.out;omega
   have hB:(c2:Int)=((P'.length+u'.length+(v'.take d).length:Nat):Int):=by have:=HPL'.out;have:=HUI.out;have:=HVJ.out;have:=HPM.out;simp;omega
   have hK:(i:Int)=(u'.length:Int):=by have:=HUI.out;omega
   have hll:u'.length=(v'.drop d).length:=by have:=HUI.out;have:=HVJ.out;simp;omega
   have CT:=swapRange_z (cap:=cap) hA hB hK hN2 hP2 hll hm2 fv;have HD:=Lib.hid hd2;clear e hP2 hN2 hA hB hK hll hd2 hc1 hc2
   go_wp2_with(go_at_call 132;refine CT.mono ?_;rintro r1 w1 ⟨rfl,P1,F1⟩)
   go_roundg (i+d)
   case rel=>exact⟨P',v'.drop d,v'.take d,u'++S',i,d,rfl,by have:=HVJ.out;have:=HD.out;simp;omega,by have:=HVJ.out;have:=HD.out;simp;omega,rfl,rfl,by have:=HPL'.out;have:=HPM.out;omega,hi0,by have:=HD.out;omega,by rw[←List.append_assoc (v'.take d),List.take_append_drop];exact HTT.out,P1,F.trans F1 (fun _ _ h=>h)⟩
   case measure=>have:=HGK.out;have:=HD.out;omega
  ·
   subst hlt;have hP2:Prs wr g (P'++(u'++([]++(v'++S')))):=hP;have hN2:n=(P'++(u'++([]++(v'++S')))).length:=HN.out
   have hA:(pl':Int)=(P'.length:Int):=by have:=HPL'.out;omega
   have hB:(m:Int)=((P'.length+u'.length+([]:List (Int×Int)).length:Nat):Int):=by have:=HPL'.out;have:=HUI.out;have:=HPM.out;simp;omega
   have hK:(i:Int)=(u'.length:Int):=by have:=HUI.out;omega
   have hll:u'.length=v'.length:=by have:=HUI.out;have:=HVJ.out;omega
   have CT:=swapRange_z (cap:=cap) hA hB hK hN2 hP2 hll hm2 fv;clear hP2 hN2 hA hB hK hll
   go_wp2_with(go_at_call 132;refine CT.mono ?_;rintro r1 w1 ⟨rfl,P1,F1⟩)
   go_end0
   rw[List.nil_append,HTT.out]at P1;exact⟨rfl,P1,F.trans F1 (fun _ _ h=>h)⟩
  ·
   obtain⟨d,hd2⟩: ∃d:Nat,i-j=d:=⟨_,rfl⟩
   have w3:IntKind.i64.wrap ((i:Int)-(j:Int))=(d:Int):=by rw[IntWalk.i64_in _ (by omega)];omega
   have e:P'++(u'++(v'++S'))=P'++(u'.take j++(u'.drop j++(v'++S'))):=by rw[←List.append_assoc (u'.take j),List.take_append_drop]
   have hP2:Prs wr g (P'++(u'.take j++(u'.drop j++(v'++S')))):=e▸hP;have hN2:n=(P'++(u'.take j++(u'.drop j++(v'++S')))).length:=e▸HN.out
   have hA:(pl':Int)=(P'.length:Int):=by have:=HPL'.out;omega
   have hB:(m:Int)=((P'.length+(u'.take j).length+(u'.drop j).length:Nat):Int):=by have:=HPL'.out;have:=HUI.out;have:=HPM.out;simp;omega
   have hK:(j:Int)=((u'.take j).length:Int):=by have:=HUI.out;simp;omega
   have hll:(u'.take j).length=v'.length:=by have:=HUI.out;have:=HVJ.out;simp;omega
   have CT:=swapRange_z (cap:=cap) hA hB hK hN2 hP2 hll hm2 fv;have HD:=Lib.hid hd2;clear e hP2 hN2 hA hB hK hll hd2
   go_wp2_with(go_at_call 132;refine CT.mono ?_;rintro r1 w1 ⟨rfl,P1,F1⟩)
   go_roundg (d+j)
   case rel=>exact⟨P'++v',u'.drop j,u'.take j,S',d,j,rfl,by have:=HUI.out;have:=HD.out;simp;omega,by have:=HUI.out;have:=HD.out;simp;omega,rfl,rfl,by have:=HPL'.out;have:=HPM.out;have:=HVJ.out;have:=HD.out;simp;omega,by have:=HD.out;omega,hj0,by rw[List.append_assoc,←List.append_assoc (u'.take j),List.take_append_drop];exact HTT.out,by rw[List.append_assoc];exact P1,F.trans F1 (fun _ _ h=>h)⟩
   case measure=>have:=HGK.out;have:=HD.out;omega
attribute [local go_sem] Oper.semAt_some
def cmpI (a c:Int):Int:=if a<c then-1 else if c<a then 1 else 0
theorem cmpI_neg (a c:Int):cmpI a c<0↔a<c:=by unfold cmpI;split<;>(try split)<;>omega
theorem cmp_ok (w:World)(x y:Int×Int):Calls Tryz.prog 115 #[.agg #[.int .i64 x.1,.int .i64 x.2],.agg #[.int .i64 y.1,.int .i64 y.2]] w fun r w'=>r= .returned (.int .i64 (cmpI x.1 y.1))∧Below w.heap.size w w':=by
 obtain⟨a,b⟩:=x;obtain⟨c,d⟩:=y;unfold cmpI;simp only
 by_cases h1:a<c
 ·rw[if_pos h1]
  go_enter Tryz.func115,Tryz.ntmps115
  go_wp2;go_ret;exact⟨rfl,((Below.refl _ _).alloc (Nat.le_refl _) _).alloc (by simp) _⟩
 ·rw[if_neg h1]
  by_cases h2:c<a
  ·rw[if_pos h2]
   go_enter Tryz.func115,Tryz.ntmps115
   go_wp2;go_ret;exact⟨rfl,((Below.refl _ _).alloc (Nat.le_refl _) _).alloc (by simp) _⟩
  ·rw[if_neg h2]
   go_enter Tryz.func115,Tryz.ntmps115
   go_wp2;go_ret;exact⟨rfl,((Below.refl _ _).alloc (Nat.le_refl _) _).alloc (by simp) _⟩
attribute [local go_sem] Oper.semAt_some
theorem swp_parts (P S:List (Int×Int))(x y:Int×Int):swp (P++(y::x::S)) (P.length+1) P.length=P++(x::y::S):=by
 refine ext_getD (by rw[swp_length];simp) fun j hj=> ?_;rw[swp_get (by simp) (by simp)]
 by_cases h1:j<P.length
 ·rw[if_neg (by omega),if_neg (by omega),getD_left h1,getD_left h1]
 ·rw[getD_right (l:=P) (m:=x::y::S) (by omega)]
  by_cases h2:j=P.length
  ·subst h2;rw[if_pos rfl,getD_right (by omega),Nat.add_sub_cancel_left,Nat.sub_self];rfl
  ·rw[if_neg h2]
   by_cases h3:j=P.length+1
   ·subst h3;rw[if_pos rfl,getD_right (by omega),Nat.sub_self,Nat.add_sub_cancel_left];rfl
   ·rw[if_neg h3,getD_right (by omega)];obtain⟨q,hq⟩: ∃q,j-P.length=q+2:=⟨j-P.length-2,by omega⟩;rw[hq];rfl
theorem Prs.swp {W:World}{g:Nat}{D:List (Int×Int)}(h:Prs W g D)(i j:Nat):
 Prs ((((W.setCell ⟨g,i*2,none⟩ (.int .i64 (D.getD j (0,0)).1)).setCell ⟨g,i*2+1,none⟩ (.int .i64 (D.getD j (0,0)).2)).setCell ⟨g,j*2,none⟩ (.int .i64 (D.getD i (0,0)).1)).setCell ⟨g,j*2+1,none⟩ (.int .i64 (D.getD i (0,0)).2)) g (YtplpbmkdfabfpaaGreat.swp D i j):=
 (h.set i (D.getD j (0,0))).set j (D.getD i (0,0))
theorem ins_done {x:Int×Int}{L G:List (Int×Int)}(hs:Srt (L++G))(hG: ∀y∈G,x.1<y.1)(hL: ∀y,L.getLast?=some y→y.1≤x.1):L++x::G=ins x (L++G):=by
 refine(ins_mid (fun y hy=> ?_) hG).symm
 rcases List.eq_nil_or_concat L with rfl|⟨L',z,rfl⟩
 ·cases hy
 ·have hz:=hL z (by simp);unfold Srt at hs;rw[List.concat_eq_append,List.append_assoc,List.pairwise_append]at hs;rw[List.concat_eq_append]at hy
  rcases List.mem_append.1 hy with h|h
  ·have:=hs.2.2 y h z (by simp);omega
  ·simp at h;subst h;exact hz
end
section
attribute [local go_sem] Oper.semAt_some
structure Q7 (w:World) (g:Nat) (D:List (Int×Int)) (W:World):Prop where
 prs:Prs W g D
 frm:Frm (fun j=>j=g) w W
theorem Q7.below {w W W':World}{g:Nat}{D:List (Int×Int)}(h:Q7 w g D W)(hb:Below W.heap.size W W'):Q7 w g D W':=⟨h.prs.below hb h.prs.lt,h.frm.trans (Frm.of_below hb) (fun _ _ h=>h)⟩
theorem insertionSort_ok {w:World}{g n cap:Nat}{P X S:List (Int×Int)}{a b:Nat}(ha:a=P.length)(hb:b=a+X.length)(hn:n=(P++(X++S)).length)
 (hP:Prs w g (P++(X++S))) (hm:n≤4611686018427387904):
 Calls Tryz.prog 129 #[.slice (some ⟨g,0,none⟩) n cap,.int .i64 a,.int .i64 b,.func (.func 115) #[] #[]] w fun r w'=>r= .returned (.tuple #[])∧Prs w' g (P++(ssort X++S))∧Frm (fun j=>j=g) w w':=by
 have hl:b≤n:=by rw[hn,hb,ha];simp
 have hbm:b≤4611686018427387904:=by omega
 have ham:a≤b:=by omega
 have HL:=Lib.hid hl;have HA:=Lib.hid ha;have HB:=Lib.hid hb;have HN:=Lib.hid hn;obtain⟨Z,hZ⟩: ∃Z,ssort X=Z:=⟨_,rfl⟩;rw[hZ];have HZ:=Lib.hid hZ;clear hl ha hb hn hZ
 have e1:IntKind.i64.wrap ((a:Int)+1)=((a+1:Nat):Int):=by rw[IntWalk.i64_in _ (by omega)];omega
 obtain⟨a1,ha1⟩: ∃a1:Nat,a+1=a1:=⟨_,rfl⟩;rw[ha1]at e1;have HA1:=Lib.hid ha1;clear ha1
 go_enter Tryz.func129,Tryz.ntmps129
 go_wp2;obtain⟨d,hd⟩: ∃d:Nat,a+d=b:=⟨b-a,by omega⟩;have HD:=Lib.hid hd;clear hd e1
 go_loopg [8] d (fun gk iv wr=> ∃(A R:List (Int×Int)) (i:Nat),i+gk=b+1∧iv= .int .i64 i∧a+1≤i∧A++R=X∧(R=[]∨i=a+A.length)∧a+A.length≤i∧Prs wr g (P++(ssort A++(R++S)))∧Frm (fun j=>j=g) w wr)
 case atStart=>
  have:=HA1.out;have:=HD.out
  rcases X with _|⟨x,X'⟩
  ·exact⟨[],[],a1,by omega,rfl,by omega,rfl,.inl rfl,by simp;omega,hP,Frm.refl _ _⟩
  ·exact⟨[x],X',a1,by omega,rfl,by omega,rfl,.inr (by simp;omega),by simp;omega,hP,Frm.refl _ _⟩
 case round=>
  clear hP;obtain⟨A,R,i,hi,rfl,h1,hAR,hk,hle,hP,F⟩:=hrel
  by_cases hlt:i<b
  ·obtain⟨x,R',rfl⟩: ∃x R',R=x::R':=by
    rcases R with _|⟨x,R'⟩
    ·have:=HB.out;rw[List.append_nil]at hAR;subst hAR;omega
    ·exact⟨x,R',rfl⟩
   have hiA:i=a+A.length:=by rcases hk with h|h;cases h;exact h
   have hln:=congrArg List.length hAR;simp only[List.length_append,List.length_cons]at hln;have HLN:=Lib.hid hln;have HIA:=Lib.hid hiA;have HI:=Lib.hid hi;have HAR:=Lib.hid hAR;have H1:=Lib.hid h1
   have him:i≤4611686018427387904:=by omega
   obtain⟨al,hal⟩: ∃al:Nat,A.length=al:=⟨_,rfl⟩;have HAL:=Lib.hid hal;clear hln hiA hi hAR hk hle hal h1;obtain⟨W0,rfl⟩: ∃W0,W0=wr:=⟨_,rfl⟩;go_wp2
   go_loopg [9] al (fun gj jv W=> ∃(L G:List (Int×Int)) (j:Nat),gj=L.length∧jv= .int .i64 j∧j=a+L.length∧L++G=ssort A∧(∀y∈G,x.1<y.1)∧Prs W g (P++(L++x::(G++(R'++S))))∧Frm (fun j=>j=g) w W)
   case atStart=>exact⟨ssort A,[],i,by rw[ssort_length,HAL.out],rfl,by rw[ssort_length];exact HIA.out,by simp,by simp,hP,F⟩
   case round=>
    clear hP F;obtain⟨L,G,j,hgj,rfl,hj,hLG,hG,hP,F⟩:=hrel;have HGJ:=Lib.hid hgj;have HJ:=Lib.hid hj;have HLG:=Lib.hid hLG;have HG:=Lib.hid hG
    have hjm:j≤i:=by have:=HJ.out;have e1:=congrArg List.length HLG.out;have:=HIA.out;rw[ssort_length]at e1;simp only[List.length_append]at e1;omega
    have hjm2:j≤4611686018427387904:=by omega
    clear hgj hj hLG hG
    by_cases hj:a<j
    ·obtain⟨L',y,rfl⟩: ∃L' y,L=L'++[y]:=by
      rcases List.eq_nil_or_concat L with rfl|⟨L',z,rfl⟩
      ·have:=HJ.out;simp at this;omega
      ·exact⟨L',z,by simp⟩
     obtain⟨q,hq⟩: ∃q:Nat,q+1=j:=⟨j-1,by omega⟩;obtain⟨D,hD⟩: ∃D,P++(L'++[y]++x::(G++(R'++S)))=D:=⟨_,rfl⟩
     have hD2:D=(P++L')++(y::x::(G++(R'++S))):=by rw[←hD];simp
     have hpq:(P++L').length=q:=by have:=HJ.out;have:=HA.out;simp only[List.length_append,List.length_cons,List.length_nil]at*;omega
     have hx:D.getD j (0,0)=x:=by rw[hD2,getD_right (by omega),←hq,hpq,Nat.add_sub_cancel_left];rfl
     have hy:D.getD q (0,0)=y:=by rw[hD2,getD_right (by omega),hpq,Nat.sub_self];rfl
     have hsw:swp D j q=P++(L'++x::((y::G)++(R'++S))):=by have:=swp_parts (P++L') (G++(R'++S)) x y;rw[hpq,hq,←hD2]at this;rw[this];simp
     rw[hD]at hP
     have hDl:D.length=n:=by have e1:=congrArg List.length HLG.out;rw[ssort_length]at e1;have:=HN.out;have e2:=congrArg List.length HAR.out;rw[hD2];simp only[List.length_append,List.length_cons,List.length_nil]at*;omega
     have hjn:j<D.length:=by rw[hDl];have:=HL.out;omega
     obtain⟨x0,x1⟩:=hP.cell (i:=j) hjn;obtain⟨y0,y1⟩:=hP.cell (i:=q) (by omega);rw[hx]at x0 x1;rw[hy]at y0 y1;have HX:=Lib.hid hx;have HY:=Lib.hid hy;have HSW:=Lib.hid hsw;have HDD:=Lib.hid hD;clear hD hD2 hpq hx hy hsw hDl hjn;have hg:=hP.lt;have fr:=hP.free
     have v1:IntKind.i64.wrap ((j:Int)-1)=(q:Int):=by rw[IntWalk.i64_in _ (by omega)];omega
     have v2:j<n:=by have:=HL.out;omega
     have v3:q<n:=by omega
     by_cases hc:x.1<y.1
     ·obtain⟨cv,hcv⟩: ∃cv,cmpI x.1 y.1=cv:=⟨_,rfl⟩;have hcn:cv<0:=hcv▸(cmpI_neg _ _).2 hc;have HC:=Lib.hid hc;clear hc;have hPd:Q7 w g D wr.drew:=⟨hP.drew,F.drew⟩;clear hP F;go_wp2
      go_region_held3 (fun W=>W.cell? ⟨g,j*2,none⟩=some (.int .i64 x.1)∧W.cell? ⟨g,j*2+1,none⟩=some (.int .i64 x.2)∧W.cell? ⟨g,q*2,none⟩=some (.int .i64 y.1)∧W.cell? ⟨g,q*2+1,none⟩=some (.int .i64 y.2)∧Q7 w g D W) (refine⟨?_,?_,?_,?_,?_⟩<;>assumption)
       (first
        |(go_at_call 115;refine(cmp_ok _ x y).mono ?_;rintro r1 w1 ⟨rfl,b1⟩;rw[hcv];have hP1:Q7 w g D w1:=Q7.below (by assumption) b1;have z0:=((bcell b1).1 g (j*2) hg).trans x0;have z1:=((bcell b1).1 g (j*2+1) hg).trans x1;have z2:=((bcell b1).1 g (q*2) hg).trans y0;have z3:=((bcell b1).1 g (q*2+1) hg).trans y1))
      rename_i hHeld
      have P1:=hP1.prs;have F1:=hP1.frm;have hg1:=P1.lt;have fr1:=P1.free;clear hHeld hP1 b1 x0 x1 y0 y1 fr hg hPd;go_wp2
      go_region
      all_goals
       go_wp2
       go_roundg L'.length
       case rel=>have P2:=(P1.swp j q).drew;rw[HX.out,HY.out,HSW.out]at P2;exact⟨L',y::G,q,rfl,rfl,by have:=HJ.out;simp at this;omega,by rw[←HLG.out];simp,fun z hz=>by rcases List.mem_cons.1 hz with rfl|hz;exact HC.out;exact HG.out z hz,P2,((((F1.set rfl _).set rfl _).set rfl _).set rfl _).drew⟩
       case measure=>have:=HGJ.out;simp at this;omega
     ·obtain⟨cv,hcv⟩: ∃cv,cmpI x.1 y.1=cv:=⟨_,rfl⟩;have hcn: ¬cv<0:=fun h=>hc ((cmpI_neg _ _).1 (hcv▸h))
      have hlast: ∀z,(L'++[y]).getLast?=some z→z.1≤x.1:=by intro z hz;simp at hz;subst hz;omega
      have HLA:=Lib.hid hlast;clear hc hlast;have hPd:Q7 w g D wr.drew:=⟨hP.drew,F.drew⟩;clear hP F;go_wp2
      go_region_held3 (fun W=>W.cell? ⟨g,j*2,none⟩=some (.int .i64 x.1)∧W.cell? ⟨g,j*2+1,none⟩=some (.int .i64 x.2)∧W.cell? ⟨g,q*2,none⟩=some (.int .i64 y.1)∧W.cell? ⟨g,q*2+1,none⟩=some (.int .i64 y.2)∧Q7 w g D W) (refine⟨?_,?_,?_,?_,?_⟩<;>assumption)
       (first
        |(go_at_call 115;refine(cmp_ok _ x y).mono ?_;rintro r1 w1 ⟨rfl,b1⟩;rw[hcv];have hP1:Q7 w g D w1:=Q7.below (by assumption) b1;have z0:=((bcell b1).1 g (j*2) hg).trans x0;have z1:=((bcell b1).1 g (j*2+1) hg).trans x1;have z2:=((bcell b1).1 g (q*2) hg).trans y0;have z3:=((bcell b1).1 g (q*2+1) hg).trans y1))
      rename_i hHeld
      have P1:=hP1.prs;have F1:=hP1.frm;clear hHeld hP1 b1 x0 x1 y0 y1 fr hg hPd;go_wp2
      go_roundg (b-i)
      case rel=>
       have hlast:=HLA.out;rw[←HDD.out]at P1
       have hs:(L'++[y])++x::G=ssort (A++[x]):=by rw[ssort_snoc,←HLG.out];exact ins_done (by rw[HLG.out];exact ssort_srt A) HG.out hlast
       refine⟨A++[x],R',i+1,by have:=HI.out;omega,by go_num,by have:=H1.out;omega,by rw[List.append_assoc];exact HAR.out,.inr (by have:=HIA.out;simp;omega),by have:=HIA.out;simp;omega,?_,F1⟩;rw[←hs,List.append_assoc];exact P1
      case measure=>have:=HI.out;omega
    ·have hd2:decide ((a:Int)<(j:Int))=false:=by simp;omega
     go_wp2
     go_quiet (fail)
     go_wp2
     go_roundg (b-i)
     case rel=>
      have hL0:L=[]:=by have:=HJ.out;exact List.eq_nil_of_length_eq_zero (by omega)
      have hlast: ∀z,L.getLast?=some z→z.1≤x.1:=by intro z hz;rw[hL0]at hz;cases hz
      have P1:=hP.drewN nq;have F1:=F.drewN nq
      have hs:L++x::G=ssort (A++[x]):=by rw[ssort_snoc,←HLG.out];exact ins_done (by rw[HLG.out];exact ssort_srt A) HG.out hlast
      refine⟨A++[x],R',i+1,by have:=HI.out;omega,by go_num,by have:=H1.out;omega,by rw[List.append_assoc];exact HAR.out,.inr (by have:=HIA.out;simp;omega),by have:=HIA.out;simp;omega,?_,F1⟩;rw[←hs,List.append_assoc];exact P1
     case measure=>have:=HI.out;omega
  ·have hR:R=[]:=by
    rcases hk with h|h
    ·exact h
    ·have:=HB.out;have e1:=congrArg List.length hAR;simp only[List.length_append]at e1;exact List.eq_nil_of_length_eq_zero (by omega)
   subst hR;rw[List.append_nil]at hAR;subst hAR;rw[HZ.out]at hP;clear hle hk;go_wp2
   go_end0
   exact⟨rfl,hP,F⟩
theorem Srt.le {R:List (Int×Int)}(hs:Srt R){i j:Nat}(hij:i≤j)(hj:j<R.length):(R.getD i (0,0)).1≤(R.getD j (0,0)).1:=by
 rcases Nat.lt_or_ge i j with h|h
 ·have:=List.pairwise_iff_getElem.1 hs i j (by omega) hj h;rw[List.getD_eq_getElem?_getD,List.getD_eq_getElem?_getD,List.getElem?_eq_getElem (by omega),List.getElem?_eq_getElem hj];exact this
 ·have:i=j:=by omega
  subst this;exact Int.le_refl _
theorem srt_take {R:List (Int×Int)}(hs:Srt R){i:Nat}{c:Int}(hi:i≤R.length)(h:i=0∨(R.getD (i-1) (0,0)).1<c): ∀y∈R.take i,y.1<c:=by
 intro y hy;obtain⟨k,hk,rfl⟩:=List.mem_iff_getElem.1 hy;rw[List.getElem_take];rw[List.length_take]at hk
 rcases h with h|h
 ·omega
 ·have:=hs.le (i:=k) (j:=i-1) (by omega) (by omega);rw[List.getD_eq_getElem?_getD,List.getElem?_eq_getElem (by omega)]at this;simp only[Option.getD_some]at this;omega
theorem srt_drop {R:List (Int×Int)}(hs:Srt R){i:Nat}{c:Int}(h:i=R.length∨c≤(R.getD i (0,0)).1): ∀y∈R.drop i,c≤y.1:=by
 intro y hy;obtain⟨k,hk,rfl⟩:=List.mem_iff_getElem.1 hy;rw[List.getElem_drop];rw[List.length_drop]at hk
 rcases h with h|h
 ·omega
 ·have:=hs.le (i:=i) (j:=i+k) (by omega) (by omega);rw[List.getD_eq_getElem?_getD (l:=R) (i:=i+k),List.getElem?_eq_getElem (by omega)]at this;simp only[Option.getD_some]at this;omega
theorem Srt.take {R:List (Int×Int)}(hs:Srt R)(i:Nat):Srt (R.take i):=hs.sublist (List.take_sublist i R)
theorem Srt.drop {R:List (Int×Int)}(hs:Srt R)(i:Nat):Srt (R.drop i):=hs.sublist (List.drop_sublist i R)
theorem mrg_at_left {x:Int×Int}{R:List (Int×Int)}(hs:Srt R){i:Nat}(hi:i≤R.length)(h1:i=0∨(R.getD (i-1) (0,0)).1<x.1)(h2:i=R.length∨x.1≤(R.getD i (0,0)).1):
 mrg [x] R=R.take i++x::R.drop i:=by
 have:=mrg_parts [] (R.take i) [x] (R.drop i) (fun a ha b hb=>by simp at ha;subst ha;exact srt_take hs hi h1 b hb) (by simp);rw[List.take_append_drop,List.nil_append,nil_mrg,left_mrg (srt_drop hs h2)]at this;exact this
theorem mrg_at_right {y:Int×Int}{L:List (Int×Int)}(hs:Srt L){i:Nat}(hi:i≤L.length)(h1:i=0∨(L.getD (i-1) (0,0)).1≤y.1)(h2:i=L.length∨y.1<(L.getD i (0,0)).1):
 mrg L [y]=L.take i++y::L.drop i:=by
 have h3: ∀z∈L.drop i,y.1<z.1:=fun z hz=>by have:=srt_drop hs (c:=y.1+1) (by omega) z hz;omega
 have:=mrg_parts (L.take i) [] (L.drop i) [y] (by simp) (fun a ha b hb=>by
  simp at hb;subst hb;have:=srt_take hs hi (c:=b.1+1) (by omega) a ha
  omega)
 rw[List.take_append_drop,List.nil_append,mrg_nil,one_mrg h3]at this;exact this
theorem mrg_at {L R:List (Int×Int)}(hL:Srt L)(hR:Srt R){i j:Nat}(hi:i≤L.length)(hj:j≤R.length)
 (h1:i=0∨j=R.length∨(L.getD (i-1) (0,0)).1≤(R.getD j (0,0)).1) (h2:i=L.length∨j=0∨(R.getD (j-1) (0,0)).1<(L.getD i (0,0)).1):
 mrg L R=mrg (L.take i) (R.take j)++mrg (L.drop i) (R.drop j):=by
 have:=mrg_parts (L.take i) (R.take j) (L.drop i) (R.drop j) (fun x hx y hy=>by
  rcases h2 with h|h|h
  ·subst h;rw[List.drop_length]at hx;cases hx
  ·subst h;cases hy
  ·have:=srt_take hR hj (.inr h) y hy;have:=srt_drop hL (.inr (Int.le_refl _)) x hx
   omega) (fun x hx y hy=>by
  rcases h1 with h|h|h
  ·subst h;cases hx
  ·subst h;rw[List.drop_length]at hy;cases hy
  ·have:=srt_take hL hi (c:=(R.getD j (0,0)).1+1) (.inr (by omega)) x hx;have:=srt_drop hR (.inr (Int.le_refl _)) y hy
   omega)
 rw[List.take_append_drop,List.take_append_drop]at this;exact this
attribute [local go_sem] Oper.semAt_some
theorem swp_parts' (P S:List (Int×Int))(x y:Int×Int):swp (P++(y::x::S)) P.length (P.length+1)=P++(x::y::S):=by
 rw[←swp_parts P S x y];refine ext_getD (by rw[swp_length,swp_length]) fun j hj=> ?_;rw[swp_get (by simp) (by simp),swp_get (by simp) (by simp)]
 split<;>split<;>first|rfl|omega
theorem Q7.alloc_ {w W:World}{g:Nat}{D:List (Int×Int)}(h:Q7 w g D W):Q7 w g D W.drew:=⟨h.prs.drew,h.frm.drew⟩
theorem sym_left {w:World}{g n cap:Nat}{P R S:List (Int×Int)}{x:Int×Int}{a m b:Nat}(ha:a=P.length)(hma:m=a+1)(hb:b=m+R.length)(hn:n=(P++(x::(R++S))).length)
 (hP:Prs w g (P++(x::(R++S)))) (hs:Srt R) (hm:n≤4611686018427387904):
 Calls Tryz.prog 130 #[.slice (some ⟨g,0,none⟩) n cap,.int .i64 a,.int .i64 m,.int .i64 b,.func (.func 115) #[] #[]] w fun r w'=>r= .returned (.tuple #[])∧Prs w' g (P++(mrg [x] R++S))∧Frm (fun j=>j=g) w w':=by
 obtain⟨D,hD⟩: ∃D,P++(x::(R++S))=D:=⟨_,rfl⟩;rw[hD]at hn hP
 have hl:b≤n:=by rw[hn,←hD,hb,hma,ha];simp;omega
 have hbm:b≤4611686018427387904:=by omega
 have hmb:m≤b:=by omega
 have hx:D.getD a (0,0)=x:=by rw[←hD,getD_right (by omega),ha,Nat.sub_self];rfl
 have hR: ∀k,k<R.length→D.getD (m+k) (0,0)=R.getD k (0,0):=by intro k hk;rw[←hD,getD_right (by omega),show m+k-P.length=k+1 from by omega];show(R++S).getD k (0,0)=_;rw[getD_left hk]
 have e1:IntKind.i64.wrap ((m:Int)-(a:Int))=1:=by rw[IntWalk.i64_in _ (by omega)];omega
 have HL:=Lib.hid hl;have HA:=Lib.hid ha;have HB:=Lib.hid hb;have HN:=Lib.hid hn;have HMA:=Lib.hid hma;have HX:=Lib.hid hx;have HR:=Lib.hid hR;have HD:=Lib.hid hD;have HS:=Lib.hid hs;obtain⟨d,hd⟩: ∃d,b-m=d:=⟨_,rfl⟩;have HDD:=Lib.hid hd;obtain⟨Z,hZ⟩: ∃Z,mrg [x] R=Z:=⟨_,rfl⟩;rw[hZ];have HZ:=Lib.hid hZ;clear hl ha hb hn hma hx hR hD hs hd hZ
 go_enter Tryz.func130,Tryz.ntmps130
 go_wp2;clear e1
 go_loopg [10,11] d (fun gk iv jv W=> ∃i j:Nat,i+gk=j∧iv= .int .i64 i∧jv= .int .i64 j∧m≤i∧i≤j∧j≤b∧(i=m∨(D.getD (i-1) (0,0)).1<x.1)∧(j=b∨x.1≤(D.getD j (0,0)).1)∧Q7 w g D W)
 case atStart=>exact⟨m,b,by have:=HDD.out;omega,rfl,rfl,Nat.le_refl _,hmb,Nat.le_refl _,.inl rfl,.inl rfl,hP,Frm.refl _ _⟩
 case round=>
  clear hP;obtain⟨i,j,hgk,rfl,rfl,hmi,hij,hjb,h1,h2,hQ⟩:=hrel;have HGK:=Lib.hid hgk;have H1:=Lib.hid h1;have H2:=Lib.hid h2;clear hgk h1 h2
  by_cases hlt:i<j
  ·obtain⟨h,hh⟩: ∃h:Nat,(i+j)/2=h:=⟨_,rfl⟩
   have hv:((i:Int)+(j:Int))/2=(h:Int):=by omega
   have hih:i≤h:=by omega
   have hhj:h<j:=by omega
   have v1:h<n:=by have:=HL.out;omega
   have v2:a<n:=by have:=HMA.out;omega
   obtain⟨z,hz⟩: ∃z,D.getD h (0,0)=z:=⟨_,rfl⟩;obtain⟨x0,x1⟩:=hQ.prs.cell (i:=h) (by rw[←HN.out];exact v1);obtain⟨y0,y1⟩:=hQ.prs.cell (i:=a) (by rw[←HN.out];exact v2);rw[hz]at x0 x1;rw[HX.out]at y0 y1;have hg:=hQ.prs.lt;have fr:=hQ.prs.free;have HZZ:=Lib.hid hz;clear hz hh;have hQd:Q7 w g D wr.drew:=hQ.alloc_;clear hQ
   by_cases hc:z.1<x.1
   ·obtain⟨cv,hcv⟩: ∃cv,cmpI z.1 x.1=cv:=⟨_,rfl⟩;have hcn:cv<0:=hcv▸(cmpI_neg _ _).2 hc;have HC:=Lib.hid hc;clear hc;go_wp2
    go_region_held3 (fun W=>W.cell? ⟨g,h*2,none⟩=some (.int .i64 z.1)∧W.cell? ⟨g,h*2+1,none⟩=some (.int .i64 z.2)∧W.cell? ⟨g,a*2,none⟩=some (.int .i64 x.1)∧W.cell? ⟨g,a*2+1,none⟩=some (.int .i64 x.2)∧Q7 w g D W) (refine⟨?_,?_,?_,?_,?_⟩<;>assumption)
     (first
      |(go_at_call 115;refine(cmp_ok _ z x).mono ?_;rintro r1 w1 ⟨rfl,b1⟩;rw[hcv];have hP1:Q7 w g D w1:=Q7.below (by assumption) b1;have z0:=((bcell b1).1 g (h*2) hg).trans x0;have z1:=((bcell b1).1 g (h*2+1) hg).trans x1;have z2:=((bcell b1).1 g (a*2) hg).trans y0;have z3:=((bcell b1).1 g (a*2+1) hg).trans y1))
    clear x0 x1 y0 y1 fr hg hQd z0 z1 z2 z3 b1;go_wp2
    go_roundg (j-(h+1))
    case rel=>exact⟨h+1,j,by omega,by go_num,rfl,by omega,by omega,hjb,.inr (by rw[Nat.add_sub_cancel,HZZ.out];exact HC.out),H2.out,hP1⟩
    case measure=>have:=HGK.out;omega
   ·obtain⟨cv,hcv⟩: ∃cv,cmpI z.1 x.1=cv:=⟨_,rfl⟩;have hcn: ¬cv<0:=fun h=>hc ((cmpI_neg _ _).1 (hcv▸h));have HC:=Lib.hid hc;clear hc;go_wp2
    go_region_held3 (fun W=>W.cell? ⟨g,h*2,none⟩=some (.int .i64 z.1)∧W.cell? ⟨g,h*2+1,none⟩=some (.int .i64 z.2)∧W.cell? ⟨g,a*2,none⟩=some (.int .i64 x.1)∧W.cell? ⟨g,a*2+1,none⟩=some (.int .i64 x.2)∧Q7 w g D W) (refine⟨?_,?_,?_,?_,?_⟩<;>assumption)
     (first
      |(go_at_call 115;refine(cmp_ok _ z x).mono ?_;rintro r1 w1 ⟨rfl,b1⟩;rw[hcv];have hP1:Q7 w g D w1:=Q7.below (by assumption) b1;have z0:=((bcell b1).1 g (h*2) hg).trans x0;have z1:=((bcell b1).1 g (h*2+1) hg).trans x1;have z2:=((bcell b1).1 g (a*2) hg).trans y0;have z3:=((bcell b1).1 g (a*2+1) hg).trans y1))
    clear x0 x1 y0 y1 fr hg hQd z0 z1 z2 z3 b1;go_wp2
    go_roundg (h-i)
    case rel=>exact⟨i,h,by omega,rfl,rfl,hmi,hih,by omega,H1.out,.inr (by rw[HZZ.out];have:=HC.out;omega),hP1⟩
    case measure=>have:=HGK.out;omega
  ·have hij2:j=i:=by omega
   subst hij2;clear hij hlt;obtain⟨q,hq⟩: ∃q,j-m=q:=⟨_,rfl⟩
   have hqR:q≤R.length:=by have:=HB.out;omega
   have hZe:Z=R.take q++x::R.drop q:=by
    rw[←HZ.out];refine mrg_at_left HS.out hqR ?_ ?_
    ·rcases H1.out with h|h
     ·exact .inl (by omega)
     ·rcases Nat.eq_zero_or_pos q with h0|h0
      ·exact .inl h0
      ·refine .inr ?_;rw[←HR.out (q-1) (by omega),show m+(q-1)=j-1 from by omega];exact h
    ·rcases H2.out with h|h
     ·exact .inl (by have:=HB.out;omega)
     ·rcases Nat.lt_or_ge q R.length with h0|h0
      ·refine .inr ?_;rw[←HR.out q h0,show m+q=j from by omega];exact h
      ·exact .inl (by omega)
   obtain⟨R1,hR1⟩: ∃R1,R.take q=R1:=⟨_,rfl⟩;obtain⟨R2,hR2⟩: ∃R2,R.drop q=R2:=⟨_,rfl⟩
   have hRR:R=R1++R2:=by rw[←hR1,←hR2,List.take_append_drop]
   have hl1:R1.length=q:=by rw[←hR1,List.length_take];omega
   rw[hR1,hR2]at hZe
   have e2:IntKind.i64.wrap ((j:Int)-1)=((a+q:Nat):Int):=by have:=HMA.out;rw[IntWalk.i64_in _ (by omega)];omega
   obtain⟨t,ht⟩: ∃t,a+q=t:=⟨_,rfl⟩;rw[ht]at e2
   have hP:Prs wr g (P++(x::(R1++(R2++S)))):=by have:=hQ.prs;rw[←HD.out,hRR,List.append_assoc]at this;exact this
   have F:=hQ.frm
   have htn:t+1≤n:=by have:=HL.out;have:=HMA.out;omega
   have HT:=Lib.hid ht;have HL1:=Lib.hid hl1;have HZE:=Lib.hid hZe
   have hnl:n=a+1+q+(R2++S).length:=by have:=HN.out;rw[←HD.out,hRR]at this;have:=HA.out;simp only[List.length_append,List.length_cons]at*;omega
   have HNL:=Lib.hid hnl;clear hq hqR hZe hR1 hR2 hRR hl1 ht hQ hnl;obtain⟨W0,rfl⟩: ∃W0,W0=wr:=⟨_,rfl⟩;go_wp2
   go_loopg [13] q (fun gj kv W=> ∃(U V:List (Int×Int)) (k:Nat),gj=V.length∧kv= .int .i64 k∧k=a+U.length∧U++V=R1∧Prs W g (P++(U++x::(V++(R2++S))))∧Frm (fun j=>j=g) w W)
   case atStart=>exact⟨[],R1,a,HL1.out.symm,rfl,rfl,rfl,hP,F⟩
   case round=>
    clear hP F;obtain⟨U,V,k,hgj,rfl,hk,hUV,hP,F⟩:=hrel;have hul:=congrArg List.length hUV;rw[List.length_append,HL1.out]at hul
    have hkm:k≤4611686018427387904:=by have:=HT.out;omega
    by_cases hkt:k<t
    ·obtain⟨v,V',rfl⟩: ∃v V',V=v::V':=by
      rcases V with _|⟨v,V'⟩
      ·have:=HT.out;simp at hul;omega
      ·exact⟨v,V',rfl⟩
     obtain⟨E,hE⟩: ∃E,P++(U++x::(v::V'++(R2++S)))=E:=⟨_,rfl⟩
     have hE2:E=(P++U)++(x::v::(V'++(R2++S))):=by rw[←hE];simp
     have hpk:(P++U).length=k:=by have:=HA.out;simp only[List.length_append];omega
     have hx:E.getD k (0,0)=x:=by rw[hE2,getD_right (by omega),hpk,Nat.sub_self];rfl
     have hy:E.getD (k+1) (0,0)=v:=by rw[hE2,getD_right (by omega),hpk,Nat.add_sub_cancel_left];rfl
     have hsw:swp E k (k+1)=P++(U++[v]++x::(V'++(R2++S))):=by have:=swp_parts' (P++U) (V'++(R2++S)) v x;rw[hpk,←hE2]at this;rw[this];simp
     rw[hE]at hP
     have hEl:E.length=n:=by rw[hE2,HNL.out];simp only[List.length_append,List.length_cons]at*;omega
     obtain⟨x0,x1⟩:=hP.cell (i:=k) (by omega);obtain⟨y0,y1⟩:=hP.cell (i:=k+1) (by omega);rw[hx]at x0 x1;rw[hy]at y0 y1;have HXX:=Lib.hid hx;have HY:=Lib.hid hy;have HSW:=Lib.hid hsw
     have v1:IntKind.i64.wrap ((k:Int)+1)=((k+1:Nat):Int):=by rw[IntWalk.i64_in _ (by omega)];omega
     obtain⟨k1,hk1⟩: ∃k1,k+1=k1:=⟨_,rfl⟩;rw[hk1]at y0 y1 v1
     have v2:k<n:=by omega
     have v3:k1<n:=by omega
     have HK1:=Lib.hid hk1;have HK:=Lib.hid hk;have HGJ:=Lib.hid hgj;have HUV:=Lib.hid hUV;have hg:=hP.lt;have fr:=hP.free;clear hE hE2 hpk hx hy hsw hEl hk hgj hUV hul;go_wp2
     go_region
     all_goals
      go_wp2
      go_roundg V'.length
      case rel=>have P2:=(hP.swp k k1).drew;rw[←HK1.out]at P2⊢;rw[HXX.out,HY.out,HSW.out]at P2;exact⟨U++[v],V',k+1,rfl,by go_num,by have:=HK.out;simp;omega,by rw[←HUV.out];simp,P2,((((F.set rfl _).set rfl _).set rfl _).set rfl _).drew⟩
      case measure=>have:=HGJ.out;simp at this;omega
    ·have hV:V=[]:=List.eq_nil_of_length_eq_zero (by have:=HT.out;omega);subst hV;rw[List.append_nil]at hUV;subst hUV
     have hfin:P++(U++x::([]++(R2++S)))=P++(Z++S):=by rw[HZE.out];simp
     rw[hfin]at hP;clear hfin hul hk hgj;go_wp2;refine bodyPost_ret (results_none rfl _ _ _) rfl ?_;exact⟨rfl,hP,F⟩
attribute [local go_sem] Oper.semAt_some
theorem sym_right {w:World}{g n cap:Nat}{P L S:List (Int×Int)}{y:Int×Int}{a m b:Nat}(ha:a=P.length)(hma:m=a+L.length)(hL2:L.length≠1)(hb:b=m+1)(hn:n=(P++(L++(y::S))).length)
 (hP:Prs w g (P++(L++(y::S)))) (hs:Srt L) (hm:n≤4611686018427387904):
 Calls Tryz.prog 130 #[.slice (some ⟨g,0,none⟩) n cap,.int .i64 a,.int .i64 m,.int .i64 b,.func (.func 115) #[] #[]] w fun r w'=>r= .returned (.tuple #[])∧Prs w' g (P++(mrg L [y]++S))∧Frm (fun j=>j=g) w w':=by
 obtain⟨D,hD⟩: ∃D,P++(L++(y::S))=D:=⟨_,rfl⟩;rw[hD]at hn hP
 have hl:b≤n:=by rw[hn,←hD,hb,hma,ha];simp;omega
 have hbm:b≤4611686018427387904:=by omega
 have ham:a≤m:=by omega
 have hmb:m<b:=by omega
 have hx:D.getD m (0,0)=y:=by rw[←hD,getD_right (by omega),getD_right (by omega),show m-P.length-L.length=0 from by omega];rfl
 have hR: ∀k,k<L.length→D.getD (a+k) (0,0)=L.getD k (0,0):=by intro k hk;rw[←hD,getD_right (by omega),show a+k-P.length=k from by omega,getD_left hk]
 obtain⟨ll,hll⟩: ∃ll,L.length=ll:=⟨_,rfl⟩
 have e1:IntKind.i64.wrap ((m:Int)-(a:Int))=(ll:Int):=by rw[IntWalk.i64_in _ (by omega)];omega
 have e0:((ll:Int)==1)=false:=by rw[beq_eq_false_iff_ne];omega
 have e2:IntKind.i64.wrap ((b:Int)-(m:Int))=1:=by rw[IntWalk.i64_in _ (by omega)];omega
 have HL:=Lib.hid hl;have HA:=Lib.hid ha;have HB:=Lib.hid hb;have HN:=Lib.hid hn;have HMA:=Lib.hid hma;have HX:=Lib.hid hx;have HR:=Lib.hid hR;have HD:=Lib.hid hD;have HS:=Lib.hid hs;have HLL:=Lib.hid hll;obtain⟨Z,hZ⟩: ∃Z,mrg L [y]=Z:=⟨_,rfl⟩;rw[hZ];have HZ:=Lib.hid hZ;clear hl ha hb hn hma hx hR hD hs hZ hll hL2
 go_enter Tryz.func130,Tryz.ntmps130
 go_wp2;clear e1 e2 e0
 go_loopg [14,15] ll (fun gk iv jv W=> ∃i j:Nat,i+gk=j∧iv= .int .i64 i∧jv= .int .i64 j∧a≤i∧i≤j∧j≤m∧(i=a∨(D.getD (i-1) (0,0)).1≤y.1)∧(j=m∨y.1<(D.getD j (0,0)).1)∧Q7 w g D W)
 case atStart=>exact⟨a,m,by have:=HMA.out;have:=HLL.out;omega,rfl,rfl,Nat.le_refl _,ham,Nat.le_refl _,.inl rfl,.inl rfl,hP,Frm.refl _ _⟩
 case round=>
  clear hP;obtain⟨i,j,hgk,rfl,rfl,hmi,hij,hjb,h1,h2,hQ⟩:=hrel;have HGK:=Lib.hid hgk;have H1:=Lib.hid h1;have H2:=Lib.hid h2;clear hgk h1 h2
  by_cases hlt:i<j
  ·obtain⟨h,hh⟩: ∃h:Nat,(i+j)/2=h:=⟨_,rfl⟩
   have hv:((i:Int)+(j:Int))/2=(h:Int):=by omega
   have hih:i≤h:=by omega
   have hhj:h<j:=by omega
   have v1:h<n:=by have:=HL.out;omega
   have v2:m<n:=by have:=HL.out;omega
   obtain⟨z,hz⟩: ∃z,D.getD h (0,0)=z:=⟨_,rfl⟩;obtain⟨x0,x1⟩:=hQ.prs.cell (i:=m) (by rw[←HN.out];exact v2);obtain⟨y0,y1⟩:=hQ.prs.cell (i:=h) (by rw[←HN.out];exact v1);rw[hz]at y0 y1;rw[HX.out]at x0 x1;have hg:=hQ.prs.lt;have fr:=hQ.prs.free;have HZZ:=Lib.hid hz;clear hz hh;have hQd:Q7 w g D wr.drew:=hQ.alloc_;clear hQ
   by_cases hc:y.1<z.1
   ·obtain⟨cv,hcv⟩: ∃cv,cmpI y.1 z.1=cv:=⟨_,rfl⟩;have hcn:cv<0:=hcv▸(cmpI_neg _ _).2 hc;have HC:=Lib.hid hc;clear hc;go_wp2
    go_region_held3 (fun W=>W.cell? ⟨g,m*2,none⟩=some (.int .i64 y.1)∧W.cell? ⟨g,m*2+1,none⟩=some (.int .i64 y.2)∧W.cell? ⟨g,h*2,none⟩=some (.int .i64 z.1)∧W.cell? ⟨g,h*2+1,none⟩=some (.int .i64 z.2)∧Q7 w g D W) (refine⟨?_,?_,?_,?_,?_⟩<;>assumption)
     (first
      |(go_at_call 115;refine(cmp_ok _ y z).mono ?_;rintro r1 w1 ⟨rfl,b1⟩;rw[hcv];have hP1:Q7 w g D w1:=Q7.below (by assumption) b1;have z0:=((bcell b1).1 g (m*2) hg).trans x0;have z1:=((bcell b1).1 g (m*2+1) hg).trans x1;have z2:=((bcell b1).1 g (h*2) hg).trans y0;have z3:=((bcell b1).1 g (h*2+1) hg).trans y1))
    clear x0 x1 y0 y1 fr hg hQd z0 z1 z2 z3 b1;go_wp2
    go_roundg (h-i)
    case rel=>exact⟨i,h,by omega,rfl,rfl,hmi,hih,by omega,H1.out,.inr (by rw[HZZ.out];exact HC.out),hP1⟩
    case measure=>have:=HGK.out;omega
   ·obtain⟨cv,hcv⟩: ∃cv,cmpI y.1 z.1=cv:=⟨_,rfl⟩
    have hcn:decide (cv<0)=false:=by rw[decide_eq_false_iff_not];exact fun h=>hc ((cmpI_neg _ _).1 (hcv▸h))
    have HC:=Lib.hid hc;clear hc;go_wp2
    go_region_held3 (fun W=>W.cell? ⟨g,m*2,none⟩=some (.int .i64 y.1)∧W.cell? ⟨g,m*2+1,none⟩=some (.int .i64 y.2)∧W.cell? ⟨g,h*2,none⟩=some (.int .i64 z.1)∧W.cell? ⟨g,h*2+1,none⟩=some (.int .i64 z.2)∧Q7 w g D W) (refine⟨?_,?_,?_,?_,?_⟩<;>assumption)
     (first
      |(go_at_call 115;refine(cmp_ok _ y z).mono ?_;rintro r1 w1 ⟨rfl,b1⟩;rw[hcv];have hP1:Q7 w g D w1:=Q7.below (by assumption) b1;have z0:=((bcell b1).1 g (m*2) hg).trans x0;have z1:=((bcell b1).1 g (m*2+1) hg).trans x1;have z2:=((bcell b1).1 g (h*2) hg).trans y0;have z3:=((bcell b1).1 g (h*2+1) hg).trans y1))
    clear x0 x1 y0 y1 fr hg hQd z0 z1 z2 z3 b1;go_wp2
    go_roundg (j-(h+1))
    case rel=>exact⟨h+1,j,by omega,by go_num,rfl,by omega,by omega,hjb,.inr (by rw[Nat.add_sub_cancel,HZZ.out];have:=HC.out;omega),H2.out,hP1⟩
    case measure=>have:=HGK.out;omega
  ·have hij2:j=i:=by omega
   subst hij2;clear hij hlt;obtain⟨q,hq⟩: ∃q,j-a=q:=⟨_,rfl⟩
   have hqR:q≤L.length:=by have:=HMA.out;omega
   have hZe:Z=L.take q++y::L.drop q:=by
    rw[←HZ.out];refine mrg_at_right HS.out hqR ?_ ?_
    ·rcases H1.out with h|h
     ·exact .inl (by omega)
     ·rcases Nat.eq_zero_or_pos q with h0|h0
      ·exact .inl h0
      ·refine .inr ?_;rw[←HR.out (q-1) (by omega),show a+(q-1)=j-1 from by omega];exact h
    ·rcases H2.out with h|h
     ·exact .inl (by have:=HMA.out;omega)
     ·rcases Nat.lt_or_ge q L.length with h0|h0
      ·refine .inr ?_;rw[←HR.out q h0,show a+q=j from by omega];exact h
      ·exact .inl (by omega)
   obtain⟨R1,hR1⟩: ∃R1,L.take q=R1:=⟨_,rfl⟩;obtain⟨R2,hR2⟩: ∃R2,L.drop q=R2:=⟨_,rfl⟩
   have hRR:L=R1++R2:=by rw[←hR1,←hR2,List.take_append_drop]
   have hl1:R1.length=q:=by rw[←hR1,List.length_take];omega
   rw[hR1,hR2]at hZe
   have hP:Prs wr g (P++(R1++(R2++y::([]++S)))):=by have:=hQ.prs;rw[←HD.out,hRR,List.append_assoc]at this;exact this
   have F:=hQ.frm
   have hl2:m=j+R2.length:=by have:=HMA.out;rw[hRR]at this;simp only[List.length_append]at this;omega
   have hnl:n=a+q+R2.length+1+S.length:=by have:=HN.out;rw[←HD.out,hRR]at this;have:=HA.out;simp only[List.length_append,List.length_cons]at*;omega
   have HQ:=Lib.hid hq;have HL1:=Lib.hid hl1;have HL2:=Lib.hid hl2;have HZE:=Lib.hid hZe;have HNL:=Lib.hid hnl;clear hq hqR hZe hR1 hR2 hRR hl1 hQ hnl hl2;obtain⟨W0,rfl⟩: ∃W0,W0=wr:=⟨_,rfl⟩;go_wp2
   go_loopg [17] (R2.length) (fun gj kv W=> ∃(U V:List (Int×Int)) (k:Nat),gj=U.length∧kv= .int .i64 k∧k=j+U.length∧U++V=R2∧Prs W g (P++(R1++(U++y::(V++S))))∧Frm (fun j=>j=g) w W)
   case atStart=>exact⟨R2,[],m,rfl,rfl,HL2.out,by simp,hP,F⟩
   case round=>
    clear hP F;obtain⟨U,V,k,hgj,rfl,hk,hUV,hP,F⟩:=hrel;have hul:=congrArg List.length hUV;rw[List.length_append]at hul
    have hkm:k≤4611686018427387904:=by have:=HL2.out;omega
    have hkm2:k≤m:=by have:=HL2.out;omega
    by_cases hkt:j<k
    ·obtain⟨U',v,rfl⟩: ∃U' v,U=U'++[v]:=by
      rcases List.eq_nil_or_concat U with rfl|⟨U',v,rfl⟩
      ·simp at hk;omega
      ·exact⟨U',v,by simp⟩
     obtain⟨k1,hk1⟩: ∃k1,k1+1=k:=⟨k-1,by omega⟩;obtain⟨E,hE⟩: ∃E,P++(R1++(U'++[v]++y::(V++S)))=E:=⟨_,rfl⟩
     have hE2:E=(P++(R1++U'))++(v::y::(V++S)):=by rw[←hE];simp
     have hpk:(P++(R1++U')).length=k1:=by have:=HA.out;have:=HL1.out;have:=HQ.out;simp only[List.length_append,List.length_cons,List.length_nil]at*;omega
     have hx:E.getD k (0,0)=y:=by rw[hE2,getD_right (by omega),hpk,←hk1,Nat.add_sub_cancel_left];rfl
     have hy:E.getD k1 (0,0)=v:=by rw[hE2,getD_right (by omega),hpk,Nat.sub_self];rfl
     have hsw:swp E k k1=P++(R1++(U'++y::(v::V++S))):=by have:=swp_parts (P++(R1++U')) (V++S) y v;rw[hpk,←hE2,hk1]at this;rw[this];simp
     rw[hE]at hP
     have hEl:E.length=n:=by rw[hE2,HNL.out];have:=HA.out;have:=HL1.out;have:=HQ.out;simp only[List.length_append,List.length_cons,List.length_nil]at*;omega
     have v2:k<n:=by have:=HL.out;omega
     obtain⟨x0,x1⟩:=hP.cell (i:=k) (by omega);obtain⟨y0,y1⟩:=hP.cell (i:=k1) (by omega);rw[hx]at x0 x1;rw[hy]at y0 y1;have HXX:=Lib.hid hx;have HY:=Lib.hid hy;have HSW:=Lib.hid hsw
     have v1:IntKind.i64.wrap ((k:Int)-1)=(k1:Int):=by rw[IntWalk.i64_in _ (by omega)];omega
     have v3:k1<n:=by omega
     have HK:=Lib.hid hk;have HGJ:=Lib.hid hgj;have HUV:=Lib.hid hUV;have hg:=hP.lt;have fr:=hP.free;clear hE hE2 hpk hx hy hsw hEl hk hgj hUV hul;go_wp2
     go_region
     all_goals
      go_wp2
      go_roundg U'.length
      case rel=>have P2:=(hP.swp k k1).drew;rw[HXX.out,HY.out,HSW.out]at P2;exact⟨U',v::V,k1,rfl,rfl,by have:=HK.out;simp at this;omega,by rw[←HUV.out];simp,P2,((((F.set rfl _).set rfl _).set rfl _).set rfl _).drew⟩
      case measure=>have:=HGJ.out;simp at this;omega
    ·have hU:U=[]:=List.eq_nil_of_length_eq_zero (by omega);subst hU;rw[List.nil_append]at hUV;subst hUV
     have hfin:P++(R1++([]++y::(V++S)))=P++(Z++S):=by rw[HZE.out];simp
     rw[hfin]at hP;clear hfin hul hk hgj;go_wp2;refine bodyPost_ret (results_none rfl _ _ _) rfl ?_;exact⟨rfl,hP,F⟩
end
section
theorem mrg_length: ∀L R:List (Int×Int),(mrg L R).length=L.length+R.length:=by
 intro L R
 induction L,R using mrg.induct with
 |case1 R=>rw[nil_mrg];simp
 |case2 x L=>rw[mrg_nil];simp
 |case3 x L y R hlt ih=>rw[mrg_cons,if_pos hlt];simp only[List.length_cons]at*;omega
 |case4 x L y R hlt ih=>rw[mrg_cons,if_neg hlt];simp only[List.length_cons]at*;omega
def SymK (K:Nat):Prop:= ∀(w:World) (g n cap:Nat) (P L R S:List (Int×Int)) (a m b:Nat),L.length+R.length≤K→0<L.length→0<R.length→a=P.length→m=a+L.length→b=m+R.length→
 n=(P++(L++(R++S))).length→n≤4611686018427387904→Prs w g (P++(L++(R++S)))→Srt L→Srt R→
 Calls Tryz.prog 130 #[.slice (some ⟨g,0,none⟩) n cap,.int .i64 a,.int .i64 m,.int .i64 b,.func (.func 115) #[] #[]] w fun r w'=>r= .returned (.tuple #[])∧Prs w' g (P++(mrg L R++S))∧Frm (fun j=>j=g) w w'
theorem sym_plan {K:Nat}(ih:SymK K){w:World}{g n cap:Nat}{P L R S:List (Int×Int)}{a m b:Nat}(hK:L.length+R.length≤K+1)(hL0:2≤L.length)(hR0:2≤R.length)
 (ha:a=P.length) (hma:m=a+L.length) (hb:b=m+R.length) (hn:n=(P++(L++(R++S))).length) (hm2:n≤4611686018427387904) (hsL:Srt L) (hsR:Srt R)
 {mid nn p lo hi st en:Nat} (hmid:(a+b)/2=mid) (hnn:nn=mid+m) (hp:p+1=nn) (hlohi:(mid<m∧lo+b=nn∧hi=mid)∨(m≤mid∧lo=a∧hi=m))
 (hst1:lo≤st) (hst2:st≤hi) (hen:en+st=nn)
 (h1:st=lo∨((P++(L++(R++S))).getD (st-1) (0,0)).1≤((P++(L++(R++S))).getD (p-(st-1)) (0,0)).1)
 (h2:st=hi∨((P++(L++(R++S))).getD (p-st) (0,0)).1<((P++(L++(R++S))).getD st (0,0)).1):
 ∃D1 D2:List (Int×Int),
  (∀W,Q7 w g (P++(L++(R++S))) W→st<m→m<en→Calls Tryz.prog 131 #[.slice (some ⟨g,0,none⟩) n cap,.int .i64 st,.int .i64 m,.int .i64 en,.func (.func 115) #[] #[]] W fun r w'=>r= .returned (.tuple #[])∧Q7 w g D1 w')∧
  (¬(st<m∧m<en)→P++(L++(R++S))=D1)∧
  (∀W,Q7 w g D1 W→a<st→st<mid→Calls Tryz.prog 130 #[.slice (some ⟨g,0,none⟩) n cap,.int .i64 a,.int .i64 st,.int .i64 mid,.func (.func 115) #[] #[]] W fun r w'=>r= .returned (.tuple #[])∧Q7 w g D2 w')∧
  (¬(a<st∧st<mid)→D1=D2)∧
  (∀W,Q7 w g D2 W→mid<en→en<b→Calls Tryz.prog 130 #[.slice (some ⟨g,0,none⟩) n cap,.int .i64 mid,.int .i64 en,.int .i64 b,.func (.func 115) #[] #[]] W fun r w'=>r= .returned (.tuple #[])∧Q7 w g (P++(mrg L R++S)) w')∧
  (¬(mid<en∧en<b)→D2=P++(mrg L R++S)):=by
 have hgL: ∀k,k<L.length→(P++(L++(R++S))).getD (a+k) (0,0)=L.getD k (0,0):=by intro k hk;rw[getD_right (by omega),show a+k-P.length=k from by omega,getD_left hk]
 have hgR: ∀k,k<R.length→(P++(L++(R++S))).getD (m+k) (0,0)=R.getD k (0,0):=by intro k hk;rw[getD_right (by omega),getD_right (by omega),show m+k-P.length-L.length=k from by omega,getD_left hk]
 obtain⟨q,hq⟩: ∃q,st=a+q:=⟨st-a,by omega⟩;obtain⟨r,hr⟩: ∃r,en=m+r:=⟨en-m,by omega⟩
 have hqL:q≤L.length:=by omega
 have hrR:r≤R.length:=by omega
 have hmrg:=mrg_at (i:=q) (j:=r) hsL hsR hqL hrR
  (by
   rcases Nat.eq_zero_or_pos q with h0|h0
   ·exact .inl h0
   ·rcases Nat.lt_or_ge r R.length with h5|h5
    ·refine .inr (.inr ?_)
     rcases h1 with h|h
     ·omega
     ·rw[show st-1=a+(q-1) from by omega,hgL _ (by omega),show p-(a+(q-1))=m+r from by omega,hgR _ h5]at h;exact h
    ·exact .inr (.inl (by omega)))
  (by
   rcases Nat.eq_zero_or_pos r with h0|h0
   ·exact .inr (.inl h0)
   ·rcases Nat.lt_or_ge q L.length with h5|h5
    ·refine .inr (.inr ?_)
     rcases h2 with h|h
     ·omega
     ·rw[hq,hgL _ h5,show p-(a+q)=m+(r-1) from by omega,hgR _ (by omega)]at h;exact h
    ·exact .inl (by omega))
 have s1:=hsL.take q;have s2:=hsL.drop q;have s3:=hsR.take r;have s4:=hsR.drop r;have eL:L.take q++L.drop q=L:=List.take_append_drop q L;have eR:R.take r++R.drop r=R:=List.take_append_drop r R
 have l1:(L.take q).length=q:=by rw[List.length_take];omega
 have l2:(L.drop q).length=L.length-q:=List.length_drop
 have l3:(R.take r).length=r:=by rw[List.length_take];omega
 have l4:(R.drop r).length=R.length-r:=List.length_drop;generalize L.take q=L1 at*;generalize L.drop q=L2 at*;generalize R.take r=R1 at*;generalize R.drop r=R2 at*
 have eD:P++(L++(R++S))=(P++L1)++(L2++(R1++(R2++S))):=by rw[←eL,←eR];simp
 have hn':=hn;rw[←eL,←eR]at hn';simp only[List.length_append]at hn';rw[hmrg];refine⟨(P++L1)++(R1++(L2++(R2++S))),P++(mrg L1 R1++(L2++(R2++S))),?_,?_,?_,?_,?_,?_⟩
 ·intro W hW h3 h4;rw[eD]at hW;refine(rotate_ok (cap:=cap) (A:=st) (M:=m) (m:=m) (B:=en) (by rw[List.length_append];omega) rfl (by rw[List.length_append];omega) (by rw[List.length_append];omega) (by simp only[List.length_append];omega) hW.prs (by omega) (by omega) hm2 _).mono ?_;rintro r' w' ⟨rfl,P1,F1⟩;exact⟨rfl,P1,hW.frm.trans F1 (fun _ _ h=>h)⟩
 ·intro h;rw[eD]
  by_cases h3:st<m
  ·have:R1=[]:=List.eq_nil_of_length_eq_zero (by omega);subst this;rfl
  ·have:L2=[]:=List.eq_nil_of_length_eq_zero (by omega);subst this;rfl
 ·intro W hW h3 h4;rw[List.append_assoc]at hW;refine(ih W g n cap P L1 R1 (L2++(R2++S)) a st mid (by omega) (by omega) (by omega) ha (by omega) (by omega) (by simp only[List.length_append];omega) hm2 hW.prs s1 s3).mono ?_;rintro r' w' ⟨rfl,P1,F1⟩;exact⟨rfl,P1,hW.frm.trans F1 (fun _ _ h=>h)⟩
 ·intro h
  by_cases h3:a<st
  ·have:R1=[]:=List.eq_nil_of_length_eq_zero (by omega);subst this;rw[mrg_nil];simp
  ·have:L1=[]:=List.eq_nil_of_length_eq_zero (by omega);subst this;rw[nil_mrg];simp
 ·intro W hW h3 h4;rw[←List.append_assoc]at hW
  have e:P++(mrg L1 R1++mrg L2 R2++S)=(P++mrg L1 R1)++(mrg L2 R2++S):=by simp
  rw[e];have hml:=mrg_length L1 R1;refine(ih W g n cap (P++mrg L1 R1) L2 R2 S mid en b (by omega) (by omega) (by omega) (by rw[List.length_append];omega) (by omega) (by omega) (by simp only[List.length_append];omega) hm2 hW.prs s2 s4).mono ?_;rintro r' w' ⟨rfl,P1,F1⟩;exact⟨rfl,P1,hW.frm.trans F1 (fun _ _ h=>h)⟩
 ·intro h
  by_cases h3:mid<en
  ·have:R2=[]:=List.eq_nil_of_length_eq_zero (by omega);subst this;rw[mrg_nil];simp
  ·have:L2=[]:=List.eq_nil_of_length_eq_zero (by omega);subst this;rw[nil_mrg];simp
attribute [local go_sem] Oper.semAt_some
theorem sym_gen {K:Nat}(ih:SymK K){w:World}{g n cap:Nat}{P L R S:List (Int×Int)}{a m b:Nat}(hK:L.length+R.length≤K+1)(hL0:2≤L.length)(hR0:2≤R.length)
 (ha:a=P.length) (hma:m=a+L.length) (hb:b=m+R.length) (hn:n=(P++(L++(R++S))).length) (hm2:n≤4611686018427387904) (hP:Prs w g (P++(L++(R++S)))) (hsL:Srt L) (hsR:Srt R):
 Calls Tryz.prog 130 #[.slice (some ⟨g,0,none⟩) n cap,.int .i64 a,.int .i64 m,.int .i64 b,.func (.func 115) #[] #[]] w fun r w'=>r= .returned (.tuple #[])∧Prs w' g (P++(mrg L R++S))∧Frm (fun j=>j=g) w w':=by
 obtain⟨mid,hmid⟩: ∃mid,(a+b)/2=mid:=⟨_,rfl⟩;obtain⟨nn,hnn⟩: ∃nn,nn=mid+m:=⟨_,rfl⟩;obtain⟨p,hp⟩: ∃p,p+1=nn:=⟨nn-1,by omega⟩
 obtain⟨lo,hi,hlohi⟩: ∃lo hi,(mid<m∧lo+b=nn∧hi=mid)∨(m≤mid∧lo=a∧hi=m):=by
  by_cases h:mid<m
  ·exact⟨nn-b,mid,.inl ⟨h,by omega,rfl⟩⟩
  ·exact⟨a,m,.inr ⟨by omega,rfl,rfl⟩⟩
 have plan:=fun(st en:Nat)=>sym_plan (cap:=cap) (w:=w) (g:=g) ih hK hL0 hR0 ha hma hb hn hm2 hsL hsR hmid hnn hp hlohi (st:=st) (en:=en);obtain⟨D,hD⟩: ∃D,P++(L++(R++S))=D:=⟨_,rfl⟩;obtain⟨D3,hD3⟩: ∃D3,P++(mrg L R++S)=D3:=⟨_,rfl⟩;simp only[hD3]at plan⊢;simp only[hD]at plan;rw[hD]at hP hn
 have hl:b≤n:=by rw[hn,←hD,hb,hma,ha];simp;omega
 obtain⟨ll,hll⟩: ∃ll,L.length=ll:=⟨_,rfl⟩;obtain⟨rl,hrl⟩: ∃rl,R.length=rl:=⟨_,rfl⟩;rw[hll]at hL0 hma;rw[hrl]at hR0 hb
 have f1:b≤4611686018427387904:=by omega
 have f2:m<b:=by omega
 have f3:a<m:=by omega
 have f4:a<mid:=by omega
 have f5:mid<b:=by omega
 have f6:lo≤hi:=by omega
 have f7:hi≤m:=by omega
 have f8:hi≤mid:=by omega
 have f9:a≤lo:=by omega
 have f10:nn≤lo+b:=by omega
 have f11:hi≤p:=by omega
 have f12:p<lo+b:=by omega
 have f13:p+1≤9223372036854775807:=by omega
 have PLAN:=Lib.hid plan;have HN:=Lib.hid hn;have HLH:=Lib.hid hlohi;have HNN:=Lib.hid hnn;have HPP:=Lib.hid hp
 have e1:IntKind.i64.wrap ((m:Int)-(a:Int))=(ll:Int):=by rw[IntWalk.i64_in _ (by omega)];omega
 have e2:((ll:Int)==1)=false:=by rw[beq_eq_false_iff_ne];omega
 have e3:IntKind.i64.wrap ((b:Int)-(m:Int))=(rl:Int):=by rw[IntWalk.i64_in _ (by omega)];omega
 have e4:((rl:Int)==1)=false:=by rw[beq_eq_false_iff_ne];omega
 have e5:((a:Int)+(b:Int))/2=(mid:Int):=by omega
 have e6:IntKind.i64.wrap ((mid:Int)+(m:Int))=(nn:Int):=by rw[IntWalk.i64_in _ (by omega)];omega
 have e7:IntKind.i64.wrap ((nn:Int)-1)=(p:Int):=by rw[IntWalk.i64_in _ (by omega)];omega
 have g1:nn≤9223372036854775807:=by omega
 clear plan hD hD3 hn hmid hp hll hrl hma hb ha hK hL0 hR0 hsL hsR ih hnn hlohi
 go_enter Tryz.func130,Tryz.ntmps130
 go_upto_if 140 with(fail)
 clear e1 e2 e3 e4 e5 e6
 go_cut [20,21] from 138 to 146 (fun s r wx=>s= .int .i64 lo∧r= .int .i64 hi∧wx=w)
 case first=>
  rcases HLH.out with⟨h1,h2,h3⟩|⟨h1,h2,h3⟩
  ·have e8:IntKind.i64.wrap ((nn:Int)-(b:Int))=(lo:Int):=by rw[IntWalk.i64_in _ (by omega)];omega
   clear h2;subst h3;go_wp2;go_meet;exact⟨rfl,rfl,rfl⟩
  ·subst h2 h3;go_wp2;go_meet;exact⟨rfl,rfl,rfl⟩
 case rest=>
  obtain⟨rfl,rfl,rfl⟩:=hcut;go_wp2;clear e7;obtain⟨dd,hdd⟩: ∃dd,lo+dd=hi:=⟨hi-lo,by omega⟩;have HDD:=Lib.hid hdd;clear hdd;obtain⟨w0,rfl⟩: ∃w0,w0=wc:=⟨_,rfl⟩;have hQ:Q7 w0 g D w0:=⟨hP,Frm.refl _ _⟩;clear hP
  go_loopg [20,21] dd (fun gk iv jv W=> ∃i j:Nat,i+gk=j∧iv= .int .i64 i∧jv= .int .i64 j∧lo≤i∧i≤j∧j≤hi∧(i=lo∨(D.getD (i-1) (0,0)).1≤(D.getD (p-(i-1)) (0,0)).1)∧(j=hi∨(D.getD (p-j) (0,0)).1<(D.getD j (0,0)).1)∧Q7 w0 g D W)
  case atStart=>exact⟨lo,hi,HDD.out,rfl,rfl,Nat.le_refl _,f6,Nat.le_refl _,.inl rfl,.inl rfl,hQ⟩
  case round=>
   clear hQ;obtain⟨i,j,hgk,rfl,rfl,hmi,hij,hjb,h1,h2,hQ⟩:=hrel;have HGK:=Lib.hid hgk;have H1:=Lib.hid h1;have H2:=Lib.hid h2;clear hgk h1 h2
   by_cases hlt:i<j
   ·obtain⟨h,hh⟩: ∃h:Nat,(i+j)/2=h:=⟨_,rfl⟩
    have hv:((i:Int)+(j:Int))/2=(h:Int):=by omega
    have hih:i≤h:=by omega
    have hhj:h<j:=by omega
    obtain⟨k,hk⟩: ∃k,k+h=p:=⟨p-h,by omega⟩
    have hv2:IntKind.i64.wrap ((p:Int)-(h:Int))=(k:Int):=by rw[IntWalk.i64_in _ (by omega)];omega
    have v1:h<n:=by omega
    have v2:k<n:=by have:=HPP.out;omega
    obtain⟨z,hz⟩: ∃z,D.getD h (0,0)=z:=⟨_,rfl⟩;obtain⟨x,hx⟩: ∃x,D.getD k (0,0)=x:=⟨_,rfl⟩;obtain⟨x0,x1⟩:=hQ.prs.cell (i:=k) (by rw[←HN.out];exact v2);obtain⟨y0,y1⟩:=hQ.prs.cell (i:=h) (by rw[←HN.out];exact v1);rw[hz]at y0 y1;rw[hx]at x0 x1;have hg:=hQ.prs.lt;have fr:=hQ.prs.free;have HZZ:=Lib.hid hz;have HXX:=Lib.hid hx;have HK:=Lib.hid hk;clear hz hh hx hk;have hQd:Q7 w0 g D wr.drew:=hQ.alloc_;clear hQ
    by_cases hc:x.1<z.1
    ·obtain⟨cv,hcv⟩: ∃cv,cmpI x.1 z.1=cv:=⟨_,rfl⟩;have hcn:cv<0:=hcv▸(cmpI_neg _ _).2 hc;have HC:=Lib.hid hc;clear hc;go_wp2
     go_region_held3 (fun W=>W.cell? ⟨g,k*2,none⟩=some (.int .i64 x.1)∧W.cell? ⟨g,k*2+1,none⟩=some (.int .i64 x.2)∧W.cell? ⟨g,h*2,none⟩=some (.int .i64 z.1)∧W.cell? ⟨g,h*2+1,none⟩=some (.int .i64 z.2)∧Q7 w0 g D W) (refine⟨?_,?_,?_,?_,?_⟩<;>assumption)
      (first
       |(go_at_call 115;refine(cmp_ok _ x z).mono ?_;rintro r1 w1 ⟨rfl,b1⟩;rw[hcv];have hP1:Q7 w0 g D w1:=Q7.below (by assumption) b1;have z0:=((bcell b1).1 g (k*2) hg).trans x0;have z1:=((bcell b1).1 g (k*2+1) hg).trans x1;have z2:=((bcell b1).1 g (h*2) hg).trans y0;have z3:=((bcell b1).1 g (h*2+1) hg).trans y1))
     clear x0 x1 y0 y1 fr hg hQd z0 z1 z2 z3 b1;go_wp2
     go_roundg (h-i)
     case rel=>exact⟨i,h,by omega,rfl,rfl,hmi,hih,by omega,H1.out,.inr (by rw[HZZ.out,show p-h=k from by have:=HK.out;omega,HXX.out];exact HC.out),hP1⟩
     case measure=>have:=HGK.out;omega
    ·obtain⟨cv,hcv⟩: ∃cv,cmpI x.1 z.1=cv:=⟨_,rfl⟩
     have hcn:decide (cv<0)=false:=by rw[decide_eq_false_iff_not];exact fun h=>hc ((cmpI_neg _ _).1 (hcv▸h))
     have HC:=Lib.hid hc;clear hc;go_wp2
     go_region_held3 (fun W=>W.cell? ⟨g,k*2,none⟩=some (.int .i64 x.1)∧W.cell? ⟨g,k*2+1,none⟩=some (.int .i64 x.2)∧W.cell? ⟨g,h*2,none⟩=some (.int .i64 z.1)∧W.cell? ⟨g,h*2+1,none⟩=some (.int .i64 z.2)∧Q7 w0 g D W) (refine⟨?_,?_,?_,?_,?_⟩<;>assumption)
      (first
       |(go_at_call 115;refine(cmp_ok _ x z).mono ?_;rintro r1 w1 ⟨rfl,b1⟩;rw[hcv];have hP1:Q7 w0 g D w1:=Q7.below (by assumption) b1;have z0:=((bcell b1).1 g (k*2) hg).trans x0;have z1:=((bcell b1).1 g (k*2+1) hg).trans x1;have z2:=((bcell b1).1 g (h*2) hg).trans y0;have z3:=((bcell b1).1 g (h*2+1) hg).trans y1))
     clear x0 x1 y0 y1 fr hg hQd z0 z1 z2 z3 b1;go_wp2
     go_roundg (j-(h+1))
     case rel=>exact⟨h+1,j,by omega,by go_num,rfl,by omega,by omega,hjb,.inr (by rw[Nat.add_sub_cancel,HZZ.out,show p-h=k from by have:=HK.out;omega,HXX.out];have:=HC.out;omega),H2.out,hP1⟩
     case measure=>have:=HGK.out;omega
   ·have hij2:j=i:=by omega
    subst hij2;clear hij hlt;obtain⟨en,hen⟩: ∃en,en+j=nn:=⟨nn-j,by have:=HNN.out;omega⟩
    have e8:IntKind.i64.wrap ((nn:Int)-(j:Int))=(en:Int):=by rw[IntWalk.i64_in _ (by omega)];omega
    obtain⟨D1,D2,c1,c2,c3,c4,c5,c6⟩:=PLAN.out _ _ hmi hjb hen H1.out H2.out;have C1:=Lib.hid c1;have C2:=Lib.hid c2;have C3:=Lib.hid c3;have C4:=Lib.hid c4;have C5:=Lib.hid c5;have C6:=Lib.hid c6
    have i1:en≤4611686018427387904:=by omega
    clear c1 c2 c3 c4 c5 c6 hen
    go_upto_region 39 with(fail)
    skip
    go_cut [185] from 178 to 185 (fun v wx=>v= .bool (decide (j<m∧m<en))∧wx=wr)
    case first=>
     by_cases h1:j<m
     ·by_cases h2:m<en
      ·go_wp2;go_meet;exact⟨by simp only[h1,h2];rfl,rfl⟩
      ·go_wp2;go_meet;exact⟨by simp only[h1,h2];rfl,rfl⟩
     ·go_wp2;go_meet;exact⟨by simp only[h1];rfl,rfl⟩
    case rest=>
     obtain⟨rfl,HW⟩:=hcut;subst HW
     go_upto_if 185 with(fail)
     go_cut [185] from 185 to 191 (fun _ wx=>Q7 w0 g D1 wx)
     case first=>
      by_cases h1:j<m∧m<en
      ·have CT:=C1.out _ hQ h1.1 h1.2;have hd:decide (j<m∧m<en)=true:=decide_eq_true h1;rw[hd];clear hd
       go_wp2_with(go_at_call 131;refine CT.mono ?_;rintro r1 w1 ⟨rfl,P1⟩)
       go_meet;exact P1
      ·have e:=C2.out h1;have hd:decide (j<m∧m<en)=false:=decide_eq_false h1;rw[hd];clear hd;go_wp2;go_meet;exact e▸hQ
     case rest=>
      have hQ':=hcut;clear hQ;obtain⟨W0039,rfl⟩: ∃W0039,W0039=wc:=⟨_,rfl⟩
      go_upto_region 41 with(fail)
      skip
      go_cut [199] from 192 to 199 (fun v wx=>v= .bool (decide (a<j∧j<mid))∧wx=W0039)
      case first=>
       by_cases h1:a<j
       ·by_cases h2:j<mid
        ·go_wp2;go_meet;exact⟨by simp only[h1,h2];rfl,rfl⟩
        ·go_wp2;go_meet;exact⟨by simp only[h1,h2];rfl,rfl⟩
       ·go_wp2;go_meet;exact⟨by simp only[h1];rfl,rfl⟩
      case rest=>
       obtain⟨rfl,HW⟩:=hcut;subst HW
       go_upto_if 199 with(fail)
       go_cut [199] from 199 to 205 (fun _ wx=>Q7 w0 g D2 wx)
       case first=>
        by_cases h1:a<j∧j<mid
        ·have CT:=C3.out _ hQ' h1.1 h1.2;have hd:decide (a<j∧j<mid)=true:=decide_eq_true h1;rw[hd];clear hd
         go_wp2_with(go_at_call 130;refine CT.mono ?_;rintro r1 w1 ⟨rfl,P1⟩)
         go_meet;exact P1
        ·have e:=C4.out h1;have hd:decide (a<j∧j<mid)=false:=decide_eq_false h1;rw[hd];clear hd;go_wp2;go_meet;exact e▸hQ'
       case rest=>
        have hQ'':=hcut;clear hQ';obtain⟨W0041,rfl⟩: ∃W0041,W0041=wc:=⟨_,rfl⟩
        go_upto_region 43 with(fail)
        skip
        go_cut [213] from 206 to 213 (fun v wx=>v= .bool (decide (mid<en∧en<b))∧wx=W0041)
        case first=>
         by_cases h1:mid<en
         ·by_cases h2:en<b
          ·go_wp2;go_meet;exact⟨by simp only[h1,h2];rfl,rfl⟩
          ·go_wp2;go_meet;exact⟨by simp only[h1,h2];rfl,rfl⟩
         ·go_wp2;go_meet;exact⟨by simp only[h1];rfl,rfl⟩
        case rest=>
         obtain⟨rfl,HW⟩:=hcut;subst HW
         by_cases h1:mid<en∧en<b
         ·have CT:=C5.out _ hQ'' h1.1 h1.2;have hd:decide (mid<en∧en<b)=true:=decide_eq_true h1;rw[hd];clear hd
          go_wp2_with(go_at_call 130;refine CT.mono ?_;rintro r1 w1 ⟨rfl,P1⟩)
          go_end0
          exact⟨rfl,P1.prs,P1.frm⟩
         ·have e:=C6.out h1;have hd:decide (mid<en∧en<b)=false:=decide_eq_false h1;rw[hd];clear hd;rw[e]at hQ'';go_wp2
          go_end0
          exact⟨rfl,hQ''.prs,hQ''.frm⟩
theorem sym_all: ∀K,SymK K
 |0=>fun _ _ _ _ _ _ _ _ _ _ _ hK h0=>by intros;omega
 |K+1=>by
  intro w g n cap P L R S a m b hK hL hR ha hm hb hn hn2 hP hsL hsR
  by_cases h1:L.length=1
  ·obtain⟨x,rfl⟩:=List.length_eq_one_iff.1 h1;exact sym_left ha hm hb hn hP hsR hn2
  ·by_cases h2:R.length=1
   ·obtain⟨y,rfl⟩:=List.length_eq_one_iff.1 h2;exact sym_right ha hm h1 hb hn hP hsL hn2
   ·exact sym_gen (sym_all K) hK (by omega) (by omega) ha hm hb hn hn2 hP hsL hsR
attribute [local go_sem] Oper.semAt_some
def chk (s:Nat)(D:List (Int×Int)):List (Int×Int):=if _:D.length≤s∨s=0 then ssort D else ssort (D.take s)++chk s (D.drop s)
termination_by D.length
decreasing_by simp only[List.length_drop];omega
theorem chk_small {s:Nat}{D:List (Int×Int)}(h:D.length≤s):chk s D=ssort D:=by rw[chk,dif_pos (.inl h)]
theorem chk_app {s:Nat}{A B:List (Int×Int)}(h0:0<s)(h:A.length=s):chk s (A++B)=ssort A++chk s B:=by
 rcases B with _|⟨x,B⟩
 ·rw[List.append_nil,chk_small (by omega),chk_small (by simp)];simp[ssort]
 ·rw[chk,dif_neg (by simp only[List.length_append,List.length_cons];omega),←h,List.take_left,List.drop_left]
theorem chk_length (s:Nat)(h0:0<s): ∀(k:Nat) (D:List (Int×Int)),D.length≤k→(chk s D).length=D.length
 |0,D,h=>by rw[chk_small (by omega),ssort_length]
 |k+1,D,h=>by
  by_cases hs:D.length≤s
  ·rw[chk_small hs,ssort_length]
  ·have:=chk_app (s:=s) (A:=D.take s) (B:=D.drop s) h0 (by rw[List.length_take];omega);rw[List.take_append_drop]at this;rw[this,List.length_append,ssort_length,chk_length s h0 k (D.drop s) (by rw[List.length_drop];omega),List.length_take,List.length_drop];omega
theorem stable_ok {w:World}{g n cap:Nat}{D:List (Int×Int)}(hn:n=D.length)(hP:Prs w g D)(hm:n≤1152921504606846976):
 Calls Tryz.prog 127 #[.slice (some ⟨g,0,none⟩) n cap,.int .i64 n,.func (.func 115) #[] #[]] w fun r w'=>r= .returned (.tuple #[])∧Prs w' g (ssort D)∧Frm (fun j=>j=g) w w':=by
 have HN:=Lib.hid hn;obtain⟨Z,hZ⟩: ∃Z,ssort D=Z:=⟨_,rfl⟩;rw[hZ];have HZ:=Lib.hid hZ;have hQ:Q7 w g D w:=⟨hP,Frm.refl _ _⟩;clear hn hZ hP
 go_enter Tryz.func127,Tryz.ntmps127
 go_wp2
 go_loopg [7,8] n (fun gk av bv W=> ∃(X Y:List (Int×Int)) (a:Nat),a+gk=n∧av= .int .i64 a∧bv= .int .i64 ((a:Int)+20)∧a=X.length∧X.length+Y.length=n∧X++chk 20 Y=chk 20 D∧Q7 w g (X++Y) W)
 case atStart=>exact⟨[],D,0,by omega,rfl,rfl,rfl,by have:=HN.out;simp;omega,rfl,hQ⟩
 case round=>
  clear hQ;obtain⟨X,Y,a,hgk,rfl,rfl,ha,hXY,hch,hQ⟩:=hrel;have HGK:=Lib.hid hgk;have HXY:=Lib.hid hXY;have HCH:=Lib.hid hch
  have han:a≤n:=by omega
  have HA:=Lib.hid ha;clear hgk hXY hch ha
  by_cases hlt:a+20≤n
  ·obtain⟨b,hb⟩: ∃b,a+20=b:=⟨_,rfl⟩
   have hbv:((a:Int)+20)=(b:Int):=by omega
   have hY:Y=Y.take 20++Y.drop 20:=(List.take_append_drop 20 Y).symm
   have hl1:(Y.take 20).length=20:=by have:=HXY.out;have:=HA.out;rw[List.length_take];omega
   have hl2:Y.length=20+(Y.drop 20).length:=by have:=HXY.out;have:=HA.out;rw[List.length_drop];omega
   generalize Y.take 20=Y1 at*;generalize Y.drop 20=Y2 at*;have CT:=insertionSort_ok (w:=wr) (g:=g) (cap:=cap) (n:=n) (P:=X) (X:=Y1) (S:=Y2) (a:=a) (b:=b) HA.out (by omega) (by have:=HXY.out;simp only[List.length_append];omega) (by rw[←hY];exact hQ.prs) (by omega);have F:=hQ.frm;have HY:=Lib.hid hY;have HL1:=Lib.hid hl1;have HL2:=Lib.hid hl2;have HB:=Lib.hid hb;rw[hbv]
   have hbn:b≤n:=by omega
   clear hY hl1 hl2 hQ hb hlt hbv
   go_wp2_with(go_at_call 129;refine CT.mono ?_;rintro r1 w1 ⟨rfl,P1,F1⟩)
   go_roundg (n-b)
   case rel=>
    exact⟨X++ssort Y1,Y2,b,by omega,rfl,by go_num,by have:=HB.out;have:=HL1.out;have:=HA.out;rw[List.length_append,ssort_length];omega,by have:=HXY.out;have:=HL1.out;have:=HL2.out;rw[List.length_append,ssort_length];omega,
     by have:=HCH.out;rw[HY.out,chk_app (by omega) HL1.out]at this;rw[←this];simp,by rw[List.append_assoc];exact P1,F.trans F1 (fun _ _ h=>h)⟩
   case measure=>have:=HGK.out;have:=HB.out;omega
  ·have hlY:Y.length<20:=by have:=HXY.out;have:=HA.out;omega
   have hc:X++ssort Y=chk 20 D:=by rw[←HCH.out,chk_small (by omega)]
   have CT:=insertionSort_ok (w:=wr) (g:=g) (cap:=cap) (n:=n) (P:=X) (X:=Y) (S:=[]) (a:=a) (b:=n) HA.out (by have:=HXY.out;have:=HA.out;omega) (by have:=HXY.out;simp;omega) (by rw[List.append_nil];exact hQ.prs) (by omega);rw[List.append_nil,hc]at CT;have F:=hQ.frm
   have hbv:((a:Int)+20)=((a+20:Nat):Int):=by omega
   rw[hbv];obtain⟨b,hb⟩: ∃b,a+20=b:=⟨_,rfl⟩;rw[hb]
   have hbn: ¬b≤n:=by omega
   clear hlY hc hQ hbv hb hlt
   go_wp2_with(go_at_call 129;refine CT.mono ?_;rintro r1 w1 ⟨rfl,P1,F1⟩)
   have hQ:Q7 w g (chk 20 D) w1:=⟨P1,F.trans F1 (fun _ _ h=>h)⟩;clear CT F F1 P1;obtain⟨W1,rfl⟩: ∃W1,W1=wr:=⟨_,rfl⟩
   go_loopg [6] (n-20) (fun gk sv W=> ∃s:Nat,gk=n-s∧sv= .int .i64 s∧0<s∧s≤2*n+20∧Q7 w g (chk s D) W)
   case atStart=>exact⟨20,rfl,rfl,by omega,by omega,hQ⟩
   case round=>
    clear hQ;obtain⟨s,hgk,rfl,hs0,hs,hQ⟩:=hrel;have HGS:=Lib.hid hgk;clear hgk
    by_cases hsn:s<n
    ·obtain⟨t,ht⟩: ∃t,2*s=t:=⟨_,rfl⟩
     have e1:IntKind.i64.wrap (2*(s:Int))=(t:Int):=by rw[IntWalk.i64_in _ (by omega)];omega
     have e2:IntKind.i64.wrap ((s:Int)*2)=(t:Int):=by rw[IntWalk.i64_in _ (by omega)];omega
     have hln:(chk s D).length=n:=by rw[chk_length s hs0 _ D (Nat.le_refl _)];exact HN.out.symm
     obtain⟨W2,rfl⟩: ∃W2,W2=wr:=⟨_,rfl⟩;have HT:=Lib.hid ht;clear hln
     have htm:t≤2305843009213693952:=by omega
     have htl:s+s=t:=by omega
     clear ht;go_wp2
     go_loopg [7,8] n (fun gi av bv W=> ∃(X Y:List (Int×Int)) (a b:Nat),a+gi=n∧av= .int .i64 a∧bv= .int .i64 b∧b=a+t∧a=X.length∧X.length+Y.length=n∧X++chk t Y=chk t D∧Q7 w g (X++chk s Y) W)
     case atStart=>exact⟨[],D,0,t,by omega,rfl,rfl,by omega,rfl,by have:=HN.out;simp;omega,rfl,hQ⟩
     case round=>
      clear hQ;obtain⟨X,Y,a,b,hgk,rfl,rfl,hb,ha,hXY,hch,hQ⟩:=hrel;have HGK:=Lib.hid hgk;have HXY:=Lib.hid hXY;have HCH:=Lib.hid hch
      have han:a≤n:=by omega
      have hbm:b≤3458764513820540928:=by omega
      have HA:=Lib.hid ha;have HB:=Lib.hid hb;clear hgk hXY hch ha hb;obtain⟨m,hm1⟩: ∃m,a+s=m:=⟨_,rfl⟩
      have e3:IntKind.i64.wrap ((a:Int)+(s:Int))=(m:Int):=by rw[IntWalk.i64_in _ (by omega)];omega
      have HM:=Lib.hid hm1;clear hm1
      by_cases hlt:b≤n
      ·have hY:Y=Y.take s++((Y.drop s).take s++(Y.drop s).drop s):=by rw[List.take_append_drop,List.take_append_drop]
       have hl1:(Y.take s).length=s:=by have:=HXY.out;have:=HA.out;have:=HB.out;rw[List.length_take];omega
       have hl2:((Y.drop s).take s).length=s:=by have:=HXY.out;have:=HA.out;have:=HB.out;rw[List.length_take,List.length_drop];omega
       have hl3:Y.length=s+s+((Y.drop s).drop s).length:=by have:=HXY.out;have:=HA.out;have:=HB.out;rw[List.length_drop,List.length_drop];omega
       generalize Y.take s=Y1 at*;generalize (Y.drop s).take s=Y2 at*;generalize (Y.drop s).drop s=Y3 at*
       have hck:chk s Y=ssort Y1++(ssort Y2++chk s Y3):=by rw[hY,chk_app hs0 hl1,chk_app hs0 hl2]
       have hct:chk t Y=mrg (ssort Y1) (ssort Y2)++chk t Y3:=by rw[hY,←List.append_assoc,chk_app (by omega) (by rw[List.length_append];omega),mrg_ssort]
       have hcl:(chk s Y3).length=Y3.length:=chk_length s hs0 _ Y3 (Nat.le_refl _)
       have CT:=sym_all (s+s) wr g n cap X (ssort Y1) (ssort Y2) (chk s Y3) a m b (by rw[ssort_length,ssort_length];omega) (by rw[ssort_length];omega) (by rw[ssort_length];omega) HA.out (by rw[ssort_length];have:=HM.out;omega) (by rw[ssort_length];have:=HM.out;have:=HB.out;omega)
        (by have:=HXY.out;simp only[List.length_append,ssort_length];omega) (by omega) (by rw[←hck];exact hQ.prs) (ssort_srt _) (ssort_srt _)
       have F:=hQ.frm;have HL1:=Lib.hid hl1;have HL2:=Lib.hid hl2;have HL3:=Lib.hid hl3;have HCT:=Lib.hid hct;obtain⟨c,hc⟩: ∃c,b+t=c:=⟨_,rfl⟩
       have e4:IntKind.i64.wrap ((b:Int)+(t:Int))=(c:Int):=by rw[IntWalk.i64_in _ (by omega)];omega
       have HC:=Lib.hid hc;clear hY hl1 hl2 hl3 hck hct hcl hQ hc
       go_wp2_with(go_at_call 130;refine CT.mono ?_;rintro r1 w1 ⟨rfl,P1,F1⟩)
       go_roundg (n-b)
       case rel=>
        refine⟨X++mrg (ssort Y1) (ssort Y2),Y3,b,c,by omega,rfl,rfl,HC.out.symm,by have:=HB.out;have:=HL1.out;have:=HL2.out;have:=HA.out;rw[List.length_append,mrg_length,ssort_length,ssort_length];omega,
         by have:=HXY.out;have:=HL1.out;have:=HL2.out;have:=HL3.out;rw[List.length_append,mrg_length,ssort_length,ssort_length];omega,?_,by rw[List.append_assoc];exact P1,F.trans F1 (fun _ _ h=>h)⟩
        rw[←HCH.out,HCT.out,List.append_assoc]
       case measure=>have:=HGK.out;have:=HB.out;omega
      ·have F:=hQ.frm
       by_cases hmn:m<n
       ·have hY:Y=Y.take s++Y.drop s:=(List.take_append_drop s Y).symm
        have hl1:(Y.take s).length=s:=by have:=HXY.out;have:=HA.out;have:=HM.out;rw[List.length_take];omega
        have hl2:Y.length=s+(Y.drop s).length:=by have:=HXY.out;have:=HA.out;have:=HM.out;rw[List.length_drop];omega
        generalize Y.take s=Y1 at*;generalize Y.drop s=Y2 at*
        have hlY:Y.length<t:=by have:=HXY.out;have:=HA.out;have:=HB.out;omega
        have hl3:X.length+Y.length=n:=HXY.out;have hl4:a=X.length:=HA.out;have hl5:a+s=m:=HM.out
        have hck:chk s Y=ssort Y1++(ssort Y2++[]):=by rw[hY,chk_app hs0 hl1,chk_small (D:=Y2) (by omega),List.append_nil]
        have hct:X++(mrg (ssort Y1) (ssort Y2)++[])=chk t D:=by rw[←HCH.out,chk_small (D:=Y) (by omega),List.append_nil,mrg_ssort,←hY]
        have CT:=sym_all n wr g n cap X (ssort Y1) (ssort Y2) [] a m n (by rw[ssort_length,ssort_length];omega) (by rw[ssort_length];omega) (by rw[ssort_length];omega) hl4 (by rw[ssort_length];omega) (by rw[ssort_length];omega)
         (by simp only[List.length_append,ssort_length,List.length_nil];omega) (by omega) (by rw[←hck];exact hQ.prs) (ssort_srt _) (ssort_srt _)
        rw[hct]at CT;clear hY hl1 hl2 hl3 hl4 hl5 hck hct hQ hlY htl
        go_wp2_with(go_at_call 130;refine CT.mono ?_;rintro r1 w1 ⟨rfl,P1,F1⟩)
        go_roundg (n-t)
        case rel=>exact⟨t,rfl,rfl,by have:=HT.out;omega,by have:=HT.out;omega,P1,F.trans F1 (fun _ _ h=>h)⟩
        case measure=>have:=HGS.out;have:=HT.out;omega
       ·have hlY:Y.length≤s:=by have:=HXY.out;have:=HA.out;have:=HM.out;omega
        have hct:X++chk s Y=chk t D:=by rw[←HCH.out,chk_small hlY,chk_small (by have:=HT.out;omega)]
        rw[hct]at hQ;clear hct hlY htl;go_wp2
        go_roundg (n-t)
        case rel=>exact⟨t,rfl,rfl,by have:=HT.out;omega,by have:=HT.out;omega,hQ⟩
        case measure=>have:=HGS.out;have:=HT.out;omega
    ·have hc:chk s D=Z:=by rw[←HZ.out,chk_small (by have:=HN.out;omega)]
     rw[hc]at hQ;clear hc;go_wp2
     go_end0
     exact⟨rfl,hQ.prs,hQ.frm⟩
end
end Go.Proofs.YtplpbmkdfabfpaaGreat
