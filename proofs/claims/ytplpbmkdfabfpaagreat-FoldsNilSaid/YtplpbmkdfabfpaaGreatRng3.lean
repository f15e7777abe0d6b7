/- A region that draws its order: reads, ONE call that may write, then operations on slots in whatever order. A region that draws its order, inside the wide fence: reads, ONE call (of yield, too), then operations on slots in whatever order. A range over a function whose iterator turns cells of its own: the law with the body's word as a relation. A range over a function whose iterator turns cells of its own: the law with the round as one. A range over a function that may be left: the law with the round as one. Reads that draw their order, inside any fence. -/
import Derived.Test.YtplpbmkdfabfpaaGreatKit3
import Derived.OrdersIn
import Derived.RangeFuncNested
import Derived.OwnWalkIn
namespace Go.Proofs.YtplpbmkdfabfpaaGreat
open Go.RowKit
section
section
variable{P:Program} {ops:Array Oper} {md:Region.Mode} {w:World}
def midChain (md:Region.Mode)(ops:Array Oper)(n:Nat):Bool:=(List.range ops.size).all fun t=>decide (t≤n)||(List.range t).any fun j=>decide (n≤j) && Region.waitsFor md ops t j
def midEnd (md:Region.Mode)(ops:Array Oper)(n:Nat)(listed:Array Bool):Bool:=decide (Region.ready md ops listed=[n]) && Region.lexFrom md ops (ops.size-n-1) (n+1) (listed.setIfInBounds n true)
def midHead (md:Region.Mode)(ops:Array Oper)(n:Nat):Nat→Nat→Array Bool→Bool
 |0,_,listed=>midEnd md ops n listed
 |f+1,k,listed=>(Region.ready md ops listed).contains k && Region.free md ops listed k && midHead md ops n f (k+1) (listed.setIfInBounds k true)
def midB (md:Region.Mode)(ops:Array Oper)(n:Nat):Bool:=Region.noSelect ops && decide (n<ops.size) && Region.sinkB md ops n && midChain md ops n && midHead md ops n n 0 (Array.replicate ops.size false)
theorem mid_low {n:Nat}(hs:Region.sinkB md ops n=true)(hc:midChain md ops n=true)(hn:n<ops.size){listed:Array Bool}(inv:HeadInv md ops n listed){t:Nat}
 (ht:t∈Region.ready md ops listed) (hnt:n≤t): ∀i,i<n→listed.getD i true=true:=by
 obtain⟨_,ot,hot,hall⟩:=mem_ready.1 ht
 have key: ∀j,Region.waitsFor md ops t j=true→listed.getD j false=true:=fun j hj=>by obtain⟨o',ho',e,he,hb,hon⟩:=Region.waitsFor_spec hj;obtain rfl:o'=ot:=Option.some.inj (ho'.symm.trans hot);rw[←hon];exact hall e he hb
 rcases Nat.lt_or_ge n t with hlt|hge
 ·exfalso;have hts:t<ops.size:=(Array.getElem?_eq_some_iff.1 hot).1;have h1:=List.all_eq_true.1 hc t (List.mem_range.2 hts);simp only[Bool.or_eq_true,decide_eq_true_eq]at h1
  rcases h1 with h1|h1
  ·omega
  ·obtain⟨j,hj,h2⟩:=List.any_eq_true.1 h1;simp only[Bool.and_eq_true,decide_eq_true_eq]at h2;have h3:=key j h2.2;rw[getD_both (inv.tail j h2.1 (by have:=List.mem_range.1 hj;omega))]at h3;cases h3
 ·obtain rfl:t=n:=by omega
  suffices H: ∀d i,t-i=d→i<t→listed.getD i true=true from fun i hi=>H _ i rfl hi
  intro d
  induction d using Nat.strongRecOn with
  |_ d ih=>
   intro i hd hi;have h1:=List.all_eq_true.1 hs i (List.mem_range.2 hi);obtain⟨j,hj,h2⟩:=List.any_eq_true.1 h1;simp only[Bool.and_eq_true,decide_eq_true_eq]at h2;have hjt:=List.mem_range.1 hj
   have hif:listed.getD i false=true:=by
    by_cases hjt':j=t
    ·subst hjt';exact key i h2.2
    ·have hjl:=ih (t-j) (by omega) j rfl (by omega);obtain⟨o',ho',e,he,hb,hon⟩:=Region.waitsFor_spec h2.2
     have hjf:listed.getD j false=true:=by
      cases hx:listed.getD j false with
      |true=>rfl
      |false=>rw[getD_in (by rw[inv.size];exact(Array.getElem?_eq_some_iff.1 ho').1) hx]at hjl;cases hjl
     have:=inv.closed j o' ho' hjf e he hb
     rwa [hon]at this
   cases hx:listed.getD i true with
   |true=>rfl
   |false=>rw[getD_both hx]at hif;cases hif
theorem mid_first {n i:Nat}{oi:Oper}{v:Value}{L:Array Bool→Act→Prop}(hs:Region.sinkB md ops n=true)(hc:midChain md ops n=true)(hn:n<ops.size)
 (hsel:Region.noSelect ops=true) (hi:ops[i]?=some oi) (hin:i<n) (hL: ∀listed a,L listed a→ ∀j∈Region.ready md ops listed,n≤j):
 ∀(f:Nat) (listed:Array Bool) (a:Act),HeadInv md ops n listed→i∈Region.ready md ops listed→
  (∀j oj,ops[j]?=some oj→j≠i→listed.getD j true=false→(∀e∈oj.after,Region.binds md e=true→e.on≠i)→oi.apart ops oj=true)→
  YieldsAt P ops w oi v a→wpAnyL P md ops w n L f (listed.setIfInBounds i true) (a.put oi.dst v)→wpAnyL P md ops w n L (f+1) listed a
 |f,listed,a,inv,hr,hap,hy,H=>by
  have hun:=(mem_ready.1 hr).1;refine⟨fun h=>(by rw[h]at hr;cases hr),fun j hj=> ?_⟩
  have hjn:j<n:=by
   rcases Nat.lt_or_ge j n with h|h
   ·exact h
   ·have:=mid_low hs hc hn inv hj h i hin;rw[hun]at this;cases this
  refine⟨hjn,?_⟩
  by_cases hji:j=i
  ·subst hji;exact hy.stOp hi H
  ·cases f with
   |zero=>
    have:=hL _ _ H j (ready_mono hj hji);omega
   |succ f=>
    obtain⟨hjun,oj,hoj,hjall⟩:=mem_ready.1 hj
    have hjap:oi.apart ops oj=true:=hap j oj hoj hji hjun fun e he hb h=>by have h1:=hjall e he hb;rw[h,getD_both hun]at h1;cases h1
    refine stOp_mono (fun a' h3=>mid_first hs hc hn hsel hi hin hL f (listed.setIfInBounds j true) a' (inv.set hj hjn) (ready_mono hr (Ne.symm hji)) (fun k ok hk hki hku hno=> ?_) h3.1 ?_)
     (stOp_put hoj hjap (fun cs b=>Region.noSelect_spec hsel i oi cs b hi) (fun cs b=>Region.noSelect_spec hsel j oj cs b hoj) hy (H.2 j (ready_mono hj hji)).2)
    ·refine hap k ok hk hki ?_ hno
     by_cases hjk:j=k
     ·subst hjk;exact hjun
     ·rwa [getD_set_ne true hjk]at hku
    ·rw[Array.setIfInBounds_comm _ _ hji];exact h3.2
theorem mid_lex {n:Nat}{Lq:Act→Prop}(hsel:Region.noSelect ops=true)(hs:Region.sinkB md ops n=true)(hc:midChain md ops n=true)(hn:n<ops.size):
 ∀(l:List Oper) (k:Nat) (listed:Array Bool) (a:Act),(∀j,j<l.length→l[j]?=ops[k+j]?)→k+l.length=n→HeadInv md ops n listed→midHead md ops n l.length k listed=true→
  wpStill P ops w Lq l a→wpAnyL P md ops w n (fun listed' a'=>midEnd md ops n listed'=true∧Lq a') l.length listed a
 |[],_,_,_,_,_,_,hB,h=>⟨hB,h⟩
 |o::l,k,listed,a,hl,hk,inv,hB,h=>by
  simp only[List.length_cons]at hk;simp only[List.length_cons,midHead,Bool.and_eq_true]at hB;obtain⟨⟨hr,hf⟩,hB'⟩:=hB
  have h0:ops[k]?=some o:=by simpa using(hl 0 (by simp)).symm
  have hr':k∈Region.ready md ops listed:=by simpa using hr
  obtain⟨v,hy,hK⟩:=yieldsAt_of_stOp (K:=wpStill P ops w Lq l) h0 (by unfold stOp;simp only[h0];exact h)
  refine mid_first hs hc hn hsel h0 (by omega) (fun listed' a' hL j hj=> ?_) l.length listed a inv hr' (Region.free_spec h0 hf) hy
   (mid_lex hsel hs hc hn l (k+1) _ _ (fun j hj=>by have:=hl (j+1) (by simp;omega);simpa[Nat.add_assoc,Nat.add_comm 1 j]using this) (by omega) (inv.set hr' (by omega)) hB' hK)
  have h1:=hL.1;simp only[midEnd,Bool.and_eq_true,decide_eq_true_eq]at h1;rw[h1.1]at hj
  have:j=n:=by simpa using hj
  omega
theorem mid_op {Q:Exit→Act→World→Prop}{n:Nat}{o:Oper}{a:Act}{K:Act→World→Prop}(ho:ops[n]?=some o)(hg:o.guard=none)
 (h: ∀K':Act→World→Prop,(∀a2 w2,K a2 w2→K' a2 w2)→o.wp P a w K' Q):wpOp P ops Q n K a w:=by
 unfold wpOp;simp only[ho];rw[if_pos (by simp[Region.wanted,hg])];exact .inl (h K fun _ _ hk=>hk)
theorem wp_region_mid {id:Nat}{Q:Exit→Act→World→Prop}{a:Act}{w:World}{l:List Oper}(n:Nat){o:Oper}(hm:P.follows .mixedOrders=true)(hB:midB .any l.toArray n=true)(ho:l[n]?=some o)
 (h:wpStill P l.toArray w.drew (fun a'=>wpOp P l.toArray Q n (fun a2 w2=>wpStill P l.toArray w2 (fun a3=>Q .normal a3 w2) (l.drop (n+1)) a2) a' w.drew) (l.take n) a):(Code.region id l.toArray true).wp P Q a w:=by
 simp only[midB,Bool.and_eq_true,decide_eq_true_eq]at hB;obtain⟨⟨⟨⟨hsel,hn⟩,hs⟩,hc⟩,hhd⟩:=hB
 have hn':n<l.length:=by simpa using hn
 have htl:(l.take n).length=n:=by simp;omega
 have inv0:HeadInv .any l.toArray n (Array.replicate l.toArray.size false):=⟨by simp,fun j oj _ hl=>(by rw[getD_replicate_false]at hl;cases hl),fun t _ ht=>getD_in (by simpa using ht) (getD_replicate_false _ _)⟩
 have H:=mid_lex hsel hs hc hn (l.take n) 0 _ a (fun j hj=>by rw[htl]at hj;simp[hj]) (by simpa using htl) inv0 (by rw[htl];exact hhd) h;refine wp_region_any hm ?_
 have:=wpAny_of_head (Q':=Q) (g:=l.toArray.size-n-1+1) (fun listed a' hL=>by
  obtain⟨he,hq⟩:=hL;simp only[midEnd,Bool.and_eq_true,decide_eq_true_eq]at he;refine⟨fun h0=>(by rw[he.1]at h0;cases h0),fun i hi=> ?_⟩;rw[he.1]at hi
  obtain rfl:i=n:=by simpa using hi
  refine wpOp_mono (fun a2 w2 h2=> ?_) hq;refine wpAny_of_still (Q:=fun a3=>Q .normal a3 w2) (fun _ h3=>h3) _ _ _ ?_
  have hdl:(l.drop (i+1)).length=l.toArray.size-i-1:=by simp;omega
  rw[←hdl]
  exact wpAnyS_lex hsel (l.drop (i+1)) (i+1) _ a2 (fun j=>by simp[List.getElem?_drop]) (by rw[hdl];exact he.2) h2) _ _ _ H
 rw[htl,show n+(l.toArray.size-n-1+1)=l.toArray.size by simp;omega]at this;exact this
end
section
variable{P:Program} {ops:Array Oper} {md:Region.Mode} {w:World} {d:Nat}
theorem still_in {o:Oper}{a:Act}{K:Act→Prop}{K':Act→World→Prop}{Q:Exit→Act→World→Prop}(h: ∀a,K a→K' a w)(hh:o.still P a w K):o.wpIn Fence.wide d P a w K' Q:=by
 refine⟨fun _ _=>trivial,?_⟩;show o.uponIn Fence.wide d P a K' Q ((Oper.semAt none a.eval o).run P w);rw[Oper.semAt_none];unfold Oper.still at hh;generalize (execOp a.eval o).run P w=r at*
 cases r with
 |ok n w'=>
  cases n<;>simp only[Oper.stillUpon]at hh
  case value v=>obtain⟨rfl,hk⟩:=hh;exact h _ hk
  case skip=>obtain⟨rfl,hk⟩:=hh;exact h _ hk
  case enter f args=>obtain⟨rfl,v,hc,hk⟩:=hh;refine⟨fun e=>(by cases e),callsIn_wide.2 (hc.mono ?_)⟩;rintro e w'' ⟨rfl,rfl⟩;exact h _ hk
  all_goals exact hh.elim
 |halt e w'=>exact hh.elim
theorem wpOpIn_of_stOp {i:Nat}{a:Act}{K:Act→Prop}{K':Act→World→Prop}{Q':Exit→Act→World→Prop}(h: ∀a,K a→K' a w)(hh:stOp P ops w i K a):wpOpIn Fence.wide d P ops Q' i K' a w:=by
 unfold stOp at hh;unfold wpOpIn
 split
 ·rename_i h0
  rw[h0]at hh;exact h _ hh
 ·rename_i o h0
  rw[h0]at hh;simp only at hh
  split
  ·rename_i hw
   rw[if_pos hw]at hh;exact still_in h hh
  ·rename_i hw
   rw[if_neg hw]at hh;exact⟨fun _ _=>trivial,h _ hh⟩
theorem wpAnyIn_of_head {n g:Nat}{L:Array Bool→Act→Prop}{Q':Exit→Act→World→Prop}(hL: ∀listed a,L listed a→wpAnyIn Fence.wide d P md ops Q' g listed a w):
 ∀(f:Nat) (listed:Array Bool) (a:Act),wpAnyL P md ops w n L f listed a→wpAnyIn Fence.wide d P md ops Q' (f+g) listed a w
 |0,listed,a,h=>by rw[Nat.zero_add];exact hL _ _ h
 |f+1,listed,a,h=>by
  rw[show f+1+g=(f+g)+1 by omega];exact⟨fun h0=>absurd h0 h.1,fun i hi=>wpOpIn_of_stOp (fun a' h'=>wpAnyIn_of_head hL f _ a' h') (h.2 i hi).2⟩
theorem wpAnyIn_of_still {Q:Act→Prop}{Q':Exit→Act→World→Prop}(hQ: ∀a,Q a→Q' .normal a w): ∀(fuel:Nat) (listed:Array Bool) (a:Act),
 wpAnyS P md ops w Q fuel listed a→wpAnyIn Fence.wide d P md ops Q' fuel listed a w
 |0,_,_,h=>⟨h.1,hQ _ h.2⟩
 |fuel+1,_,_,h=>⟨fun h0=>hQ _ (h.1 h0),fun i hi=>wpOpIn_of_stOp (fun a' h'=>wpAnyIn_of_still hQ fuel _ a' h') (h.2 i hi)⟩
theorem wpIn_region_mid {id:Nat}{Q:Exit→Act→World→Prop}{a:Act}{w:World}{l:List Oper}(n:Nat){o:Oper}(hm:P.follows .mixedOrders=true)(hB:midB .any l.toArray n=true)(ho:l[n]?=some o)(hg:o.guard=none)
 (h:wpStill P l.toArray w.drew (fun a'=> ∀K:Act→World→Prop,(∀a2 w2,wpStill P l.toArray w2 (fun a3=>Q .normal a3 w2) (l.drop (n+1)) a2→K a2 w2)→o.wpIn Fence.wide d P a' w.drew K Q) (l.take n) a):(Code.region id l.toArray true).wpIn Fence.wide d P Q a w:=by
 simp only[midB,Bool.and_eq_true,decide_eq_true_eq]at hB;obtain⟨⟨⟨⟨hsel,hn⟩,hs⟩,hc⟩,hhd⟩:=hB
 have hn':n<l.length:=by simpa using hn
 have htl:(l.take n).length=n:=by simp;omega
 have inv0:HeadInv .any l.toArray n (Array.replicate l.toArray.size false):=⟨by simp,fun j oj _ hl=>(by rw[getD_replicate_false]at hl;cases hl),fun t _ ht=>getD_in (by simpa using ht) (getD_replicate_false _ _)⟩
 have H:=mid_lex hsel hs hc hn (l.take n) 0 _ a (fun j hj=>by rw[htl]at hj;simp[hj]) (by simpa using htl) inv0 (by rw[htl];exact hhd) h;refine wpIn_region_any hm ?_
 have:=wpAnyIn_of_head (d:=d) (Q':=Q) (g:=l.toArray.size-n-1+1) (fun listed a' hL=>by
  obtain⟨he,hq⟩:=hL;simp only[midEnd,Bool.and_eq_true,decide_eq_true_eq]at he;refine⟨fun h0=>(by rw[he.1]at h0;cases h0),fun i hi=> ?_⟩;rw[he.1]at hi
  obtain rfl:i=n:=by simpa using hi
  refine wpOpIn_step (o:=o) (by simpa using ho) (fun K' hK=> ?_);rw[if_pos (by simp[Region.wanted,hg])];refine hq K' (fun a2 w2 h2=>hK _ _ ?_);refine wpAnyIn_of_still (Q:=fun a3=>Q .normal a3 w2) (fun _ h3=>h3) _ _ _ ?_
  have hdl:(l.drop (i+1)).length=l.toArray.size-i-1:=by simp;omega
  rw[←hdl]
  exact wpAnyS_lex hsel (l.drop (i+1)) (i+1) _ a2 (fun j=>by simp[List.getElem?_drop]) (by rw[hdl];exact he.2) h2) _ _ _ H
 rw[htl,show n+(l.toArray.size-n-1+1)=l.toArray.size by simp;omega]at this;exact this
end
end
section
def Two (B:Nat)(W W':World):Prop:=W'.heap[B]?=W.heap[B]?∧W'.heap[B+1]?=W.heap[B+1]?
theorem Two.refl (B:Nat)(W:World):Two B W W:=⟨rfl,rfl⟩
theorem Two.trans {B:Nat}{X Y Z:World}(h:Two B X Y)(k:Two B Y Z):Two B X Z:=⟨k.1.trans h.1,k.2.trans h.2⟩
theorem Two.of_frm {F:Nat→Prop}{B:Nat}{W W':World}(h:Frm F W W')(hs:B+1<W.heap.size)(h0: ¬F B)(h1: ¬F (B+1)):Two B W W':=⟨h.block B (by omega) h0,h.block (B+1) hs h1⟩
theorem Frm.put {F:Nat→Prop}{w w':World}(h:Frm F w w'){k:Nat}(hk:F k)(o:Obj):Frm F w (w'.putObj k o):=⟨h.os,h.tape,h.output,by simpa using h.size,fun j hj hn=>(World.putObj_heap_other (fun e=>hn (by rw[e];exact hk))).trans (h.block j hj hn)⟩
def jointPost (B:Nat)(R:World→Prop)(Rx:Code→World→Prop)(W:World):Exit→Act→World→Prop
 |.normal,_,W'=>Two B W W'∧R W'
 |.ret,_,W'=>Two B W W'∧Rx .ret W'
 |.exit id,_,W'=>Two B W W'∧Rx (.exit id) W'
 |.goto t,_,W'=>Two B W W'∧Rx (.goto t) W'
 |.panic _,_,_=>False
 |.outgrown,_,_=>False
variable{F:Fence} {n:Nat} {P:Program}
theorem wpIn_rangeFunc_joint {α:Type}{g:Operand}{ps:Array Tmp}{assign body:Code}{Q:Exit→Act→World→Prop}{a:Act}{w:World}
 (hro:F.round=none) (h1:1≤n) {gf:Nat} {lb:Array Value} (hg:a.eval g= .func (.func gf) #[] lb) (hFg:F.fn gf) (eg: ∀args w,(callFunc gf args).run P w= .ok (.enter gf args) w)
 {encs:α→Array Value} (hps: ∀x,(encs x).size=ps.size)
 (Pre:α→World→Prop) (Mid:α→World→Act→World→Prop) (R:α→World→World→Prop) (Rx:Code→α→World→World→Prop) (Fin:World→Prop) (Finx:Code→World→Prop)
 (hassign: ∀(x:α) (W:World) (K:Act→World→Prop),w.heap.size+1<W.heap.size→Pre x W→(∀a' W',Two w.heap.size W W'→Mid x W a' W'→K a' W')→
  assign.wpIn (F.inRound (w.heap.size+1)) (n-1-1) P (Exit.then K (fun _ _ _=>False)) {tmps:=(ps.zip (encs x)).foldl (fun t (p,v)=>t.setIfInBounds p v) a.tmps,defers:=[]} W)
 (hMid: ∀x W a' A B,Mid x W a' A→Frm (fun k=>k=w.heap.size+1) A B→Mid x W a' B)
 (hbody: ∀(x:α) (W:World) (a':Act) (W':World),w.heap.size+1<W'.heap.size→Mid x W a' W'→
  body.wpIn (F.inRound (w.heap.size+1)) (n-1-1) P (jointPost w.heap.size (R x W) (fun c=>Rx c x W) W') a' W')
 (hR: ∀x W A B,R x W A→Frm (fun k=>k=w.heap.size+1) A B→R x W B)
 (hRx: ∀c x W A B,Rx c x W A→Frm (fun k=>k=w.heap.size+1) A B→Rx c x W B)
 (hcall: ∀(W1:World),Frm (fun _=>False) w W1→w.heap.size+1<W1.heap.size→ ∀(Rdy:World→Prop) (Dn:Code→World→Prop),
  (∀A,Rdy A→w.heap.size+1<A.heap.size)→(∀A B,Rdy A→Two w.heap.size A B→Rdy B)→(∀c A B,Dn c A→Two w.heap.size A B→Dn c B)→Rdy W1→
  (∀x W,Pre x W→Rdy W→YieldAt F (n-1-1) P (w.heap.size+1) (encs x) W fun e W'=>(e= .returned (.bool true)∧R x W W'∧Rdy W')∨(∃c,e= .returned (.bool false)∧Rx c x W W'∧Dn c W'))→
  CallsIn F (n-1) P gf (#[.func (.yield (w.heap.size+1)) #[] #[]]++lb) W1 fun e W'=>(∃v,e= .returned v)∧((Fin W'∧Rdy W')∨ ∃c,Finx c W'∧Dn c W'))
 (hF: ∀A B,Fin A→Frm (fun k=>k=w.heap.size+1) A B→Fin B)
 (hFx: ∀c A B,Finx c A→Frm (fun k=>k=w.heap.size+1) A B→Finx c B)
 (hdone: ∀(W:World),Fin W→W.heap[w.heap.size]?=some (.deferred (some []))→Q .normal {a with defers:={target:=.collected w.heap.size,args:=#[]}::a.defers} W)
 (hstop: ∀(c:Code) (W:World),Finx c W→W.heap[w.heap.size]?=some (.deferred (some []))→c.wpIn F n P Q {a with defers:={target:=.collected w.heap.size,args:=#[]}::a.defers} W):
 (Code.rangeFunc g ps assign body).wpIn F n P Q a w:=by
 refine wpIn_rangeFunc ?_;intro fn hfn;rw[hro];obtain⟨rec,hrec⟩: ∃rec:LoopState→Option Code→Loop,rec=fun st pe=>{state:=st,pending:=pe,fn,tmps:=a.tmps,params:=ps,assign,body,defers:=w.heap.size}:=⟨_,rfl⟩;obtain⟨W1,hW1⟩: ∃W1,(w.alloc (.deferred (some []))).alloc (.loop (rec .ready none))=W1:=⟨_,rfl⟩
 have hL1:W1.heap[w.heap.size+1]?=some (.loop (rec .ready none)):=by rw[←hW1];have:=World.alloc_heap_new (w.alloc (.deferred (some []))) (.loop (rec .ready none));rwa [World.size_alloc]at this
 have hK1:W1.heap[w.heap.size]?=some (.deferred (some [])):=by rw[←hW1];exact(Below.heap_alloc _ _ _ (by simp)).trans (World.alloc_heap_new w _)
 refine⟨w.heap.size+1,[{target:=.collected w.heap.size,args:=#[]}],W1,{target:=.fn (.func gf) lb,args:=#[.func (.yield (w.heap.size+1)) #[] #[]]},W1,gf,
  #[.func (.yield (w.heap.size+1)) #[] #[]]++lb,W1,?_,?_,?_,?_,fun _=>h1,?_⟩
 ·rw[←hW1,hrec];exact run_enterLoop_outer _ _ _ _ _
 ·simp only[resolve,hg];simp[go_sem]
 ·intro f' hf';simp[Target.leads]at hf';subst hf';exact hFg
 ·simp[invoke,go_sem,eg]
 ·have hpt: ∀{A:World} (o:Obj),Frm (fun k=>k=w.heap.size+1) A (A.putObj (w.heap.size+1) o):=fun{A} o=>(Frm.refl (fun k=>k=w.heap.size+1) A).put (k:=w.heap.size+1) rfl o
  refine(hcall W1 (by rw[←hW1];exact((Frm.refl _ w).alloc _).alloc _) (by rw[←hW1];simp)
   (fun W=>W.heap[w.heap.size+1]?=some (.loop (rec .ready none))∧W.heap[w.heap.size]?=some (.deferred (some [])))
   (fun c W=>W.heap[w.heap.size+1]?=some (.loop (rec .done (some c)))∧W.heap[w.heap.size]?=some (.deferred (some [])))
   (fun A h=>(Array.getElem?_eq_some_iff.1 h.1).1)
   (fun A B h t=>⟨t.2.trans h.1,t.1.trans h.2⟩) (fun c A B h t=>⟨t.2.trans h.1,t.1.trans h.2⟩) ⟨hL1,hK1⟩ ?_).mono ?_
  ·rintro x W hp ⟨hl,hk⟩;have hlt:w.heap.size+1<W.heap.size:=(Array.getElem?_eq_some_iff.1 hl).1;have hy:=run_yield (P:=P) (args:=encs x) hl (by rw[hrec];exact hps x);rw[hrec]at hy;refine⟨fn,_,assign,body,hy,roundIn_of_wpIn hfn (hassign x W _ hlt hp ?_)⟩;clear hy;intro a' Wa hta hmid;have hla:=hta.2.trans hl;have hka:=hta.1.trans hk;have hlta:w.heap.size+1<Wa.heap.size:=(Array.getElem?_eq_some_iff.1 hla).1;refine⟨_,run_beginRound hla (by rw[hrec]),?_⟩;have hl2:(Wa.putObj (w.heap.size+1) (.loop {rec .ready none with state:=.busy})).heap[w.heap.size+1]?=some (.loop {rec .ready none with state:=.busy}):=World.putObj_heap_same hlta;have hk2:(Wa.putObj (w.heap.size+1) (.loop {rec .ready none with state:=.busy})).heap[w.heap.size]?=some (.deferred (some [])):=(World.putObj_heap_other (by omega)).trans hka;refine wpIn_mono (hbody x W a' _ (by simpa using hlta) (hMid _ _ _ _ _ hmid (hpt _))) ?_
   have fin: ∀(jump:Option Code) (W3:World),Two w.heap.size (Wa.putObj (w.heap.size+1) (.loop {rec .ready none with state:=.busy})) W3→
    (Instr.endRound (w.heap.size+1) jump).run P W3= .ok (.bool jump.isNone) (W3.putObj (w.heap.size+1) (.loop (rec (if jump.isNone then .ready else .done) jump)))∧
    (W3.putObj (w.heap.size+1) (.loop (rec (if jump.isNone then .ready else .done) jump))).heap[w.heap.size+1]?=some (.loop (rec (if jump.isNone then .ready else .done) jump))∧
    (W3.putObj (w.heap.size+1) (.loop (rec (if jump.isNone then .ready else .done) jump))).heap[w.heap.size]?=some (.deferred (some [])):=fun jump W3 h3=>by
    have hl3:=h3.2.trans hl2;have:=run_endRound (P:=P) jump hl3;rw[hrec]at this⊢;exact⟨this,World.putObj_heap_same (Array.getElem?_eq_some_iff.1 hl3).1,(World.putObj_heap_other (by omega)).trans (h3.1.trans hk2)⟩
   rintro e a3 W3 hp
   cases e with
   |normal=>
    obtain⟨h3,hr3⟩:=hp;obtain⟨hr,hl4,hk4⟩:=fin none W3 h3;exact⟨_,_,hr,.inl ⟨rfl,hR _ _ _ _ hr3 (hpt _),hl4,hk4⟩⟩
   |ret=>
    obtain⟨h3,hr3⟩:=hp;obtain⟨hr,hl4,hk4⟩:=fin (some .ret) W3 h3;exact⟨_,_,hr,.inr ⟨.ret,rfl,hRx _ _ _ _ _ hr3 (hpt _),hl4,hk4⟩⟩
   |exit id=>
    obtain⟨h3,hr3⟩:=hp;obtain⟨hr,hl4,hk4⟩:=fin (some (.exit id)) W3 h3;exact⟨_,_,hr,.inr ⟨.exit id,rfl,hRx _ _ _ _ _ hr3 (hpt _),hl4,hk4⟩⟩
   |goto t=>
    obtain⟨h3,hr3⟩:=hp;obtain⟨hr,hl4,hk4⟩:=fin (some (.goto t)) W3 h3;exact⟨_,_,hr,.inr ⟨.goto t,rfl,hRx _ _ _ _ _ hr3 (hpt _),hl4,hk4⟩⟩
   |panic ch=>exact hp.elim
   |outgrown=>exact hp.elim
  ·rintro e W2 ⟨⟨v,rfl⟩,(⟨hf,hl,hk⟩|⟨c,hf,hl,hk⟩)⟩
   ·exact⟨none,_,by have:=run_endLoop (P:=P) hl (by rw[hrec];simp);rw[hrec]at this;exact this,hdone _ (hF _ _ hf (hpt _)) ((World.putObj_heap_other (by omega)).trans hk)⟩
   ·exact⟨some c,_,by have:=run_endLoop (P:=P) hl (by rw[hrec];simp);rw[hrec]at this;exact this,hstop c _ (hFx _ _ _ hf (hpt _)) ((World.putObj_heap_other (by omega)).trans hk)⟩
variable{F:Fence} {n:Nat} {P:Program}
theorem wpIn_rangeFunc_round {α:Type}{g:Operand}{ps:Array Tmp}{assign body:Code}{Q:Exit→Act→World→Prop}{a:Act}{w:World}
 (hro:F.round=none) (h1:1≤n) {gf:Nat} {lb:Array Value} (hg:a.eval g= .func (.func gf) #[] lb) (hFg:F.fn gf) (eg: ∀args w,(callFunc gf args).run P w= .ok (.enter gf args) w)
 {encs:α→Array Value} (hps: ∀x,(encs x).size=ps.size)
 (Pre:α→World→Prop) (R:α→World→World→Prop) (Fin:World→Prop)
 (hround: ∀(x:α) (W:World) (K:Act→World→Prop),w.heap.size+1<W.heap.size→Pre x W→
  (∀a' W',Two w.heap.size W W'→(∀W'',Frm (fun k=>k=w.heap.size+1) W' W''→body.wpIn (F.inRound (w.heap.size+1)) (n-1-1) P (jointPost w.heap.size (R x W) (fun _ _=>False) W'') a' W'')→K a' W')→
  assign.wpIn (F.inRound (w.heap.size+1)) (n-1-1) P (Exit.then K (fun _ _ _=>False)) {tmps:=(ps.zip (encs x)).foldl (fun t (p,v)=>t.setIfInBounds p v) a.tmps,defers:=[]} W)
 (hR: ∀x W A B,R x W A→Frm (fun k=>k=w.heap.size+1) A B→R x W B)
 (hcall: ∀(W1:World),Frm (fun _=>False) w W1→w.heap.size+1<W1.heap.size→ ∀(Rdy:World→Prop),
  (∀A,Rdy A→w.heap.size+1<A.heap.size)→(∀A B,Rdy A→Two w.heap.size A B→Rdy B)→Rdy W1→
  (∀x W,Pre x W→Rdy W→YieldAt F (n-1-1) P (w.heap.size+1) (encs x) W fun e W'=>e= .returned (.bool true)∧R x W W'∧Rdy W')→
  CallsIn F (n-1) P gf (#[.func (.yield (w.heap.size+1)) #[] #[]]++lb) W1 fun e W'=>(∃v,e= .returned v)∧Fin W'∧Rdy W')
 (hF: ∀A B,Fin A→Frm (fun k=>k=w.heap.size+1) A B→Fin B)
 (hdone: ∀(W:World),Fin W→W.heap[w.heap.size]?=some (.deferred (some []))→Q .normal {a with defers:={target:=.collected w.heap.size,args:=#[]}::a.defers} W):
 (Code.rangeFunc g ps assign body).wpIn F n P Q a w:=by
 refine wpIn_rangeFunc_joint hro h1 hg hFg eg hps Pre
  (fun x W a' W'=> ∀W'',Frm (fun k=>k=w.heap.size+1) W' W''→body.wpIn (F.inRound (w.heap.size+1)) (n-1-1) P (jointPost w.heap.size (R x W) (fun _ _=>False) W'') a' W'')
  R (fun _ _ _ _=>False) Fin (fun _ _=>False) (fun x W K hW hp hK=>hround x W K hW hp hK) (fun x W a' A B h hF W'' h'=>h _ (hF.trans h' (fun _ _ e=>e)))
  (fun x W a' W' _ h=>h _ (Frm.refl _ _)) hR (fun _ _ _ _ _ h _=>h) ?_ hF (fun _ _ _ h _=>h) hdone (fun _ _ h _=>h.elim)
 intro W1 hF1 hW1 Rdy Dn hsz hst _ hR1 hY;refine(hcall W1 hF1 hW1 Rdy hsz hst hR1 (fun x W hp hr=> ?_)).mono ?_
 ·obtain⟨fn,tmps,asg,bd,hy,hRo⟩:=hY x W hp hr;refine⟨fn,tmps,asg,bd,hy,hRo.mono fun e w' h=> ?_⟩
  rcases h with h|⟨c,_,hf,_⟩
  ·exact h
  ·exact hf.elim
 ·rintro e W2 ⟨hv,hI,hr⟩;exact⟨hv,.inl ⟨hI,hr⟩⟩
section
variable{F:Fence} {n:Nat} {P:Program}
theorem wpIn_rangeFunc_break {α:Type}{g:Operand}{ps:Array Tmp}{assign body:Code}{Q:Exit→Act→World→Prop}{a:Act}{w:World}
 (hro:F.round=none) (h1:1≤n) {gf:Nat} {lb:Array Value} (hg:a.eval g= .func (.func gf) #[] lb) (hFg:F.fn gf) (eg: ∀args w,(callFunc gf args).run P w= .ok (.enter gf args) w)
 {encs:α→Array Value} (hps: ∀x,(encs x).size=ps.size) (c0:Code)
 (Pre:α→World→Prop) (R Rb:α→World→World→Prop) (Fin Finb:World→Prop)
 (hround: ∀(x:α) (W:World) (K:Act→World→Prop),w.heap.size+1<W.heap.size→Pre x W→
  (∀a' W',Two w.heap.size W W'→(∀W'',Frm (fun k=>k=w.heap.size+1) W' W''→body.wpIn (F.inRound (w.heap.size+1)) (n-1-1) P (jointPost w.heap.size (R x W) (fun c W'=>c=c0∧Rb x W W') W'') a' W'')→K a' W')→
  assign.wpIn (F.inRound (w.heap.size+1)) (n-1-1) P (Exit.then K (fun _ _ _=>False)) {tmps:=(ps.zip (encs x)).foldl (fun t (p,v)=>t.setIfInBounds p v) a.tmps,defers:=[]} W)
 (hR: ∀x W A B,R x W A→Frm (fun k=>k=w.heap.size+1) A B→R x W B) (hRb: ∀x W A B,Rb x W A→Frm (fun k=>k=w.heap.size+1) A B→Rb x W B)
 (hcall: ∀(W1:World),Frm (fun _=>False) w W1→w.heap.size+1<W1.heap.size→ ∀(Rdy Dn:World→Prop),
  (∀A,Rdy A→w.heap.size+1<A.heap.size)→(∀A B,Rdy A→Two w.heap.size A B→Rdy B)→Rdy W1→
  (∀x W,Pre x W→Rdy W→YieldAt F (n-1-1) P (w.heap.size+1) (encs x) W fun e W'=>(e= .returned (.bool true)∧R x W W'∧Rdy W')∨(e= .returned (.bool false)∧Rb x W W'∧Dn W'))→
  CallsIn F (n-1) P gf (#[.func (.yield (w.heap.size+1)) #[] #[]]++lb) W1 fun e W'=>(∃v,e= .returned v)∧((Fin W'∧Rdy W')∨(Finb W'∧Dn W')))
 (hF: ∀A B,Fin A→Frm (fun k=>k=w.heap.size+1) A B→Fin B) (hFb: ∀A B,Finb A→Frm (fun k=>k=w.heap.size+1) A B→Finb B)
 (hdone: ∀(W:World),Fin W→W.heap[w.heap.size]?=some (.deferred (some []))→Q .normal {a with defers:={target:=.collected w.heap.size,args:=#[]}::a.defers} W)
 (hstop: ∀(W:World),Finb W→W.heap[w.heap.size]?=some (.deferred (some []))→c0.wpIn F n P Q {a with defers:={target:=.collected w.heap.size,args:=#[]}::a.defers} W):
 (Code.rangeFunc g ps assign body).wpIn F n P Q a w:=by
 refine wpIn_rangeFunc_joint hro h1 hg hFg eg hps Pre
  (fun x W a' W'=> ∀W'',Frm (fun k=>k=w.heap.size+1) W' W''→body.wpIn (F.inRound (w.heap.size+1)) (n-1-1) P (jointPost w.heap.size (R x W) (fun c W'=>c=c0∧Rb x W W') W'') a' W'')
  R (fun c x W W'=>c=c0∧Rb x W W') Fin (fun c W=>c=c0∧Finb W) (fun x W K hW hp hK=>hround x W K hW hp hK) (fun x W a' A B h hF W'' h'=>h _ (hF.trans h' (fun _ _ e=>e)))
  (fun x W a' W' _ h=>h _ (Frm.refl _ _)) hR (fun c x W A B h hF=>⟨h.1,hRb _ _ _ _ h.2 hF⟩) ?_ hF (fun c A B h hF=>⟨h.1,hFb _ _ h.2 hF⟩) hdone (fun c W h hK=>by
   obtain⟨rfl,h⟩:=h
   exact hstop W h hK)
 intro W1 hF1 hW1 Rdy Dn hsz hst _ hR1 hY;refine(hcall W1 hF1 hW1 Rdy (fun W=>Dn c0 W) hsz hst hR1 (fun x W hp hr=> ?_)).mono ?_
 ·obtain⟨fn,tmps,asg,bd,hy,hRo⟩:=hY x W hp hr;refine⟨fn,tmps,asg,bd,hy,hRo.mono fun e w' h=> ?_⟩
  rcases h with h|⟨c,h1,⟨rfl,h2⟩,h3⟩
  ·exact .inl h
  ·exact .inr ⟨h1,h2,h3⟩
 ·rintro e W2 ⟨hv,(⟨hI,hr⟩|⟨hI,hd⟩)⟩
  ·exact⟨hv,.inl ⟨hI,hr⟩⟩
  ·exact⟨hv,.inr ⟨c0,⟨rfl,hI⟩,hd⟩⟩
end
section
variable{F:Fence} {d:Nat} {P:Program} {ops:Array Oper} {md:Region.Mode} {w:World}
end
end
end Go.Proofs.YtplpbmkdfabfpaaGreat
