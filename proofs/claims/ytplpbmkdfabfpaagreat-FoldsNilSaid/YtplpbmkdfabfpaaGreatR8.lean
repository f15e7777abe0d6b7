/- A row of records: cells, a part of it, append. A pile of brackets: what it is, made, its length, its pairs. A pile of brackets: Open. Backward over a row of opening brackets: what the iterator tells. A pile of brackets: Close. The reference's pile: Open and Close. The reference's pile: Close. The reference's Sorted. -/
import Derived.Test.YtplpbmkdfabfpaaGreatKit3
import Derived.Test.YtplpbmkdfabfpaaGreatQ14
import Derived.Test.YtplpbmkdfabfpaaGreatH6
import Derived.Test.YtplpbmkdfabfpaaGreatT4
import Derived.Test.YtplpbmkdfabfpaaGreatRng3
import Derived.Test.YtplpbmkdfabfpaaGreatD3
import Derived.Shelf.Abstract
import Derived.BigRegion
import Derived.BigQuiet
import Derived.Deep.QuietTactic
import Derived.Deep.CutBlock
set_option maxRecDepth 100000
set_option maxHeartbeats 2000000
namespace Go.Proofs.YtplpbmkdfabfpaaGreat
open Go.RowKit
section
structure Enc {α:Type} (c:α→List Value) (sz:Nat):Prop where
 len: ∀x,(c x).length=sz
 one: ∀x,∀u∈c x,u.oneCell'=true
theorem fm_len {α:Type}{c:α→List Value}{sz:Nat}(E:Enc c sz): ∀l:List α,(l.flatMap c).length=l.length*sz
 |[]=>by simp
 |a::l=>by rw[List.flatMap_cons,List.length_append,fm_len E l,E.len,List.length_cons,Nat.succ_mul];omega
theorem fm_one {α:Type}{c:α→List Value}{sz:Nat}(E:Enc c sz)(l:List α): ∀u∈l.flatMap c,u.oneCell'=true:=by intro u hu;obtain⟨x,_,h⟩:=List.mem_flatMap.1 hu;exact E.one x u h
theorem fm_get {α:Type}{c:α→List Value}{sz:Nat}(E:Enc c sz): ∀(l:List α) (i j:Nat) (x:α),l[i]?=some x→j<sz→(l.flatMap c)[i*sz+j]?=(c x)[j]?
 |[],i,j,x,h,_=>by simp at h
 |a::l,0,j,x,h,hj=>by
  have:a=x:=by simpa using h
  subst this;rw[List.flatMap_cons,Nat.zero_mul,Nat.zero_add,List.getElem?_append_left (by rw[E.len];exact hj)]
 |a::l,i+1,j,x,h,hj=>by
  rw[List.flatMap_cons,List.getElem?_append_right (by rw[E.len,Nat.succ_mul];omega),E.len,←fm_get E l i j x (by simpa using h) hj];congr 1;rw[Nat.succ_mul];omega
theorem fm_take {α:Type}{c:α→List Value}{sz:Nat}(E:Enc c sz): ∀(l:List α) (i:Nat),(l.take i).flatMap c=(l.flatMap c).take (i*sz)
 |[],i=>by simp
 |a::l,0=>by simp
 |a::l,i+1=>by
  rw[List.take_succ_cons,List.flatMap_cons,List.flatMap_cons,fm_take E l i,Nat.succ_mul,Nat.add_comm,←E.len a,List.take_length_add_append]
def Rw {α:Type}(c:α→List Value)(sz:Nat)(w:World)(B:Nat)(e:TypeId)(v:Value)(l:List α):Prop:=w.ownsRow B e sz v l.length (l.flatMap c)
def RdR {α:Type}(c:α→List Value)(sz:Nat)(w:World)(B:Nat)(A:Option Addr)(l:List α):Prop:=Reads w B sz A l.length (l.flatMap c)
section
variable{α:Type} {c:α→List Value} {sz:Nat} {w w':World} {B g n cap:Nat} {e:TypeId} {v:Value} {l:List α} {A:Option Addr}
theorem Rw.nil (w:World)(B:Nat)(e:TypeId):Rw c sz w B e (.slice none 0 0) []:=World.ownsRow_nil _ _ _ _
theorem Rw.frm {F:Nat→Prop}(h:Rw c sz w B e v l)(hf:Frm F w w')(hg: ∀j,v.ownBlock=some j→ ¬F j):Rw c sz w' B e v l:=own_frm h hf hg
theorem Rw.alloc (h:Rw c sz w B e v l)(o:Obj):Rw c sz (w.alloc o) B e v l:=World.ownsRow.alloc h o
theorem Rw.drew (h:Rw c sz w B e v l):Rw c sz w.drew B e v l:=h
theorem Rw.drewN (h:Rw c sz w B e v l)(j:Nat):Rw c sz (w.drewN j) B e v l:=h
theorem Rw.kept {row:Option Nat}(h:Rw c sz w B e v l)(hg:w.grownBy w' row)(hne:v.ownBlock=none∨v.ownBlock≠row):Rw c sz w' B e v l:=World.ownsRow.kept h hg hne
theorem Rw.lt (h:Rw c sz w B e v l): ∀j,v.ownBlock=some j→B≤j∧j<w.heap.size:=World.ownsRow.lt h
theorem Rw.below {C:Nat}(h:Rw c sz w B e v l)(hb:Below C w w')(hC:w.heap.size≤C):Rw c sz w' B e v l:=own_frm h (Frm.of_below (F:=fun _=>False) (hb.mono hC)) (fun _ _ h=>h)
theorem Rw.base {B':Nat}(h:Rw c sz w B e v l)(hb: ∀j,v.ownBlock=some j→B'≤j):Rw c sz w B' e v l:=own_base h hb
theorem Rw.cases' (h:Rw c sz w B e v l):(v= .slice none 0 0∧l=[])∨ ∃g cap,v= .slice (some ⟨g,0,none⟩) l.length cap∧Rw c sz w B e (.slice (some ⟨g,0,none⟩) l.length cap) l:=by
 have h1:=h
 rcases h.2 with⟨rfl,h0⟩|⟨g,cap,cur,rfl,_⟩
 ·exact .inl ⟨rfl,List.eq_nil_of_length_eq_zero h0⟩
 ·exact .inr ⟨g,cap,rfl,h1⟩
theorem Rw.val (h:Rw c sz w B e v l): ∃A cap,v= .slice A l.length cap∧l.length≤cap∧cap≤maxLen∧RdR c sz w w.heap.size A l:=by
 have h1:=h
 rcases h.2 with⟨rfl,h0⟩|⟨g,cap,cur,rfl,_,_,h3,h4,_⟩
 ·have:l=[]:=List.eq_nil_of_length_eq_zero h0;subst this;exact⟨none,0,rfl,by simp,by simp,Reads.none_⟩
 ·exact⟨_,cap,rfl,h3,h4,Reads.of_own h1⟩
theorem Rw.at_ (E:Enc c sz)(h:Rw c sz w B e (.slice (some ⟨g,0,none⟩) n cap) l):n=l.length∧l.length≤cap∧cap≤maxLen∧B≤g∧g<w.heap.size∧(∀j,w.frozen? ⟨g,j,none⟩=false)∧
 ∀i x,l[i]?=some x→ ∀j u,(c x)[j]?=some u→w.cell? ⟨g,i*sz+j,none⟩=some u:=by
 have hn:n=l.length:=by
  rcases h.2 with⟨h0,_⟩|⟨g',cap',cur,hv,_⟩
  ·cases h0
  ·injection hv
 subst hn;obtain⟨cur,h1,h2,h3,h4,h5,h6⟩:=own_blk h;refine⟨rfl,h3,h4,h1,h2.lt,h2.frozen,fun i x hi j u hu=> ?_⟩
 have hj:j<sz:=by rw[←E.len x];exact(List.getElem?_eq_some_iff.1 hu).1
 have:=World.ownsRow.cells h (g:=g) rfl (i*sz+j) u (by rw[fm_get E l i j x hi hj];exact hu)
 rwa [add_lit,Nat.zero_add]at this
theorem Rw.cut (E:Enc c sz)(h:Rw c sz w B e (.slice (some ⟨g,0,none⟩) n cap) l)(j:Nat)(hj:j≤l.length):Rw c sz w B e (.slice (some ⟨g,0,none⟩) j cap) (l.take j):=by
 obtain⟨rfl,h1,h2,_⟩:=h.at_ E;obtain⟨cur,k1,k2,k3,k4,k5,k6⟩:=own_blk h;unfold Rw
 have hl:(l.take j).length=j:=by simp;omega
 rw[hl];refine⟨by rw[fm_len E,hl],.inr ⟨g,cap,cur,rfl,k1,k2,by omega,k4,k5,?_⟩⟩;rw[fm_take E,←k6,List.take_take];congr 1;rw[Nat.min_eq_left (Nat.mul_le_mul_right _ hj)]
theorem Rw.rd (h:Rw c sz w B e (.slice A n cap) l):RdR c sz w w.heap.size A l:=by
 have hn:n=l.length:=by
  rcases h.2 with⟨h0,h1⟩|⟨g',cap',cur,hv,_⟩
  ·injection h0 with _ h2 _;omega
  ·injection hv
 subst hn;exact Reads.of_own h
theorem RdR.at_ (E:Enc c sz)(h:RdR c sz w B A l){i:Nat}{x:α}(hi:l[i]?=some x)(_hs:0<sz): ∃b off,A=some ⟨b,off,none⟩∧b<B∧b<w.heap.size∧ ∀j u,(c x)[j]?=some u→w.cell? ⟨b,off+(i*sz+j),none⟩=some u:=by
 have hl:i<l.length:=(List.getElem?_eq_some_iff.1 hi).1;obtain⟨b,off,hA,hb,hs,hc⟩:=h.2 (by omega);refine⟨b,off,hA,hb,hs,fun j u hu=>hc _ _ ?_⟩
 have hj:j<sz:=by rw[←E.len x];exact(List.getElem?_eq_some_iff.1 hu).1
 rw[fm_get E l i j x hi hj];exact hu
theorem RdR.below {C:Nat}(h:RdR c sz w B A l)(hb:Below C w w')(hC:B≤C∨w.heap.size≤C):RdR c sz w' B A l:=Reads.below h hb hC
theorem RdR.frmA {F:Nat→Prop}(h:RdR c sz w B A l)(hf:Frm F w w')(hF: ∀b off,A=some ⟨b,off,none⟩→ ¬F b):RdR c sz w' B A l:=Reads.frmA h hf hF
theorem RdR.alloc (h:RdR c sz w B A l)(o:Obj):RdR c sz (w.alloc o) B A l:=Reads.alloc h o
theorem RdR.drew (h:RdR c sz w B A l):RdR c sz w.drew B A l:=h
theorem RdR.more {B':Nat}(h:RdR c sz w B A l)(hB:B≤B'):RdR c sz w B' A l:=Reads.more h hB
end
section
variable{α:Type} {c:α→List Value} {sz:Nat} {P:Program} {t e:TypeId} {bytes:Nat} {w:World} {ops:Array Oper} {rest:List Oper} {o:Oper} {a:Act} {Q:Exit→Act→World→Prop}
theorem wpList_appR (E:Enc c sz)(T:ElemT P t e sz bytes){s x:Operand}(hgd:o.guard=none)
 (ho:o.op= .call {callee:=.builtin .append,args:=#[s,x],argTypes:=#[t,t]}) {base:Nat} {v:Value} {l:List α} (hs:a.eval s=v) (hown:Rw c sz w base e v l)
 {q:Nat} {y:α} {cs:Array Value} (hx:a.eval x= .slice (some ⟨q,0,none⟩) 1 1) (hk:Blk w q e cs) (hcs:cs.toList=c y)
 (h63:l.length+1≤maxLen) (hbytes:(l.length+1)*bytes≤140737488355328) (hbase:base≤w.heap.size)
 (h: ∀g cap w',Rw c sz w' base e (.slice (some ⟨g,0,none⟩) (l.length+1) cap) (l++[y])→w.grownBy w' v.ownBlock→(v.ownBlock=some g∨g=w.heap.size)→
  wpList P ops Q rest (a.put o.dst (.slice (some ⟨g,0,none⟩) (l.length+1) cap)) w'):wpList P ops Q (o::rest) a w:=by
 refine wpList_app1 T hgd ho hs hown hx hk (by rw[←Array.length_toList,hcs,E.len]) (by rw[hcs];exact E.one y) h63 hbytes hbase fun g cap w' h1 h2 h3=>h g cap w' ?_ h2 h3;unfold Rw;rw[hcs]at h1
 simpa using h1
theorem wpList_appRs (E:Enc c sz)(T:ElemT P t e sz bytes){s x:Operand}(hgd:o.guard=none)
 (ho:o.op= .call {callee:=.builtin .append,args:=#[s,x],argTypes:=#[t,t]}) {base:Nat} {v:Value} {l:List α} (hs:a.eval s=v) (hown:Rw c sz w base e v l)
 {B:Nat} {A:Option Addr} {m k:Nat} {l':List α} (hm:m=l'.length) (hx:a.eval x= .slice A m k) (hr:RdR c sz w B A l')
 (h63:l.length+l'.length≤maxLen) (hbytes:(l.length+l'.length)*bytes≤140737488355328) (hbase:base≤w.heap.size)
 (h: ∀v' w',Rw c sz w' base e v' (l++l')→w.grownBy w' v.ownBlock→(v'.ownBlock=v.ownBlock∨v'.ownBlock=some w.heap.size)→
  wpList P ops Q rest (a.put o.dst v') w'):wpList P ops Q (o::rest) a w:=by
 subst hm;refine wpList_app T hgd ho hs hown hx hr (fm_one E _) h63 hbytes hbase fun v' w' h1 h2 h3=>h v' w' ?_ h2 h3;unfold Rw
 simpa using h1
end
theorem encB:Enc brC 2:=⟨fun _=>rfl,fun x u hu=>by simp[brC]at hu;rcases hu with rfl|rfl<;>rfl⟩
def opC (x:Int×Int):List Value:=[.int .i64 x.1,.int .i32 x.2]
theorem encO:Enc opC 2:=⟨fun _=>rfl,fun x u hu=>by simp[opC]at hu;rcases hu with rfl|rfl<;>rfl⟩
theorem Rw.prs {w:World}{B g n cap:Nat}{D:List (Int×Int)}(h:Rw brC 2 w B 134 (.slice (some ⟨g,0,none⟩) n cap) D):Prs w g D:=by
 obtain⟨rfl,h1,h2,h3,h4,h5,h6⟩:=h.at_ encB;obtain⟨cur,k1,k2,k3,k4,k5,k6⟩:=own_blk h;refine⟨cur,k2,by omega,fun i hi=> ?_⟩
 have hx:D[i]?=some (D.getD i (0,0)):=by rw[List.getD_eq_getElem?_getD,List.getElem?_eq_getElem hi];rfl
 have c0:=h6 i _ hx 0 _ rfl;have c1:=h6 i _ hx 1 _ rfl;rw[k2.cell]at c0 c1;exact⟨c0,c1⟩
theorem Prs.rd {w:World}{g:Nat}{D:List (Int×Int)}(h:Prs w g D):RdR brC 2 w w.heap.size (some ⟨g,0,none⟩) D:=by
 refine⟨fm_len encB D,fun _=>⟨g,0,rfl,h.lt,h.lt,fun j u hu=> ?_⟩⟩
 have hj:j<D.length*2:=by rw[←fm_len encB D];exact(List.getElem?_eq_some_iff.1 hu).1
 have hi:j/2<D.length:=by omega
 have hx:D[j/2]?=some (D.getD (j/2) (0,0)):=by rw[List.getD_eq_getElem?_getD,List.getElem?_eq_getElem hi];rfl
 have hg:=fm_get encB D (j/2) (j % 2) _ hx (Nat.mod_lt _ (by omega))
 have e:j/2*2+j % 2=j:=by omega
 rw[e,hu]at hg;obtain⟨c0,c1⟩:=h.cell hi;rw[Nat.zero_add]
 rcases Nat.mod_two_eq_zero_or_one j with h0|h0
 ·rw[h0]at hg
  have:j=j/2*2:=by omega
  rw[this,c0];exact hg.symm
 ·rw[h0]at hg
  have:j=j/2*2+1:=by omega
  rw[this,c1];exact hg.symm
attribute [local go_sem] Oper.semAt_some
theorem etB:ElemT Tryz.prog 125 134 2 16:=ElemT.mk' (.agg #[.int .i64 0,.int .i64 0]) Tryz.underlying125 (by kernel_rfl) rfl (by omega)
theorem etO:ElemT Tryz.prog 198 202 2 16:=ElemT.mk' (.agg #[.int .i64 0,.int .i32 0]) Tryz.underlying198 (by kernel_rfl) rfl (by omega)
@[go_sem] theorem eql58_nil (w:World) (a:Option Addr) (n c:Nat):(binOp .eql 125 (.slice a n c) (.slice none 0 0)).run Tryz.prog w= .ok (.bool a.isNone) w:=_root_.Go.Lib.run_eql_slice_nil w 125 134 a n c 0 0 Tryz.underlying125
theorem CloneB_ok {w:World}{B:Nat}{A:Option Addr}{n c:Nat}{l:List (Int×Int)}(hn:n=l.length)(h:RdR brC 2 w B A l)(hl:n*16≤140737488351232):
 Calls Tryz.prog 113 #[.slice A n c] w fun r w'=> ∃v,r= .returned v∧Rw brC 2 w' w.heap.size 134 v l∧Below w.heap.size w w':=by
 have HN:=Lib.hid hn
 rcases A with _|ad
 ·have hl0:l=[]:=by
   rcases l with _|⟨x,l⟩
   ·rfl
   ·obtain⟨b,off,e,-⟩:=h.at_ encB (i:=0) (x:=x) rfl (by omega);cases e
  clear hn
  go_enter Tryz.func113,Tryz.ntmps113
  go_wp2;go_ret;exact⟨_,rfl,by rw[hl0];exact Rw.nil _ _ _,Below.refl _ _⟩
 ·clear hn;have b0:=(Below.refl w.heap.size w).alloc (Nat.le_refl _) (.cells #[] 134)
  have o0:Rw brC 2 (w.alloc (.cells #[] 134)) w.heap.size 134 (.slice (some ⟨w.heap.size,0,none⟩) 0 0) []:=⟨by simp,.inr ⟨w.heap.size,0,#[],rfl,Nat.le_refl _,Blk.new w 134 #[],Nat.le_refl _,by simp,rfl,rfl⟩⟩
  go_enter Tryz.func113,Tryz.ntmps113
  go_wp2_with(at_builtin;go_must (refine wpList_appRs encB etB rfl rfl rfl o0 HN.out rfl (h.alloc _) ?_ ?_ ?_ ?_))
  ·have:=HN.out;simp;unfold maxLen;omega
  ·have:=HN.out;simp;omega
  ·simp
  intro v1 w1 I1 g1 hv1
  have b1:=b0.grown g1 (by simp) (fun k hk=>by have:w.heap.size=k:=by simpa[Value.ownBlock]using hk
                                               omega)
  have I1:Rw brC 2 w1 w.heap.size 134 v1 l:=I1;go_wp2;go_ret;exact⟨v1,rfl,I1,b1⟩
theorem ins_nil (w:World):Calls Tryz.prog 129 #[.slice none 0 0,.int .i64 0,.int .i64 0,.func (.func 115) #[] #[]] w fun r w'=>r= .returned (.tuple #[])∧w'=w:=by
 go_enter Tryz.func129,Tryz.ntmps129
 go_wp2
 go_loopg [8] 0 (fun gk iv wr=>iv= .int .i64 1∧wr=w)
 case atStart=>exact⟨rfl,rfl⟩
 case round=>
  obtain⟨rfl,rfl⟩:=hrel;go_wp2
  go_end0
  exact⟨rfl,rfl⟩
theorem stable_nil (w:World):Calls Tryz.prog 127 #[.slice none 0 0,.int .i64 0,.func (.func 115) #[] #[]] w fun r w'=>r= .returned (.tuple #[])∧w'=w:=by
 go_enter Tryz.func127,Tryz.ntmps127
 go_wp2
 go_loopg [7,8] 0 (fun gk iv jv wr=>iv= .int .i64 0∧jv= .int .i64 20∧wr=w)
 case atStart=>exact⟨rfl,rfl,rfl⟩
 case round=>
  obtain⟨rfl,rfl,rfl⟩:=hrel
  go_wp2_with(go_at_call 129;refine(ins_nil _).mono ?_;rintro r1 w1 ⟨rfl,rfl⟩)
  obtain⟨W0,rfl⟩: ∃W0,W0=w1:=⟨_,rfl⟩
  go_loopg [6] 0 (fun gk iv W=>iv= .int .i64 20∧W=W0)
  case atStart=>exact⟨rfl,rfl⟩
  case round=>
   obtain⟨rfl,rfl⟩:=hrel;go_wp2
   go_end0
   exact⟨rfl,rfl⟩
theorem sort_nil (w:World):Calls Tryz.prog 114 #[.slice none 0 0,.func (.func 115) #[] #[]] w fun r w'=>r= .returned (.tuple #[])∧w'=w:=by
 go_enter Tryz.func114,Tryz.ntmps114
 go_wp2_with(go_at_call 127;refine(stable_nil _).mono ?_;rintro r1 w1 ⟨rfl,rfl⟩)
 go_end0
 exact⟨rfl,rfl⟩
theorem sort_ok {w:World}{g n cap:Nat}{D:List (Int×Int)}(hn:n=D.length)(hP:Prs w g D)(hm:n≤1152921504606846976):
 Calls Tryz.prog 114 #[.slice (some ⟨g,0,none⟩) n cap,.func (.func 115) #[] #[]] w fun r w'=>r= .returned (.tuple #[])∧Prs w' g (ssort D)∧Frm (fun j=>j=g) w w':=by
 have CT:=stable_ok (cap:=cap) hn hP hm;clear hn
 go_enter Tryz.func114,Tryz.ntmps114
 go_wp2_with(go_at_call 127;refine CT.mono ?_;rintro r1 w1 ⟨rfl,P1,F1⟩)
 go_end0
 exact⟨rfl,P1,F1⟩
structure Pil (W:World) (B b:Nat) (vl vf:Value) (l f:List (Int×Int)) (ov:Bool):Prop where
 blk:Blk W b 200 #[vl,vf,.bool ov,.bool true]
 rl:Rw opC 2 W B 202 vl l
 rf:Rw brC 2 W B 134 vf f
 a1: ∀j,vl.ownBlock=some j→j≠b∧vf.ownBlock≠some j
 a2: ∀j,vf.ownBlock=some j→j≠b
 hb:B≤b
def PilF (b:Nat)(vl vf:Value)(j:Nat):Prop:=j=b∨vl.ownBlock=some j∨vf.ownBlock=some j
section
variable{W W':World} {B b:Nat} {vl vf:Value} {l f:List (Int×Int)} {ov:Bool}
theorem Pil.frm {F:Nat→Prop}(h:Pil W B b vl vf l f ov)(hf:Frm F W W')(hn: ∀j,PilF b vl vf j→ ¬F j):Pil W' B b vl vf l f ov:=⟨h.blk.frm hf (hn _ (.inl rfl)),h.rl.frm hf (fun j e=>hn j (.inr (.inl e))),h.rf.frm hf (fun j e=>hn j (.inr (.inr e))),h.a1,h.a2,h.hb⟩
theorem Pil.lt (h:Pil W B b vl vf l f ov): ∀j,PilF b vl vf j→B≤j∧j<W.heap.size:=by
 rintro j (rfl|e|e)
 ·exact⟨h.hb,h.blk.lt⟩
 ·exact h.rl.lt j e
 ·exact h.rf.lt j e
theorem Pil.below {C:Nat}(h:Pil W B b vl vf l f ov)(hb:Below C W W')(hC:W.heap.size≤C):Pil W' B b vl vf l f ov:=h.frm (Frm.of_below (F:=fun _=>False) (hb.mono hC)) (fun _ _ h=>h)
theorem Pil.drew (h:Pil W B b vl vf l f ov):Pil W.drew B b vl vf l f ov:=⟨h.blk,h.rl,h.rf,h.a1,h.a2,h.hb⟩
theorem Pil.drewN (h:Pil W B b vl vf l f ov)(n:Nat):Pil (W.drewN n) B b vl vf l f ov:=⟨h.blk,h.rl,h.rf,h.a1,h.a2,h.hb⟩
end
def BrsAt (W:World)(B:Nat)(v:Value)(D:List (Int×Int)):Prop:=(v= .slice none 0 0∧D=[])∨ ∃g cap,v= .slice (some ⟨g,0,none⟩) D.length cap∧Prs W g D∧B≤g∧D.length≤cap
theorem PNew_ok {w:World}:Calls Tryz.prog 87 #[] w fun r w'=>r= .returned (.pointer (some ⟨w.heap.size,0,none⟩))∧Pil w' w.heap.size w.heap.size (.slice none 0 0) (.slice none 0 0) [] [] false∧Below w.heap.size w w':=by
 go_enter Tryz.func87,Tryz.ntmps87
 go_wp2;go_ret;exact⟨rfl,⟨Blk.new w 200 _,Rw.nil _ _ _,Rw.nil _ _ _,by simp[Value.ownBlock],by simp[Value.ownBlock],Nat.le_refl _⟩,(Below.refl _ w).alloc (Nat.le_refl _) _⟩
theorem Pnone_ok {w:World}{b:Nat}{vl vf:Value}{ov:Bool}(h:Blk w b 200 #[vl,vf,.bool ov,.bool true]):Calls Tryz.prog 111 #[.pointer (some ⟨b,0,none⟩)] w fun r w'=>r= .returned (.bool false)∧w'=w:=by
 obtain⟨c0,c1,c2,c3,cf,cl⟩:=h.c4
 go_enter Tryz.func111,Tryz.ntmps111
 go_wp2;go_ret;exact⟨rfl,rfl⟩
theorem Pbraces_ok {w:World}{B b:Nat}{vl vf:Value}{l f:List (Int×Int)}{ov:Bool}(h:Pil w B b vl vf l f ov)(hl:f.length*16≤140737488351232):
 Calls Tryz.prog 91 #[.pointer (some ⟨b,0,none⟩)] w fun r w'=> ∃v,r= .returned v∧BrsAt w' w.heap.size v (ssort f)∧Below w.heap.size w w':=by
 obtain⟨A,c,rfl,h1,h2,hr⟩:=h.rf.val;obtain⟨c0,c1,c2,c3,cf,cl⟩:=h.blk.c4;have CN:=Pnone_ok h.blk;have CC:=CloneB_ok (w:=w) (c:=c) rfl hr hl;clear h h1 h2 hr;obtain⟨fl,hfl⟩: ∃fl,f.length=fl:=⟨_,rfl⟩;rw[hfl]at c1 CC hl;have HFL:=Lib.hid hfl;clear hfl
 go_enter Tryz.func91,Tryz.ntmps91
 go_wp2_with(first
  |(go_at_call 111;refine CN.mono ?_;rintro r1 w1 ⟨rfl,rfl⟩)
  |(go_at_call 113;refine CC.mono ?_;rintro r2 w2 ⟨cv,rfl,R2,b2⟩))
 rcases R2.cases' with⟨rfl,rfl⟩|⟨g,cap,rfl,R3⟩
 ·go_wp2_with(go_at_call 114;refine(sort_nil _).mono ?_;rintro r3 w3 ⟨rfl,rfl⟩)
  go_ret;exact⟨_,rfl,.inl ⟨rfl,rfl⟩,b2⟩
 ·have hc:=(R3.at_ encB);have CS:=sort_ok (cap:=cap) rfl R3.prs (by have:=HFL.out;omega)
  go_wp2_with(go_at_call 114;refine CS.mono ?_;rintro r3 w3 ⟨rfl,P3,F3⟩)
  go_ret;refine⟨.slice (some ⟨g,0,none⟩) f.length cap,rfl,.inr ⟨g,cap,by rw[ssort_length],P3,hc.2.2.2.1,by rw[ssort_length];exact hc.2.1⟩,b2.trans (F3.below b2.size (fun k hk e=>by have:=hc.2.2.2.1;omega))⟩
attribute [local go_sem] Oper.semAt_some
def opL (l:List (Int×Int))(ov:Bool)(a k:Int):List (Int×Int):=if ov then l else if 63≤l.length then []else l++[(a,k)]
def opV (l:List (Int×Int))(ov:Bool):Bool:=ov||decide (63≤l.length)
def opE (l:List (Int×Int))(ov:Bool):Int:=if opV l ov then 3 else 0
theorem Pil.push {w w2:World}{B b n g cap:Nat}{vl vf:Value}{l l' f:List (Int×Int)}{ov:Bool}(h:Pil w B b vl vf l f ov){o:Obj}(g2:(w.alloc o).grownBy w2 vl.ownBlock)
 (R2:Rw opC 2 w2 B 202 (.slice (some ⟨g,0,none⟩) n cap) l') (hv:vl.ownBlock=some g∨g=w.heap.size+1):
 Blk w2 b 200 #[vl,vf,.bool ov,.bool true]∧Pil (w2.setCell ⟨b,0,none⟩ (.slice (some ⟨g,0,none⟩) n cap)) B b (.slice (some ⟨g,0,none⟩) n cap) vf l' f ov∧
  Frm (PilF b vl vf) w (w2.setCell ⟨b,0,none⟩ (.slice (some ⟨g,0,none⟩) n cap))∧ ∀j,(Value.slice (some ⟨g,0,none⟩) n cap).ownBlock=some j→vl.ownBlock=some j∨w.heap.size≤j:=by
 have F2:Frm (fun j=>vl.ownBlock=some j) w w2:=((Frm.refl _ w).alloc _).grown g2 (fun k hk _=>hk);have hB2:Blk w2 b 200 #[vl,vf,.bool ov,.bool true]:=h.blk.frm F2 (fun e=>(h.a1 b e).1 rfl)
 have hgb:g≠b:=by
  rcases hv with e|e
  ·exact(h.a1 g e).1
  ·have:=h.blk.lt;omega
 have hgf:vf.ownBlock≠some g:=by
  rcases hv with e|e
  ·exact(h.a1 g e).2
  ·intro e2;have:=(h.rf.lt g e2).2;omega
 have F1:Frm (fun j=>j=b) w2 (w2.setCell ⟨b,0,none⟩ (.slice (some ⟨g,0,none⟩) n cap)):=(Frm.refl (fun j=>j=b) w2).set rfl _
 refine⟨hB2,⟨by simpa using hB2.set_ 0 (.slice (some ⟨g,0,none⟩) n cap),R2.frm F1 (fun j e=> ?_),(h.rf.frm F2 (fun j e e2=>(h.a1 j e2).2 e)).frm F1 (fun j e=>h.a2 j e),fun j e=> ?_,h.a2,h.hb⟩,
  (F2.mono (fun j _ e=>Or.inr (Or.inl e))).trans F1 (fun j _ e=>.inl e),fun j e=> ?_⟩
 ·have:g=j:=by simpa[Value.ownBlock]using e
  omega
 ·have:g=j:=by simpa[Value.ownBlock]using e
  subst this;exact⟨hgb,hgf⟩
 ·have:g=j:=by simpa[Value.ownBlock]using e
  subst this
  rcases hv with e|e
  ·exact .inl e
  ·exact .inr (by omega)
theorem Popen_ok {w:World}{B b:Nat}{vl vf:Value}{l f:List (Int×Int)}{ov:Bool}(a k:Int)(h:Pil w B b vl vf l f ov):
 Calls Tryz.prog 89 #[.pointer (some ⟨b,0,none⟩),.int .i64 a,.int .i32 k] w fun r w'=>r= .returned (.int .i64 (opE l ov))∧ ∃vl',Pil w' B b vl' vf (opL l ov a k) f (opV l ov)∧Frm (PilF b vl vf) w w'∧
  ∀j,vl'.ownBlock=some j→vl.ownBlock=some j∨w.heap.size≤j:=by
 obtain⟨A,c,rfl,h1,h2,hr⟩:=h.rl.val;obtain⟨c0,c1,c2,c3,cf,cl⟩:=h.blk.c4;have CN:=Pnone_ok h.blk;clear hr;cases ov
 ·by_cases hlen:63≤l.length
  ·have e1:opL l false a k=[]:=by unfold opL;rw[if_neg (by decide),if_pos hlen]
   have e2:opV l false=true:=by unfold opV;simp;exact hlen
   have e3:opE l false=3:=by unfold opE;rw[if_pos e2]
   rw[e1,e2,e3];clear e1 e2 e3;obtain⟨ll,hll⟩: ∃ll,l.length=ll:=⟨_,rfl⟩;rw[hll]at c0 hlen h h1;have HLL:=Lib.hid hll;clear hll
   go_enter Tryz.func89,Tryz.ntmps89
   go_wp2_with(go_at_call 111;refine CN.mono ?_;rintro r1 w1 ⟨rfl,rfl⟩)
   go_ret
   have P1:Blk ((w1.setCell ⟨b,2,none⟩ (.bool true)).setCell ⟨b,0,none⟩ (.slice none 0 0)) b 200 #[.slice none 0 0,vf,.bool true,.bool true]:=by simpa using(h.blk.set_ 2 (.bool true)).set_ 0 (.slice none 0 0)
   have F1:Frm (fun j=>j=b) w1 ((w1.setCell ⟨b,2,none⟩ (.bool true)).setCell ⟨b,0,none⟩ (.slice none 0 0)):=((Frm.refl (fun j=>j=b) w1).set rfl _).set rfl _;exact⟨rfl,.slice none 0 0,⟨P1,Rw.nil _ _ _,h.rf.frm F1 (fun j e e2=>h.a2 j e e2),by simp[Value.ownBlock],h.a2,h.hb⟩,F1.mono (fun j _ e=>.inl e),by simp[Value.ownBlock]⟩
  ·have e1:opL l false a k=l++[(a,k)]:=by unfold opL;rw[if_neg (by decide),if_neg hlen]
   have e2:opV l false=false:=by unfold opV;simp;omega
   have e3:opE l false=0:=by unfold opE;rw[e2];rfl
   rw[e1,e2,e3];clear e1 e2 e3;have hb1:b<w.heap.size:=cl
   have hB:B≤w.heap.size:=by have:=h.hb;omega
   have hrl:=h.rl;have hla:=hrl.lt;obtain⟨ll,hll⟩: ∃ll,l.length=ll:=⟨_,rfl⟩;rw[hll]at c0 hlen h h1 hrl hla;have HLL:=Lib.hid hll;have hll2:=hll;clear hll
   go_enter Tryz.func89,Tryz.ntmps89
   go_wp2_with(first
    |(go_at_call 111;refine CN.mono ?_;rintro r1 w1 ⟨rfl,rfl⟩)
    |(at_builtin;go_must (refine wpList_appR (y:=(a,k)) encO etO rfl rfl rfl (hrl.alloc _) rfl (Blk.at_ (by simp)) rfl ?_ ?_ ?_ ?_)))
   ·have:=hll2;unfold maxLen;omega
   ·have:=hll2;omega
   ·simp;omega
   intro g cap w2 R2 g2 hv;obtain⟨B2,P3,F3,hv3⟩:=h.push g2 R2 (by simpa using hv);obtain⟨d0,d1,d2,d3,df,dl⟩:=B2.c4;clear c0 c1 c2 c3 cf cl B2 CN;go_wp2;go_ret;exact⟨rfl,_,P3,by rw[hll2];exact F3,by rw[hll2];exact hv3⟩
 ·have e1:opL l true a k=l:=rfl;have e2:opV l true=true:=rfl;have e3:opE l true=3:=rfl;rw[e1,e2,e3];clear e1 e2 e3
  go_enter Tryz.func89,Tryz.ntmps89
  go_wp2_with(go_at_call 111;refine CN.mono ?_;rintro r1 w1 ⟨rfl,rfl⟩)
  go_ret;exact⟨rfl,_,h,Frm.refl _ _,fun j e=>.inl e⟩
attribute [local go_sem] Oper.semAt_some
def scanK (l:List (Int×Int))(key:Int):Nat→Option Nat
 |0=>none
 |k+1=>if(l.getD k (0,0)).2=key then some k else scanK l key k
theorem scanK_lt {l:List (Int×Int)}{key:Int}: ∀{k j:Nat},scanK l key k=some j→j<k
 |0,j,h=>by cases h
 |k+1,j,h=>by
  unfold scanK at h
  split at h
  ·injection h with h;omega
  ·have:=scanK_lt h;omega
theorem BackO_ok {w:World}{A:Option Addr}{n c:Nat}:
 Calls Tryz.prog 112 #[.slice A n c] w fun r w'=>r= .returned (.func (.func 126) #[] #[.pointer (some ⟨w.heap.size,0,none⟩)])∧Blk w' w.heap.size 198 #[.slice A n c]∧Below w.heap.size w w':=by
 go_enter Tryz.func112,Tryz.ntmps112
 go_wp2;go_ret;exact⟨rfl,Blk.new w 198 _,(Below.refl _ w).alloc (Nat.le_refl _) _⟩
def opEnc (k:Nat)(x:Int×Int):Array Value:=#[.int .i64 k,.agg #[.int .i64 x.1,.int .i32 x.2]]
theorem bwdO_ok {W1:World}{bx yb n c B:Nat}{A:Option Addr}{l:List (Int×Int)}(hn:n=l.length)(hm:n≤4611686018427387904)
 {J:Nat→World→Prop} (h0:J n W1) (hJ: ∀k W,J k W→Blk W bx 198 #[.slice A n c]∧RdR opC 2 W B A l) {Jx:World→Prop} {d:Nat} (hd:1≤d)
 (hY: ∀k W,k<n→J (k+1) W→YieldAt Fence.wide (d-1) Tryz.prog yb (opEnc k (l.getD k (0,0))) W fun e W'=>(e= .returned (.bool true)∧J k W')∨(e= .returned (.bool false)∧Jx W')):
 CallsIn Fence.wide d Tryz.prog 126 #[.func (.yield yb) #[] #[],.pointer (some ⟨bx,0,none⟩)] W1 fun e W'=>(∃v,e= .returned v)∧(J 0 W'∨Jx W'):=by
 have HN:=Lib.hid hn;clear hn;obtain⟨x0,xf,xl⟩:=(hJ n W1 h0).1.c1;refine callsIn_of_wp Tryz.func126 rfl trivial ?_ rfl;simp only[Tryz.ntmps126,List.size_toArray,List.length_cons,List.length_nil,Nat.reduceAdd,Nat.reduceSub,Array.replicate_succ,Array.replicate_zero,List.push_toArray,List.append_toArray,List.nil_append,List.cons_append];gi_wp2
 gi_loopw [3] (fun kv wr=> ∃k:Nat,kv= .int .i64 ((k:Int)-1)∧k≤n∧J k wr) (fun kv _=>(intOf kv+1).toNat)
 case atStart=>exact⟨n,by go_num,Nat.le_refl _,h0⟩
 case round=>
  clear h0 x0 xf xl;obtain⟨k,rfl,hk,hJk⟩:=hrel
  rcases k with _|k
  ·gi_wp2
   go_end0
   exact⟨⟨_,rfl⟩,.inl hJk⟩
  ·have e1:(((k+1:Nat):Int)-1)=(k:Int):=by omega
   rw[e1];obtain⟨hb,hr⟩:=hJ _ _ hJk;obtain⟨x0,xf,xl⟩:=hb.c1;obtain⟨x,hx⟩: ∃x,l.getD k (0,0)=x:=⟨_,rfl⟩
   have hx2:l[k]?=some x:=by rw[←hx,List.getD_eq_getElem?_getD,List.getElem?_eq_getElem (by have:=HN.out;omega)];rfl
   obtain⟨ab,off,rfl,ha1,ha2,hc⟩:=hr.at_ encO hx2 (by omega);have c0:=hc 0 _ rfl;have c1:=hc 1 _ rfl;rw[Nat.add_zero]at c0;rw[←Nat.add_assoc]at c1
   have hkn:k<n:=by omega
   obtain⟨fn,tmps,assign,body,hy,hR⟩:=hY k wr hkn hJk;rw[hx]at hy;unfold opEnc at hy
   have hR2:RoundIn Fence.wide (d-1) Tryz.prog yb fn tmps assign body wr (fun e W'=> ∃bb,e= .returned (.bool bb)∧((bb=true∧J k W')∨(bb=false∧Jx W'))):=hR.mono (fun e W' h=>by
    rcases h with⟨h1,h2⟩|⟨h1,h2⟩
    ·exact⟨true,h1,.inl ⟨rfl,h2⟩⟩
    ·exact⟨false,h1,.inr ⟨rfl,h2⟩⟩)
   clear hR hc hb hr hx hx2 e1;gi_wp2;refine hR2.mono ?_;rintro e3 W3 ⟨bb,rfl,hbb⟩
   rcases hbb with⟨rfl,hJ4⟩|⟨rfl,hx⟩
   ·gi_wp2
    go_roundw
    case rel=>exact⟨k,by go_num,by omega,hJ4⟩
    case measure=>simp[intOf]
   ·gi_wp2;refine bodyPost_ret (results_none (by kernel_rfl) _ _ _) rfl ?_;exact⟨⟨_,rfl⟩,.inr hx⟩
theorem BackC_ok {w:World}{A:Option Addr}{n c:Nat}:
 Calls Tryz.prog 117 #[.slice A n c] w fun r w'=>r= .returned (.func (.func 128) #[] #[.pointer (some ⟨w.heap.size,0,none⟩)])∧Blk w' w.heap.size 37 #[.slice A n c]∧Below w.heap.size w w':=by
 go_enter Tryz.func117,Tryz.ntmps117
 go_wp2;go_ret;exact⟨rfl,Blk.new w 37 _,(Below.refl _ w).alloc (Nat.le_refl _) _⟩
def clEnc (k:Nat)(x:Int):Array Value:=#[.int .i64 k,.int .u8 x]
theorem bwdC_ok {W1:World}{bx yb n c B:Nat}{A:Option Addr}{l:List Int}(hn:n=l.length)(hm:n≤4611686018427387904)
 {J:Nat→World→Prop} (h0:J n W1) (hJ: ∀k W,J k W→Blk W bx 37 #[.slice A n c]∧RdInts W B .u8 A l) {Jx:World→Prop} {d:Nat} (hd:1≤d)
 (hY: ∀k W,k<n→J (k+1) W→YieldAt Fence.wide (d-1) Tryz.prog yb (clEnc k (l.getD k 0)) W fun e W'=>(e= .returned (.bool true)∧J k W')∨(e= .returned (.bool false)∧Jx W')):
 CallsIn Fence.wide d Tryz.prog 128 #[.func (.yield yb) #[] #[],.pointer (some ⟨bx,0,none⟩)] W1 fun e W'=>(∃v,e= .returned v)∧(J 0 W'∨Jx W'):=by
 have HN:=Lib.hid hn;clear hn;obtain⟨x0,xf,xl⟩:=(hJ n W1 h0).1.c1;refine callsIn_of_wp Tryz.func128 rfl trivial ?_ rfl;simp only[Tryz.ntmps128,List.size_toArray,List.length_cons,List.length_nil,Nat.reduceAdd,Nat.reduceSub,Array.replicate_succ,Array.replicate_zero,List.push_toArray,List.append_toArray,List.nil_append,List.cons_append];gi_wp2
 gi_loopw [3] (fun kv wr=> ∃k:Nat,kv= .int .i64 ((k:Int)-1)∧k≤n∧J k wr) (fun kv _=>(intOf kv+1).toNat)
 case atStart=>exact⟨n,by go_num,Nat.le_refl _,h0⟩
 case round=>
  clear h0 x0 xf xl;obtain⟨k,rfl,hk,hJk⟩:=hrel
  rcases k with _|k
  ·gi_wp2
   go_end0
   exact⟨⟨_,rfl⟩,.inl hJk⟩
  ·have e1:(((k+1:Nat):Int)-1)=(k:Int):=by omega
   rw[e1];obtain⟨hb,hr⟩:=hJ _ _ hJk;obtain⟨x0,xf,xl⟩:=hb.c1;obtain⟨x,hx⟩: ∃x,l.getD k 0=x:=⟨_,rfl⟩;obtain⟨ab,off,rfl,ha1,ha2,c0⟩:=hr.at_ (i:=k) (by have:=HN.out;omega);rw[hx]at c0
   have hkn:k<n:=by omega
   obtain⟨fn,tmps,assign,body,hy,hR⟩:=hY k wr hkn hJk;rw[hx]at hy;unfold clEnc at hy
   have hR2:RoundIn Fence.wide (d-1) Tryz.prog yb fn tmps assign body wr (fun e W'=> ∃bb,e= .returned (.bool bb)∧((bb=true∧J k W')∨(bb=false∧Jx W'))):=hR.mono (fun e W' h=>by
    rcases h with⟨h1,h2⟩|⟨h1,h2⟩
    ·exact⟨true,h1,.inl ⟨rfl,h2⟩⟩
    ·exact⟨false,h1,.inr ⟨rfl,h2⟩⟩)
   clear hR hb hr hx e1;gi_wp2;refine hR2.mono ?_;rintro e3 W3 ⟨bb,rfl,hbb⟩
   rcases hbb with⟨rfl,hJ4⟩|⟨rfl,hx⟩
   ·gi_wp2
    go_roundw
    case rel=>exact⟨k,by go_num,by omega,hJ4⟩
    case measure=>simp[intOf]
   ·gi_wp2;refine bodyPost_ret (results_none (by kernel_rfl) _ _ _) rfl ?_;exact⟨⟨_,rfl⟩,.inr hx⟩
end
section
attribute [local go_sem] Oper.semAt_some
theorem results_pb {fn:Func}{p q:Tmp}(h:fn.results=#[.cell p 134,.cell q 4])(tmps:Array Value)(w:World)(g k:Nat)(x y:Int)(v:Bool)(hp:tmps.getD p undef= .pointer (some ⟨g,0,none⟩))(hq:tmps.getD q undef= .pointer (some ⟨k,0,none⟩))
 (hg:Blk w g 134 #[.int .i64 x,.int .i64 y]) (hk:Blk w k 4 #[.bool v]):(results fn tmps).run Tryz.prog w= .ok (.tuple #[.agg #[.int .i64 x,.int .i64 y],.bool v]) w:=by
 have hp':tmps[p]?.getD undef= .pointer (some ⟨g,0,none⟩):=by simpa using hp
 have hq':tmps[q]?.getD undef= .pointer (some ⟨k,0,none⟩):=by simpa using hq
 have hu:=run_underlying (P:=Tryz.prog) Tryz.underlying4 (w:=w);have hc:=hk.cell 0;have h1:=run_loadVar_row w g 134 134 #[.int .i64 x,.int .i64 y] (0,0) _ hg Tryz.underlying134 rfl (by kernel_rfl);simp[results,h,hp',hq',asAddr,h1];simp[loadVar,isAgg,hu,hc,go_sem]
def clL (l:List (Int×Int))(k:Int):List (Int×Int):=match scanK l k l.length with|some j=>l.take j|none=>l
def clF (l f:List (Int×Int))(a k:Int):List (Int×Int):=match scanK l k l.length with|some j=>f++[((l.getD j (0,0)).1,a)]|none=>f
def clB (l:List (Int×Int))(a k:Int):Int×Int:=match scanK l k l.length with|some j=>((l.getD j (0,0)).1,a)|none=>(0,0)
def clI (l:List (Int×Int))(k:Int):Bool:=(scanK l k l.length).isSome
def CloseEnd (Y:World)(B b u ll:Nat)(lA:Option Addr)(lc:Nat)(vf:Value)(l f:List (Int×Int))(a k:Int)(W:World):Prop:=
 ∃j vf',scanK l k ll=some j∧Pil W B b (.slice lA j lc) vf' (l.take j) (f++[((l.getD j (0,0)).1,a)]) false∧Blk W (u+1+1+1) 134 #[.int .i64 (l.getD j (0,0)).1,.int .i64 a]∧Blk W (u+1+1+1+1) 4 #[.bool true]∧
  Frm (fun i=>PilF b (.slice lA ll lc) vf i∨i=u+1+1+1∨i=u+1+1+1+1∨i=Y.heap.size+1) Y W∧(∀i,vf'.ownBlock=some i→vf.ownBlock=some i∨Y.heap.size+2≤i)
theorem own_len (A:Option Addr)(n m c:Nat):(Value.slice A n c).ownBlock=(Value.slice A m c).ownBlock:=by rcases A with _|a<;>rfl
theorem CloseEnd.frm {Y:World}{B b u ll:Nat}{lA:Option Addr}{lc:Nat}{vf:Value}{l f:List (Int×Int)}{a k:Int}{W W':World}(hP: ∀i,PilF b (.slice lA ll lc) vf i→i<Y.heap.size)(hu:u+1+1+1+1<Y.heap.size)
 (h:CloseEnd Y B b u ll lA lc vf l f a k W) (hF:Frm (fun i=>i=Y.heap.size+1) W W'):CloseEnd Y B b u ll lA lc vf l f a k W':=by
 obtain⟨j,vf',h1,h2,h3,h4,h5,h6⟩:=h;refine⟨j,vf',h1,h2.frm hF (fun i e=> ?_),h3.frm hF (by omega),h4.frm hF (by omega),h5.trans hF (fun i _ e=>.inr (.inr (.inr e))),h6⟩
 rcases e with e|e|e
 ·have:=hP i (.inl e);omega
 ·have:=hP i (.inr (.inl (by rw[own_len lA ll j];exact e)));omega
 ·rcases h6 i e with e|e
  ·have:=hP i (.inr (.inr e));omega
  ·omega
theorem Pclose_live {w:World}{B b:Nat}{vl vf:Value}{l f:List (Int×Int)}(a k:Int)(h:Pil w B b vl vf l f false)(hl:l.length≤1048576)(hf:f.length≤1048576):
 Calls Tryz.prog 90 #[.pointer (some ⟨b,0,none⟩),.int .i64 a,.int .i32 k] w fun r w'=>r= .returned (.tuple #[.agg #[.int .i64 (clB l a k).1,.int .i64 (clB l a k).2],.bool (clI l k)])∧ ∃vl' vf',Pil w' B b vl' vf' (clL l k) (clF l f a k) false∧Frm (PilF b vl vf) w w'∧
  (∀j,vl'.ownBlock=some j→vl.ownBlock=some j)∧ ∀j,vf'.ownBlock=some j→vf.ownBlock=some j∨w.heap.size≤j:=by
 have hb1:b<w.heap.size:=h.blk.lt;have hlt:=h.lt;obtain⟨W1,hW1⟩: ∃W1,(((((w.alloc (.cells #[.pointer (some ⟨b,0,none⟩)] 173)).alloc (.cells #[.int .i64 a] 3)).alloc (.cells #[.int .i32 k] 21)).alloc (.cells #[.int .i64 0,.int .i64 0] 134)).alloc (.cells #[.bool false] 4))=W1:=⟨_,rfl⟩
 have hsz:W1.heap.size=w.heap.size+1+1+1+1+1:=by rw[←hW1];simp
 have F01:Frm (fun _=>False) w W1:=by rw[←hW1];exact(((((Frm.refl _ w).alloc _).alloc _).alloc _).alloc _).alloc _
 have X0:Blk W1 w.heap.size 173 #[.pointer (some ⟨b,0,none⟩)]:=by rw[←hW1];exact((((Blk.new w 173 _).alloc _).alloc _).alloc _).alloc _
 have X1:Blk W1 (w.heap.size+1) 3 #[.int .i64 a]:=by rw[←hW1];exact(((Blk.at_ (by simp)).alloc _).alloc _).alloc _
 have X2:Blk W1 (w.heap.size+1+1) 21 #[.int .i32 k]:=by rw[←hW1];exact((Blk.at_ (by simp)).alloc _).alloc _
 have X3:Blk W1 (w.heap.size+1+1+1) 134 #[.int .i64 0,.int .i64 0]:=by rw[←hW1];exact(Blk.at_ (by simp)).alloc _
 have X4:Blk W1 (w.heap.size+1+1+1+1) 4 #[.bool false]:=by rw[←hW1];exact Blk.at_ (by simp)
 have P1:Pil W1 B b vl vf l f false:=h.frm F01 (fun _ _=>id);obtain⟨lA,lc,rfl,hl1,hl2,_⟩:=P1.rl.val;obtain⟨c0,c1,c2,c3,cf,cl⟩:=P1.blk.c4;obtain⟨x0,xf0,xl0⟩:=X0.c1;have hb:=P1.blk;have HW1:=Lib.hid hW1;obtain⟨ll,hll⟩: ∃ll,l.length=ll:=⟨_,rfl⟩;rw[hll]at c0 P1 hb hlt h;have HLL:=Lib.hid hll;clear hW1 hll hl1 hl2;refine(callsIn_wide (n:=5)).1 ?_;refine callsIn_of_wp_marks Tryz.func90 rfl trivial ?_ rfl;simp only[Tryz.ntmps90,List.size_toArray,List.length_cons,List.length_nil,Nat.reduceAdd,Nat.reduceSub,Array.replicate_succ,Array.replicate_zero,List.push_toArray,List.append_toArray,List.nil_append,List.cons_append];refine wpIn_wide.2 ?_
 go_upto_region 1 with(fail)
 rw[HW1.out]
 go_wp2_with(first
  |(go_at_call 111;refine(Pnone_ok hb).mono ?_;rintro r1 w1 ⟨rfl,rfl⟩)
  |(go_at_call 112;refine BackO_ok.mono ?_;rintro r2 w2 ⟨rfl,B2,b2⟩))
 have Y0:=X0.below b2 X0.lt;have Y1:=X1.below b2 X1.lt;have Y2:=X2.below b2 X2.lt;have Y3:=X3.below b2 X3.lt;have Y4:=X4.below b2 X4.lt;have P2:=P1.below b2 (Nat.le_refl _);have F02:Frm (fun _=>False) w w2:=F01.trans (Frm.of_below b2) (fun _ _ h=>h);have hs2:=B2.lt;clear X0 X1 X2 X3 X4 P1 c0 c1 c2 c3 cf cl x0 xf0 xl0 hb F01 h b2 HW1;obtain⟨Y,hY⟩: ∃Y,Y=w2:=⟨_,rfl⟩;rw[←hY]at B2 Y0 Y1 Y2 Y3 Y4 P2 F02 hs2⊢;clear hY;rw[hsz]at B2 hs2;obtain⟨u,hu⟩: ∃u,w.heap.size=u:=⟨_,rfl⟩;rw[hu]at B2 hs2 Y0 Y1 Y2 Y3 Y4 hsz hb1 hlt⊢;have HU:=Lib.hid hu;have hPl:=P2.lt;clear hu
 refine wpIn_wide.1 (wpIn_rangeFunc_break (n:=5) (F:=Fence.wide) rfl (by omega) (gf:=126) (lb:=#[.pointer (some ⟨u+1+1+1+1+1,0,none⟩)]) rfl trivial (enters_of Tryz.func126 (by kernel_rfl) rfl)
  (encs:=fun j:Nat=>opEnc j (l.getD j (0,0))) (fun _=>rfl) Code.ret
  (fun j W=>(Frm (fun i=>i=Y.heap.size+1) Y W∧Y.heap.size+1<W.heap.size)∧j<ll∧scanK l k ll=scanK l k (j+1))
  (fun j _ W'=>(Frm (fun i=>i=Y.heap.size+1) Y W'∧Y.heap.size+1<W'.heap.size)∧scanK l k ll=scanK l k j)
  (fun _ _ W'=>CloseEnd Y B b u ll lA lc vf l f a k W')
  (fun W=>(Frm (fun i=>i=Y.heap.size+1) Y W∧Y.heap.size+1<W.heap.size)∧scanK l k ll=none) (CloseEnd Y B b u ll lA lc vf l f a k)
  ?round ?st1 ?st2 ?call ?fin ?finb ?done ?stop)
 case st1=>rintro j W Wa Wb ⟨⟨h1,h2⟩,h3⟩ hF;exact⟨⟨h1.trans hF (fun _ _ e=>e),by have:=hF.size;omega⟩,h3⟩
 case st2=>intro j W Wa Wb h hF;exact h.frm (fun i e=>(hPl i e).2) (by omega) hF
 case fin=>rintro Wa Wb ⟨⟨h1,h2⟩,h3⟩ hF;exact⟨⟨h1.trans hF (fun _ _ e=>e),by have:=hF.size;omega⟩,h3⟩
 case finb=>intro Wa Wb h hF;exact h.frm (fun i e=>(hPl i e).2) (by omega) hF
 case call=>
  intro W1 hF1 hW1 Rdy Dn hsz1 hst hR1 hY
  have:=bwdO_ok (W1:=W1) (bx:=u+1+1+1+1+1) (yb:=Y.heap.size+1) (n:=ll) (c:=lc) (B:=Y.heap.size) (A:=lA) (l:=l) HLL.out.symm (by have:=HLL.out;omega)
   (J:=fun j W=>((Frm (fun i=>i=Y.heap.size+1) Y W∧Y.heap.size+1<W.heap.size)∧scanK l k ll=scanK l k j)∧Rdy W)
   ⟨⟨⟨hF1.mono (fun _ _ e=>e.elim),hW1⟩,rfl⟩,hR1⟩ (fun j W hJ=>⟨B2.frm hJ.1.1.1 (by omega),RdR.frmA P2.rl.rd hJ.1.1.1 (fun g o e=>by
     have:=(hPl g (.inr (.inl (by rw[e];rfl)))).2
     omega)⟩)
   (Jx:=fun W=>CloseEnd Y B b u ll lA lc vf l f a k W∧Dn W) (d:=4) (by omega) (fun j W hj hJ=> ?_)
  ·refine this.mono ?_;rintro e W2 ⟨hv,(⟨⟨h1,h2⟩,h3⟩|⟨h1,h2⟩)⟩
   ·exact⟨hv,.inl ⟨⟨h1,by rw[h2];rfl⟩,h3⟩⟩
   ·exact⟨hv,.inr ⟨h1,h2⟩⟩
  ·obtain⟨fn,tmps,asg,bd,hy,hRo⟩:=hY j W ⟨hJ.1.1,hj,hJ.1.2⟩ hJ.2;refine⟨fn,tmps,asg,bd,hy,hRo.mono fun e w' h=> ?_⟩
   rcases h with⟨h1,h2,h3⟩|⟨h1,h2,h3⟩
   ·exact .inl ⟨h1,h2,h3⟩
   ·exact .inr ⟨h1,h2,h3⟩
 case round=>
  rintro j W K hW ⟨⟨hI,hIs⟩,hj,hsc⟩ hK;obtain⟨x,hx⟩: ∃x,l.getD j (0,0)=x:=⟨_,rfl⟩
  have hsj:scanK l k (j+1)=if x.2=k then some j else scanK l k j:=by rw[←hx];rfl
  rw[hsj]at hsc;have HSC:=Lib.hid hsc;have HX:=Lib.hid hx;rw[hx];clear hsc hsj hx;unfold opEnc;simp only[List.zip_toArray,List.zip_cons_cons,List.zip_nil_right,List.foldl_toArray,List.foldl_cons,List.foldl_nil,List.setIfInBounds_toArray,List.set_cons_zero,List.set_cons_succ];gi_wp2;have FA:=(Frm.refl (fun _=>False) W).alloc (.cells #[.int .i64 x.1,.int .i32 x.2] 202);refine hK _ _ (Two.of_frm FA hW id id) ?_;intro V hV;have FV:Frm (fun i=>i=Y.heap.size+1) Y V:=(hI.trans (FA.mono (F':=fun i=>i=Y.heap.size+1) (fun _ _ e=>e.elim)) (fun _ _ e=>e)).trans hV (fun _ _ e=>e)
  have hVs:W.heap.size+1≤V.heap.size:=by have:=hV.size;simpa using this
  have O:=(Blk.new W 202 #[.int .i64 x.1,.int .i32 x.2]).frm hV (by omega);obtain⟨o0,o1,of,ol⟩:=O.c2;have Z1:=Y1.frm FV (by omega);have Z2:=Y2.frm FV (by omega);obtain⟨k0,kf,kl⟩:=Z2.c1;clear hK FA
  by_cases hk:x.2=k
  ·have hkk:(x.2==k)=true:=by simpa using hk
   have Z0:=Y0.frm FV (by omega);have Z3:=Y3.frm FV (by omega);have Z4:=Y4.frm FV (by omega);have PV:=P2.frm FV (fun i e=>by have:=(hPl i e).2;omega);obtain⟨a0,af,al⟩:=Z1.c1
   obtain⟨g,rfl,Rl⟩: ∃g,lA=some ⟨g,0,none⟩∧Rw opC 2 V B 202 (.slice (some ⟨g,0,none⟩) ll lc) l:=by
    rcases PV.rl.cases' with⟨e,e2⟩|⟨g,cap,e,R⟩
    ·have:=HLL.out;rw[e2]at this;simp at this;omega
    ·injection e with e1 e2 e3
     subst e1;exact⟨g,rfl,PV.rl⟩
   gi_wp2;obtain⟨V1,hV1⟩: ∃V1,V.alloc (.cells #[.int .i64 x.1,.int .i64 a] 134)=V1:=⟨_,rfl⟩;rw[hV1]
   have FV1:Frm (fun _=>False) V V1:=by rw[←hV1];exact(Frm.refl _ V).alloc _
   have X9:Blk V1 V.heap.size 134 #[.int .i64 x.1,.int .i64 a]:=by rw[←hV1];exact Blk.new V 134 _
   have PV1:=PV.frm FV1 (fun _ _=>id);have Z01:=Z0.frm FV1 id;have HV1:=Lib.hid hV1;obtain⟨c0,c1,c2,c3,cf,cl⟩:=PV1.blk.c4;obtain⟨s0,sf,sl⟩:=Z01.c1
   have hjc:j≤lc:=by have:=(Rl.at_ encO).1;have:=(Rl.at_ encO).2.1;omega
   have hjl:j≤ll:=by omega
   clear hV1
   refine wpIn_region_fixed (E:=[]) (K:=[(0,false),(0,false),(0,false),(0,false),(0,false),(0,false),(0,false),(1,false),(0,false),(0,true)]) (r:=1)
    (W:=fun c=>match c with|0=>V1.drew|_=>V1.drew.setCell ⟨b,0,none⟩ (.slice (some ⟨g,0,none⟩) j lc))
    (vs:=[.pointer (some ⟨b,0,none⟩),.pointer (some ⟨b,0,none⟩),.pointer (some ⟨b,0,none⟩),.pointer (some ⟨b,0,none⟩),.slice (some ⟨g,0,none⟩) ll lc,.int .i64 j,.slice (some ⟨g,0,none⟩) j lc,.pointer (some ⟨b,0,none⟩),.pointer (some ⟨b,0,none⟩),undef])
    (fun _=>trivial) (by kernel_rfl) (by kernel_rfl) rfl rfl (runs_all ?_) ?_
   ·simp only[putAll,Act.put,List.setIfInBounds_toArray,List.set_cons_zero,List.set_cons_succ];refine⟨runs1_r0 (.pointer (some ⟨b,0,none⟩)) ?_ (by intro d hd;cases hd;rfl),runs1_r0 (.pointer (some ⟨b,0,none⟩)) ?_ (by intro d hd;cases hd;rfl),runs1_r0 (.pointer (some ⟨b,0,none⟩)) ?_ (by intro d hd;cases hd;rfl),runs1_r0 (.pointer (some ⟨b,0,none⟩)) ?_ (by intro d hd;cases hd;rfl),runs1_r0 (.slice (some ⟨g,0,none⟩) ll lc) ?_ (by intro d hd;cases hd;rfl),runs1_r0 (.int .i64 j) ?_ (by intro d hd;cases hd;rfl),runs1_r0 (.slice (some ⟨g,0,none⟩) j lc) ?_ (by intro d hd;cases hd;rfl),runs1_r1 (.pointer (some ⟨b,0,none⟩)) ?_ ?_ (by intro d hd;cases hd;rfl),runs1_r0 (.pointer (some ⟨b,0,none⟩)) ?_ (by intro d hd;cases hd;rfl),runs1_s ?_ rfl,trivial⟩
    all_goals go_simp
   ·simp only[putAll,Act.put,List.setIfInBounds_toArray,List.set_cons_zero,List.set_cons_succ];obtain⟨V2,hV2⟩: ∃V2,V1.drew.setCell ⟨b,0,none⟩ (.slice (some ⟨g,0,none⟩) j lc)=V2:=⟨_,rfl⟩;rw[hV2]
    have FV2:Frm (fun i=>i=b) V1 V2:=by rw[←hV2];exact((Frm.refl (fun i=>i=b) V1).drew).set rfl _
    have hgb:=(PV1.a1 g rfl).1
    have PV2:Pil V2 B b (.slice (some ⟨g,0,none⟩) j lc) vf (l.take j) f false:=⟨by rw[←hV2];simpa using PV1.blk.drew.set_ 0 (.slice (some ⟨g,0,none⟩) j lc),(PV1.rl.cut encO j (by have:=HLL.out;omega)).frm FV2 (fun i e e2=>(PV1.a1 i e).1 e2),PV1.rf.frm FV2 (fun i e=>PV1.a2 i e),fun i e=>PV1.a1 i e,PV1.a2,PV1.hb⟩
    have hbu:b<u:=hb1;have Z02:=Z01.frm FV2 (by omega);have X92:=X9.frm FV2 (by have:=hV.size;have:=FV.size;omega);have HV2:=Lib.hid hV2;clear hV2 c0 c1 c2 c3 cf cl s0 sf sl;obtain⟨c0,c1,c2,c3,cf,cl⟩:=PV2.blk.c4;obtain⟨s0,sf,sl⟩:=Z02.c1;obtain⟨t0,t1,tf,tl⟩:=X92.c2;have hown:(V2.drew.alloc (.cells #[.int .i64 x.1,.int .i64 a] 134)).ownsRow B 134 2 vf f.length (f.flatMap brC):=World.ownsRow.alloc PV2.rf.drew _;obtain⟨fl,hfl⟩: ∃fl,f.length=fl:=⟨_,rfl⟩;rw[hfl]at hown
    have hfm:fl≤1048576:=by omega
    have HFL:=Lib.hid hfl;clear hfl;obtain⟨vf2,W2,hrun,hown2,hgr2,hv2⟩:=run_app etB 58 (c:=1) hown (Reads.blk (Blk.at_ (g:=V2.drew.heap.size) (cs:=#[.int .i64 x.1,.int .i64 a]) (t:=134) rfl) (n:=1) (size:=2) rfl) (by intro v hv;simp at hv;rcases hv with rfl|rfl<;>rfl) (by unfold maxLen;omega) (by omega) (by have:=PV2.hb;simp;omega);obtain⟨g2,cap2,rfl,_,_⟩:=World.ownsRow.form hown2 (by omega);have FW2:Frm (fun i=>vf.ownBlock=some i) V2 W2:=(((Frm.refl _ V2).drew).alloc _).grown hgr2 (fun i e _=>e)
    have hub:vf.ownBlock≠some u:=fun e=>by have:=(hlt u (.inr (.inr e))).2;omega
    have s2:W2.cell? ⟨u,0,none⟩=some (.pointer (some ⟨b,0,none⟩)):=(Z02.frm FW2 hub).c1.1;have BW:=PV2.blk.frm FW2 (fun e=>PV2.a2 b e rfl);have d1:W2.cell? ⟨b,1,none⟩=some vf:=BW.c4.2.1;have df: ∀i,W2.frozen? ⟨b,i,none⟩=false:=BW.frozen;gi_wp2
    refine wpIn_region_fixed (E:=[]) (K:=[(2,false),(2,false),(2,false),(2,false),(1,false),(0,false),(0,true),(1,true),(3,false),(2,false),(2,true)]) (r:=3)
     (W:=fun c=>match c with|0=>V2.drew|1=>V2.drew.alloc (.cells #[.int .i64 x.1,.int .i64 a] 134)|2=>W2|_=>W2.setCell ⟨b,1,none⟩ (.slice (some ⟨g2,0,none⟩) (fl+1) cap2))
     (vs:=[.pointer (some ⟨b,0,none⟩),.pointer (some ⟨b,0,none⟩),.pointer (some ⟨b,0,none⟩),.pointer (some ⟨b,1,none⟩),vf,.agg #[.int .i64 x.1,.int .i64 a],.slice (some ⟨V2.heap.size,0,none⟩) 1 1,.slice (some ⟨g2,0,none⟩) (fl+1) cap2,.pointer (some ⟨b,0,none⟩),.pointer (some ⟨b,1,none⟩),undef])
     (fun _=>trivial) (by kernel_rfl) (by kernel_rfl) rfl rfl (runs_all ?_) ?_
    ·simp only[putAll,Act.put,List.setIfInBounds_toArray,List.set_cons_zero,List.set_cons_succ];refine⟨runs1_r2 (.pointer (some ⟨b,0,none⟩)) ?_ ?_ ?_ (by intro d hd;cases hd;rfl),runs1_r2 (.pointer (some ⟨b,0,none⟩)) ?_ ?_ ?_ (by intro d hd;cases hd;rfl),runs1_any (.pointer (some ⟨b,0,none⟩)) ?_ (by intro d hd;cases hd;rfl),runs1_any (.pointer (some ⟨b,1,none⟩)) ?_ (by intro d hd;cases hd;rfl),runs1_r1 (vf) ?_ ?_ (by intro d hd;cases hd;rfl),runs1_r0 (.agg #[.int .i64 x.1,.int .i64 a]) ?_ (by intro d hd;cases hd;rfl),runs1_e (.slice (some ⟨V2.heap.size,0,none⟩) 1 1) ?_ (by intro d hd;cases hd;rfl),runs1_e (.slice (some ⟨g2,0,none⟩) (fl+1) cap2) ?_ (by intro d hd;cases hd;rfl),runs1_any (.pointer (some ⟨b,0,none⟩)) ?_ (by intro d hd;cases hd;rfl),runs1_any (.pointer (some ⟨b,1,none⟩)) ?_ (by intro d hd;cases hd;rfl),runs1_s ?_ rfl,trivial⟩
     all_goals (try intro w)
     all_goals first
      |(go_simp;done)
      |(simp only[execOp,resolve,invoke,builtin,Sem.run_bind,Sem.run_pure,Result.andThen_ok,List.map_toArray,List.map_cons,List.map_nil]
        exact congrArg (fun r=>Result.andThen r _) hrun)
    ·simp only[putAll,Act.put,List.setIfInBounds_toArray,List.set_cons_zero,List.set_cons_succ];have FW3:Frm (fun i=>i=b) W2 (W2.setCell ⟨b,1,none⟩ (.slice (some ⟨g2,0,none⟩) (fl+1) cap2)):=(Frm.refl (fun i=>i=b) W2).set rfl _;obtain⟨W3,hW3⟩: ∃W3,W2.setCell ⟨b,1,none⟩ (.slice (some ⟨g2,0,none⟩) (fl+1) cap2)=W3:=⟨_,rfl⟩;rw[hW3]at FW3⊢;have HW3:=Lib.hid hW3;clear hW3;have hgPl:=hlt g (.inr (.inl rfl));have hbPl:=hlt b (.inl rfl);have hvs:V.heap.size<V2.heap.size:=tl
     have hYV:Y.heap.size+1<V.heap.size:=by omega
     have hg2:(vf.ownBlock=some g2∧g2<u)∨g2=V2.heap.size+1:=by
      rcases hv2 with e|e
      ·exact .inl ⟨e.symm,(hlt g2 (.inr (.inr e.symm))).2⟩
      ·right;simpa[Value.ownBlock]using e
     have hnv: ∀i,u≤i→vf.ownBlock≠some i:=fun i hi e=>by have:=(hlt i (.inr (.inr e))).2;omega
     have FA2:Frm (fun i=>i=b) V V2:=(FV1.mono (F':=fun i=>i=b) (fun _ _ e=>e.elim)).trans FV2 (fun _ _ e=>e);have FA3:Frm (fun i=>i=b∨vf.ownBlock=some i) V W3:=((FA2.mono (fun _ _ e=>.inl e)).trans FW2 (fun _ _ e=>.inr e)).trans FW3 (fun _ _ e=>.inl e);have X93:=(X92.frm FW2 (hnv _ (by omega))).frm FW3 (by omega);have Z33:=Z3.frm FA3 (fun e=>e.elim (fun e=>by omega) (hnv _ (by omega)));have Z43:=Z4.frm FA3 (fun e=>e.elim (fun e=>by omega) (hnv _ (by omega)))
     have BW3:Blk W3 b 200 #[.slice (some ⟨g,0,none⟩) j lc,.slice (some ⟨g2,0,none⟩) (fl+1) cap2,.bool false,.bool true]:=by rw[←HW3.out];simpa using BW.set_ 1 (.slice (some ⟨g2,0,none⟩) (fl+1) cap2)
     have hgg:g2≠g:=by
      rcases hg2 with⟨e,_⟩|e
      ·rintro rfl;exact(PV.a1 g2 rfl).2 e
      ·omega
     have hg2b:g2≠b:=by
      rcases hg2 with⟨e,_⟩|e
      ·exact PV.a2 g2 e
      ·omega
     have P3:Pil W3 B b (.slice (some ⟨g,0,none⟩) j lc) (.slice (some ⟨g2,0,none⟩) (fl+1) cap2) (l.take j) (f++[(x.1,a)]) false:=by
      refine⟨BW3,(PV2.rl.frm FW2 (fun i e e2=>(PV2.a1 i e).2 e2)).frm FW3 (fun i e=>(PV2.a1 i e).1),?_,fun i e=> ?_,fun i e=> ?_,PV2.hb⟩
      ·have hR:Rw brC 2 W2 B 134 (.slice (some ⟨g2,0,none⟩) (fl+1) cap2) (f++[(x.1,a)]):=by
        unfold Rw;rw[List.length_append,HFL.out,List.flatMap_append];exact hown2
       exact hR.frm FW3 (fun i e=>by have:g2=i:=by simpa[Value.ownBlock]using e
                                     omega)
      ·have:g=i:=by simpa[Value.ownBlock]using e
       subst this;exact⟨hgb,fun e=>hgg (by simpa[Value.ownBlock]using e)⟩
      ·have:g2=i:=by simpa[Value.ownBlock]using e
       omega
     clear c0 c1 c2 c3 cf cl s0 sf sl t0 t1 tf tl o0 o1 of ol k0 kf kl a0 af al s2 d1 df;obtain⟨t0,t1,tf,tl⟩:=X93.c2;obtain⟨z0,z1,zf,zl⟩:=Z33.c2;obtain⟨y0,yf,yl⟩:=Z43.c1;gi_wp2
     have F4:Frm (fun i=>i=u+1+1+1∨i=u+1+1+1+1) W3 (((W3.setCell ⟨u+1+1+1,0,none⟩ (.int .i64 x.1)).setCell ⟨u+1+1+1,1,none⟩ (.int .i64 a)).setCell ⟨u+1+1+1+1,0,none⟩ (.bool true)):=(((Frm.refl (fun i=>i=u+1+1+1∨i=u+1+1+1+1) W3).set (.inl rfl) _).set (.inl rfl) _).set (.inr rfl) _
     have F5:=(FA3.mono (F':=fun i=>(i=b∨vf.ownBlock=some i)∨i=u+1+1+1∨i=u+1+1+1+1) (fun _ _ e=>.inl e)).trans F4 (fun _ _ e=>.inr e)
     have hne:(u+1+1+1:Nat)≠u+1+1+1+1:=by omega
     have P4:=P3.frm F4 (fun i e=>by
      rcases e with e|e|e
      ·omega
      ·have:g=i:=by simpa[Value.ownBlock]using e
       omega
      ·have:g2=i:=by simpa[Value.ownBlock]using e
       omega)
     refine⟨Two.of_frm F5 hYV (fun e=> ?_) (fun e=> ?_),rfl,j,_,?_,by rw[HX.out];exact P4,?_,?_,?_,?_⟩
     ·rcases e with(e|e)|e
      ·omega
      ·exact hnv _ (by omega) e
      ·omega
     ·rcases e with(e|e)|e
      ·omega
      ·exact hnv _ (by omega) e
      ·omega
     ·have:=HSC.out;rw[if_pos hk]at this;exact this
     ·rw[HX.out]
      simpa using((Z33.set_ 0 (.int .i64 x.1)).set_ 1 (.int .i64 a)).far (p:=⟨u+1+1+1+1,0,none⟩) hne (.bool true)
     ·simpa using((Z43.far (p:=⟨u+1+1+1,0,none⟩) (Ne.symm hne) (.int .i64 x.1)).far (p:=⟨u+1+1+1,1,none⟩) (Ne.symm hne) (.int .i64 a)).set_ 0 (.bool true)
     ·refine(FV.mono (fun i _ e=>Or.inr (Or.inr (Or.inr e)))).trans F5 (fun i _ e=> ?_)
      rcases e with(e|e)|e|e
      ·exact .inl (.inl e)
      ·exact .inl (.inr (.inr e))
      ·exact .inr (.inl e)
      ·exact .inr (.inr (.inl e))
     ·intro i e
      have:g2=i:=by simpa[Value.ownBlock]using e
      subst this
      rcases hg2 with⟨e,_⟩|e
      ·exact .inl e
      ·right;omega
  ·have hkk:(x.2==k)=false:=by simpa using hk
   gi_wp2;refine⟨Two.refl _ _,⟨FV,by omega⟩,?_⟩;have:=HSC.out;rw[if_neg hk]at this;exact this
 case done=>
  rintro W ⟨⟨h1,h2⟩,h3⟩ hK;have Z3:=Y3.frm h1 (by omega);have Z4:=Y4.frm h1 (by omega);have PW:=P2.frm h1 (fun i e=>by have:=(hPl i e).2;omega);obtain⟨z0,z1,zf,zl⟩:=Z3.c2;obtain⟨y0,yf,yl⟩:=Z4.c1;go_wp2
  have hs:scanK l k l.length=none:=by rw[HLL.out];exact h3
  have e1:clL l k=l:=by unfold clL;rw[hs]
  have e2:clF l f a k=f:=by unfold clF;rw[hs]
  have e3:clB l a k=(0,0):=by unfold clB;rw[hs]
  have e4:clI l k=false:=by unfold clI;rw[hs];rfl
  rw[e1,e2,e3,e4]
  have FD:Frm (fun i=>i=u+1+1+1∨i=u+1+1+1+1) W (((W.setCell ⟨u+1+1+1,0,none⟩ (.int .i64 0)).setCell ⟨u+1+1+1,1,none⟩ (.int .i64 0)).setCell ⟨u+1+1+1+1,0,none⟩ (.bool false)):=(((Frm.refl (fun i=>i=u+1+1+1∨i=u+1+1+1+1) W).set (.inl rfl) _).set (.inl rfl) _).set (.inr rfl) _
  have hne:(u+1+1+1:Nat)≠u+1+1+1+1:=by omega
  have B3:Blk (((W.setCell ⟨u+1+1+1,0,none⟩ (.int .i64 0)).setCell ⟨u+1+1+1,1,none⟩ (.int .i64 0)).setCell ⟨u+1+1+1+1,0,none⟩ (.bool false)) (u+1+1+1) 134 #[.int .i64 0,.int .i64 0]:=by simpa using((Z3.set_ 0 (.int .i64 0)).set_ 1 (.int .i64 0)).far (p:=⟨u+1+1+1+1,0,none⟩) hne (.bool false)
  have B4:Blk (((W.setCell ⟨u+1+1+1,0,none⟩ (.int .i64 0)).setCell ⟨u+1+1+1,1,none⟩ (.int .i64 0)).setCell ⟨u+1+1+1+1,0,none⟩ (.bool false)) (u+1+1+1+1) 4 #[.bool false]:=by simpa using((Z4.far (p:=⟨u+1+1+1,0,none⟩) (Ne.symm hne) (.int .i64 0)).far (p:=⟨u+1+1+1,1,none⟩) (Ne.symm hne) (.int .i64 0)).set_ 0 (.bool false)
  have PD:=PW.frm FD (fun i e=>by have:=(hlt i e).2;omega);have hKD:=(FD.block Y.heap.size (by omega) (by omega)).trans hK;generalize (((W.setCell ⟨u+1+1+1,0,none⟩ (.int .i64 0)).setCell ⟨u+1+1+1,1,none⟩ (.int .i64 0)).setCell ⟨u+1+1+1+1,0,none⟩ (.bool false))=WD at*;have FF:=(Frm.refl (fun i=>i=Y.heap.size) WD).put (k:=Y.heap.size) rfl (.deferred none);refine⟨by simp,.inl ⟨_,_,rfl,run_takeDeferred hKD,?_⟩⟩;refine⟨_,results_pb rfl _ _ (u+1+1+1) (u+1+1+1+1) 0 0 false rfl rfl (B3.frm FF (by omega)) (B4.frm FF (by omega)),rfl,_,_,PD.frm FF (fun i e=>by have:=(hlt i e).2;omega),?_,by rw[HLL.out];exact fun _ h=>h,fun _ h=>.inl h⟩;refine(((F02.trans h1 (fun i hi e=> ?_)).trans FD (fun i hi e=> ?_)).trans FF (fun i hi e=> ?_)).mono (fun _ _ e=>e.elim)
  all_goals have:=HU.out
  all_goals omega
 case stop=>
  rintro W hE hK;refine wpIn_wide.2 ?_;go_wp2;obtain⟨j,vf2,q1,q2,q3,q4,q5,q6⟩:=hE
  have hs:scanK l k l.length=some j:=by rw[HLL.out];exact q1
  have e1:clL l k=l.take j:=by unfold clL;rw[hs]
  have e2:clF l f a k=f++[((l.getD j (0,0)).1,a)]:=by unfold clF;rw[hs]
  have e3:clB l a k=((l.getD j (0,0)).1,a):=by unfold clB;rw[hs]
  have e4:clI l k=true:=by unfold clI;rw[hs];rfl
  rw[e1,e2,e3,e4];have FF:=(Frm.refl (fun i=>i=Y.heap.size) W).put (k:=Y.heap.size) rfl (.deferred none);refine⟨by simp,.inl ⟨_,_,rfl,run_takeDeferred hK,?_⟩⟩;refine⟨_,results_pb rfl _ _ (u+1+1+1) (u+1+1+1+1) _ _ true rfl rfl (q3.frm FF (by omega)) (q4.frm FF (by omega)),rfl,_,_,q2.frm FF (fun i e=> ?_),?_,fun i e=>(by rw[own_len lA l.length j];exact e),fun i e=> ?_⟩
  ·rcases e with e|e|e
   ·have:=(hPl i (.inl e)).2;omega
   ·have:=(hPl i (.inr (.inl (by rw[own_len lA ll j];exact e)))).2;omega
   ·rcases q6 i e with e|e
    ·have:=(hPl i (.inr (.inr e))).2;omega
    ·omega
  ·refine((F02.mono (F':=PilF b (.slice lA l.length lc) vf) (fun _ _ e=>e.elim)).trans q5 (fun i hi e=> ?_)).trans FF (fun i hi e=> ?_)
   ·rw[HLL.out];have:=HU.out
    rcases e with e|e|e|e
    ·exact e
    ·omega
    ·omega
    ·omega
   ·have:=HU.out;omega
  ·rcases q6 i e with e|e
   ·exact .inl e
   ·right;have:=HU.out;omega
end
section
attribute [local go_sem] Oper.semAt_some
def mkC (x:Int×Int):List Value:=[.int .i64 x.1,.int .u8 1,.int .i32 x.2]
theorem encM:Enc mkC 3:=⟨fun _=>rfl,fun x u hu=>by simp[mkC]at hu;rcases hu with rfl|rfl|rfl<;>rfl⟩
def RPil (W:World)(pv:Value)(l f:List (Int×Int))(ov:Bool):Prop:= ∃(A A':Option Addr) (c c':Nat),pv= .agg #[.slice A l.length c,.bool ov,.slice A' f.length c']∧l.length≤c∧f.length≤c'∧RdR mkC 3 W W.heap.size A l∧RdR brC 2 W W.heap.size A' f
theorem RPil.below {W W':World}{pv:Value}{l f:List (Int×Int)}{ov:Bool}(h:RPil W pv l f ov){C:Nat}(hb:Below C W W')(hC:W.heap.size≤C):RPil W' pv l f ov:=by obtain⟨A,A',c,c',h1,h2,h3,h4,h5⟩:=h;exact⟨A,A',c,c',h1,h2,h3,(h4.below hb (.inr hC)).more hb.size,(h5.below hb (.inr hC)).more hb.size⟩
theorem RPil.frm {W W':World}{pv:Value}{l f:List (Int×Int)}{ov:Bool}(h:RPil W pv l f ov)(hF:Frm (fun _=>False) W W'):RPil W' pv l f ov:=h.below (hF.below (Nat.le_refl _) (fun _ _=>id)) (Nat.le_refl _)
attribute [local go_sem] Oper.semAt_some
attribute [local go_sem] Oper.semAt_some
theorem fm_drop {α:Type}{c:α→List Value}{sz:Nat}(E:Enc c sz)(l:List α)(i:Nat):(l.drop i).flatMap c=(l.flatMap c).drop (i*sz):=by
 rcases Nat.le_total i l.length with h|h
 ·have h1:l.flatMap c=(l.take i).flatMap c++(l.drop i).flatMap c:=by rw[←List.flatMap_append,List.take_append_drop]
  rw[h1,List.drop_append_of_le_length (by rw[fm_len E,List.length_take];exact Nat.mul_le_mul_right _ (by omega))]
  have:(List.drop (i*sz) ((l.take i).flatMap c))=[]:=by rw[List.drop_eq_nil_iff,fm_len E,List.length_take];exact Nat.mul_le_mul_right _ (by omega)
  rw[this,List.nil_append]
 ·rw[List.drop_eq_nil_of_le h,List.drop_eq_nil_of_le (by rw[fm_len E];exact Nat.mul_le_mul_right _ h)];rfl
theorem RdR.take {α:Type}{c:α→List Value}{sz:Nat}(E:Enc c sz){W:World}{B:Nat}{A:Option Addr}{l:List α}(h:RdR c sz W B A l){j:Nat}(hj:j≤l.length):RdR c sz W B A (l.take j):=by
 refine⟨fm_len E _,fun h0=> ?_⟩;obtain⟨b',off',e,q1,q2,q3⟩:=h.2 (by rw[List.length_take]at h0;omega);refine⟨b',off',e,q1,q2,fun i v hi=>q3 i v ?_⟩;rw[fm_take E,List.getElem?_take]at hi
 split at hi
 ·exact hi
 ·cases hi
theorem RdR.drop {α:Type}{c:α→List Value}{sz:Nat}(E:Enc c sz){W:World}{B b off:Nat}{l:List α}(h:RdR c sz W B (some ⟨b,off,none⟩) l)(j:Nat):RdR c sz W B (some ⟨b,off+j*sz,none⟩) (l.drop j):=by
 refine⟨fm_len E _,fun h0=> ?_⟩;obtain⟨b',off',e,q1,q2,q3⟩:=h.2 (by rw[List.length_drop]at h0;omega)
 injection e with e
 injection e with e1 e2 e3
 subst e1 e2;refine⟨b,off+j*sz,rfl,q1,q2,fun i v hi=> ?_⟩;rw[fm_drop E,List.getElem?_drop]at hi;rw[Nat.add_assoc];exact q3 _ v hi
end
end Go.Proofs.YtplpbmkdfabfpaaGreat
