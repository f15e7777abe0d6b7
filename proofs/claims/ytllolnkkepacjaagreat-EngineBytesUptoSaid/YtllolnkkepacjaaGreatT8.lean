/- Sequences walked. Sequences, whatever comes in. -/
import Derived.Test.YtllolnkkepacjaaGreatX3
import Derived.Test.YtllolnkkepacjaaGreatRng3
import Derived.Test.YtllolnkkepacjaaGreatKit3
import Derived.Maps.OwnSet
import Derived.Maps.OwnOps
import Derived.Shelf.Abstract
set_option maxRecDepth 100000
set_option maxHeartbeats 1000000
namespace Go.Proofs.YtllolnkkepacjaaGreat
open Go.RowKit
section
open Go.RowKit Go.Maps Go.Shelf
attribute [local go_sem] Oper.semAt_some
theorem step_mkI {P:Program}{ops:Array Oper}{o:Oper}{a:Act}{w:World}{K:Act→World→Prop}{Q:Exit→Act→World→Prop}{E:Prop}{t e:TypeId}{k:IntKind}{bytes:Nat}(T:ElemI P t e k bytes)(B:Nat)
 (hg:o.guard=none) (lo co:Operand) (hop:o.op=Op.makeSlice t lo co) {kl kc:IntKind} {L C:Int} (n:Nat) (hl:a.eval lo= .int kl L) (hc:a.eval co= .int kc C) (hL:L=(n:Int)) (hC:C=(n:Int))
 (b2:bytes*n≤281474976710656) (b3:n≤maxLen) (b4:B≤w.heap.size)
 (hK: ∀w',Ints w' B e k (.slice (some ⟨w.heap.size,0,none⟩) n n) (List.replicate n 0)→w.grownBy w' none→K (a.put o.dst (.slice (some ⟨w.heap.size,0,none⟩) n n)) w'):
 if Region.wanted o (yielded ops a.tmps)=true then Oper.wp P o a w K Q else E:=by
 have hw:Region.wanted o (yielded ops a.tmps)=true:=by simp[Region.wanted,hg]
 rw[if_pos hw];obtain⟨i,h1,h2,h3,h4,h5⟩:=T.parts;subst h5;obtain⟨w',hrun,r1,r2⟩:=run_make_full (P:=P) (w:=w) B t e i (.int k 0) 1 h1 h2 h3 h4 kl kc n b2 b3 b4;subst hL;subst hC;unfold Oper.wp;simp[execOp,hop,hl,hc,hrun,Result.andThen];refine hK w' ?_ r2;unfold Ints
 have hz:(madeCells (Value.int k 0).cells (n*1)).toList=(List.replicate n (0:Int)).map (.int k):=by rw[Nat.mul_one];exact(toList_madeCells_one (.int k 0) n).trans (by simp)
 rw[hz]at r1
 simpa using r1
structure Made (w W:World) (x:Txt) (n tb b5 b6:Nat) (A0 A1 A2 A4:Option Addr) (c0 c1 c2 c4:Nat) (ix:List Int):Prop where
 blk:Blk W tb 167 #[.slice A0 n c0,.slice A1 n c1,.slice A2 n c2,.int .i8 x.base,.slice A4 x.ks.length c4,.slice (some ⟨b5,0,none⟩) n n,.slice (some ⟨b6,0,none⟩) n n]
 ks:Ints W w.heap.size 3 .i64 (.slice A4 x.ks.length c4) x.ks
 ix:Ints W w.heap.size 3 .i64 (.slice (some ⟨b5,0,none⟩) n n) ix
 mt:Ints W w.heap.size 3 .i64 (.slice (some ⟨b6,0,none⟩) n n) x.mt
 d1:tb≠b5
 d2:b6≠b5
 d3: ∀b off,A4=some ⟨b,off,none⟩→b≠b5
 below:Below w.heap.size w W
theorem RdInts.small {w:World}{B:Nat}{k:IntKind}{A:Option Addr}{l:List Int}(h:RdInts w B k A l):RdInts w w.heap.size k A l:=
 ⟨h.1,fun hn=>by
  obtain⟨b,off,e,_,hs,hc⟩:=h.2 hn
  exact⟨b,off,e,hs,hs,hc⟩⟩
theorem Match_n {w:World}{B:Nat}{A:Option Addr}{c n:Nat}{l:List Int}(hn:n=l.length)(h:RdInts w B .u8 A l)(hl:n≤8388608):
 Calls Tryz.prog 97 #[.slice A n c] w fun r w'=> ∃g,r= .returned (.slice (some ⟨g,0,none⟩) n n)∧Ints w' w.heap.size 3 .i64 (.slice (some ⟨g,0,none⟩) n n) (matchL l)∧Below w.heap.size w w':=by
 subst hn;exact Match_any h.small (Nat.le_refl _) hl
theorem made_of {w W:World}{x:Txt}{n b5 b6:Nat}{A0 A1 A2 A4:Option Addr}{c0 c1 c2 c4:Nat}{ix:List Int}(K:Ints W w.heap.size 3 .i64 (.slice A4 x.ks.length c4) x.ks)(X:Ints W w.heap.size 3 .i64 (.slice (some ⟨b5,0,none⟩) n n) ix)
 (M:Ints W w.heap.size 3 .i64 (.slice (some ⟨b6,0,none⟩) n n) x.mt) (d2:b6≠b5) (d3: ∀b off,A4=some ⟨b,off,none⟩→b≠b5) (b:Below w.heap.size w W):
 Made w (W.alloc (.cells #[.slice A0 n c0,.slice A1 n c1,.slice A2 n c2,.int .i8 x.base,.slice A4 x.ks.length c4,.slice (some ⟨b5,0,none⟩) n n,.slice (some ⟨b6,0,none⟩) n n] 167)) x n W.heap.size b5 b6 A0 A1 A2 A4 c0 c1 c2 c4 ix:=
 ⟨Blk.new _ _ _,K.alloc _,X.alloc _,M.alloc _,fun e=>by have:=(X.lt b5 rfl).2;omega,d2,d3,b.alloc b.size _⟩
theorem Made.set {w W:World}{x:Txt}{n tb b5 b6:Nat}{A0 A1 A2 A4:Option Addr}{c0 c1 c2 c4:Nat}{ix:List Int}(M:Made w W x n tb b5 b6 A0 A1 A2 A4 c0 c1 c2 c4 ix)(a:Nat)(k:Int):
 Made w (W.setCell ⟨b5,a,none⟩ (.int .i64 k)) x n tb b5 b6 A0 A1 A2 A4 c0 c1 c2 c4 (ix.set a k):=by
 have F:=(Frm.refl (fun j=>j=b5) W).set (b:=b5) (j:=a) rfl (.int .i64 k);have hb5:=(M.ix.lt b5 rfl).1;refine⟨M.blk.frm F M.d1,M.ks.frm F (fun j e=> ?_),M.ix.set a k,M.mt.frm F (fun j e=> ?_),M.d1,M.d2,M.d3,M.below.trans (F.below M.below.size (fun j hj e=>by omega))⟩
 ·rcases A4 with _|⟨b,off,nn⟩
  ·simp[Value.ownBlock]at e
  ·rcases M.ks.cases' with⟨h,_⟩|⟨g,cap,h⟩
   ·injection h with h;cases h
   ·injection h with h
    injection h with h
    injection h with e1 e2 e3
    subst e1 e2 e3
    have e:b=j:=by simpa[Value.ownBlock]using e
    exact fun h=>M.d3 b 0 rfl (e.trans h)
 ·have e:b6=j:=by simpa[Value.ownBlock]using e
  exact fun h=>M.d2 (e.trans h)
theorem Made.keep {w W W':World}{x:Txt}{n tb b5 b6:Nat}{A0 A1 A2 A4:Option Addr}{c0 c1 c2 c4:Nat}{ix:List Int}(M:Made w W x n tb b5 b6 A0 A1 A2 A4 c0 c1 c2 c4 ix){C:Nat}(hb:Below C W W')(hC:W.heap.size≤C):
 Made w W' x n tb b5 b6 A0 A1 A2 A4 c0 c1 c2 c4 ix:=
 ⟨M.blk.below hb (Nat.lt_of_lt_of_le M.blk.lt hC),M.ks.below hb hC,M.ix.below hb hC,M.mt.below hb hC,M.d1,M.d2,M.d3,M.below.trans (hb.mono (Nat.le_trans M.below.size hC))⟩
theorem et93:ElemT Tryz.prog 168 173 3 24:=ElemT.mk' (.agg #[.int .i64 0,.int .i64 0,.int .i8 0]) Tryz.underlying168 (by kernel_rfl) rfl (by omega)
theorem et54:ElemT Tryz.prog 115 87 5 56:=ElemT.mk' (.agg #[.slice none 0 0,.slice none 0 0,.int .i8 0,.int .u8 0,.int .u8 0]) Tryz.underlying115 (by kernel_rfl) rfl (by omega)
theorem results_tt {P:Program}{fn:Func}{u1 u2:Tmp}(h:fn.results=#[.tmp u1,.tmp u2])(tmps:Array Value)(w:World):(results fn tmps).run P w= .ok (.tuple #[tmps.getD u1 undef,tmps.getD u2 undef]) w:=by simp[results,h]
def sqOwn (e:Sq×Value×Value)(b:Nat):Prop:=e.2.1.ownBlock=some b∨e.2.2.ownBlock=some b
def sqCells (e:Sq×Value×Value):List Value:=(e.1.is e.2.1 e.2.2).toList
structure SqsAt (W:World) (B:Nat) (ov:Value) (L:List (Sq×Value×Value)):Prop where
 row:W.ownsRow B 87 5 ov L.length (L.flatMap sqCells)
 each: ∀e∈L,Ints W B 3 .i64 e.2.1 e.1.pl∧Ints W B 22 .u8 e.2.2 e.1.cs∧ ∀b,e.2.1.ownBlock=some b→e.2.2.ownBlock≠some b
 apart:L.Pairwise (fun e e'=> ∀b,sqOwn e b→ ¬sqOwn e' b)
 out: ∀e∈L,∀b,sqOwn e b→ov.ownBlock≠some b
def SqsOwn (W:World)(B:Nat)(ov:Value)(ss:List Sq):Prop:= ∃L:List (Sq×Value×Value),L.map (·.1)=ss∧SqsAt W B ov L
theorem SqsAt.nil (W:World)(B:Nat):SqsAt W B (.slice none 0 0) []:=⟨World.ownsRow_nil _ _ _ _,by simp,by simp,by simp⟩
theorem SqsOwn.nil (W:World)(B:Nat):SqsOwn W B (.slice none 0 0) []:=⟨[],rfl,SqsAt.nil W B⟩
theorem row_shape {W:World}{B size n:Nat}{e:TypeId}{v:Value}{xs:List Value}(h:W.ownsRow B e size v n xs): ∃A c,v= .slice A n c:=by
 rcases h.2 with⟨rfl,h0⟩|⟨g,cap,cur,rfl,_⟩
 ·subst h0;exact⟨_,_,rfl⟩
 ·exact⟨_,_,rfl⟩
theorem RunsGood.at_ {n:Nat}{cl:List Int}{rs:List Rn}(G:RunsGood n cl rs): ∀i,i<rs.length→i≤(rs.getD i default).f
 |0,_=>Nat.zero_le _
 |i+1,h=>by
  have h1:=G.at_ i (by omega);have h2:=G.lo i (by omega);have h3:=G.lt i (i+1) (by omega) h;omega
theorem RunsGood.len {n:Nat}{cl:List Int}{rs:List Rn}(G:RunsGood n cl rs):rs.length≤n:=by
 rcases Nat.eq_zero_or_pos rs.length with h|h
 ·omega
 ·have h1:=G.at_ (rs.length-1) (by omega);have h2:=G.lo (rs.length-1) (by omega);have h3:=G.hi (rs.length-1) (by omega);omega
theorem SqsAt.push {W W1 w3:World}{B:Nat}{ov v':Value}{L:List (Sq×Value×Value)}{s:Sq}{pv cv:Value}(h:SqsAt W B ov L)(hB:B≤W.heap.size)(b:Below W.heap.size W W1)(hp:Ints W1 W.heap.size 3 .i64 pv s.pl)(hc:Ints W1 W.heap.size 22 .u8 cv s.cs)
 (hne: ∀j,pv.ownBlock=some j→cv.ownBlock≠some j) {o:Obj} (row:w3.ownsRow B 87 5 v' (L.length+1) (L.flatMap sqCells++sqCells (s,pv,cv))) (g3:(W1.alloc o).grownBy w3 ov.ownBlock) (hv:v'.ownBlock=ov.ownBlock∨v'.ownBlock=some (W1.heap.size+1)):
 SqsAt w3 B v' (L++[(s,pv,cv)]):=by
 have ho: ∀j,ov.ownBlock=some j→j<W.heap.size:=fun j e=>(World.ownsRow.lt h.row j e).2
 have hlt: ∀e∈L,∀j,sqOwn e j→j<W.heap.size:=fun e he j hj=>by
  obtain⟨i1,i2,_⟩:=h.each e he
  rcases hj with hj|hj
  ·exact(i1.lt j hj).2
  ·exact(i2.lt j hj).2
 have hnew: ∀j,sqOwn (s,pv,cv) j→W.heap.size≤j∧j<W1.heap.size:=fun j hj=>by
  rcases hj with hj|hj
  ·exact hp.lt j hj
  ·exact hc.lt j hj
 have hbs:=b.size
 have kp: ∀{e:TypeId} {k:IntKind} {v:Value} {l:List Int} {C:Nat},Ints W1 C e k v l→(∀j,v.ownBlock=some j→ov.ownBlock≠some j)→Ints w3 C e k v l:=fun{e k v l C} hi hn=>by
  refine(hi.alloc o).kept g3 ?_
  rcases hvv:v.ownBlock with _|j
  ·exact .inl rfl
  ·right;intro e;exact hn j hvv e.symm
 refine⟨by simpa using row,?_,?_,?_⟩
 ·intro e he
  rcases List.mem_append.1 he with he|he
  ·obtain⟨i1,i2,i3⟩:=h.each e he;exact⟨kp (i1.below b (Nat.le_refl _)) (fun j hj=>h.out e he j (.inl hj)),kp (i2.below b (Nat.le_refl _)) (fun j hj=>h.out e he j (.inr hj)),i3⟩
  ·rw[List.mem_singleton]at he;subst he;exact⟨(kp hp (fun j hj e=>by have:=ho j e;have:=(hp.lt j hj).1;omega)).base (fun j hj=>Nat.le_trans hB (hp.lt j hj).1),(kp hc (fun j hj e=>by have:=ho j e;have:=(hc.lt j hj).1;omega)).base (fun j hj=>Nat.le_trans hB (hc.lt j hj).1),hne⟩
 ·rw[List.pairwise_append];refine⟨h.apart,by simp,?_⟩;intro e he e' he' j hj hj';rw[List.mem_singleton]at he';subst he';have:=hlt e he j hj;have:=(hnew j hj').1;omega
 ·intro e he j hj hj2
  rcases List.mem_append.1 he with he|he
  ·rcases hv with e3|e3
   ·exact h.out e he j hj (by rw[←e3];exact hj2)
   ·rw[e3]at hj2;have:=hlt e he j hj
    have:W1.heap.size+1=j:=by simpa using hj2
    omega
  ·rw[List.mem_singleton]at he;subst he;obtain⟨h1,h2⟩:=hnew j hj
   rcases hv with e3|e3
   ·have:=ho j (by rw[←e3];exact hj2);omega
   ·rw[e3]at hj2
    have:W1.heap.size+1=j:=by simpa using hj2
    omega
theorem SqsAt.below {W W':World}{B C:Nat}{ov:Value}{L:List (Sq×Value×Value)}(h:SqsAt W B ov L)(hb:Below C W W')(hC:W.heap.size≤C):SqsAt W' B ov L:=⟨own_frm h.row (Frm.of_below (F:=fun _=>False) (hb.mono hC)) (fun _ _ h=>h),fun e he=>⟨(h.each e he).1.below hb hC,(h.each e he).2.1.below hb hC,(h.each e he).2.2⟩,h.apart,h.out⟩
theorem SqsAt.frm1 {W W':World}{B q:Nat}{ov:Value}{L:List (Sq×Value×Value)}(h:SqsAt W B ov L)(hF:Frm (fun k=>k=q) W W')(hq:q<B):SqsAt W' B ov L:=⟨own_frm h.row hF (fun k e=>by have:=(World.ownsRow.lt h.row k e).1;omega),fun e he=>⟨(h.each e he).1.frm hF (fun k e2=>by have:=((h.each e he).1.lt k e2).1;omega),(h.each e he).2.1.frm hF (fun k e2=>by have:=((h.each e he).2.1.lt k e2).1;omega),(h.each e he).2.2⟩,h.apart,h.out⟩
theorem SqsAt.base {W:World}{B B':Nat}{ov:Value}{L:List (Sq×Value×Value)}(h:SqsAt W B ov L)(hB:B'≤B):SqsAt W B' ov L:=⟨own_base h.row (fun k e=>Nat.le_trans hB (World.ownsRow.lt h.row k e).1),fun e he=>⟨(h.each e he).1.base (fun k e2=>Nat.le_trans hB ((h.each e he).1.lt k e2).1),(h.each e he).2.1.base (fun k e2=>Nat.le_trans hB ((h.each e he).2.1.lt k e2).1),(h.each e he).2.2⟩,h.apart,h.out⟩
theorem Made.text {w W:World}{x:Txt}{n tb b5 b6:Nat}{A0 A1 A2 A4:Option Addr}{c0 c1 c2 c4 B0 B1 B2:Nat}(M:Made w W x n tb b5 b6 A0 A1 A2 A4 c0 c1 c2 c4 x.ix)(h0:RdInts w B0 .u8 A0 x.cl)(h1:RdInts w B1 .u8 A1 x.nw)(h2:RdInts w B2 .i8 A2 x.lv):
 TextAt W tb x n x.ks.length A0 A1 A2 A4 (some ⟨b5,0,none⟩) (some ⟨b6,0,none⟩) c0 c1 c2 c4 n n:=
 ⟨M.blk,(h0.below M.below (.inr (Nat.le_refl _))).small,(h1.below M.below (.inr (Nat.le_refl _))).small,(h2.below M.below (.inr (Nat.le_refl _))).small,M.ks.rd,M.ix.rd,M.mt.rd⟩
theorem chT_length (nx:Nat→Int): ∀fu k,(chT nx fu k).length≤fu
 |0,k=>by simp[chT]
 |fu+1,k=>by
  unfold chT
  split
  ·simp
  ·have:=chT_length nx fu (nx k.toNat);simp;omega
theorem Mr_len {n:Nat}{cl nw lv:List Int}{base:Int}(h:n=cl.length):n=(txtOf cl nw lv base).mt.length:=by have:=(mInv_run cl.length cl (Nat.le_refl _)).len;show n=(matchL cl).length;unfold matchL;omega
def Bools (w:World)(B:Nat)(v:Value)(l:List Bool):Prop:=w.ownsRow B 4 1 v l.length (l.map Value.bool)
theorem wpList_mkB {w:World}{ops:Array Oper}{rest:List Oper}{o:Oper}{a:Act}{Q:Exit→Act→World→Prop}(B:Nat)(hg:o.guard=none){lo co:Operand}(hop:o.op=Op.makeSlice 175 lo co){kl kc:IntKind}{L C:Int}(n:Nat)(hl:a.eval lo= .int kl L)(hc:a.eval co= .int kc C)(hL:L=(n:Int))(hC:C=(n:Int))
 (b2:n≤281474976710656) (b3:n≤maxLen) (b4:B≤w.heap.size)
 (hK: ∀w',Bools w' B (.slice (some ⟨w.heap.size,0,none⟩) n n) (List.replicate n false)→w.grownBy w' none→wpList Tryz.prog ops Q rest (a.put o.dst (.slice (some ⟨w.heap.size,0,none⟩) n n)) w'):wpList Tryz.prog ops Q (o::rest) a w:=by
 obtain⟨i,h2,h3,h4,h5⟩:=info_parts (show(Tryz.prog.info? 4).map (fun i=>(i.zero,i.size,i.bytes))=some (some (.bool false),1,1) by kernel_rfl);refine wpList_make_full w hg lo co 175 hop B 4 i (.bool false) 1 Tryz.underlying175 h2 h3 h4 kl kc L C n hl hc hL hC (by rw[h5];omega) b3 b4 fun w' r1 r2=>hK w' ?_ r2;unfold Bools
 have hz:(madeCells (Value.bool false).cells (n*1)).toList=(List.replicate n false).map Value.bool:=by rw[Nat.mul_one];exact(toList_madeCells_one (.bool false) n).trans (by simp)
 rw[hz]at r1
 simpa using r1
theorem Bools.at_ {w:World}{B g n cap:Nat}{l:List Bool}(h:Bools w B (.slice (some ⟨g,0,none⟩) n cap) l):B≤g∧g<w.heap.size∧(∀j,w.frozen? ⟨g,j,none⟩=false)∧ ∀i,i<l.length→w.cell? ⟨g,i,none⟩=some (.bool (l.getD i false)):=by
 have hn:n=l.length:=by
  rcases h.2 with⟨h0,_⟩|⟨g',cap',cur,hv,_⟩
  ·cases h0
  ·injection hv
 subst hn;obtain⟨cur,h1,h2,h3,h4,h5,h6⟩:=own_blk h;refine⟨h1,h2.lt,h2.frozen,fun i hi=> ?_⟩;have:=World.ownsRow.cells h (g:=g) rfl i (.bool (l.getD i false)) (by simp[hi])
 rwa [add_lit,Nat.zero_add]at this
theorem Bools.set {w:World}{B g n cap:Nat}{l:List Bool}(h:Bools w B (.slice (some ⟨g,0,none⟩) n cap) l)(i:Nat)(x:Bool):Bools (w.setCell ⟨g,i,none⟩ (.bool x)) B (.slice (some ⟨g,0,none⟩) n cap) (l.set i x):=by
 have hn:n=l.length:=by
  rcases h.2 with⟨h0,_⟩|⟨g',cap',cur,hv,_⟩
  ·cases h0
  ·injection hv
 subst hn;have:=(World.ownsRow.stored h i (.bool x)).1;unfold Bools;rw[List.map_set,List.length_set];exact this
def mpT (rs:List Rn):Nat→DataW Unit
 |0=>.map []
 |k+1=>(mpT rs k).put (.int .i64 (rs.getD k default).f) (.lit (.int .i64 k))
theorem mpT_map (rs:List Rn): ∀k,IsMap (mpT rs k)
 |0=>isMap_empty
 |k+1=>(mpT_map rs k).put _ _
theorem mpT_has (rs:List Rn)(a:Int): ∀k,Maps.has (mpT rs k) (.int .i64 a)=decide (0≤findR rs a k)
 |0=>rfl
 |k+1=>by
  unfold mpT findR
  by_cases h:(((rs.getD k default).f:Nat):Int)=a
  ·rw[if_pos h,h,has_put_same (k:=Lit.int .i64 a) (mpT_map rs k) True.intro];simp
  ·rw[if_neg h,has_put_other (by intro e;injection e with _ e;exact h e.symm)];exact mpT_has rs a k
theorem mpT_at (rs:List Rn)(a:Int): ∀k,0≤findR rs a k→(mpT rs k).atKey (.int .i64 a) (.lit (.int .i64 0))= .lit (.int .i64 (findR rs a k))
 |0,h=>by simp[findR]at h
 |k+1,h=>by
  unfold mpT;unfold findR at h⊢
  by_cases h2:(((rs.getD k default).f:Nat):Int)=a
  ·rw[if_pos h2,h2,atKey_put_same (k:=Lit.int .i64 a) (mpT_map rs k) True.intro]
  ·rw[if_neg h2]at h⊢;rw[atKey_put_other (by intro e;injection e with _ e;exact h2 e.symm)];exact mpT_at rs a k h
def lastT (rs:List Rn)(m:Nat):Nat→List Int
 |0=>List.replicate m 0
 |i+1=>(lastT rs m i).set i (lastP (rs.getD i default))
theorem lastT_length (rs:List Rn)(m:Nat): ∀i,(lastT rs m i).length=m
 |0=>by simp[lastT]
 |i+1=>by simp[lastT,lastT_length rs m i]
theorem lastT_get (rs:List Rn)(m:Nat): ∀i,i≤m→ ∀j,j<i→(lastT rs m i).getD j 0=lastP (rs.getD j default)
 |0,_,j,h=>by omega
 |i+1,hi,j,h=>by
  simp only[lastT];rw[List.getD_eq_getElem?_getD,List.getElem?_set]
  by_cases e:i=j
  ·subst e;rw[if_pos rfl,if_pos (by rw[lastT_length];omega)];rfl
  ·rw[if_neg e,←List.getD_eq_getElem?_getD];exact lastT_get rs m i (by omega) j (by omega)
def nxL (nx:Nat→Int)(m:Nat):Nat→List Int
 |0=>List.replicate m 0
 |i+1=>(nxL nx m i).set i (nx i)
theorem nxL_length (nx:Nat→Int)(m:Nat): ∀i,(nxL nx m i).length=m
 |0=>by simp[nxL]
 |i+1=>by simp[nxL,nxL_length nx m i]
theorem nxL_get (nx:Nat→Int)(m:Nat): ∀i,i≤m→ ∀j,j<i→(nxL nx m i).getD j 0=nx j
 |0,_,j,h=>by omega
 |i+1,hi,j,h=>by
  simp only[nxL];rw[List.getD_eq_getElem?_getD,List.getElem?_set]
  by_cases e:i=j
  ·subst e;rw[if_pos rfl,if_pos (by rw[nxL_length];omega)];rfl
  ·rw[if_neg e,←List.getD_eq_getElem?_getD];exact nxL_get nx m i (by omega) j (by omega)
theorem law3:Keyed Tryz.prog 3:=int_keyed Tryz.underlying3
theorem zero3 (w:World):(zeroValue 3).run Tryz.prog w= .ok (.int .i64 0) w:=by kernel_rfl
def RunsAt (w1:World)(bR:Nat)(rs:List Rn)(k:Nat)(S:Nat→Prop)(W:World):Prop:= ∃rv,(∀j,S j↔(j=bR∨j=w1.heap.size+1∨rv.ownBlock=some j))∧Blk W bR 168 #[rv]∧W.ownsRow (w1.heap.size+2) 173 3 rv k ((rs.take k).flatMap Rn.cells)∧Frm (fun j=>j=bR) w1 W∧w1.heap.size+1<W.heap.size
theorem RunsAt.frm {w1 W W':World}{bR k:Nat}{rs:List Rn}{S:Nat→Prop}(h:RunsAt w1 bR rs k S W)(hb:bR<w1.heap.size)(hF:Frm (fun j=>j=w1.heap.size+1) W W'):RunsAt w1 bR rs k S W':=by obtain⟨rv,h1,h2,h3,h4,h5⟩:=h;refine⟨rv,h1,h2.frm hF (by omega),own_frm h3 hF (fun j e=>by have:=(World.ownsRow.lt h3 j e).1;omega),h4.trans hF (fun j hj e=>by omega),Nat.lt_of_lt_of_le h5 hF.size⟩
theorem Sequences_ok {w:World}{B0 B1 B2 n c0 c1 c2:Nat}{A0 A1 A2:Option Addr}{cl nw lv:List Int}(base:Int)(hn:n=cl.length)(hn1:n=nw.length)(hn2:n=lv.length)
 (h0:RdInts w B0 .u8 A0 cl) (h1:RdInts w B1 .u8 A1 nw) (h2:RdInts w B2 .i8 A2 lv) (hb:base=0∨base=1) (hl:n≤8388608):
 Calls Tryz.prog 71 #[.slice A0 n c0,.slice A1 n c1,.slice A2 n c2,.int .i8 base] w fun r w'=> ∃ov,r= .returned (.tuple #[ov,.int .i64 (seqsL cl nw lv base).2])∧SqsOwn w' w.heap.size ov (seqsL cl nw lv base).1∧Below w.heap.size w w':=by
 have HN:=Lib.hid hn;have HN1:=Lib.hid hn1;have HN2:=Lib.hid hn2
 have hno: ¬(nw.length≠cl.length∨lv.length≠cl.length∨(base≠0∧base≠1)):=by omega
 have HNO:=Lib.hid hno;clear hn hn1 hn2 hno
 have hbs:(base !=0 && base !=1)=false:=by rcases hb with rfl|rfl<;>rfl
 refine(callsIn_wide (n:=5)).1 ?_;refine callsIn_of_wp_marks Tryz.func71 rfl trivial ?_ rfl;simp only[Tryz.ntmps71,List.size_toArray,List.length_cons,List.length_nil,Nat.reduceAdd,Nat.reduceSub,Array.replicate_succ,Array.replicate_zero,List.push_toArray,List.append_toArray,List.nil_append,List.cons_append];refine wpIn_wide.2 ?_;have hE:((n:Int) !=(n:Int))=false:=bne_self_eq_false _;go_wp2
 go_step3
 go_upto_region 2 with(fail)
 go_cut [49] from 32 to 49 (fun cv wx=>cv= .bool false∧w=wx)
 case first=>
  rcases hb with rfl|rfl
  all_goals
   go_wp2;go_meet;exact⟨rfl,rfl⟩
 case rest=>
  obtain⟨rfl,rfl⟩:=hcut;clear hb hbs hE;go_wp2
  go_cut [11] from 50 to 61 (fun tv W=> ∃(tb b5 b6:Nat) (A4:Option Addr) (c4:Nat),tv= .pointer (some ⟨tb,0,none⟩)∧Made w W (txtOf cl nw lv base) n tb b5 b6 A0 A1 A2 A4 c0 c1 c2 c4 (List.replicate n 0))
  case first=>
   refine wp_region_noPanic ?_;refine wp_region_any (by kernel_rfl) ?_;change wpAny _ _ _ _ _ _ _ (World.drew _)
   refine wpAny_take (i:=0) (oi:={dst:=some 50,op:=Op.move (Operand.tmp 0),type:=30,pos:= "spans.go:119",after:=#[],guard:=none}) (v:= ?_) rfl (by kernel_rfl) (by kernel_rfl) (by kernel_rfl) (fun _ _ _ h=>h) (Or.inl ⟨by rfl,?_⟩) ?_
   rotate_left
   ·intro w;go_simp;first|done|with_reducible rfl
   refine wpAny_take (i:=1) (oi:={dst:=some 51,op:=Op.move (Operand.tmp 1),type:=30,pos:= "spans.go:119",after:=#[],guard:=none}) (v:= ?_) rfl (by kernel_rfl) (by kernel_rfl) (by kernel_rfl) (fun _ _ _ h=>h) (Or.inl ⟨by rfl,?_⟩) ?_
   rotate_left
   ·intro w;go_simp;first|done|with_reducible rfl
   refine wpAny_take (i:=2) (oi:={dst:=some 52,op:=Op.move (Operand.tmp 2),type:=31,pos:= "spans.go:119",after:=#[],guard:=none}) (v:= ?_) rfl (by kernel_rfl) (by kernel_rfl) (by kernel_rfl) (fun _ _ _ h=>h) (Or.inl ⟨by rfl,?_⟩) ?_
   rotate_left
   ·intro w;go_simp;first|done|with_reducible rfl
   refine wpAny_take (i:=3) (oi:={dst:=some 53,op:=Op.move (Operand.tmp 3),type:=29,pos:= "spans.go:119",after:=#[],guard:=none}) (v:= ?_) rfl (by kernel_rfl) (by kernel_rfl) (by kernel_rfl) (fun _ _ _ h=>h) (Or.inl ⟨by rfl,?_⟩) ?_
   rotate_left
   ·intro w;go_simp;first|done|with_reducible rfl
   refine wpAny_take (i:=4) (oi:={dst:=some 54,op:=Op.move (Operand.tmp 0),type:=30,pos:= "spans.go:119",after:=#[],guard:=none}) (v:= ?_) rfl (by kernel_rfl) (by kernel_rfl) (by kernel_rfl) (fun _ _ _ h=>h) (Or.inl ⟨by rfl,?_⟩) ?_
   rotate_left
   ·intro w;go_simp;first|done|with_reducible rfl
   refine wpAny_take (i:=6) (oi:={dst:=some 56,op:=Op.move (Operand.tmp 10),type:=3,pos:= "spans.go:119",after:=#[],guard:=none}) (v:= ?_) rfl (by kernel_rfl) (by kernel_rfl) (by kernel_rfl) (fun _ _ _ h=>h) (Or.inl ⟨by rfl,?_⟩) ?_
   rotate_left
   ·intro w;go_simp;first|done|with_reducible rfl
   refine wpAny_take (i:=8) (oi:={dst:=some 58,op:=Op.move (Operand.tmp 0),type:=30,pos:= "spans.go:119",after:=#[],guard:=none}) (v:= ?_) rfl (by kernel_rfl) (by kernel_rfl) (by kernel_rfl) (fun _ _ _ h=>h) (Or.inl ⟨by rfl,?_⟩) ?_
   rotate_left
   ·intro w;go_simp;first|done|with_reducible rfl
   simp only[Act.put,List.setIfInBounds_toArray,List.set_cons_zero,List.set_cons_succ];refine wpAny_ready (rs:=[5,7]) (by kernel_rfl) (by simp) ?_
   refine AllReady.cons (o:={dst:=some 55,op:=Op.call {callee:=Callee.value (Operand.func 100),args:=#[Operand.tmp 54],argTypes:=#[30]},type:=64,pos:= "spans.go:119",after:=#[{on:=4,ground:=Ground.data}],guard:=none}) rfl (fun K hK=> ?_) (AllReady.cons (o:={dst:=some 57,op:=Op.makeSlice 64 (Operand.tmp 56) (Operand.tmp 56),type:=64,pos:= "spans.go:119",after:=#[{on:=6,ground:=Ground.data},{on:=6,ground:=Ground.data}],guard:=none}) rfl (fun K hK=> ?_) AllReady.nil)
   ·go_simp
    go_wp2_with(go_at_call 100;refine(Kept_n (B:=B0) HN.out h0.drew hl).mono ?_;rintro r1 w1 ⟨kv1,rfl,IK,bK⟩)
    obtain⟨A4,c4,rfl,k1,k2,-⟩:=IK.val;have b1:Below w.heap.size w w1:=((Below.refl _ w).drew).trans bK;refine wpAny_ready (rs:=[7,9]) (by kernel_rfl) (by simp) ?_
    refine AllReady.cons (o:={dst:=some 57,op:=Op.makeSlice 64 (Operand.tmp 56) (Operand.tmp 56),type:=64,pos:= "spans.go:119",after:=#[{on:=6,ground:=Ground.data},{on:=6,ground:=Ground.data}],guard:=none}) rfl (fun K hK=> ?_) (AllReady.cons (o:={dst:=some 59,op:=Op.call {callee:=Callee.value (Operand.func 97),args:=#[Operand.tmp 58],argTypes:=#[30]},type:=64,pos:= "spans.go:119",after:=#[{on:=8,ground:=Ground.data},{on:=5,ground:=Ground.chain}],guard:=none}) rfl (fun K hK=> ?_) AllReady.nil)
    ·refine step_mkI ei24 w.heap.size rfl _ _ rfl n rfl rfl rfl rfl (by omega) (by unfold maxLen;omega) b1.size ?_;intro w2 IX g2;refine hK _ _ ?_;clear hK K;have b2:Below w.heap.size w w2:=b1.grown g2 b1.size (by simp);refine wpAny_ready (rs:=[9]) (by kernel_rfl) (by simp) ?_
     refine AllReady.cons (o:={dst:=some 59,op:=Op.call {callee:=Callee.value (Operand.func 97),args:=#[Operand.tmp 58],argTypes:=#[30]},type:=64,pos:= "spans.go:119",after:=#[{on:=8,ground:=Ground.data},{on:=5,ground:=Ground.chain}],guard:=none}) rfl (fun K hK=> ?_) AllReady.nil
     go_simp
     go_wp2_with(go_at_call 97;refine(Match_n (B:=B0) HN.out (h0.below b2 (.inr (Nat.le_refl _))) hl).mono ?_;rintro r3 w3 ⟨b6,rfl,IM,bM⟩)
     have b3:Below w.heap.size w w3:=b2.trans (bM.mono b2.size);refine wpAny_take (i:=10) (v:= ?_) rfl (by kernel_rfl) (by kernel_rfl) (by kernel_rfl) (fun _ _ _ h=>h) (Or.inl ⟨by rfl,?_⟩) ?_
     rotate_left
     ·intro w;go_simp;first|done|with_reducible rfl
     refine wpAny_ready (rs:=[11]) (by kernel_rfl) (by simp) ?_
     refine AllReady.cons (o:={dst:=some 61,op:=Op.box 167 (Operand.tmp 60),type:=165,pos:= "spans.go:119",after:=#[{on:=10,ground:=Ground.data}],guard:=none}) rfl (fun K hK=> ?_) AllReady.nil
     go_simp
     refine hK _ _ ?_;clear hK K;refine wpAny_take (i:=12) (v:= ?_) rfl (by kernel_rfl) (by kernel_rfl) (by kernel_rfl) (fun _ _ _ h=>h) (Or.inl ⟨by rfl,?_⟩) ?_
     rotate_left
     ·intro w;go_simp;first|done|with_reducible rfl
     refine wpAny_done (by kernel_rfl) ?_ _;refine NoPanic.normal ?_;go_wp2;go_meet;have bX:Below w1.heap.size w1 w2:=(Below.refl _ w1).grown g2 (Nat.le_refl _) (by simp);have hx:w1.heap.size<w2.heap.size:=(IX.lt _ rfl).2;have hy:=IM.lt b6 rfl;exact⟨_,_,_,_,_,rfl,made_of (x:=txtOf cl nw lv base) ((IK.below bX (Nat.le_refl _)).below bM (Nat.le_refl _)) (IX.below bM (Nat.le_refl _)) (IM.base (fun j e=>by have:=(IM.lt j e).1;have:=b2.size;omega)) (fun e=>by omega) (fun b off e e2=>by have:=IK.addr e;omega) b3⟩
    ·go_simp
     go_wp2_with(go_at_call 97;refine(Match_n (B:=B0) HN.out (h0.below b1 (.inr (Nat.le_refl _))) hl).mono ?_;rintro r3 w3 ⟨b6,rfl,IM,bM⟩)
     have b3:Below w.heap.size w w3:=b1.trans (bM.mono b1.size);refine wpAny_ready (rs:=[7]) (by kernel_rfl) (by simp) ?_
     refine AllReady.cons (o:={dst:=some 57,op:=Op.makeSlice 64 (Operand.tmp 56) (Operand.tmp 56),type:=64,pos:= "spans.go:119",after:=#[{on:=6,ground:=Ground.data},{on:=6,ground:=Ground.data}],guard:=none}) rfl (fun K hK=> ?_) AllReady.nil
     refine step_mkI ei24 w.heap.size rfl _ _ rfl n rfl rfl rfl rfl (by omega) (by unfold maxLen;omega) b3.size ?_;intro w2 IX g2;refine hK _ _ ?_;clear hK K;refine wpAny_take (i:=10) (v:= ?_) rfl (by kernel_rfl) (by kernel_rfl) (by kernel_rfl) (fun _ _ _ h=>h) (Or.inl ⟨by rfl,?_⟩) ?_
     rotate_left
     ·intro w;go_simp;first|done|with_reducible rfl
     refine wpAny_ready (rs:=[11]) (by kernel_rfl) (by simp) ?_
     refine AllReady.cons (o:={dst:=some 61,op:=Op.box 167 (Operand.tmp 60),type:=165,pos:= "spans.go:119",after:=#[{on:=10,ground:=Ground.data}],guard:=none}) rfl (fun K hK=> ?_) AllReady.nil
     go_simp
     refine hK _ _ ?_;clear hK K;refine wpAny_take (i:=12) (v:= ?_) rfl (by kernel_rfl) (by kernel_rfl) (by kernel_rfl) (fun _ _ _ h=>h) (Or.inl ⟨by rfl,?_⟩) ?_
     rotate_left
     ·intro w;go_simp;first|done|with_reducible rfl
     refine wpAny_done (by kernel_rfl) ?_ _;refine NoPanic.normal ?_;go_wp2;go_meet;have bX:Below w3.heap.size w3 w2:=(Below.refl _ w3).grown g2 (Nat.le_refl _) (by simp);exact⟨_,_,_,_,_,rfl,made_of (x:=txtOf cl nw lv base) ((IK.below bM (Nat.le_refl _)).below bX (Nat.le_refl _)) IX ((IM.below bX (Nat.le_refl _)).base (fun j e=>by have:=(IM.lt j e).1;have:=b1.size;omega)) (fun e=>by have:=(IM.lt b6 rfl).2;omega) (fun b off e e2=>by have:=IK.addr e;have:=bM.size;omega) (b3.trans (bX.mono b3.size))⟩
   ·refine step_mkI ei24 w.heap.size rfl _ _ rfl n rfl rfl rfl rfl (by omega) (by unfold maxLen;omega) (Nat.le_refl _) ?_;intro w2 IX g2;refine hK _ _ ?_;clear hK K;have b2:Below w.heap.size w w2:=(Below.refl _ w).drew.grown g2 (Nat.le_refl _) (by simp);refine wpAny_ready (rs:=[5]) (by kernel_rfl) (by simp) ?_
    refine AllReady.cons (o:={dst:=some 55,op:=Op.call {callee:=Callee.value (Operand.func 100),args:=#[Operand.tmp 54],argTypes:=#[30]},type:=64,pos:= "spans.go:119",after:=#[{on:=4,ground:=Ground.data}],guard:=none}) rfl (fun K hK=> ?_) AllReady.nil
    go_simp
    go_wp2_with(go_at_call 100;refine(Kept_n (B:=B0) HN.out (h0.below b2 (.inr (Nat.le_refl _))) hl).mono ?_;rintro r1 w1 ⟨kv1,rfl,IK,bK⟩)
    obtain⟨A4,c4,rfl,k1,k2,-⟩:=IK.val;have b1:Below w.heap.size w w1:=b2.trans (bK.mono b2.size);refine wpAny_ready (rs:=[9]) (by kernel_rfl) (by simp) ?_
    refine AllReady.cons (o:={dst:=some 59,op:=Op.call {callee:=Callee.value (Operand.func 97),args:=#[Operand.tmp 58],argTypes:=#[30]},type:=64,pos:= "spans.go:119",after:=#[{on:=8,ground:=Ground.data},{on:=5,ground:=Ground.chain}],guard:=none}) rfl (fun K hK=> ?_) AllReady.nil
    go_simp
    go_wp2_with(go_at_call 97;refine(Match_n (B:=B0) HN.out (h0.below b1 (.inr (Nat.le_refl _))) hl).mono ?_;rintro r3 w3 ⟨b6,rfl,IM,bM⟩)
    have b3:Below w.heap.size w w3:=b1.trans (bM.mono b1.size);refine wpAny_take (i:=10) (v:= ?_) rfl (by kernel_rfl) (by kernel_rfl) (by kernel_rfl) (fun _ _ _ h=>h) (Or.inl ⟨by rfl,?_⟩) ?_
    rotate_left
    ·intro w;go_simp;first|done|with_reducible rfl
    refine wpAny_ready (rs:=[11]) (by kernel_rfl) (by simp) ?_
    refine AllReady.cons (o:={dst:=some 61,op:=Op.box 167 (Operand.tmp 60),type:=165,pos:= "spans.go:119",after:=#[{on:=10,ground:=Ground.data}],guard:=none}) rfl (fun K hK=> ?_) AllReady.nil
    go_simp
    refine hK _ _ ?_;clear hK K;refine wpAny_take (i:=12) (v:= ?_) rfl (by kernel_rfl) (by kernel_rfl) (by kernel_rfl) (fun _ _ _ h=>h) (Or.inl ⟨by rfl,?_⟩) ?_
    rotate_left
    ·intro w;go_simp;first|done|with_reducible rfl
    refine wpAny_done (by kernel_rfl) ?_ _;refine NoPanic.normal ?_;go_wp2;go_meet;have hx:w.heap.size<w2.heap.size:=(IX.lt _ rfl).2;exact⟨_,_,_,_,_,rfl,made_of (x:=txtOf cl nw lv base) ((IK.below bM (Nat.le_refl _)).base (fun j e=>by have:=(IK.lt j e).1;omega)) ((IX.below bK (Nat.le_refl _)).below bM (Nat.le_refl _)) (IM.base (fun j e=>by have:=(IM.lt j e).1;have:=b1.size;omega)) (fun e=>by have:=(IM.lt b6 rfl).1;have:=bK.size;have e:b6=w.heap.size:=e;omega) (fun b off e e2=>by have:=IK.addr e;have e2:b=w.heap.size:=e2;omega) b3⟩
  case rest=>
   obtain⟨tb,b5,b6,A4,c4,rfl,M⟩:=hcut
   have hkb: ∀k,k<(keptL cl).length→ ∃a:Nat,(keptL cl).getD k 0=a∧a<n:=fun k hk=>by obtain⟨a,e,h,_⟩:=keptL_in hk;exact⟨a,e,by have:=HN.out;omega⟩
   have hm:(keptL cl).length≤8388608:=by have:=keptT_length cl cl.length;have:=HN.out;unfold keptL;omega
   obtain⟨y0,y1,y2,y3,y4,y5,y6,yf,yl⟩:=M.blk.c7;have hxk:(txtOf cl nw lv base).ks=keptL cl:=rfl;rw[hxk]at y4;generalize hks:keptL cl=ks at*;obtain⟨m,hml⟩: ∃m,ks.length=m:=⟨_,rfl⟩;rw[hml]at y4 hm hkb;go_wp2
   go_loopg [67] m (fun gk iv wr=> ∃k:Nat,k+gk=m∧iv= .int .i64 k∧Made w wr (txtOf cl nw lv base) n tb b5 b6 A0 A1 A2 A4 c0 c1 c2 c4 (ixT n ks k)∧ ∀j,j<k→badK lv nw (ks.getD j 0)=false)
   case atStart=>exact⟨0,by omega,rfl,M,fun j h=>absurd h (by omega)⟩
   case round=>
    clear y0 y1 y2 y3 y4 y5 y6 yf yl M;obtain⟨k,hk,rfl,M,hgood⟩:=hrel;have HK:=Lib.hid hk;have HG:=Lib.hid hgood;clear hk hgood
    by_cases hlt:k<m
    ·obtain⟨a,ha,han⟩:=hkb k hlt;obtain⟨y0,y1,y2,y3,y4,y5,y6,yf,yl⟩:=M.blk.c7;have K4:=M.ks.rd;rw[hxk]at K4;obtain⟨g4,o4,rfl,_,hg4,k4⟩:=K4.at_ (i:=k) (by rw[hml];exact hlt);rw[ha]at k4;have M':=M.set a (k:Int)
     have hix:(ixT n ks k).set a (k:Int)=ixT n ks (k+1):=by have:ixT n ks (k+1)=(ixT n ks k).set (ks.getD k 0).toNat (k:Int):=rfl;rw[this,ha];rfl
     rw[hix]at M';obtain⟨-,i1,i2,i3,i4,i5,i6⟩:=M.ix.at_;have i6:=i6 a (by rw[ixT_length];exact han);obtain⟨b1,o1,rfl,_,hb1,k1⟩:=(h1.below M'.below (.inr (Nat.le_refl _))).at_ (i:=a) (by have:=HN1.out;omega);obtain⟨b2,o2,rfl,_,hb2,k2⟩:=(h2.below M'.below (.inr (Nat.le_refl _))).at_ (i:=a) (by have:=HN2.out;omega)
     have hbad:badK lv nw (ks.getD k 0)=(decide (lv.getD a 0<0)||decide (126<lv.getD a 0)||remC (nw.getD a 0)):=by rw[ha];rfl
     generalize lv.getD a 0=lx at*;generalize nw.getD a 0=nx at*;have HB:=Lib.hid hbad;have HA:=Lib.hid ha;clear hbad ha hix
     have hend:badK lv nw (ks.getD k 0)=true→seqsL cl nw lv base=([],170):=fun h=>by unfold seqsL;rw[if_neg HNO.out,if_pos];rw[List.any_eq_true];refine⟨ks.getD k 0,?_,h⟩;rw[hks];exact getD_mem0 _ (by rw[hml];exact hlt)
     have HE:=Lib.hid hend;clear hend
     by_cases hl0:lx<0
     ·go_wp2_with(go_at_call 56;refine(Removed_ok _ _).mono ?_;rintro r1 w1 ⟨rfl,rfl⟩)
      try rw[Exit.noGoto_ret]
      have he:=HE.out (by rw[HB.out];simp[hl0]);refine⟨_,results_tt (u1:=8) (u2:=9) rfl _ _,.slice none 0 0,?_,?_,M'.below⟩
      ·rw[he];rfl
      ·rw[he];exact SqsOwn.nil _ _
     ·by_cases hl1:126<lx
      ·go_wp2_with(go_at_call 56;refine(Removed_ok _ _).mono ?_;rintro r1 w1 ⟨rfl,rfl⟩)
       try rw[Exit.noGoto_ret]
       have he:=HE.out (by rw[HB.out];simp[hl1]);refine⟨_,results_tt (u1:=8) (u2:=9) rfl _ _,.slice none 0 0,?_,?_,M'.below⟩
       ·rw[he];rfl
       ·rw[he];exact SqsOwn.nil _ _
      ·cases hre:remC nx
       ·go_wp2_with(go_at_call 56;refine(Removed_ok _ _).mono ?_;rintro r1 w1 ⟨rfl,rfl⟩)
        go_roundg (m-(k+1))
        case rel=>
         refine⟨k+1,by have:=HK.out;omega,by go_num,M',fun j hj=> ?_⟩
         by_cases e:j=k
         ·rw[e,HB.out,hre];simp[hl0,hl1]
         ·exact HG.out j (by omega)
        case measure=>have:=HK.out;omega
       ·go_wp2_with(go_at_call 56;refine(Removed_ok _ _).mono ?_;rintro r1 w1 ⟨rfl,rfl⟩)
        try rw[Exit.noGoto_ret]
        have he:=HE.out (by rw[HB.out,hre];simp);refine⟨_,results_tt (u1:=8) (u2:=9) rfl _ _,.slice none 0 0,?_,?_,M'.below⟩
        ·rw[he];rfl
        ·rw[he];exact SqsOwn.nil _ _
    ·have hkm:k=m:=by have:=HK.out;omega
     subst hkm
     have hval:seqsL cl nw lv base=(seqsOf (txtOf cl nw lv base) (runL lv ks),0):=by unfold seqsL;rw[if_neg HNO.out,if_neg,hks];rw[List.any_eq_true];rintro⟨y,hy,h2⟩;rw[hks]at hy;obtain⟨j,hj,rfl⟩:=List.getElem_of_mem hy;have:=HG.out j (by rw[←hml];exact hj);rw[List.getD_eq_getElem?_getD,List.getElem?_eq_getElem hj]at this;simp only[Option.getD_some]at this;rw[this]at h2;cases h2
     have HVAL:=Lib.hid hval;clear hval hlt HK HG hkb;obtain⟨W0,rfl⟩: ∃W0,W0=wr:=⟨_,rfl⟩
     go_wp2_with(go_at_call 101;refine Runs_ok.mono ?_;rintro r1 w1 ⟨rfl,R1,R2,bR⟩)
     rw[World.size_alloc]at R1 R2;have BR:Blk w1 W0.heap.size 168 #[.slice none 0 0]:=(Blk.new W0 168 _).below bR (by simp);have bW:Below W0.heap.size W0 w1:=((Below.refl _ W0).alloc (Nat.le_refl _) _).trans (bR.mono (by simp));have b01:Below w.heap.size w w1:=M.below.trans (bW.mono M.below.size);have hR0:W0.heap.size<w1.heap.size:=BR.lt;have G:=runs_good lv cl;have NX:=nx_good lv cl;rw[hks]at G NX;obtain⟨rs,hrs⟩: ∃rs,runL lv ks=rs:=⟨_,rfl⟩;rw[hrs]at HVAL G NX
     have hrl:rs.length≤n:=by have:=G.len;have:=HN.out;omega
     clear bR
     refine wpIn_wide.1 (wpIn_rangeFunc_round (n:=5) (F:=Fence.wide) rfl (by omega) (gf:=145) (lb:=#[.pointer (some ⟨W0.heap.size+1,0,none⟩),.pointer (some ⟨W0.heap.size+1+1,0,none⟩)]) rfl trivial (enters_of Tryz.func145 (by kernel_rfl) rfl)
      (encs:=fun x:Nat×(Nat→Prop)=>(rs.getD x.1 default).encs) (fun _=>rfl)
      (fun x W=>RunsAt w1 W0.heap.size rs x.1 x.2 W∧x.1<rs.length)
      (fun x W W'=>x.2 (w1.heap.size+1)∧ ∃S',RunsAt w1 W0.heap.size rs (x.1+1) S' W'∧Frm x.2 W W'∧ ∀j,S' j→x.2 j∨W.heap.size≤j)
      (fun W=> ∃S,RunsAt w1 W0.heap.size rs rs.length S W)
      ?round ?stay ?call ?fin ?done)
     case stay=>rintro x W Wa Wb ⟨h1,S',h2,h3,h4⟩ hF;exact⟨h1,S',h2.frm hR0 hF,h3.trans hF (fun j hj e=>by rw[e];exact h1),h4⟩
     case fin=>rintro Wa Wb ⟨S,h⟩ hF;exact⟨S,h.frm hR0 hF⟩
     case call=>
      intro W1 hF1 hW1 Rdy hsz hst hR1 hY
      have hY': ∀k S W (hk:k<(runL lv ks).length),(RunsAt w1 W0.heap.size rs k S W∧Rdy W)→YieldAt Fence.wide (5-1-1) Tryz.prog (w1.heap.size+1) ((runL lv ks)[k]).encs W fun e W'=>
       (e= .returned (.bool true)∧ ∃S',(RunsAt w1 W0.heap.size rs (k+1) S' W'∧Rdy W')∧Frm S W W'∧ ∀j,S' j→S j∨W.heap.size≤j)∨(e= .returned (.bool false)∧False):=by
       intro k S W hk h
       have e:((runL lv ks)[k]).encs=(rs.getD k default).encs:=by rw[←hrs,List.getD_eq_getElem?_getD,List.getElem?_eq_getElem hk];rfl
       rw[e];obtain⟨fn,tmps,asg,bd,hy,hRo⟩:=hY (k,S) W ⟨h.1,by rw[←hrs];exact hk⟩ h.2;refine⟨fn,tmps,asg,bd,hy,hRo.mono fun e w' h=> ?_⟩;obtain⟨h1,⟨_,S',h2,h3,h4⟩,h5⟩:=h;exact .inl ⟨h1,S',⟨h2,h5⟩,h3,h4⟩
      have T:Tells (fun k S W=>RunsAt w1 W0.heap.size rs k S W∧Rdy W):=by
       refine⟨?_,?_⟩
       ·rintro k S W ⟨⟨rv,h1,h2,h3,h4,h5⟩,_⟩ j hj
        rcases(h1 j).1 hj with e|e|e
        ·rw[e];exact h2.lt
        ·omega
        ·exact(World.ownsRow.lt h3 j e).2
       ·rintro k S W W' ⟨h,h2⟩ hF
        have h5:w1.heap.size+1<W.heap.size:=by obtain⟨_,_,_,_,_,h5⟩:=h;exact h5
        exact⟨h.frm hR0 (hF.mono (fun _ _ e=>e.elim)),hst _ _ h2 (Two.of_frm hF h5 id id)⟩
      have I0:RunsAt w1 W0.heap.size rs 0 (fun j=>j=W0.heap.size∨j=w1.heap.size+1∨(Value.slice none 0 0).ownBlock=some j) W1:=⟨.slice none 0 0,fun _=>Iff.rfl,BR.frm hF1 id,World.ownsRow_nil _ _ _ _,hF1.mono (fun _ _ e=>e.elim),hW1⟩
      have:=iter_ok (n:=n) (n2:=n) HN.out HN2.out rfl (by rw[hks]) (R1.frm hF1 id) (R2.frm hF1 id) ((h0.below b01 (.inr (Nat.le_refl _))).frmA hF1 (fun _ _ _=>id)) ((h2.below b01 (.inr (Nat.le_refl _))).frmA hF1 (fun _ _ _=>id)) hl T (Jx:=fun _=>False) ⟨I0,hR1⟩ (d:=5-1) (by omega) hY';refine this.mono ?_;rintro e W2 ⟨hv,(⟨S,h1,h2⟩|h)⟩
      ·rw[hrs]at h1;exact⟨hv,⟨S,h1⟩,h2⟩
      ·exact h.elim
     case round=>
      rintro⟨j,S⟩ W K hW ⟨hA,hjl⟩ hK;obtain⟨rv,hS,hB,hO,hF,hsz⟩:=hA;simp only at hS hO hjl⊢
      have hjr:(rs.take (j+1)).flatMap Rn.cells=(rs.take j).flatMap Rn.cells++(rs.getD j default).cells:=by rw[List.take_succ_eq_append_getElem hjl,List.flatMap_append,List.flatMap_singleton,List.getD_eq_getElem?_getD,List.getElem?_eq_getElem hjl];rfl
      obtain⟨r,hr⟩: ∃r,rs.getD j default=r:=⟨_,rfl⟩;rw[hr]at hjr⊢;obtain⟨rf,rt,rl⟩:=r;have HJR:=Lib.hid hjr;clear hr hjr;obtain⟨rA,rc,rfl⟩:=row_shape hO;have hbR:=hB.lt;simp only[Rn.encs,List.zip_toArray,List.zip_cons_cons,List.zip_nil_right,List.foldl_toArray,List.foldl_cons,List.foldl_nil,List.setIfInBounds_toArray,List.set_cons_zero,List.set_cons_succ];gi_wp2;have FA:=(Frm.refl (fun _=>False) W).alloc (.cells #[.int .i64 rf,.int .i64 rt,.int .i8 rl] 173);refine hK _ _ (Two.of_frm FA hW id id) ?_;intro W2 hF2;have F2:=(FA.mono (F':=fun i=>i=w1.heap.size+1) (fun _ _ e=>e.elim)).trans hF2 (fun _ _ e=>e);have B2:=hB.frm F2 (by omega);have O2:=own_frm hO F2 (fun i e=>by have:=(World.ownsRow.lt hO i e).1;omega);have S2:=(Blk.new W 173 #[.int .i64 rf,.int .i64 rt,.int .i8 rl]).frm hF2 (by omega);clear hK hB hO FA;obtain⟨x0,xf,xl⟩:=B2.c1;obtain⟨z0,z1,z2,zf,zl⟩:=S2.c3
      gi_wp2_with (gi_at_builtin;go_must (refine wpListIn_app et93 rfl rfl rfl (World.ownsRow.alloc O2 _) rfl (Reads.blk (Blk.at_ (by simp)) rfl) ?_ ?_ ?_ ?_ ?_))
      ·simp[Value.oneCell']
      ·unfold maxLen;omega
      ·omega
      ·have:=F2.size;simp;omega
      intro v3 w3 O3 g3 hv3;obtain⟨g,cap,rfl,hg1,hg2⟩:=World.ownsRow.form O3 (by omega);have hrow:=World.ownsRow.lt O2;have B3:=(B2.alloc (.cells #[.int .i64 rf,.int .i64 rt,.int .i8 rl] 173)).grown g3 (fun e=>by have:=hrow _ e.symm;omega);obtain⟨x0,xf,xl⟩:=B3.c1;gi_wp2;have F3:=(((Frm.refl (fun k=>k=W0.heap.size∨(Value.slice rA j rc).ownBlock=some k) W2).alloc (.cells #[.int .i64 rf,.int .i64 rt,.int .i8 rl] 173)).grown g3 (fun k e _=>.inr e)).set (b:=W0.heap.size) (j:=0) (.inl rfl) (.slice (some ⟨g,0,none⟩) (j+1) cap);have G3:=(Frm.refl (fun k=>k=W0.heap.size) w3).set (b:=W0.heap.size) (j:=0) rfl (.slice (some ⟨g,0,none⟩) (j+1) cap);have hsz2:W.heap.size<W2.heap.size:=S2.lt;have hsz3:=F3.size
      have hgn:(Value.slice rA j rc).ownBlock=some g∨g=W2.heap.size+1:=by
       rcases hv3 with e|e
       ·exact .inl e.symm
       ·right;simpa[Value.ownBlock]using e
      have hSW:Frm S W (w3.setCell ⟨W0.heap.size,0,none⟩ (.slice (some ⟨g,0,none⟩) (j+1) cap)):=(F2.mono (fun k _ e=>(hS k).2 (.inr (.inl e)))).trans F3 (fun k _ e=>e.elim (fun e=>(hS k).2 (.inl e)) (fun e=>(hS k).2 (.inr (.inr e))))
      refine⟨Two.of_frm F3 (by omega) (fun e=> ?_) (fun e=> ?_),(hS _).2 (.inr (.inl rfl)),(fun k=>k=W0.heap.size∨k=w1.heap.size+1∨(Value.slice (some ⟨g,0,none⟩) (j+1) cap).ownBlock=some k),⟨_,fun _=>Iff.rfl,?_,?_,?_,by omega⟩,hSW,?_⟩
      ·rcases e with e|e
       ·omega
       ·have:=hrow _ e;omega
      ·rcases e with e|e
       ·omega
       ·have:=hrow _ e;omega
      ·simpa using B3.set_ 0 (.slice (some ⟨g,0,none⟩) (j+1) cap)
      ·rw[HJR.out];exact own_frm O3 G3 (fun k e=>by have:=(World.ownsRow.lt O3 k e).1;omega)
      ·refine hF.trans ((F2.mono (F':=fun k=>k=w1.heap.size+1∨k=W0.heap.size∨(Value.slice rA j rc).ownBlock=some k) (fun k _ e=>.inl e)).trans F3 (fun k _ e=>.inr e)) (fun k hk e=> ?_)
       rcases e with e|e|e
       ·omega
       ·exact e
       ·have:=hrow _ e;omega
      ·intro k e
       rcases e with e|e|e
       ·exact .inl ((hS k).2 (.inl e))
       ·exact .inl ((hS k).2 (.inr (.inl e)))
       ·have e:g=k:=by simpa[Value.ownBlock]using e
        subst e
        rcases hgn with e|e
        ·exact .inl ((hS g).2 (.inr (.inr e)))
        ·right;omega
     case done=>
      rintro W ⟨S,hA⟩ hK;obtain⟨rv,-,hB,hO,hF,hsz⟩:=hA;rw[List.take_length]at hO;have hmm:= @run_makeMap Tryz.prog;obtain⟨rA,rc,rfl⟩:=row_shape hO;have b0W:Below W0.heap.size W0 W:=bW.trans (hF.below (Nat.le_of_lt hR0) (fun k hk e=>by omega));obtain⟨x0,xf,xl⟩:=hB.c1
      go_wp2_with(at_make;go_must (refine wpList_mkI ei24 W.heap.size rfl rfl rs.length rfl rfl rfl rfl ?_ ?_ ?_ ?_))
      ·omega
      ·unfold maxLen;omega
      ·simp
      intro w2 IL g2;have hRR:RdRuns W W.heap.size rA rs:=Reads.of_own hO;have bw2:Below W.heap.size W w2:=((Below.refl _ W).alloc (Nat.le_refl _) _).grown g2 (by simp) (by simp);have hM2:w2.ownsMap Tryz.prog 3 (plainElem (H:=Unit) Tryz.prog 3) W.heap.size 0 (mpT rs 0):=(World.ownsMap_made W Tryz.prog 3 _).kept g2 (by simp);have hsl2:W.heap.size+1<w2.heap.size:=(IL.lt _ rfl).2;clear g2;obtain⟨x0,xf,xl⟩:=(hB.below bw2 hB.lt).c1;go_wp2
      go_loopg [113] rs.length (fun gk iv wr=> ∃i:Nat,i+gk=rs.length∧iv= .int .i64 i∧Below W.heap.size W wr∧wr.ownsMap Tryz.prog 3 (plainElem (H:=Unit) Tryz.prog 3) W.heap.size i (mpT rs i)∧Ints wr W.heap.size 3 .i64 (.slice (some ⟨W.heap.size+1,0,none⟩) rs.length rs.length) (lastT rs rs.length i))
      case atStart=>exact⟨0,by omega,rfl,bw2,hM2,IL⟩
      case round=>
       clear IL bw2 hM2 x0 xf xl;obtain⟨i,hi,rfl,b2,hMp,IL⟩:=hrel;have HI:=Lib.hid hi;clear hi
       by_cases hlt:i<rs.length
       ·obtain⟨rb,ro,rfl,_,hrb,d0,d1,d2⟩:=(RdRuns.below hRR b2 (.inr (Nat.le_refl _))).at_ hlt;have hG1:=G.hi i hlt;have hG2:=G.lo i hlt;have hmp:mpT rs (i+1)=(mpT rs i).put (.int .i64 (rs.getD i default).f) (.lit (.int .i64 i)):=rfl;have hls:lastT rs rs.length (i+1)=(lastT rs rs.length i).set i (lastP (rs.getD i default)):=rfl;have hlp:lastP (rs.getD i default)=((rs.getD i default).t:Int)-1:=rfl;obtain⟨r,hr⟩: ∃r,rs.getD i default=r:=⟨_,rfl⟩;rw[hr]at d0 d1 d2 hG1 hG2 hmp hls hlp;obtain⟨rf,rt,rl⟩:=r;simp only at d0 d1 d2 hG1 hG2 hmp hls hlp;have hw1:IntKind.i64.wrap ((rt:Int)-1)=(rt:Int)-1:=IntWalk.i64_in _ (by have:=HN.out;omega);have hkey:keyOf Tryz.prog 3 (.int .i64 rf)=some (.int .i64 rf):=keyOf_int_mk Tryz.underlying3 (WalkArith.wf_i64 (by have:=HN.out;omega));have HMP:=Lib.hid hmp;have HLS:=Lib.hid hls;have HLP:=Lib.hid hlp;clear hmp hls hlp hr;have hbs:=b2.size
        go_wp2_with(at_mapUpdate;go_must (refine wpList_mapUpdate_own _ rfl _ _ _ 174 rfl 3 3 law3 Tryz.underlying174 _ W.heap.size i _ rfl (hMp.alloc _) (by unfold maxLen;omega) _ _ _ rfl rfl hkey _ [] (plainElem_int Tryz.underlying3 (WalkArith.wf_i64 (by omega))) ?_))
        intro w3 hM3 g3;have S3:=(Blk.new wr 173 #[.int .i64 rf,.int .i64 rt,.int .i8 rl]).grown g3 (fun e=>Nat.ne_of_gt hMp.lt (by simpa using e));obtain⟨z0,z1,z2,zf,zl⟩:=S3.c3;have I3:=(IL.alloc (.cells #[.int .i64 rf,.int .i64 rt,.int .i8 rl] 173)).kept g3 (.inr (by simp[Value.ownBlock]));obtain⟨-,i1,i2,i3,i4,i5,i6⟩:=I3.at_;replace i6:=i6 i (by rw[lastT_length];exact hlt);have b3:=(b2.alloc hbs (.cells #[.int .i64 rf,.int .i64 rt,.int .i8 rl] 173)).grown g3 (by simp;omega) (fun k e=>Nat.le_of_eq (Option.some.inj e));have I4:=I3.set i ((rt:Int)-1);rw[←HLP.out,←HLS.out]at I4;rw[HLP.out]at I4;go_wp2
        go_roundg (rs.length-(i+1))
        case rel=>exact⟨i+1,by have:=HI.out;omega,by go_num,b3.setCell (p:=⟨W.heap.size+1,i,none⟩) (by simp) _,by rw[HMP.out];exact hM3.setCell (by simp) _,I4⟩
        case measure=>have:=HI.out;omega
       ·have him:i=rs.length:=by have:=HI.out;omega
        subst him;obtain⟨x0,xf,xl⟩:=(hB.below b2 hB.lt).c1;have hbs:=b2.size
        go_wp2_with(at_make;go_must (refine wpList_mkI ei24 W.heap.size rfl rfl rs.length rfl rfl rfl rfl ?_ ?_ ?_ ?_))
        ·omega
        ·unfold maxLen;omega
        ·omega
        intro w4 IN g4;obtain⟨x0,xf,xl⟩:=(hB.below (b2.grown g4 hbs (by simp)) hB.lt).c1;have hbs4:=(b2.grown g4 hbs (by simp)).size
        go_wp2_with(at_make;go_must (refine wpList_mkB W.heap.size rfl rfl rs.length rfl rfl rfl rfl ?_ ?_ ?_ ?_))
        ·omega
        ·unfold maxLen;omega
        ·omega
        intro w5 LD g5;obtain⟨W3,rfl⟩: ∃W3,W3=wr:=⟨_,rfl⟩;have hL5:=((IL.kept g4 (.inr (by simp[Value.ownBlock]))).kept g5 (.inr (by simp[Value.ownBlock])));have hN5:=IN.kept g5 (.inr (by simp[Value.ownBlock]));have hM5:=((hMp.kept g4 (by simp)).kept g5 (by simp));have b5':=(b2.grown g4 hbs (by simp)).grown g5 hbs4 (by simp)
        have hnb1:W.heap.size+2≤W3.heap.size:=by have:W.heap.size+1<W3.heap.size:=(IL.lt _ rfl).2;omega
        have hdb1:W3.heap.size<w4.heap.size:=by have:W3.heap.size<w4.heap.size:=(IN.lt _ rfl).2;omega
        have hLg:=lastT_get rs rs.length rs.length (Nat.le_refl _);have hLl:=lastT_length rs rs.length rs.length;generalize lastT rs rs.length rs.length=LA at*;have MW:=M.keep b0W (Nat.le_refl _);obtain⟨x0,xf,xl⟩:=(hB.below b5' hB.lt).c1;obtain⟨mp,hmp⟩: ∃mp,mpT rs rs.length=mp:=⟨_,rfl⟩;rw[hmp]at hM5;have HMP:=Lib.hid hmp;obtain⟨nx,hnx⟩: ∃nx,nxT cl (matchL cl) rs=nx:=⟨_,rfl⟩;rw[hnx]at NX;have HNX:=Lib.hid hnx;clear hmp hnx IL IN g4 g5 hbs4 hbs b2 hMp HI w2 hsl2;go_wp2
        go_loopg [137] rs.length (fun gk iv wr=> ∃i:Nat,i+gk=rs.length∧iv= .int .i64 i∧Below W.heap.size W wr∧wr.ownsMap Tryz.prog 3 (plainElem (H:=Unit) Tryz.prog 3) W.heap.size rs.length mp∧
         Ints wr W.heap.size 3 .i64 (.slice (some ⟨W.heap.size+1,0,none⟩) rs.length rs.length) LA∧Ints wr W.heap.size 3 .i64 (.slice (some ⟨W3.heap.size,0,none⟩) rs.length rs.length) (nxL nx rs.length i)∧Bools wr W.heap.size (.slice (some ⟨w4.heap.size,0,none⟩) rs.length rs.length) (ledT rs.length nx i))
        case atStart=>exact⟨0,by omega,rfl,b5',hM5,hL5,hN5,LD⟩
        case round=>
         clear b5' hM5 hL5 hN5 LD x0 xf xl;obtain⟨i,hi,rfl,b2,hMp,IL,IN,LD⟩:=hrel;have HI:=Lib.hid hi;clear hi
         by_cases hlt:i<rs.length
         ·have hbs:=b2.size;obtain⟨-,_,_,_,la1,la2,la3⟩:=IL.at_;replace la3:=la3 i (by rw[hLl];exact hlt);obtain⟨-,_,_,na0,na1,na2,na3⟩:=IN.at_;replace na3:=na3 i (by rw[nxL_length];exact hlt);have hlg:=hLg i hlt;have hG1:=G.hi i hlt;have hG2:=G.lo i hlt
          have hnx:nx i=if begI (lvAt cl (lastP (rs.getD i default)))=true then findR rs (lvAt (matchL cl) (lastP (rs.getD i default))) rs.length else-1:=by rw[←HNX.out];rfl
          have hlp:lastP (rs.getD i default)=(((rs.getD i default).t-1:Nat):Int):=by unfold lastP;omega
          rw[hlp]at hlg hnx;obtain⟨at_,hat⟩: ∃q,(rs.getD i default).t-1=q:=⟨_,rfl⟩;rw[hat]at hlg hnx;rw[hlg]at la3
          have hatn:at_<n:=by have:=HN.out;omega
          clear hlp hG1 hG2 hat hlg;have e1:lvAt cl (at_:Int)=cl.getD at_ 0:=rfl;have e2:lvAt (matchL cl) (at_:Int)=(matchL cl).getD at_ 0:=rfl;rw[e1,e2]at hnx;clear e1 e2;have I6:=IN.set i (-1);have L6:=IL.frm ((Frm.refl (fun k=>k=W3.heap.size) wr).set (b:=W3.heap.size) (j:=i) rfl (.int .i64 (-1))) (fun k e=>by have:W.heap.size+1=k:=(by simpa[Value.ownBlock]using e);omega);have D6:Bools (wr.setCell ⟨W3.heap.size,i,none⟩ (.int .i64 (-1))) W.heap.size (.slice (some ⟨w4.heap.size,0,none⟩) rs.length rs.length) (ledT rs.length nx i):=own_frm LD ((Frm.refl (fun k=>k=W3.heap.size) wr).set (b:=W3.heap.size) (j:=i) rfl (.int .i64 (-1))) (fun k e=>by have:w4.heap.size=k:=(by simpa[Value.ownBlock]using e);omega);have M6:=hMp.setCell (a:=⟨W3.heap.size,i,none⟩) (by simp;omega) (.int .i64 (-1));have b6w:=b2.setCell (p:=⟨W3.heap.size,i,none⟩) (by simp;omega) (.int .i64 (-1))
          have hsz6:(wr.setCell ⟨W3.heap.size,i,none⟩ (.int .i64 (-1))).heap.size=wr.heap.size:=by simp
          have b02:=MW.below.trans (b6w.mono MW.below.size);obtain⟨ca,co,rfl,_,hca,kc⟩:=(h0.below b02 (.inr (Nat.le_refl _))).at_ (i:=at_) (by have:=HN.out;omega);have Mr:=MW.keep b6w (Nat.le_refl _);obtain⟨y0,y1,y2,y3,y4,y5,y6,yf,yl⟩:=Mr.blk.c7;obtain⟨hml6,_,_,_,hb6,_,km⟩:=Mr.mt.at_;replace km:=km at_ (by have e:(txtOf cl nw lv base).mt.length=n:=hml6.symm;omega);have e3:(txtOf cl nw lv base).mt.getD at_ 0=(matchL cl).getD at_ 0:=rfl;rw[e3]at km;clear hml6 e3;have hnxs:nxL nx rs.length (i+1)=(nxL nx rs.length i).set i (nx i):=rfl
          have hlds:ledT rs.length nx (i+1)=if 0≤nx i then(ledT rs.length nx i).set (nx i).toNat true else ledT rs.length nx i:=rfl
          have hbI:=fun(W':World)=>begI_ok W' (cl.getD at_ 0)
          have hmb:begI (cl.getD at_ 0)=true→ ∃y:Nat,(matchL cl).getD at_ 0=y∧at_<y∧y≤n:=fun h=>by obtain⟨y,e,h1,h2⟩:=match_behind (l:=cl) (a:=at_) (by have:=HN.out;omega) h;exact⟨y,e,h1,by have:=HN.out;omega⟩
          generalize cl.getD at_ 0=cc at*;generalize (matchL cl).getD at_ 0=yy at*
          rcases hcc:begI cc with _|_
          ·rw[hcc]at hbI hnx;rw[if_neg (by simp)]at hnx;rw[hnx]at hnxs hlds;rw[if_neg (by omega)]at hlds;rw[←hnxs]at I6;have HLD:=Lib.hid hlds;clear hlds hnxs hmb hnx
           go_wp2_with(go_at_call 102;refine(hbI _).mono ?_;rintro e w9 ⟨rfl,rfl⟩)
           go_roundg (rs.length-(i+1))
           case rel=>exact⟨i+1,by have:=HI.out;omega,by go_num,b6w,M6,L6,I6,by rw[HLD.out];exact D6⟩
           case measure=>have:=HI.out;omega
          ·obtain⟨y,rfl,hy1,hy2⟩:=hmb hcc;rw[hcc]at hbI hnx;rw[if_pos rfl]at hnx;have hhas:=mpT_has rs (y:Int) rs.length;have hat:=mpT_at rs (y:Int) rs.length;rw[HMP.out,←hnx]at hhas hat;have hkey:keyOf Tryz.prog 3 (.int .i64 y)=some (.int .i64 y):=keyOf_int_mk Tryz.underlying3 (WalkArith.wf_i64 (by omega))
           rcases NX i hlt with hv|⟨j,hv,hj1,hj2⟩
           ·rw[hv]at hnxs hlds hhas;rw[if_neg (by omega)]at hlds;rw[←hnxs]at I6
            have hhas:Maps.has mp (.int .i64 y)=false:=by rw[hhas];simp
            have HLD:=Lib.hid hlds;clear hlds hnxs hmb hnx hat hv
            go_wp2_with(first
             |(go_at_call 102;refine(hbI _).mono ?_;rintro e w9 ⟨rfl,rfl⟩)
             |(at_lookup;refine wpList_lookup_own_ok_int _ rfl _ _ 174 rfl 3 3 .i64 law3 Tryz.underlying174 Tryz.underlying3 (zero3 _) W.heap.size rs.length _ rfl M6 _ _ rfl hkey ?_;intro c hc hwc))
            go_roundg (rs.length-(i+1))
            case rel=>exact⟨i+1,by have:=HI.out;omega,by go_num,b6w,M6,L6,I6,by rw[HLD.out];exact D6⟩
            case measure=>have:=HI.out;omega
           ·rw[hv]at hnxs hlds hhas hat;rw[if_pos (by omega)]at hlds;have hjt:((j:Int)).toNat=j:=rfl;rw[hjt]at hlds
            have hhas:Maps.has mp (.int .i64 y)=true:=by rw[hhas];simp
            have hat:=hat (by omega);have I7:=I6.set i (j:Int);rw[List.set_set,←hnxs]at I7;have F7:=(Frm.refl (fun k=>k=W3.heap.size) (wr.setCell ⟨W3.heap.size,i,none⟩ (.int .i64 (-1)))).set (b:=W3.heap.size) (j:=i) rfl (.int .i64 (j:Int));have L7:=L6.frm F7 (fun k e=>by have:W.heap.size+1=k:=(by simpa[Value.ownBlock]using e);omega);have D7:Bools _ W.heap.size (.slice (some ⟨w4.heap.size,0,none⟩) rs.length rs.length) (ledT rs.length nx i):=own_frm D6 F7 (fun k e=>by have:w4.heap.size=k:=(by simpa[Value.ownBlock]using e);omega);have M7:=M6.setCell (a:=⟨W3.heap.size,i,none⟩) (by simp;omega) (.int .i64 (j:Int));have b7:=b6w.setCell (p:=⟨W3.heap.size,i,none⟩) (by simp;omega) (.int .i64 (j:Int));obtain⟨_,dd1,dd2,dd3⟩:=D7.at_;replace dd3:=dd3 j (by rw[ledT_length];exact hj2);have F8:=(Frm.refl (fun k=>k=w4.heap.size) ((wr.setCell ⟨W3.heap.size,i,none⟩ (.int .i64 (-1))).setCell ⟨W3.heap.size,i,none⟩ (.int .i64 (j:Int)))).set (b:=w4.heap.size) (j:=j) rfl (.bool true);have D8:=D7.set j true;rw[←hlds]at D8;have L8:=L7.frm F8 (fun k e=>by have:W.heap.size+1=k:=(by simpa[Value.ownBlock]using e);omega);have I8:=I7.frm F8 (fun k e=>by have:W3.heap.size=k:=(by simpa[Value.ownBlock]using e);omega);have M8:=M7.setCell (a:=⟨w4.heap.size,j,none⟩) (by simp;omega) (.bool true);have b8:=b7.setCell (p:=⟨w4.heap.size,j,none⟩) (by simp;omega) (.bool true);obtain⟨-,_,_,nb0,nb1,nb2,nb3⟩:=I6.at_;replace nb3:=nb3 i (by simp[nxL_length];exact hlt)
            have hinj: ∀c:Int,mp.atKey (.int .i64 y) (.lit (.int .i64 0))= .lit (.int .i64 c)→c=(j:Int):=fun c hc=>by
             rw[hat]at hc
             injection hc with hc
             injection hc with _ hc
             exact hc.symm
            clear hlds hnxs hmb hnx hv hat
            go_wp2_with(first
             |(go_at_call 102;refine(hbI _).mono ?_;rintro e w9 ⟨rfl,rfl⟩)
             |(at_lookup;go_must (refine wpList_lookup_own_ok_int _ rfl _ _ 174 rfl 3 3 .i64 law3 Tryz.underlying174 Tryz.underlying3 (zero3 _) W.heap.size rs.length _ rfl M6 _ _ rfl hkey ?_;intro c hc hwc;have hcj:=hinj c hc;subst hcj;clear hc hwc)))
            go_roundg (rs.length-(i+1))
            case rel=>exact⟨i+1,by have:=HI.out;omega,by go_num,b8,M8,L8,I8,D8⟩
            case measure=>have:=HI.out;omega
         ·have him:i=rs.length:=by have:=HI.out;omega
          subst him;obtain⟨W5,rfl⟩: ∃W5,W5=wr:=⟨_,rfl⟩;have hb5:=b2.size;have hng:=nxL_get nx rs.length rs.length (Nat.le_refl _);have hnl:=nxL_length nx rs.length rs.length;have hdl:=ledT_length rs.length nx rs.length;obtain⟨NL,hNL⟩: ∃NL,nxL nx rs.length rs.length=NL:=⟨_,rfl⟩;rw[hNL]at IN hng hnl;obtain⟨ld,hld⟩: ∃ld,ledT rs.length nx rs.length=ld:=⟨_,rfl⟩;rw[hld]at LD hdl;have HLD:=Lib.hid hld;clear hNL hld HI hLg hLl IL hMp;obtain⟨x0,xf,xl⟩:=(hB.below b2 hB.lt).c1;go_wp2
          go_step3
          go_wp2
          go_loopg [26,174] rs.length (fun gk ov iv wr=> ∃(i:Nat) (L:List (Sq×Value×Value)),i+gk=rs.length∧iv= .int .i64 i∧Below W5.heap.size W5 wr∧L.map (·.1)=outT (txtOf cl nw lv base) rs nx ld i∧SqsAt wr W5.heap.size ov L∧L.length≤i)
          case atStart=>exact⟨0,[],by omega,rfl,Below.refl _ _,rfl,SqsAt.nil _ _,by simp⟩
          case round=>
           clear x0 xf xl;obtain⟨i,L,hi,rfl,b6w,hL,hS,hLn⟩:=hrel;have HI:=Lib.hid hi;clear hi;have hb6:=b6w.size;have b26:Below W.heap.size W wr:=b2.trans (b6w.mono hb5)
           by_cases hlt:i<rs.length
           ·obtain⟨oA,oc,rfl⟩:=row_shape hS.row;have hD6:Bools wr W.heap.size (.slice (some ⟨w4.heap.size,0,none⟩) rs.length rs.length) ld:=own_frm LD (Frm.of_below (F:=fun _=>False) b6w) (fun _ _ h=>h);obtain⟨_,dd1,dd2,dd3⟩:=hD6.at_;replace dd3:=dd3 i (by rw[hdl];exact hlt)
            have hout:outT (txtOf cl nw lv base) rs nx ld (i+1)=if ld.getD i false=true then outT (txtOf cl nw lv base) rs nx ld i else outT (txtOf cl nw lv base) rs nx ld i++[seqOf (txtOf cl nw lv base) ((chT nx (rs.length-i) i).map (fun k=>rs.getD k default))]:=rfl
            rcases hld:ld.getD i false with _|_
            ·rw[hld]at dd3 hout;rw[if_neg (by simp)]at hout;have HOUT:=Lib.hid hout;clear hout hld hD6;obtain⟨W6,rfl⟩: ∃W6,W6=wr:=⟨_,rfl⟩;go_wp2
             go_loopg [28,29] (rs.length-i) (fun gk wv kv wr=> ∃(d:List Nat) (kk:Int),kv= .int .i64 kk∧wr.ownsRow W6.heap.size 173 3 wv d.length ((d.map (fun k=>rs.getD k default)).flatMap Rn.cells)∧Below W6.heap.size W6 wr∧
              d++(if kk<0 then []else chT nx (rs.length-kk.toNat) kk)=chT nx (rs.length-i) i∧((kk= -1∧gk=0)∨ ∃q:Nat,kk=q∧q<rs.length∧gk=rs.length-q))
             case atStart=>exact⟨[],(i:Int),rfl,World.ownsRow_nil _ _ _ _,Below.refl _ _,by rw[if_neg (by omega)];rfl,.inr ⟨i,rfl,hlt,rfl⟩⟩
             case round=>
              clear dd1 dd2 dd3;obtain⟨d,kk,rfl,hO2,b7,hch,hkk⟩:=hrel;have hb7:=b7.size
              have hdn:d.length≤rs.length:=by have h1:=congrArg List.length hch;rw[List.length_append]at h1;have h2:=chT_length nx (rs.length-i) i;omega
              have b27:Below W.heap.size W wr:=b26.trans (b7.mono (by have:=b26.size;omega));obtain⟨wA,wc2,rfl⟩:=row_shape hO2
              rcases hkk with⟨rfl,hgk⟩|⟨q,rfl,hq,hgk⟩
              ·rw[if_pos (by omega),List.append_nil]at hch;have hbnd:=chT_bound G rfl NX (rs.length-i) i hlt;rw[←hch]at hbnd
               have hd0:i∈d:=by rw[hch,chT_step NX hlt];simp
               have hdl0:0<d.length:=List.length_pos_of_mem hd0;have hcln:=HN.out
               have hrr:RdRuns wr wr.heap.size wA (d.map (fun k=>rs.getD k default)):=by unfold RdRuns;rw[List.length_map];exact Reads.of_own hO2
               have hTm:Made w wr (txtOf cl nw lv base) n tb b5 b6 A0 A1 A2 A4 c0 c1 c2 c4 (txtOf cl nw lv base).ix:=by
                have e:(txtOf cl nw lv base).ix=ixT n ks k:=by show ixT cl.length (keptL cl) (keptL cl).length=_;rw[hks,hml,←HN.out]
                rw[e];exact MW.keep b27 (Nat.le_refl _)
               have hT:=hTm.text h0 h1 h2;rw[hxk,hml]at hT
               have hsq:=sequence_ok (rs:=d.map (fun k=>rs.getD k default)) (c:=wc2) hT HN.out HN1.out HN2.out (by show n=(ixT cl.length (keptL cl) (keptL cl).length).length;rw[ixT_length];exact HN.out) (Mr_len HN.out) (by rw[hxk,hml])
                (by rw[hxk];intro j hj;obtain⟨a,e,h,_⟩:=keptL_in (l:=cl) (k:=j) (by rw[hks,hml];exact hj);rw[hks]at e;exact⟨a,e,by omega⟩)
                (fun a _=>by have:=ixT_bound cl.length (keptL cl) (keptL cl).length a;rw[hks,hml]at this;exact⟨by show 0≤(ixT cl.length (keptL cl) (keptL cl).length).getD a 0;rw[hks,hml];exact this.1,by show(ixT cl.length (keptL cl) (keptL cl).length).getD a 0≤8388608;rw[hks,hml];omega⟩)
                (nr:=d.length) (by simp) hrr hdl0 (by omega)
                (fun j hj=>by
                 have e:(d.map (fun k=>rs.getD k default)).getD j default=rs.getD (d.getD j 0) default:=by rw[List.getD_eq_getElem?_getD,List.getElem?_map,List.getElem?_eq_getElem hj,List.getD_eq_getElem?_getD (l:=d),List.getElem?_eq_getElem hj];rfl
                 rw[e];have:=G.hi (d.getD j 0) (hbnd.2 _ (getD_mem0 _ hj))
                 omega)
                (by unfold totT;rw[List.take_length];omega) hl
                (List.length_pos_of_mem (seqP_mem.2 ⟨rs.getD i default,List.mem_map.2 ⟨i,hd0,rfl⟩,(rs.getD i default).f,rfl,Nat.le_refl _,G.lo i hlt,G.kept i hlt⟩))
               rw[hch]at hsq;generalize hsqv:seqOf (txtOf cl nw lv base) ((chT nx (rs.length-i) i).map (fun k=>rs.getD k default))=sq at*;rw[←hch]at hsq;obtain⟨spl,scs,slv,sso,seo⟩:=sq;simp only[Sq.is]at hsq;have HSQ:=Lib.hid hsq;have hS7:=hS.below b7 (Nat.le_refl _);clear hch hsq hsqv hbnd hd0 hrr hT hTm hcln
               go_wp2_with(first
                |(go_at_call 103;refine HSQ.out.mono ?_;rintro r8 w8 ⟨pv,cv,rfl,P8,C8,ne8,b8⟩;obtain⟨pA,pc,rfl,-,-,-⟩:=P8.val;obtain⟨cA,cc,rfl,-,-,-⟩:=C8.val)
                |(at_builtin;go_must (refine wpList_app et54 rfl rfl rfl (World.ownsRow.alloc (hS7.below b8 (Nat.le_refl _)).row _) rfl (Reads.blk (Blk.at_ (by simp)) rfl) ?_ ?_ ?_ ?_ ?_)))
               ·simp[Value.oneCell']
               ·unfold maxLen;omega
               ·omega
               ·have:=b8.size;simp;omega
               intro v9 w9 O9 g9 hv9;have S9:=SqsAt.push (s:=⟨spl,scs,slv,sso,seo⟩) hS7 (by omega) b8 P8 C8 ne8 O9 g9 hv9;have b9:Below W5.heap.size W5 w9:=(((b6w.trans (b7.mono hb6)).trans (b8.mono (by omega))).alloc (by have:=b8.size;omega) _).grown g9 (by have:=b8.size;simp;omega) (fun k e=>(World.ownsRow.lt hS7.row k e).1);clear hS7 P8 C8 ne8 O9 g9 hv9;go_wp2
               go_roundg (rs.length-(i+1))
               case rel=>refine⟨i+1,L++[(⟨spl,scs,slv,sso,seo⟩,_,_)],by have:=HI.out;omega,by go_num,b9,?_,S9,by simp;omega⟩;rw[HOUT.out,List.map_append,hL];rfl
               case measure=>have:=HI.out;omega
              ·have hstep:=chT_step NX hq;rw[if_neg (by omega)]at hch;have hqt:((q:Int)).toNat=q:=rfl;rw[hqt,hstep]at hch;obtain⟨x0,xf,xl⟩:=(hB.below b27 hB.lt).c1;obtain⟨rb,ro,rfl,_,hrb,d0,d1,d2⟩:=(RdRuns.below hRR b27 (.inr (Nat.le_refl _))).at_ hq;have IN7:=IN.below (b6w.trans (b7.mono hb6)) (Nat.le_refl _);obtain⟨-,_,_,na0,na1,na2,na3⟩:=IN7.at_;replace na3:=na3 q (by rw[hnl];exact hq);rw[hng q hq]at na3
               have hcells:((d++[q]).map (fun k=>rs.getD k default)).flatMap Rn.cells=(d.map (fun k=>rs.getD k default)).flatMap Rn.cells++(rs.getD q default).cells:=by simp
               obtain⟨r,hr⟩: ∃r,rs.getD q default=r:=⟨_,rfl⟩;rw[hr]at d0 d1 d2 hcells;obtain⟨rf,rt,rl⟩:=r;simp only at d0 d1 d2;have HC:=Lib.hid hcells;have HCH:=Lib.hid hch;have HGK:=Lib.hid hgk;have hnq:=NX q hq;have HNQ:=Lib.hid hnq;clear hcells hch hgk hstep hr hnq hqt;generalize nx q=kq at*
               go_wp2_with(at_builtin;go_must (refine wpList_app et93 rfl rfl rfl (World.ownsRow.alloc hO2 _) rfl (Reads.blk (Blk.at_ (by simp)) rfl) ?_ ?_ ?_ ?_ ?_))
               ·simp[Value.oneCell']
               ·unfold maxLen;omega
               ·omega
               ·simp;omega
               intro v8 w8 O8 g8 hv8;obtain⟨g,cap,rfl,hg1,hg2⟩:=World.ownsRow.form O8 (by omega);have hrow:=World.ownsRow.lt hO2;have b8:=(b7.alloc hb7 (.cells #[.int .i64 rf,.int .i64 rt,.int .i8 rl] 173)).grown g8 (by simp;omega) (fun k e=>(hrow k e).1);have IN8:=IN7.below (((Below.refl wr.heap.size wr).alloc (Nat.le_refl _) (.cells #[.int .i64 rf,.int .i64 rt,.int .i8 rl] 173)).drew) (Nat.le_refl _)
               replace na3:w8.cell? ⟨W3.heap.size,q,none⟩=some (.int .i64 kq):=by rw[←na3];exact(World.cell?_of_block (g8.block W3.heap.size (by simp;omega) (fun e=>by have:=(hrow _ e.symm).1;have:=(IN.lt W3.heap.size rfl).2;omega))).trans (World.cell?_alloc_lt wr _ ⟨W3.heap.size,q,none⟩ na1)
               clear IN8 d0 d1 d2 x0 xf xl na2;go_wp2
               go_roundg (if kq<0 then 0 else rs.length-kq.toNat)
               case rel=>
                have e:(d++[q]).length=d.length+1:=by simp
                refine⟨d++[q],kq,rfl,?_,b8,by rw[List.append_assoc];exact HCH.out,?_⟩
                ·rw[e,HC.out];exact O8
                ·rcases HNQ.out with h|⟨j,h,h1,h2⟩
                 ·rw[h];exact .inl ⟨rfl,rfl⟩
                 ·rw[h];exact .inr ⟨j,rfl,h2,by rw[if_neg (by omega)];rfl⟩
               case measure=>
                rw[HGK.out]
                rcases HNQ.out with h|⟨j,h,h1,h2⟩
                ·rw[h,if_pos (by omega)];omega
                ·rw[h,if_neg (by omega)];have:((j:Int)).toNat=j:=rfl;omega
            ·rw[hld]at dd3 hout;rw[if_pos rfl]at hout;have HOUT:=Lib.hid hout;clear hout;go_wp2
             go_roundg (rs.length-(i+1))
             case rel=>exact⟨i+1,L,by have:=HI.out;omega,by go_num,b6w,by rw[HOUT.out];exact hL,hS,by omega⟩
             case measure=>have:=HI.out;omega
           ·have hin:i=rs.length:=by have:=HI.out;omega
            subst hin;go_wp2;rw[Exit.noGoto_ret];have hK9:wr.heap[w1.heap.size]?=some (.deferred (some [])):=(b26.block w1.heap.size (by omega)).trans hK;have FF:=(Frm.refl (fun k=>k=w1.heap.size) wr).put (k:=w1.heap.size) rfl (.deferred none);refine⟨by simp,.inl ⟨_,_,rfl,run_takeDeferred hK9,?_⟩⟩;refine⟨_,results_tt (u1:=8) (u2:=9) rfl _ _,u26,?_,?_,?_⟩
            ·rw[HVAL.out];rfl
            ·refine⟨L,?_,(hS.frm1 FF (by omega)).base (by have:=MW.below.size;omega)⟩;rw[HVAL.out,hL];show _=outT _ _ (nxT cl (matchL cl) rs) (ledT rs.length (nxT cl (matchL cl) rs) rs.length) rs.length;rw[HNX.out,HLD.out]
            ·have b9:=MW.below.trans (b26.mono MW.below.size);exact b9.trans (FF.below b9.size (fun k hk e=>by have:=b01.size;omega))
end
section
attribute [local go_sem] Oper.semAt_some
theorem Sequences_arg {w:World}{n0 n1 n2 c0 c1 c2:Nat}{A0 A1 A2:Option Addr}(base:Int)(h:n1≠n0∨n2≠n0∨(base≠0∧base≠1)):
 Calls Tryz.prog 71 #[.slice A0 n0 c0,.slice A1 n1 c1,.slice A2 n2 c2,.int .i8 base] w fun r w'=>r= .returned (.tuple #[.slice none 0 0,.int .i64 2])∧w=w':=by
 by_cases h1:n1=n0
 ·subst h1;have hE:((n1:Int) !=(n1:Int))=false:=bne_self_eq_false _
  by_cases h2:n2=n1
  ·subst h2
   have h3:base≠0∧base≠1:=by omega
   have b0:(base !=0)=true:=bne_iff_ne.2 h3.1;have b1:(base !=1)=true:=bne_iff_ne.2 h3.2;clear h
   go_enter Tryz.func71,Tryz.ntmps71
   go_wp2
   go_step3
   go_wp2;rw[Exit.noGoto_ret]
   go_ret2
   exact⟨rfl,rfl⟩
  ·have b2:((n2:Int) !=(n1:Int))=true:=bne_iff_ne.2 (by omega);clear h
   go_enter Tryz.func71,Tryz.ntmps71
   go_wp2
   go_step3
   go_wp2;rw[Exit.noGoto_ret]
   go_ret2
   exact⟨rfl,rfl⟩
 ·have b1:((n1:Int) !=(n0:Int))=true:=bne_iff_ne.2 (by omega);clear h
  go_enter Tryz.func71,Tryz.ntmps71
  go_wp2
  go_step3
  go_wp2;rw[Exit.noGoto_ret]
  go_ret2
  exact⟨rfl,rfl⟩
theorem Sequences_any {w:World}{B0 B1 B2 n0 n1 n2 c0 c1 c2:Nat}{A0 A1 A2:Option Addr}{cl nw lv:List Int}(base:Int)(hn:n0=cl.length)(hn1:n1=nw.length)(hn2:n2=lv.length)
 (h0:RdInts w B0 .u8 A0 cl) (h1:RdInts w B1 .u8 A1 nw) (h2:RdInts w B2 .i8 A2 lv) (hl:n0≤8388608):
 Calls Tryz.prog 71 #[.slice A0 n0 c0,.slice A1 n1 c1,.slice A2 n2 c2,.int .i8 base] w fun r w'=> ∃ov,r= .returned (.tuple #[ov,.int .i64 (seqsL cl nw lv base).2])∧SqsOwn w' w.heap.size ov (seqsL cl nw lv base).1∧Below w.heap.size w w':=by
 by_cases h:n1≠n0∨n2≠n0∨(base≠0∧base≠1)
 ·refine(Sequences_arg base h).mono ?_;rintro r w' ⟨rfl,rfl⟩
  have e:seqsL cl nw lv base=([],2):=by unfold seqsL;rw[if_pos (by omega)]
  rw[e];exact⟨_,rfl,SqsOwn.nil _ _,Below.refl _ _⟩
 ·obtain rfl:n1=n0:=by omega
  obtain rfl:n2=n1:=by omega
  exact Sequences_ok base hn hn1 hn2 h0 h1 h2 (by omega) hl
end
end Go.Proofs.YtllolnkkepacjaaGreat
