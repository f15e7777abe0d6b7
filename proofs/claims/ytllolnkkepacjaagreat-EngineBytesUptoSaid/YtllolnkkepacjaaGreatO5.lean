/- What comes in: rows of numbers, props, resolved paragraphs. -/
import Derived.Test.YtllolnkkepacjaaGreatA1
import Derived.Test.YtllolnkkepacjaaGreatR12
import Derived.Lib.SmallJoins
import Derived.Deep.Slices
import Derived.SizedLaws
set_option maxRecDepth 100000
namespace Go.Proofs.YtllolnkkepacjaaGreat
open Go.Joins Go.ChangeShapes Go.WideShapes Go.RowKit Go.Deep
section
variable{H:Type} {enc:TypeId×Value→H} {P:Program} {w:World} {base:Nat} {spare:Nat→Bool} {held:Bool}
theorem open_row {t e:TypeId}{k:IntKind}{fuel:Nat}{v:Value}{x:DataW H×List MemPlace}{b:Nat}(ht:P.underlying t=some (.slice e))(he:P.underlying e=some (.int k))(hC:P.cellsOf e=1)(hb:P.bytesOf e=b)
 (h:DataW.trod enc P w 0 (fun _=>true) held fuel t [v]=some x) (hw: ∀n∈x.1.weights P t,n≤reachBytes):
 ∃A n c l,v= .slice A n c∧n=l.length∧RdInts w w.heap.size k A l∧n*b≤reachBytes∧ ∀z∈l,(Lit.int k z).wf=true:=by
 rcases open_ints ht he hC h with⟨hcs,_⟩|⟨a,l,c,zs,hcs,_,hl,hm,hz,hx,hcell,hwz⟩
 ·simp only[List.cons.injEq,and_true]at hcs;subst hcs;exact⟨none,0,0,[],rfl,rfl,Reads.none_,by simp,by simp⟩
 ·simp only[List.cons.injEq,and_true]at hcs;subst hcs;simp only[if_true]at hz;obtain⟨l',h1,h2,h3,h4,h5⟩:=rd_of_row (k:=k) (w:=w) (a:=some a) (len:=l) (cap:=c) (zs:=zs) (.inr ⟨a,rfl,hl,hm,hz,hcell,hwz⟩);refine⟨some a,l,c,l',rfl,h1.symm,h4,?_,h5⟩;subst hx;have:=hw _ (by simp only[DataW.weights,ht];exact List.mem_cons_self);rw[hb]at this;refine Nat.le_trans (Nat.mul_le_mul_right b ?_) this;simp[lits];omega
theorem rd_of_recs {α:Type}{c:α→List Value}{sz:Nat}(E:Enc c sz)(hs:0<sz){a:Addr}{L:List α}(h: ∀i x,L[i]?=some x→w.cells? 0 (a.add (i*sz)) sz=some (c x)):RdR c sz w w.heap.size (some a) L:=by
 refine⟨fm_len E L,fun h0=> ?_⟩;obtain⟨b,off,spot⟩:=a;obtain⟨y0,hx0⟩: ∃y0,L[0]?=some y0:=⟨_,List.getElem?_eq_getElem h0⟩;obtain⟨u,hu⟩: ∃u,(c y0)[0]?=some u:=⟨_,List.getElem?_eq_getElem (by rw[E.len];exact hs)⟩;have h1:=(World.cells?_some (h 0 _ hx0)).2.2 0 hs;rw[hu]at h1
 have hspot:spot=none:=by simpa[Addr.add]using World.cell?_spot h1
 subst hspot
 have hc: ∀j u,(L.flatMap c)[j]?=some u→w.cell? ⟨b,off+j,none⟩=some u:=by
  intro j u hu
  have hj:j<L.length*sz:=by rw[←fm_len E L];exact(List.getElem?_eq_some_iff.1 hu).1
  have hi:j/sz<L.length:=(Nat.div_lt_iff_lt_mul hs).2 hj;have hm:j % sz<sz:=Nat.mod_lt _ hs;have hx:L[j/sz]?=some L[j/sz]:=List.getElem?_eq_getElem hi;have hg:=fm_get E L (j/sz) (j % sz) _ hx hm;have e:j/sz*sz+j % sz=j:=Nat.div_add_mod' j sz;rw[e,hu]at hg;have:=(World.cells?_some (h _ _ hx)).2.2 (j % sz) hm;rw[←hg,Go.WideShapes.add_plain,Go.WideShapes.add_plain,Nat.add_assoc,e]at this;exact this
 rw[Go.WideShapes.add_plain,Go.WideShapes.add_plain]at h1;exact⟨b,off,rfl,World.block_lt_of_cell? _ _ h1,World.block_lt_of_cell? _ _ h1,hc⟩
theorem trod_fld {fs:Array Field}{n k o:Nat}{t:TypeId}{cs:List Value}{xs:List (DataW H×List MemPlace)}(hg: ∀(i:Nat) (f:Field),fs[i]?=some f→DataW.trod enc P w base spare held n f.type ((cs.drop f.offset).take (P.cellsOf f.type))=xs[i]?)
 (i:Nat) {f:Field} (hf:fs[i]?=some f) (ht:f.type=t) (ho:f.offset=o) (hC:P.cellsOf t=k):DataW.trod enc P w base spare held n t ((cs.drop o).take k)=xs[i]?:=by
 subst ht ho hC;exact hg i f hf
end
theorem open_chr {H:Type}{enc:TypeId×Value→H}{W:World}{fuel:Nat}{cs:List Value}{x:DataW H×List MemPlace}(h:DataW.trod enc Tryz.prog W 0 (fun _=>true) true fuel 94 cs=some x): ∃c:Chr,cs=chC c:=by
 obtain⟨xs,n,_,hx,hlen,hl,hg⟩:=DataW.trod_struct Tryz.underlying94 h;have h7:cs.length=7:=hlen.trans (by kernel_rfl)
 match cs,h7,xs,hl with
 |[c0,c1,c2,c3,c4,c5,c6],_,[y0,y1,y2,y3,y4,y5,y6],_=>
  obtain⟨z0,e0,_⟩:=DataW.trod_int Tryz.underlying21 (trod_fld hg 0 rfl rfl rfl (o:=0) (k:=1) (by kernel_rfl));obtain⟨z1,e1,_⟩:=DataW.trod_int Tryz.underlying22 (trod_fld hg 1 rfl rfl rfl (o:=1) (k:=1) (by kernel_rfl));obtain⟨z2,e2,_⟩:=DataW.trod_int Tryz.underlying21 (trod_fld hg 2 rfl rfl rfl (o:=2) (k:=1) (by kernel_rfl));obtain⟨z3,e3,_⟩:=DataW.trod_int Tryz.underlying92 (trod_fld hg 3 rfl rfl rfl (o:=3) (k:=1) (by kernel_rfl));obtain⟨z4,e4,_⟩:=DataW.trod_int Tryz.underlying21 (trod_fld hg 4 rfl rfl rfl (o:=4) (k:=1) (by kernel_rfl));obtain⟨z5,e5,_⟩:=DataW.trod_int Tryz.underlying21 (trod_fld hg 5 rfl rfl rfl (o:=5) (k:=1) (by kernel_rfl));obtain⟨z6,e6,_⟩:=DataW.trod_bool Tryz.underlying4 (trod_fld hg 6 rfl rfl rfl (o:=6) (k:=1) (by kernel_rfl));simp only[List.drop_zero,List.drop_succ_cons,List.take_succ_cons,List.take_zero,List.cons.injEq,and_true]at e0 e1 e2 e3 e4 e5 e6;subst e0 e1 e2 e3 e4 e5 e6;exact⟨⟨z0,z1,z2,z3,z4,z5,z6⟩,rfl⟩
theorem open_chars {H:Type}{enc:TypeId×Value→H}{W:World}{fuel:Nat}{v:Value}{x:DataW H×List MemPlace}(h:DataW.trod enc Tryz.prog W 0 (fun _=>true) true fuel 23 [v]=some x)(hw: ∀n∈x.1.weights Tryz.prog 23,n≤reachBytes):
 ∃A n c L,v= .slice A n c∧n=L.length∧RdR chC 7 W W.heap.size A L∧n*28≤reachBytes:=by
 rcases open_slice Tryz.underlying23 h with⟨hcs,_⟩|⟨a,len,cap,m,n,D,Pl,hcs,_,hl,hm,hmm,hx,hcell⟩
 ·simp only[List.cons.injEq,and_true]at hcs;subst hcs;exact⟨none,0,0,[],rfl,rfl,Reads.none_,by simp⟩
 ·simp only[List.cons.injEq,and_true]at hcs;subst hcs;simp only[if_true]at hmm;subst hmm
  have hC:Tryz.prog.cellsOf 94=7:=by kernel_rfl
  have hch: ∀i,∃c:Chr,i<m→W.cells? 0 (a.add (i*7)) 7=some (chC c):=by
   intro i
   by_cases hi:i<m
   ·obtain⟨cs',h1,h2⟩:=hcell i hi;obtain⟨c,rfl⟩:=open_chr h2;rw[hC]at h1;exact⟨c,fun _=>h1⟩
   ·exact⟨Chr.zero,fun h=>absurd h hi⟩
  obtain⟨X,hX⟩:=Classical.axiomOfChoice hch;refine⟨some a,len,m,(List.range len).map X,rfl,by simp,rd_of_recs encC (by omega) (fun i x hx=> ?_),?_⟩
  ·rw[List.getElem?_map]at hx;obtain⟨j,hj,rfl⟩:=Option.map_eq_some_iff.1 hx;obtain⟨hj1,hj2⟩:=List.getElem?_eq_some_iff.1 hj;rw[List.getElem_range]at hj2;subst hj2;simp only[List.length_range]at hj1;exact hX i (by omega)
  ·subst hx;have:=hw _ (by simp only[DataW.weights,Tryz.underlying23];exact List.mem_cons_self);rw[show Tryz.prog.bytesOf 94=28 by kernel_rfl]at this;refine Nat.le_trans (Nat.mul_le_mul_right 28 ?_) this;simp
theorem open_props {H:Type}{enc:TypeId×Value→H}{W:World}{b0:Nat}{r:Reach}{v:Value}{d:DataW H}{p:List MemPlace}(hv:Value.okWide Tryz.prog W r b0 25 v)(h:DataW.Trod enc Tryz.prog W 0 (fun _=>true) true 25 v d p)
 (hw: ∀n∈d.weights Tryz.prog 25,n≤reachBytes): ∃rest ch,PropsIs W W.heap.size v rest ch∧ch.length*28≤reachBytes:=by
 obtain⟨cs,rfl,hsz⟩:=okWide_struct Tryz.underlying25 hv;have h2:cs.size=2:=hsz.trans (by kernel_rfl);obtain⟨l⟩:=cs
 match l,h2 with
 |[c0,c1],_=>
  obtain⟨fuel,hf⟩:=h;obtain⟨xs,n,_,hx,_,hlen,hg⟩:=DataW.trod_struct Tryz.underlying25 hf
  match xs,hlen with
  |[y0,y1],_=>
   obtain⟨rest,e0,_⟩:=DataW.trod_int Tryz.underlying22 (trod_fld hg 0 rfl rfl rfl (o:=0) (k:=1) (by kernel_rfl));have g1:=trod_fld hg 1 rfl rfl rfl (o:=1) (k:=1) (by kernel_rfl);simp only[Prod.mk.injEq]at hx;obtain⟨rfl,hx2⟩:=hx;simp only[Value.cells,List.drop_zero,List.take_succ_cons,List.take_zero,List.cons.injEq,and_true]at e0;subst e0
   have hw': ∀z,z∈y1.1.weights Tryz.prog 23→z≤reachBytes:=by intro z hz;refine hw z ?_;simp only[DataW.weights,Tryz.underlying25,List.map_cons,List.map_nil,DataW.weightsEach,List.mem_append];simp[hz]
   obtain⟨pA,pn,pc,ch,rfl,hn1,R1,L1⟩:=open_chars g1 hw';subst hn1;refine⟨rest,ch,⟨_,_,rfl,R1,?_⟩,L1⟩;unfold reachBytes at L1;omega
theorem open_arg {t e:TypeId}{k:IntKind}{b:Nat}{H:Type}{enc:TypeId×Value→H}{W:World}{b0:Nat}{r:Reach}{v:Value}{d:DataW H}{p:List MemPlace}(ht:Tryz.prog.underlying t=some (.slice e))(he:Tryz.prog.underlying e=some (.int k))(hC:Tryz.prog.cellsOf e=1)(hb:Tryz.prog.bytesOf e=b)
 (hv:Value.okWide Tryz.prog W r b0 t v) (h:DataW.Trod enc Tryz.prog W 0 (fun _=>true) true t v d p) (hw: ∀n∈d.weights Tryz.prog t,n≤reachBytes):
 ∃A n c l,v= .slice A n c∧n=l.length∧n≤c∧RdInts W W.heap.size k A l∧n*b≤reachBytes:=by
 obtain⟨a,len,cap,rfl⟩:=okWide_slice ht hv;obtain⟨fuel,hf⟩:=h;obtain⟨A,n,c,l,e1,h1,h2,h3,h4⟩:=open_row (x:=(d,p)) ht he hC hb hf hw
 have hcap:len≤cap:=by
  rcases open_ints ht he hC hf with⟨hcs,_⟩|⟨a,l,c,zs,hcs,_,hl,hm,hz,hx,hcell,hwz⟩
  ·simp[Value.cells]at hcs;obtain⟨rfl,rfl,rfl⟩:=hcs;exact Nat.le_refl _
  ·simp[Value.cells]at hcs;obtain⟨rfl,rfl,rfl⟩:=hcs;exact hl
 injection e1 with e1 e2 e3
 subst e1 e2 e3;exact⟨a,len,cap,l,rfl,h1,hcap,h2,h3⟩
theorem row_cap {t e:TypeId}{k:IntKind}{H:Type}{enc:TypeId×Value→H}{W:World}{fuel:Nat}{A:Option Addr}{n c:Nat}{x:DataW H×List MemPlace}(ht:Tryz.prog.underlying t=some (.slice e))(he:Tryz.prog.underlying e=some (.int k))(hC:Tryz.prog.cellsOf e=1)
 (h:DataW.trod enc Tryz.prog W 0 (fun _=>true) true fuel t [.slice A n c]=some x):n≤c:=by
 rcases open_ints ht he hC h with⟨hcs,_⟩|⟨a,l,c,zs,hcs,_,hl,hm,hz,hx,hcell,hwz⟩
 ·simp only[List.cons.injEq,and_true]at hcs
  injection hcs with h1 h2 h3
  omega
 ·simp only[List.cons.injEq,and_true]at hcs
  injection hcs with h1 h2 h3
  omega
theorem open_res {H:Type}{enc:TypeId×Value→H}{W:World}{b0:Nat}{r:Reach}{v:Value}{d:DataW H}{p:List MemPlace}(hv:Value.okWide Tryz.prog W r b0 33 v)(h:DataW.Trod enc Tryz.prog W 0 (fun _=>true) true 33 v d p)(hw: ∀n∈d.weights Tryz.prog 33,n≤reachBytes):
 ∃(b:Int) (cA lA:Option Addr) (n m cc lc:Nat) (cs lv:List Int),v= .agg #[.int .i8 b,.slice cA n cc,.slice lA m lc]∧n=cs.length∧m=lv.length∧RdInts W W.heap.size .u8 cA cs∧RdInts W W.heap.size .i8 lA lv∧n≤cc∧m≤lc:=by
 obtain⟨cs,rfl,hsz⟩:=okWide_struct Tryz.underlying33 hv;have h3:cs.size=3:=hsz.trans (by kernel_rfl);obtain⟨l⟩:=cs
 match l,h3 with
 |[c0,c1,c2],_=>
  obtain⟨fuel,hf⟩:=h;obtain⟨xs,n,_,hx,_,hlen,hg⟩:=DataW.trod_struct Tryz.underlying33 hf
  match xs,hlen with
  |[y0,y1,y2],_=>
   obtain⟨b,e0,_⟩:=DataW.trod_int Tryz.underlying29 (trod_fld hg 0 rfl rfl rfl (o:=0) (k:=1) (by kernel_rfl));have g1:=trod_fld hg 1 rfl rfl rfl (o:=1) (k:=1) (by kernel_rfl);have g2:=trod_fld hg 2 rfl rfl rfl (o:=2) (k:=1) (by kernel_rfl);simp only[Prod.mk.injEq]at hx;obtain⟨rfl,hx2⟩:=hx;simp only[Value.cells,List.drop_zero,List.take_succ_cons,List.take_zero,List.cons.injEq,and_true]at e0;subst e0
   have w1: ∀z∈y1.1.weights Tryz.prog 30,z≤reachBytes:=by intro z hz;refine hw z ?_;simp only[DataW.weights,Tryz.underlying33,List.map_cons,List.map_nil,DataW.weightsEach,List.mem_append];simp[hz]
   have w2: ∀z∈y2.1.weights Tryz.prog 31,z≤reachBytes:=by intro z hz;refine hw z ?_;simp only[DataW.weights,Tryz.underlying33,List.map_cons,List.map_nil,DataW.weightsEach,List.mem_append];simp[hz]
   obtain⟨cA,n1,cc,cl,rfl,hn1,R1,_,_⟩:=open_row Tryz.underlying30 Tryz.underlying22 (by kernel_rfl) rfl g1 w1;obtain⟨lA,n2,lc,lv,rfl,hn2,R2,_,_⟩:=open_row Tryz.underlying31 Tryz.underlying29 (by kernel_rfl) rfl g2 w2;exact⟨b,cA,lA,n1,n2,cc,lc,cl,lv,rfl,hn1,hn2,R1,R2,row_cap Tryz.underlying30 Tryz.underlying22 (by kernel_rfl) g1,row_cap Tryz.underlying31 Tryz.underlying29 (by kernel_rfl) g2⟩
theorem open_piece {H:Type}{enc:TypeId×Value→H}{W:World}{b0:Nat}{r:Reach}{v:Value}{d:DataW H}{p:List MemPlace}(hv:Value.okWide Tryz.prog W r b0 44 v)(h:DataW.Trod enc Tryz.prog W 0 (fun _=>true) true 44 v d p):
 ∃f t:Int,v= .agg #[.int .i64 f,.int .i64 t]:=by
 obtain⟨cs,rfl,hsz⟩:=okWide_struct Tryz.underlying44 hv;have h2:cs.size=2:=hsz.trans (by kernel_rfl);obtain⟨l⟩:=cs
 match l,h2 with
 |[c0,c1],_=>
  obtain⟨fuel,hf⟩:=h;obtain⟨xs,n,_,hx,_,hlen,hg⟩:=DataW.trod_struct Tryz.underlying44 hf
  match xs,hlen with
  |[y0,y1],_=>
   obtain⟨f,e0,_⟩:=DataW.trod_int Tryz.underlying3 (trod_fld hg 0 rfl rfl rfl (o:=0) (k:=1) (by kernel_rfl));obtain⟨t,e1,_⟩:=DataW.trod_int Tryz.underlying3 (trod_fld hg 1 rfl rfl rfl (o:=1) (k:=1) (by kernel_rfl));simp only[Value.cells,List.drop_zero,List.drop_succ_cons,List.take_succ_cons,List.take_zero,List.cons.injEq,and_true]at e0 e1;subst e0 e1;exact⟨f,t,rfl⟩
end Go.Proofs.YtllolnkkepacjaaGreat
