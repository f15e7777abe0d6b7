/- Two lists alike, two resolved paragraphs alike; the line that is the paragraph. A resolved paragraph written over, and into what lies behind its lists. Two answers held against a third; is a list short. -/
import Derived.Test.YtllolnkkepacjaaGreatLn4
import Derived.WalkLawsBesides
import Derived.BigQuiet
import Derived.Deep.QuietTactic
set_option maxRecDepth 100000
set_option maxHeartbeats 4000000
namespace Go.Proofs.YtllolnkkepacjaaGreat
open Go.RowKit
section
attribute [local go_sem] Oper.semAt_some
theorem sameLv_ok {w:World}{B B2 n n2 c c2:Nat}{A A2:Option Addr}{l l':List Int}(hn:n=l.length)(hn2:n2=l'.length)(h:RdInts w B .i8 A l)(h2:RdInts w B2 .i8 A2 l')(hl:n≤1099511627776):
 Calls Tryz.prog 27 #[.slice A n c,.slice A2 n2 c2] w fun r w'=>r= .returned (.bool (decide (l=l')))∧ ∃d,w'=w.drewN d:=by
 have HN:=Lib.hid hn;have HN2:=Lib.hid hn2
 by_cases he:n=n2
 ·subst he;have hE:((n:Int) !=(n:Int))=false:=bne_self_eq_false _;clear hn hn2
  go_enter Tryz.func27,Tryz.ntmps27
  go_wp2
  go_loopg [5] n (fun gk iv wr=> ∃j:Nat,j+gk=n∧iv= .int .i64 j∧(∀k,k<j→l.getD k 0=l'.getD k 0)∧ ∃d,wr=w.drewN d)
  case atStart=>exact⟨0,by omega,rfl,by omega,0,rfl⟩
  case round=>
   obtain⟨j,hj,rfl,hs,d,rfl⟩:=hrel;have HJ:=Lib.hid hj;have HS:=Lib.hid hs;clear hj hs
   by_cases hlt:j<n
   ·obtain⟨b,off,rfl,_,hb,k1⟩:=h.at_ (i:=j) (by have:=HN.out;omega);obtain⟨b2,of2,rfl,_,hb2,k2⟩:=h2.at_ (i:=j) (by have:=HN2.out;omega);obtain⟨x,hx⟩: ∃x,l.getD j 0=x:=⟨_,rfl⟩;obtain⟨y,hy⟩: ∃y,l'.getD j 0=y:=⟨_,rfl⟩;rw[hx]at k1;rw[hy]at k2;have HX:=Lib.hid hx;have HY:=Lib.hid hy;clear hx hy
    by_cases hxy:x=y
    ·have hE2:(x !=y)=false:=by simp[hxy]
     have HXY:=Lib.hid hxy;clear hxy;go_wp2
     go_quiet (fail)
     go_wp2
     go_roundg (n-(j+1))
     case rel=>
      refine⟨j+1,by have:=HJ.out;omega,by go_num,fun k hk=> ?_,_,by first|rfl|exact World.drewN_drewN _ _ _⟩
      by_cases e:k=j
      ·rw[e,HX.out,HY.out,HXY.out]
      ·exact HS.out k (by omega)
     case measure=>have:=HJ.out;omega
    ·have hE2:(x !=y)=true:=bne_iff_ne.2 hxy;have hv:decide (l=l')=false:=decide_eq_false (fun e=>hxy (by rw[←HX.out,←HY.out,e]));clear hxy;go_wp2
     go_quiet (fail)
     go_wp2;go_ret;rw[hv];exact⟨rfl,_,by first|rfl|exact World.drewN_drewN _ _ _⟩
   ·have hjn:j=n:=by have:=HJ.out;omega
    have hv:decide (l=l')=true:=decide_eq_true (ext_getDW (by rw[←HN.out,←HN2.out]) (fun i hi=>HS.out i (by have:=HN.out;omega)));subst hjn;clear HJ hlt;go_wp2;go_ret;rw[hv];exact⟨rfl,d,rfl⟩
 ·have hE:((n:Int) !=(n2:Int))=true:=bne_iff_ne.2 (by omega);have hv:decide (l=l')=false:=decide_eq_false (fun e=>he (by rw[hn,hn2,e]));rw[hv];clear hv he hn hn2
  go_enter Tryz.func27,Tryz.ntmps27
  go_wp2;go_ret;exact⟨rfl,0,rfl⟩
theorem sameCl_ok {w:World}{B B2 n n2 c c2:Nat}{A A2:Option Addr}{l l':List Int}(hn:n=l.length)(hn2:n2=l'.length)(h:RdInts w B .u8 A l)(h2:RdInts w B2 .u8 A2 l')(hl:n≤1099511627776):
 Calls Tryz.prog 65 #[.slice A n c,.slice A2 n2 c2] w fun r w'=>r= .returned (.bool (decide (l=l')))∧ ∃d,w'=w.drewN d:=by
 have HN:=Lib.hid hn;have HN2:=Lib.hid hn2
 by_cases he:n=n2
 ·subst he;have hE:((n:Int) !=(n:Int))=false:=bne_self_eq_false _;clear hn hn2
  go_enter Tryz.func65,Tryz.ntmps65
  go_wp2
  go_loopg [5] n (fun gk iv wr=> ∃j:Nat,j+gk=n∧iv= .int .i64 j∧(∀k,k<j→l.getD k 0=l'.getD k 0)∧ ∃d,wr=w.drewN d)
  case atStart=>exact⟨0,by omega,rfl,by omega,0,rfl⟩
  case round=>
   obtain⟨j,hj,rfl,hs,d,rfl⟩:=hrel;have HJ:=Lib.hid hj;have HS:=Lib.hid hs;clear hj hs
   by_cases hlt:j<n
   ·obtain⟨b,off,rfl,_,hb,k1⟩:=h.at_ (i:=j) (by have:=HN.out;omega);obtain⟨b2,of2,rfl,_,hb2,k2⟩:=h2.at_ (i:=j) (by have:=HN2.out;omega);obtain⟨x,hx⟩: ∃x,l.getD j 0=x:=⟨_,rfl⟩;obtain⟨y,hy⟩: ∃y,l'.getD j 0=y:=⟨_,rfl⟩;rw[hx]at k1;rw[hy]at k2;have HX:=Lib.hid hx;have HY:=Lib.hid hy;clear hx hy
    by_cases hxy:x=y
    ·have hE2:(x !=y)=false:=by simp[hxy]
     have HXY:=Lib.hid hxy;clear hxy;go_wp2
     go_quiet (fail)
     go_wp2
     go_roundg (n-(j+1))
     case rel=>
      refine⟨j+1,by have:=HJ.out;omega,by go_num,fun k hk=> ?_,_,by first|rfl|exact World.drewN_drewN _ _ _⟩
      by_cases e:k=j
      ·rw[e,HX.out,HY.out,HXY.out]
      ·exact HS.out k (by omega)
     case measure=>have:=HJ.out;omega
    ·have hE2:(x !=y)=true:=bne_iff_ne.2 hxy;have hv:decide (l=l')=false:=decide_eq_false (fun e=>hxy (by rw[←HX.out,←HY.out,e]));clear hxy;go_wp2
     go_quiet (fail)
     go_wp2;go_ret;rw[hv];exact⟨rfl,_,by first|rfl|exact World.drewN_drewN _ _ _⟩
   ·have hjn:j=n:=by have:=HJ.out;omega
    have hv:decide (l=l')=true:=decide_eq_true (ext_getDW (by rw[←HN.out,←HN2.out]) (fun i hi=>HS.out i (by have:=HN.out;omega)));subst hjn;clear HJ hlt;go_wp2;go_ret;rw[hv];exact⟨rfl,d,rfl⟩
 ·have hE:((n:Int) !=(n2:Int))=true:=bne_iff_ne.2 (by omega);have hv:decide (l=l')=false:=decide_eq_false (fun e=>he (by rw[hn,hn2,e]));rw[hv];clear hv he hn hn2
  go_enter Tryz.func65,Tryz.ntmps65
  go_wp2;go_ret;exact⟨rfl,0,rfl⟩
def sameX (a b:Int×List Int×List Int):Bool:=a.1==b.1 && decide (a.2.1=b.2.1) && decide (a.2.2=b.2.2)
theorem sameR_ok {w:World}{B1 B2 B3 B4 n m n' m' cc lc cc' lc':Nat}{cA lA cA' lA':Option Addr}{b b':Int}{cs lv cs' lv':List Int}(hn:n=cs.length)(hm:m=lv.length)(hn':n'=cs'.length)(hm':m'=lv'.length)
 (h1:RdInts w B1 .u8 cA cs) (h2:RdInts w B2 .i8 lA lv) (h3:RdInts w B3 .u8 cA' cs') (h4:RdInts w B4 .i8 lA' lv') (hl:n≤1099511627776) (hl2:m≤1099511627776):
 Calls Tryz.prog 38 #[.agg #[.int .i8 b,.slice cA n cc,.slice lA m lc],.agg #[.int .i8 b',.slice cA' n' cc',.slice lA' m' lc']] w fun r w'=>r= .returned (.bool (sameX (b,cs,lv) (b',cs',lv')))∧Aft w w':=by
 have e1:=h1.clip;have e2:=h2.clip;have e3:=h3.clip;have e4:=h4.clip;have X:Blk ((w.alloc (.cells #[.int .i8 b,.slice cA n cc,.slice lA m lc] 33)).alloc (.cells #[.int .i8 b',.slice cA' n' cc',.slice lA' m' lc'] 33)) w.heap.size 33 #[.int .i8 b,.slice cA n cc,.slice lA m lc]:=(Blk.new w 33 _).alloc _;have Y:Blk ((w.alloc (.cells #[.int .i8 b,.slice cA n cc,.slice lA m lc] 33)).alloc (.cells #[.int .i8 b',.slice cA' n' cc',.slice lA' m' lc'] 33)) (w.heap.size+1) 33 #[.int .i8 b',.slice cA' n' cc',.slice lA' m' lc']:=Blk.at_ (by simp);have a1:Aft w ((w.alloc (.cells #[.int .i8 b,.slice cA n cc,.slice lA m lc] 33)).alloc (.cells #[.int .i8 b',.slice cA' n' cc',.slice lA' m' lc'] 33)):=((Aft.refl w).alloc _).alloc _;generalize hW1:(w.alloc (.cells #[.int .i8 b,.slice cA n cc,.slice lA m lc] 33)).alloc (.cells #[.int .i8 b',.slice cA' n' cc',.slice lA' m' lc'] 33)=W1 at X Y a1;have CS:=sameCl_ok (c:=cc) (c2:=cc') hn hn' (e1.aft a1) (e3.aft a1) hl;have CL:=fun(W:World) (hW:Aft w W)=>sameLv_ok (c:=lc) (c2:=lc') hm hm' (e2.aft hW) (e4.aft hW) hl2;obtain⟨x0,x1,x2,xf,xl⟩:=X.c3;obtain⟨y0,y1,y2,yf,yl⟩:=Y.c3;have hx:sameX (b,cs,lv) (b',cs',lv')=(b==b' && decide (cs=cs') && decide (lv=lv')):=rfl;rw[hx];clear hn hm hn' hm' hx h1 h2 h3 h4;obtain⟨p,hp⟩: ∃p,(b==b')=p:=⟨_,rfl⟩;obtain⟨q,hq⟩: ∃q,decide (cs=cs')=q:=⟨_,rfl⟩;obtain⟨r,hr⟩: ∃r,decide (lv=lv')=r:=⟨_,rfl⟩;rw[hq]at CS;rw[hr]at CL;rw[hp,hq,hr];clear hq hr
 rcases p with _|_
 ·go_enter Tryz.func38,Tryz.ntmps38
  go_upto_region 1 with(fail)
  clear hW1;go_wp2;go_ret;exact⟨rfl,a1⟩
 ·rcases q with _|_
  ·go_enter Tryz.func38,Tryz.ntmps38
   go_upto_region 1 with(fail)
   clear hW1
   go_wp2_with(go_at_call 65;refine CS.mono ?_;rintro r2 w2 ⟨rfl,d,rfl⟩)
   go_ret;exact⟨rfl,⟨a1.os,a1.tape,a1.output,a1.size,a1.block⟩⟩
  ·go_enter Tryz.func38,Tryz.ntmps38
   go_upto_region 1 with(fail)
   clear hW1
   go_wp2_with(first
    |(go_at_call 65;refine CS.mono ?_;rintro r2 w2 ⟨rfl,d,hw2⟩;have ad:Aft w w2:=(by rw[hw2];exact⟨a1.os,a1.tape,a1.output,a1.size,a1.block⟩);have X2:Blk w2 _ _ _:=(by rw[hw2];exact X.drewN d);have Y2:Blk w2 _ _ _:=(by rw[hw2];exact Y.drewN d);clear hw2;obtain⟨x0,x1,x2,xf,xl⟩:=X2.c3;obtain⟨y0,y1,y2,yf,yl⟩:=Y2.c3)
    |(go_at_call 27;refine(CL _ ad).mono ?_;rintro r3 w3 ⟨rfl,d3,rfl⟩))
   go_ret;exact⟨rfl,⟨ad.os,ad.tape,ad.output,ad.size,ad.block⟩⟩
theorem EWhole_ok {w:World}{B B2 n m cc lc:Nat}{cA lA:Option Addr}{base:Int}{cs lv:List Int}(hn:n=cs.length)(hm:m=lv.length)(h1:RdInts w B .u8 cA cs)(h2:RdInts w B2 .i8 lA lv)(hl:n≤8388608)(hcl:m≤lc):
 Calls Tryz.prog 26 #[.agg #[.int .i8 base,.slice cA n cc,.slice lA m lc]] w fun r w'=> ∃v,r= .returned (.tuple #[v,.int .i64 (lineX base cs lv 0 cs.length).1])∧Ints w' w.heap.size 29 .i8 v (lineX base cs lv 0 cs.length).2∧Aft w w':=by
 have h1':=h1.clip;have h2':=h2.clip;have X:Blk (w.alloc (.cells #[.int .i8 base,.slice cA n cc,.slice lA m lc] 33)) w.heap.size 33 #[.int .i8 base,.slice cA n cc,.slice lA m lc]:=Blk.new w 33 _;have a1:Aft w (w.alloc (.cells #[.int .i8 base,.slice cA n cc,.slice lA m lc] 33)):=(Aft.refl w).alloc _;generalize hW1:w.alloc (.cells #[.int .i8 base,.slice cA n cc,.slice lA m lc] 33)=W1 at X a1;have CL:=ELine_ok (w:=W1) (cc:=cc) (lc:=lc) (base:=base) 0 (n:Int) hn hm (h1'.aft a1) (h2'.aft a1) hl hcl;rw[←hn];obtain⟨x0,x1,x2,xf,xl⟩:=X.c3;obtain⟨e,L,hX⟩: ∃e L,lineX base cs lv 0 n=(e,L):=⟨_,_,rfl⟩;rw[hX]at CL⊢;clear hX hn hm h1 h2
 go_enter Tryz.func26,Tryz.ntmps26
 go_upto_region 1 with(fail)
 clear hW1
 go_wp2_with(go_at_call 24;refine CL.mono ?_;rintro r2 w2 ⟨v,rfl,I,a2⟩)
 go_ret2
 exact⟨v,rfl,I.base (fun j h=>by have:=(I.lt j h).1;have:=a1.size;omega),a1.trans a2⟩
end
section
attribute [local go_sem] Oper.semAt_some
theorem map_of_ownW {A:Option Addr}{n c j:Nat}(h:(Value.slice A n c).ownBlock=some j):A.map (fun a=>a.block)=some j:=by rw[own_slice]at h;exact h
def Own2 (cA lA:Option Addr)(k:Nat):Prop:=cA.map (fun a=>a.block)=some k∨lA.map (fun a=>a.block)=some k
structure Spo (w:World) (B x:Nat) (base:Int) (cA lA:Option Addr) (n m cc lc:Nat):Prop where
 X:Blk w x 33 #[.int .i8 base,.slice cA n cc,.slice lA m lc]
 c: ∃xs,xs.length=n∧Ints w B 22 .u8 (.slice cA n cc) xs
 l: ∃ys,ys.length=m∧Ints w B 29 .i8 (.slice lA m lc) ys
 ne: ∀k,cA.map (fun a=>a.block)=some k→lA.map (fun a=>a.block)≠some k
 xc:cA.map (fun a=>a.block)≠some x
 xl:lA.map (fun a=>a.block)≠some x
theorem own_neW {A A':Option Addr}{n c n' c':Nat}(h: ∀k,A.map (fun a=>a.block)=some k→A'.map (fun a=>a.block)=some k→False):(Value.slice A n c).ownBlock=none∨(Value.slice A n c).ownBlock≠(Value.slice A' n' c').ownBlock:=by
 rw[own_slice,own_slice]
 cases hA:A.map (fun a=>a.block)with
 |none=>exact .inl rfl
 |some k=>exact .inr (fun e=>h k hA e.symm)
theorem Spo.setc {w:World}{B x g:Nat}{base:Int}{lA:Option Addr}{n m cc lc:Nat}(h:Spo w B x base (some ⟨g,0,none⟩) lA n m cc lc)(i:Nat)(v:Int):Spo (w.setCell ⟨g,i,none⟩ (.int .u8 v)) B x base (some ⟨g,0,none⟩) lA n m cc lc:=by
 obtain⟨xs,hx,I⟩:=h.c;obtain⟨ys,hy,J⟩:=h.l;have F:=(Frm.refl (fun k=>k=g) w).set (b:=g) (j:=i) rfl (.int .u8 v)
 exact⟨h.X.far (p:=⟨g,i,none⟩) (fun e=>h.xc (by have e:x=g:=e;rw[e];rfl)) _,⟨_,by rw[List.length_set];exact hx,I.set i v⟩,
  ⟨ys,hy,J.frm F (fun j e e2=>h.ne g rfl (by have e2:j=g:=e2;rw[←e2];exact map_of_ownW e))⟩,h.ne,h.xc,h.xl⟩
theorem Spo.setl {w:World}{B x g:Nat}{base:Int}{cA:Option Addr}{n m cc lc:Nat}(h:Spo w B x base cA (some ⟨g,0,none⟩) n m cc lc)(i:Nat)(v:Int):Spo (w.setCell ⟨g,i,none⟩ (.int .i8 v)) B x base cA (some ⟨g,0,none⟩) n m cc lc:=by
 obtain⟨xs,hx,I⟩:=h.c;obtain⟨ys,hy,J⟩:=h.l;have F:=(Frm.refl (fun k=>k=g) w).set (b:=g) (j:=i) rfl (.int .i8 v)
 exact⟨h.X.far (p:=⟨g,i,none⟩) (fun e=>h.xl (by have e:x=g:=e;rw[e];rfl)) _,
  ⟨xs,hx,I.frm F (fun j e e2=>h.ne j (map_of_ownW e) (by have e2:j=g:=e2;rw[e2];rfl))⟩,⟨_,by rw[List.length_set];exact hy,J.set i v⟩,h.ne,h.xc,h.xl⟩
theorem Spo.appc {w w1:World}{B x g n m cc lc cap:Nat}{base:Int}{cA lA:Option Addr}{xs:List Int}(h:Spo w B x base cA lA n m cc lc)(hx:xs.length=n)
 (I1:Ints w1 B 22 .u8 (.slice (some ⟨g,0,none⟩) (xs.length+1) cap) (xs++[98])) (hg:(w.alloc (.cells #[.int .u8 98] 22)).grownBy w1 (Value.slice cA n cc).ownBlock) (hgg:(Value.slice cA n cc).ownBlock=some g∨w.heap.size≤g):
 Blk w1 x 33 #[.int .i8 base,.slice cA n cc,.slice lA m lc]∧Spo (w1.setCell ⟨x,1,none⟩ (.slice (some ⟨g,0,none⟩) (n+1) cap)) B x base (some ⟨g,0,none⟩) lA (n+1) m cap lc∧(cA.map (fun a=>a.block)=some g∨w.heap.size≤g):=by
 obtain⟨ys,hy,J⟩:=h.l;have q1:cA.map (fun a=>a.block)=some g∨w.heap.size≤g:=hgg.imp map_of_ownW id;have hxl:=h.X.lt
 have hgx:g≠x:=fun e=>by subst e;rcases q1 with q|q;exact h.xc q;omega
 have hgl: ∀k,(some g:Option Nat)=some k→lA.map (fun a=>a.block)≠some k:=fun k e e2=>by
  injection e with e
  subst e
  rcases q1 with q|q
  ·exact h.ne _ q e2
  ·have:=(J.lt g (by rw[own_slice];exact e2)).2;omega
 have J1:=(J.alloc (.cells #[.int .u8 98] 22)).kept hg (own_neW (fun k e1 e2=>h.ne k e2 e1));have X1:=(h.X.alloc (.cells #[.int .u8 98] 22)).grown hg (fun e=>h.xc (map_of_ownW e.symm));have F:=(Frm.refl (fun k=>k=x) w1).set (b:=x) (j:=1) rfl (.slice (some ⟨g,0,none⟩) (n+1) cap);refine⟨X1,⟨?_,⟨xs++[98],by simp[hx],?_⟩,⟨ys,hy,J1.frm F (fun j e e2=>h.xl (by have e2:j=x:=e2;rw[←e2];exact map_of_ownW e))⟩,hgl,fun e=>hgx (by simpa using e),h.xl⟩,q1⟩
 ·have:=X1.set_ 1 (.slice (some ⟨g,0,none⟩) (n+1) cap);simpa using this
 ·rw[hx]at I1
  exact I1.frm F (fun j e e2=>hgx (by have e2:j=x:=e2;have e:g=j:=by simpa[Value.ownBlock]using e
                                      omega))
theorem Spo.appl {w w1:World}{B x g n m cc lc cap:Nat}{base:Int}{cA lA:Option Addr}{ys:List Int}(h:Spo w B x base cA lA n m cc lc)(hy:ys.length=m)
 (J1:Ints w1 B 29 .i8 (.slice (some ⟨g,0,none⟩) (ys.length+1) cap) (ys++[98])) (hg:(w.alloc (.cells #[.int .i8 98] 29)).grownBy w1 (Value.slice lA m lc).ownBlock) (hgg:(Value.slice lA m lc).ownBlock=some g∨w.heap.size≤g):
 Blk w1 x 33 #[.int .i8 base,.slice cA n cc,.slice lA m lc]∧Spo (w1.setCell ⟨x,2,none⟩ (.slice (some ⟨g,0,none⟩) (m+1) cap)) B x base cA (some ⟨g,0,none⟩) n (m+1) cc cap∧(lA.map (fun a=>a.block)=some g∨w.heap.size≤g):=by
 obtain⟨xs,hx,I⟩:=h.c;have q1:lA.map (fun a=>a.block)=some g∨w.heap.size≤g:=hgg.imp map_of_ownW id;have hxl:=h.X.lt
 have hgx:g≠x:=fun e=>by subst e;rcases q1 with q|q;exact h.xl q;omega
 have hgl: ∀k,cA.map (fun a=>a.block)=some k→(some g:Option Nat)≠some k:=fun k e2 e=>by
  injection e with e
  subst e
  rcases q1 with q|q
  ·exact h.ne _ e2 q
  ·have:=(I.lt g (by rw[own_slice];exact e2)).2;omega
 have I1:=(I.alloc (.cells #[.int .i8 98] 29)).kept hg (own_neW (fun k e1 e2=>h.ne k e1 e2));have X1:=(h.X.alloc (.cells #[.int .i8 98] 29)).grown hg (fun e=>h.xl (map_of_ownW e.symm));have F:=(Frm.refl (fun k=>k=x) w1).set (b:=x) (j:=2) rfl (.slice (some ⟨g,0,none⟩) (m+1) cap);refine⟨X1,⟨?_,⟨xs,hx,I1.frm F (fun j e e2=>h.xc (by have e2:j=x:=e2;rw[←e2];exact map_of_ownW e))⟩,⟨ys++[98],by simp[hy],?_⟩,hgl,h.xc,fun e=>hgx (by simpa using e)⟩,q1⟩
 ·have:=X1.set_ 2 (.slice (some ⟨g,0,none⟩) (m+1) cap);simpa using this
 ·rw[hy]at J1
  exact J1.frm F (fun j e e2=>hgx (by have e2:j=x:=e2;have e:g=j:=by simpa[Value.ownBlock]using e
                                      omega))
theorem spoil_ok {w:World}{B n m cc lc:Nat}{cA lA:Option Addr}{base:Int}{xs ys:List Int}(hn:xs.length=n)(hm:ys.length=m)(hI:Ints w B 22 .u8 (.slice cA n cc) xs)(hJ:Ints w B 29 .i8 (.slice lA m lc) ys)
 (hne: ∀j,(Value.slice cA n cc).ownBlock=some j→(Value.slice lA m lc).ownBlock≠some j) (h1:n≤8388608) (h2:m≤8388608) (hB:B≤w.heap.size):
 Calls Tryz.prog 39 #[.agg #[.int .i8 base,.slice cA n cc,.slice lA m lc]] w fun r w'=>r= .returned (.tuple #[])∧Frm (Own2 cA lA) w w':=by
 have S0:Spo (w.alloc (.cells #[.int .i8 base,.slice cA n cc,.slice lA m lc] 33)) B w.heap.size base cA lA n m cc lc:=
  ⟨Blk.new w 33 _,⟨xs,hn,hI.alloc _⟩,⟨ys,hm,hJ.alloc _⟩,fun k e e2=>hne k (by rw[own_slice];exact e) (by rw[own_slice];exact e2),
   fun e=>by have:=(hI.lt _ (by rw[own_slice];exact e)).2;omega,fun e=>by have:=(hJ.lt _ (by rw[own_slice];exact e)).2;omega⟩
 have F0:=(Frm.refl (Own2 cA lA) w).alloc (.cells #[.int .i8 base,.slice cA n cc,.slice lA m lc] 33);have hW0:w.heap.size<(w.alloc (.cells #[.int .i8 base,.slice cA n cc,.slice lA m lc] 33)).heap.size:=S0.X.lt;generalize hW1:w.alloc (.cells #[.int .i8 base,.slice cA n cc,.slice lA m lc] 33)=W at S0 F0 hW0;clear hI hJ hne hn hm
 go_enter Tryz.func39,Tryz.ntmps39
 go_upto_region 1 with(fail)
 clear hW1;go_wp2
 go_loopg [2] n (fun gk iv wr=> ∃j:Nat,j+gk=n∧iv= .int .i64 j∧Spo wr B w.heap.size base cA lA n m cc lc∧Frm (Own2 cA lA) w wr)
 case atStart=>exact⟨0,by omega,rfl,S0,F0⟩
 case round=>
  clear S0 F0;obtain⟨j,hj,rfl,S,F⟩:=hrel;have HJ:=Lib.hid hj;clear hj;obtain⟨x0,x1,x2,xf,xl⟩:=S.X.c3
  by_cases hjn:j<n
  ·obtain⟨zs,hz,I⟩:=S.c;obtain⟨g,cp,hv⟩:=I.form (by omega)
   injection hv with e1 e2 e3
   subst e1;clear e2 e3;obtain⟨-,-,-,hBg,hgw,hfz,hce⟩:=I.at_;have hcj:=hce j (by omega);clear hce hz;generalize zs.getD j 0=v at hcj;go_wp2
   go_roundg (n-(j+1))
   case rel=>exact⟨j+1,by have:=HJ.out;omega,by go_num,S.setc j 99,F.set (.inl rfl) _⟩
   case measure=>have:=HJ.out;omega
  ·clear HJ;go_wp2
   go_loopg [3] m (fun gk iv wr=> ∃j:Nat,j+gk=m∧iv= .int .i64 j∧Spo wr B w.heap.size base cA lA n m cc lc∧Frm (Own2 cA lA) w wr)
   case atStart=>exact⟨0,by omega,rfl,S,F⟩
   case round=>
    clear S F x0 x1 x2 xf xl;obtain⟨j,hj,rfl,S,F⟩:=hrel;have HJ:=Lib.hid hj;clear hj;obtain⟨x0,x1,x2,xf,xl⟩:=S.X.c3
    by_cases hjn:j<m
    ·obtain⟨zs,hz,I⟩:=S.l;obtain⟨g,cp,hv⟩:=I.form (by omega)
     injection hv with e1 e2 e3
     subst e1;clear e2 e3;obtain⟨-,-,-,hBg,hgw,hfz,hce⟩:=I.at_;have hcj:=hce j (by omega);clear hce hz;generalize zs.getD j 0=v at hcj;go_wp2
     go_roundg (m-(j+1))
     case rel=>exact⟨j+1,by have:=HJ.out;omega,by go_num,S.setl j 99,F.set (.inr rfl) _⟩
     case measure=>have:=HJ.out;omega
    ·clear HJ;go_wp2
     go_loopg [26] 40 (fun gk iv wr=> ∃(j:Nat) (ca la:Option Addr) (n1 m1 d1 d2:Nat),j+gk=40∧iv= .int .i64 j∧n1≤8388608+j∧m1≤8388608+j∧Spo wr B w.heap.size base ca la n1 m1 d1 d2∧(∀k,Own2 ca la k→k<w.heap.size→Own2 cA lA k)∧Frm (Own2 cA lA) w wr)
     case atStart=>exact⟨0,cA,lA,n,m,cc,lc,by omega,rfl,h1,h2,S,fun k hk _=>hk,F⟩
     case round=>
      clear S F x0 x1 x2 xf xl;obtain⟨j,ca,la,n1,m1,d1,d2,hj,rfl,e1,e2,S,ho,F⟩:=hrel;have HJ:=Lib.hid hj;clear hj;obtain⟨x0,x1,x2,xf,xl⟩:=S.X.c3
      by_cases hjn:j<40
      ·obtain⟨zs,hz,I⟩:=S.c;have hwB:B≤wr.heap.size:=Nat.le_trans hB F.size;have HZ:=Lib.hid hz;clear hz
       go_upto_region 12 with(at_builtin;go_must (refine wpList_appI ei22 rfl rfl rfl (I.alloc _) rfl (Blk.at_ (by simp)) ?_ ?_ ?_ ?_))
       ·rw[HZ.out];unfold maxLen;omega
       ·rw[HZ.out];omega
       ·simp;omega
       intro g cap w5 I5 g5 hg5;obtain⟨X5,S5,q5⟩:=S.appc HZ.out I5 g5 (hg5.imp id (fun e=>by omega));have F5:=((F.alloc (.cells #[.int .u8 98] 22)).grown g5 (fun k e hk=>ho k (.inl (map_of_ownW e)) hk)).setCell (p:=⟨w.heap.size,1,none⟩) (fun h=>absurd h (Nat.lt_irrefl _)) (.slice (some ⟨g,0,none⟩) (n1+1) cap);rw[HZ.out]
       have ho5: ∀k,Own2 (some ⟨g,0,none⟩) la k→k<w.heap.size→Own2 cA lA k:=fun k hk hkw=>by
        rcases hk with hk|hk
        ·have e:g=k:=by simpa using hk
         subst e
         rcases q5 with q|q
         ·exact ho _ (.inl q) hkw
         ·have:=F.size;omega
        ·exact ho _ (.inr hk) hkw
       clear x0 x1 x2 xf xl S F ho I5 hg5 I;obtain⟨y0,y1,y2,yf,yl⟩:=X5.c3
       go_upto_region 12 with(fail)
       generalize hw6:w5.setCell ⟨w.heap.size,1,none⟩ (.slice (some ⟨g,0,none⟩) (n1+1) cap)=w6 at S5 F5⊢;clear hw6 y0 y1 y2 yf yl X5 g5;obtain⟨x0,x1,x2,xf,xl⟩:=S5.X.c3;obtain⟨zs2,hz2,I2⟩:=S5.l;have hwB6:B≤w6.heap.size:=Nat.le_trans hB F5.size;have HZ2:=Lib.hid hz2;clear hz2
       go_upto_region 13 with(at_builtin;go_must (refine wpList_appI ei35 rfl rfl rfl (I2.alloc _) rfl (Blk.at_ (by simp)) ?_ ?_ ?_ ?_))
       ·rw[HZ2.out];unfold maxLen;omega
       ·rw[HZ2.out];omega
       ·simp;omega
       intro g2 cap2 w7 I7 g7 hg7;obtain⟨X7,S7,q7⟩:=S5.appl HZ2.out I7 g7 (hg7.imp id (fun e=>by omega));have F7:=((F5.alloc (.cells #[.int .i8 98] 29)).grown g7 (fun k e hk=>ho5 k (.inr (map_of_ownW e)) hk)).setCell (p:=⟨w.heap.size,2,none⟩) (fun h=>absurd h (Nat.lt_irrefl _)) (.slice (some ⟨g2,0,none⟩) (m1+1) cap2);rw[HZ2.out]
       have ho7: ∀k,Own2 (some ⟨g,0,none⟩) (some ⟨g2,0,none⟩) k→k<w.heap.size→Own2 cA lA k:=fun k hk hkw=>by
        rcases hk with hk|hk
        ·exact ho5 _ (.inl hk) hkw
        ·have e:g2=k:=by simpa using hk
         subst e
         rcases q7 with q|q
         ·exact ho5 _ (.inr q) hkw
         ·have:=F5.size;omega
       clear x0 x1 x2 xf xl S5 F5 ho5 I7 hg7 I2;obtain⟨y0,y1,y2,yf,yl⟩:=X7.c3;clear g7 X7;go_wp2
       go_roundg (40-(j+1))
       case rel=>exact⟨j+1,_,_,n1+1,m1+1,cap,cap2,by have:=HJ.out;omega,by go_num,by omega,by omega,S7,ho7,F7⟩
       case measure=>have:=HJ.out;omega
      ·clear HJ;go_wp2
       go_end0
       exact⟨rfl,F⟩
end
section
attribute [local go_sem] Oper.semAt_some
theorem fit_ok (w:World)(n:Int):Calls Tryz.prog 17 #[.int .i64 n] w fun r w'=>r= .returned (.bool (decide (n≤1500)))∧w=w':=by
 go_enter Tryz.func17,Tryz.ntmps17
 go_wp2;go_ret;exact⟨rfl,rfl⟩
theorem RdInts.offW {w w':World}{B:Nat}{k:IntKind}{A:Option Addr}{l:List Int}{F:Nat→Prop}(h:RdInts w B k A l)(hf:Frm F w w')(hF: ∀j,F j→A.map (fun a=>a.block)≠some j):RdInts w' B k A l:=h.frmA hf (fun b off e hb=>hF b hb (by rw[e];rfl))
theorem held_ok {w:World}{B B1 B2 B3 B4 na ma nb mb nw mw k1 k2 k3 k4 k5 k6:Nat}{cA lA cB lB cW lW:Option Addr}{ba bb bw:Int}{ca la cb lb cw lw:List Int}
 (h1:na=ca.length) (h2:ma=la.length) (h3:nb=cb.length) (h4:mb=lb.length) (h5:nw=cw.length) (h6:mw=lw.length)
 (hI:Ints w B 22 .u8 (.slice cA na k1) ca) (hJ:Ints w B 29 .i8 (.slice lA ma k2) la)
 (hne: ∀j,(Value.slice cA na k1).ownBlock=some j→(Value.slice lA ma k2).ownBlock≠some j) (hB:B≤w.heap.size)
 (b1:RdInts w B1 .u8 cB cb) (b2:RdInts w B2 .i8 lB lb) (c1:RdInts w B3 .u8 cW cw) (c2:RdInts w B4 .i8 lW lw)
 (hd: ∀k,Own2 cA lA k→cB.map (fun a=>a.block)≠some k∧lB.map (fun a=>a.block)≠some k∧cW.map (fun a=>a.block)≠some k∧lW.map (fun a=>a.block)≠some k)
 (s1:na≤8388608) (s2:ma≤8388608) (s3:nb≤8388608) (s4:mb≤8388608):
 Calls Tryz.prog 20 #[.agg #[.int .i8 ba,.slice cA na k1,.slice lA ma k2],.agg #[.int .i8 bb,.slice cB nb k3,.slice lB mb k4],.agg #[.int .i8 bw,.slice cW nw k5,.slice lW mw k6]] w fun r w'=>r= .returned (.bool (sameX (ba,ca,la) (bw,cw,lw) && sameX (bb,cb,lb) (bw,cw,lw)))∧Frm (Own2 cA lA) w w':=by
 obtain⟨W,hW⟩: ∃W,((w.alloc (.cells #[.int .i8 ba,.slice cA na k1,.slice lA ma k2] 33)).alloc (.cells #[.int .i8 bb,.slice cB nb k3,.slice lB mb k4] 33)).alloc (.cells #[.int .i8 bw,.slice cW nw k5,.slice lW mw k6] 33)=W:=⟨_,rfl⟩
 have X:Blk W w.heap.size 33 #[.int .i8 ba,.slice cA na k1,.slice lA ma k2]:=by rw[←hW];exact((Blk.new w 33 _).alloc _).alloc _
 have Y:Blk W (w.heap.size+1) 33 #[.int .i8 bb,.slice cB nb k3,.slice lB mb k4]:=by rw[←hW];exact(Blk.at_ (by simp)).alloc _
 have Z:Blk W (w.heap.size+1+1) 33 #[.int .i8 bw,.slice cW nw k5,.slice lW mw k6]:=by rw[←hW];exact Blk.at_ (by simp)
 have a1:Aft w W:=by rw[←hW];exact(((Aft.refl w).alloc _).alloc _).alloc _
 have hI1:=hI.aft a1;have hJ1:=hJ.aft a1
 have hlc: ∀j,Own2 cA lA j→j<w.heap.size:=fun j hj=>by
  rcases hj with e|e
  ·exact(hI.lt j (by rw[own_slice];exact e)).2
  ·exact(hJ.lt j (by rw[own_slice];exact e)).2
 have C1:=fun(V:World) (hV:Aft w V)=>sameR_ok (cc:=k1) (lc:=k2) (cc':=k5) (lc':=k6) (b:=ba) (b':=bw) h1 h2 h5 h6 (hI.rd.aft hV) (hJ.rd.aft hV) (c1.clip.aft hV) (c2.clip.aft hV) (by omega) (by omega);have C2:=fun(V:World) (hV:Frm (Own2 cA lA) w V)=>sameR_ok (cc:=k3) (lc:=k4) (cc':=k5) (lc':=k6) (b:=bb) (b':=bw) h3 h4 h5 h6 (b1.offW hV (fun j hj=>(hd j hj).1)) (b2.offW hV (fun j hj=>(hd j hj).2.1)) (c1.offW hV (fun j hj=>(hd j hj).2.2.1)) (c2.offW hV (fun j hj=>(hd j hj).2.2.2)) (by omega) (by omega);have CSp:=fun(V:World) (hV:Aft w V)=>spoil_ok (base:=ba) h1.symm h2.symm (hI.aft hV) (hJ.aft hV) hne s1 s2 (Nat.le_trans hB hV.size);obtain⟨p,hp⟩: ∃p,sameX (ba,ca,la) (bw,cw,lw)=p:=⟨_,rfl⟩;obtain⟨q,hq⟩: ∃q,sameX (bb,cb,lb) (bw,cw,lw)=q:=⟨_,rfl⟩;rw[hp]at C1⊢;rw[hq]at C2⊢;obtain⟨x0,x1,x2,xf,xl⟩:=X.c3;obtain⟨y0,y1,y2,yf,yl⟩:=Y.c3;obtain⟨z0,z1,z2,zf,zl⟩:=Z.c3;clear hp hq h1 h2 h3 h4 h5 h6 hI hJ hne b1 b2 c1 c2 hd
 rcases p with _|_
 ·go_enter Tryz.func20,Tryz.ntmps20
  go_upto_region 1 with(fail)
  clear hW
  go_wp2_with(go_at_call 38;refine(C1 _ a1).mono ?_;rintro r2 w2 ⟨rfl,a2⟩)
  go_ret;exact⟨rfl,Frm.of_below (a1.trans a2)⟩
 ·go_enter Tryz.func20,Tryz.ntmps20
  go_upto_region 1 with(fail)
  clear hW
  go_upto_region 3 with(go_at_call 38;refine(C1 _ a1).mono ?_;rintro r2 w2 ⟨rfl,a2⟩)
  have X2:=X.aft a2;have Y2:=Y.aft a2;have Z2:=Z.aft a2;have a12:=a1.trans a2;clear x0 x1 x2 xf xl y0 y1 y2 yf yl z0 z1 z2 zf zl X Y Z;obtain⟨x0,x1,x2,xf,xl⟩:=X2.c3
  go_upto_region 4 with(go_at_call 39;refine(CSp _ a12).mono ?_;rintro r3 w3 ⟨rfl,F3⟩)
  have Y3:=Y2.frm F3 (fun h=>by have:=hlc _ h;omega);have Z3:=Z2.frm F3 (fun h=>by have:=hlc _ h;omega);have F13:Frm (Own2 cA lA) w w3:=(Frm.of_below a12).trans F3 (fun _ _ h=>h);clear x0 x1 x2 xf xl X2 Y2 Z2 C1 CSp;obtain⟨y0,y1,y2,yf,yl⟩:=Y3.c3;obtain⟨z0,z1,z2,zf,zl⟩:=Z3.c3
  go_wp2_with(go_at_call 38;refine(C2 _ F13).mono ?_;rintro r4 w4 ⟨rfl,a4⟩)
  go_ret;exact⟨by cases q<;>rfl,F13.trans (Frm.of_below (F:=Own2 cA lA) a4) (fun _ _ h=>h)⟩
end
end Go.Proofs.YtllolnkkepacjaaGreat
