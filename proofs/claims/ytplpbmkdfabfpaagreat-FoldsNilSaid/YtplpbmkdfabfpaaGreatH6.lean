/- A sequence of some runs: what the program makes of runs. Check walked. Sequences compared and copied: what the library's own functions do. Same and Copy walked. Copy walked. What a drawn region's steps leave as it was: for go_region_held3. -/
import Derived.Test.YtplpbmkdfabfpaaGreatT4
import Derived.WalkLawsBesides
set_option maxRecDepth 100000
set_option maxHeartbeats 4000000
namespace Go.Proofs.YtplpbmkdfabfpaaGreat
open Go.RowKit
section
attribute [local go_sem] Oper.semAt_some
theorem results_row0 {P:Program}{fn:Func}{p:Tmp}{ty:TypeId}(h:fn.results=#[.cell p ty])(tmps:Array Value)(w:World)(g:Nat)(t:TypeId)(cs:Array Value)(d:TypeDesc)
 (hp:tmps.getD p undef= .pointer (some ⟨g,0,none⟩)) (hg:Blk w g t cs)
 (hu:P.underlying ty=some d) (hd:(match d with|.struct _|.array _ _=>true|_=>false)=true) (hi:(P.info? ty).map (·.size)=some cs.size):
 (results fn tmps).run P w= .ok (.agg cs) w:=by
 have hp':tmps[p]?.getD undef= .pointer (some ⟨g,0,none⟩):=by simpa using hp
 simp[results,h,hp',asAddr,run_loadVar_row w g t ty cs (0,0) d hg hu hd hi]
structure SqR (D:Nat) (lv:Int) (wr:World) (ps cs:List Int) (pv cv:Value):Prop where
 blk:Blk wr (D+1) 92 #[pv,cv,.int .i8 lv,.int .u8 0,.int .u8 0]
 res:Blk wr D 92 #[.slice none 0 0,.slice none 0 0,.int .i8 0,.int .u8 0,.int .u8 0]
 I:Ints wr (D+2) 3 .i64 pv ps
 J:Ints wr (D+2) 22 .u8 cv cs
 ne: ∀j,pv.ownBlock=some j→cv.ownBlock≠some j
theorem SqR.alloc {D:Nat}{lv:Int}{wr:World}{ps cs:List Int}{pv cv:Value}(h:SqR D lv wr ps cs pv cv)(o:Obj):SqR D lv (wr.alloc o) ps cs pv cv:=⟨h.blk.alloc o,h.res.alloc o,h.I.alloc o,h.J.alloc o,h.ne⟩
theorem SqR.drew {D:Nat}{lv:Int}{wr:World}{ps cs:List Int}{pv cv:Value}(h:SqR D lv wr ps cs pv cv):SqR D lv wr.drew ps cs pv cv:=⟨h.blk,h.res,h.I,h.J,h.ne⟩
theorem SqR.step1 {D:Nat}{lv:Int}{wr:World}{ps cs:List Int}{pv cv:Value}(h:SqR D lv wr ps cs pv cv){o:Obj}{w3:World}{g n cap:Nat}{y:Int}(I3:Ints w3 (D+2) 3 .i64 (.slice (some ⟨g,0,none⟩) n cap) (ps++[y]))
 (g3:(wr.alloc o).grownBy w3 pv.ownBlock) (hg:pv.ownBlock=some g∨g=wr.heap.size+1):SqR D lv (w3.setCell ⟨D+1,0,none⟩ (.slice (some ⟨g,0,none⟩) n cap)) (ps++[y]) cs (.slice (some ⟨g,0,none⟩) n cap) cv:=by
 have hf:=(Frm.refl (fun k=>k=D+1) w3).set (b:=D+1) (j:=0) rfl (.slice (some ⟨g,0,none⟩) n cap)
 have e1:some (D+1)≠pv.ownBlock:=fun e=>by have:=(h.I.lt _ e.symm).1;omega
 have e0:some D≠pv.ownBlock:=fun e=>by have:=(h.I.lt _ e.symm).1;omega
 refine⟨by simpa using((h.blk.alloc o).grown g3 e1).set_ 0 _,((h.res.alloc o).grown g3 e0).frm hf (by omega),I3.frm hf (fun j e=>by have:=(I3.lt j e).1;omega),((h.J.alloc o).kept g3 ?_).frm hf (fun j e=>by have:=(h.J.lt j e).1;omega),?_⟩
 ·rcases hc:cv.ownBlock with _|j
  ·exact .inl rfl
  ·right;intro e;exact h.ne j e.symm hc
 ·intro j e
  have:g=j:=by simpa[Value.ownBlock]using e
  subst this
  rcases hg with e|e
  ·exact h.ne g e
  ·intro e2;have:=(h.J.lt _ e2).2;omega
theorem SqR.step2 {D:Nat}{lv:Int}{wr:World}{ps cs:List Int}{pv cv:Value}(h:SqR D lv wr ps cs pv cv){o:Obj}{w3:World}{g n cap:Nat}{y:Int}(J3:Ints w3 (D+2) 22 .u8 (.slice (some ⟨g,0,none⟩) n cap) (cs++[y]))
 (g3:(wr.alloc o).grownBy w3 cv.ownBlock) (hg:cv.ownBlock=some g∨g=wr.heap.size+1):SqR D lv (w3.setCell ⟨D+1,1,none⟩ (.slice (some ⟨g,0,none⟩) n cap)) ps (cs++[y]) pv (.slice (some ⟨g,0,none⟩) n cap):=by
 have hf:=(Frm.refl (fun k=>k=D+1) w3).set (b:=D+1) (j:=1) rfl (.slice (some ⟨g,0,none⟩) n cap)
 have e1:some (D+1)≠cv.ownBlock:=fun e=>by have:=(h.J.lt _ e.symm).1;omega
 have e0:some D≠cv.ownBlock:=fun e=>by have:=(h.J.lt _ e.symm).1;omega
 refine⟨by simpa using((h.blk.alloc o).grown g3 e1).set_ 1 _,((h.res.alloc o).grown g3 e0).frm hf (by omega),((h.I.alloc o).kept g3 ?_).frm hf (fun j e=>by have:=(h.I.lt j e).1;omega),J3.frm hf (fun j e=>by have:=(J3.lt j e).1;omega),?_⟩
 ·rcases hc:pv.ownBlock with _|j
  ·exact .inl rfl
  ·right;intro e;exact h.ne j hc e.symm
 ·intro j e e2
  have:g=j:=by simpa[Value.ownBlock]using e2
  subst this
  rcases hg with e3|e3
  ·exact h.ne g e e3
  ·have:=(h.I.lt _ e).2;omega
theorem Blk.app {wr w3:World}{b d j:Nat}{t:TypeId}{cs:Array Value}{row:Option Nat}{o:Obj}{u:Value}(h:Blk wr b t cs)(g3:(wr.alloc o).grownBy w3 row)(h1:row≠some b)(h2:b≠d):Blk (w3.setCell ⟨d,j,none⟩ u) b t cs:=((h.alloc o).grown g3 (Ne.symm h1)).far (p:=⟨d,j,none⟩) h2 u
theorem below_app {w wr w3:World}{D d j:Nat}{row:Option Nat}{o:Obj}{u:Value}(h:Below D w wr)(hD:D≤wr.heap.size)(g3:(wr.alloc o).grownBy w3 row)(h1: ∀k,row=some k→D≤k)(h2:D≤d):Below D w (w3.setCell ⟨d,j,none⟩ u):=((h.alloc hD o).grown g3 (by simp;omega) h1).setCell (p:=⟨d,j,none⟩) h2 u
theorem rangeP_mem {cl:List Int}{f:Nat}: ∀{k:Nat} {y:Int},y∈rangeP cl f k↔ ∃a:Nat,y=a∧f≤a∧a<f+k∧remC (cl.getD a 0)=false
 |0,y=>by simp[rangeP];omega
 |k+1,y=>by
  unfold rangeP;have ih:= @rangeP_mem cl f k y
  by_cases h:remC (cl.getD (f+k) 0)=true
  ·rw[if_pos h,ih];constructor
   ·rintro⟨a,e,h0,h1,h2⟩;exact⟨a,e,h0,by omega,h2⟩
   ·rintro⟨a,e,h0,h1,h2⟩;refine⟨a,e,h0,?_,h2⟩
    have:a≠f+k:=by rintro rfl;rw[h]at h2;cases h2
    omega
  ·rw[if_neg h,List.mem_append,ih];constructor
   ·rintro(⟨a,e,h0,h1,h2⟩|h1)
    ·exact⟨a,e,h0,by omega,h2⟩
    ·rw[List.mem_singleton]at h1;exact⟨f+k,h1,by omega,by omega,by simpa using h⟩
   ·rintro⟨a,e,h0,h1,h2⟩
    by_cases hk:a=f+k
    ·right;rw[List.mem_singleton,e,hk]
    ·left;exact⟨a,e,h0,by omega,h2⟩
theorem seqP_mem {cl:List Int}{rs:List Rn}{y:Int}:y∈seqP cl rs↔ ∃r∈rs,∃a:Nat,y=a∧r.f≤a∧a<r.t∧remC (cl.getD a 0)=false:=by
 unfold seqP runP;rw[List.mem_flatMap];constructor
 ·rintro⟨r,hr,h⟩;obtain⟨a,e,h0,h1,h2⟩:=rangeP_mem.1 h;exact⟨r,hr,a,e,h0,by omega,h2⟩
 ·rintro⟨r,hr,a,e,h0,h1,h2⟩;exact⟨r,hr,rangeP_mem.2 ⟨a,e,h0,by omega,h2⟩⟩
theorem seqP_at {cl:List Int}{rs:List Rn}{n:Nat}(hrs: ∀i,i<rs.length→(rs.getD i default).t≤n){k:Nat}(hk:k<(seqP cl rs).length): ∃a:Nat,(seqP cl rs).getD k 0=a∧a<n:=by
 have hm:(seqP cl rs).getD k 0∈seqP cl rs:=by rw[List.getD_eq_getElem?_getD,List.getElem?_eq_getElem hk];exact List.getElem_mem hk
 obtain⟨r,hr,a,e,_,h1,_⟩:=seqP_mem.1 hm;obtain⟨i,hi,rfl⟩:=List.getElem_of_mem hr;have:=hrs i hi;rw[List.getD_eq_getElem?_getD,List.getElem?_eq_getElem hi]at this;exact⟨a,e,Nat.lt_of_lt_of_le h1 this⟩
theorem SqR.finish {D:Nat}{l0:Int}{w X:World}{ps cs:List Int}{pv cv:Value}{so eo:Int}(h:SqR D l0 X ps cs pv cv)(b:Below D w X){W:World}
 (hW:W=((((((X.setCell ⟨D+1,3,none⟩ (.int .u8 so)).setCell ⟨D+1,4,none⟩ (.int .u8 eo)).setCell ⟨D,0,none⟩ pv).setCell ⟨D,1,none⟩ cv).setCell ⟨D,2,none⟩ (.int .i8 l0)).setCell ⟨D,3,none⟩ (.int .u8 so)).setCell ⟨D,4,none⟩ (.int .u8 eo)):
 Blk W D 92 #[pv,cv,.int .i8 l0,.int .u8 so,.int .u8 eo]∧Ints W D 3 .i64 pv ps∧Ints W D 22 .u8 cv cs∧Below D w W:=by
 have F:Frm (fun k=>k=D∨k=D+1) X W:=by rw[hW];exact((((((((Frm.refl _ X).set (.inr rfl) _).set (.inr rfl) _).set (.inl rfl) _).set (.inl rfl) _).set (.inl rfl) _).set (.inl rfl) _).set (.inl rfl) _)
 refine⟨?_,(h.I.frm F (fun j e=>by have:=(h.I.lt j e).1;omega)).base (fun j e=>by have:=((h.I.frm F (fun j e=>by have:=(h.I.lt j e).1;omega)).lt j e).1;omega),
  (h.J.frm F (fun j e=>by have:=(h.J.lt j e).1;omega)).base (fun j e=>by have:=((h.J.frm F (fun j e=>by have:=(h.J.lt j e).1;omega)).lt j e).1;omega),?_⟩
 ·rw[hW];have:=(((((((h.res.far (p:=⟨D+1,3,none⟩) (by simp) (.int .u8 so)).far (p:=⟨D+1,4,none⟩) (by simp) (.int .u8 eo)).set_ 0 pv).set_ 1 cv).set_ 2 (.int .i8 l0)).set_ 3 (.int .u8 so)).set_ 4 (.int .u8 eo))
  simpa using this
 ·rw[hW];exact((((((b.setCell (by simp) _).setCell (by simp) _).setCell (by simp) _).setCell (by simp) _).setCell (by simp) _).setCell (by simp) _).setCell (by simp) _
theorem sequence_ok {w:World}{tb:Nat}{x:Txt}{n m:Nat}{A0 A1 A2 A4 A5 A6:Option Addr}{c0 c1 c2 c4 c5 c6:Nat}(h:TextAt w tb x n m A0 A1 A2 A4 A5 A6 c0 c1 c2 c4 c5 c6)
 (hcl:n=x.cl.length) (hnw:n=x.nw.length) (hlv:n=x.lv.length) (hix:n=x.ix.length) (hmt:n=x.mt.length) (hm:m=x.ks.length)
 (hks: ∀k,k<m→ ∃a:Nat,x.ks.getD k 0=a∧a<n) (hixb: ∀a,a<n→0≤x.ix.getD a 0∧x.ix.getD a 0≤8388608)
 {B nr c:Nat} {A:Option Addr} {rs:List Rn} (hnr:nr=rs.length) (hr:RdRuns w B A rs) (hr0:0<nr) (hnb:nr≤8388608) (hrs: ∀i,i<nr→(rs.getD i default).t≤n) (htot:totT rs rs.length≤8388608) (hn8:n≤8388608) (hne:0<(seqP x.cl rs).length):
 Calls Tryz.prog 84 #[.pointer (some ⟨tb,0,none⟩),.slice A nr c] w fun r w'=> ∃pv cv,r= .returned (.agg ((seqOf x rs).is pv cv))∧Ints w' w.heap.size 3 .i64 pv (seqOf x rs).pl∧Ints w' w.heap.size 22 .u8 cv (seqOf x rs).cs∧
  (∀j,pv.ownBlock=some j→cv.ownBlock≠some j)∧Below w.heap.size w w':=by
 obtain⟨x0,x1,x2,x3,x4,x5,x6,xf,xl⟩:=h.blk.c7;have HCL:=Lib.hid hcl;have HNW:=Lib.hid hnw;have HLV:=Lib.hid hlv;have HIX:=Lib.hid hix;have HMT:=Lib.hid hmt;have HM:=Lib.hid hm;have HNR:=Lib.hid hnr;have HTOT:=Lib.hid htot;have HNE:=Lib.hid hne;clear hcl hnw hlv hix hmt hm hnr htot hne;obtain⟨rb,ro,rfl,hrB,hrb,r0,r1,r2⟩:=hr.at_ (i:=0) (by have:=HNR.out;omega);rw[Nat.zero_mul,Nat.add_zero]at r0 r1 r2;obtain⟨l0,hl0⟩: ∃l0,(rs.getD 0 default).v=l0:=⟨_,rfl⟩;rw[hl0]at r2;have HL0:=Lib.hid hl0;clear hl0 r0 r1
 go_enter Tryz.func84,Tryz.ntmps84
 go_wp2
 go_loopg [19] nr (fun gk iv wr=> ∃i:Nat,i+gk=nr∧iv= .int .i64 i∧ ∃pv cv,SqR w.heap.size l0 wr (seqT x.cl rs i) (clsP x.nw (seqT x.cl rs i)) pv cv∧Below w.heap.size w wr)
 case atStart=>
  refine⟨0,by omega,rfl,.slice none 0 0,.slice none 0 0,⟨?_,?_,Ints.nil _ _ _ _,Ints.nil _ _ _ _,by simp[Value.ownBlock]⟩,?_⟩
  ·have:=Blk.new (w.alloc (.cells #[.slice none 0 0,.slice none 0 0,.int .i8 0,.int .u8 0,.int .u8 0] 92)) 92 #[.slice none 0 0,.slice none 0 0,.int .i8 l0,.int .u8 0,.int .u8 0]
   rwa [World.size_alloc]at this
  ·exact(Blk.new w 92 _).alloc _
  ·exact((Below.refl _ _).alloc (Nat.le_refl _) _).alloc (by simp) _
 case round=>
  clear r2;obtain⟨i,hi,rfl,pv,cv,hS,hb⟩:=hrel;have HI:=Lib.hid hi;clear hi
  by_cases hlt:i<nr
  ·have h0:=h.below hb (Nat.le_refl _);obtain⟨b',o',e,_,hbs',d0,d1,d2⟩:=(RdRuns.below hr hb (.inr (Nat.le_refl _))).at_ (i:=i) (by have:=HNR.out;omega)
   injection e with e
   injection e with e1 e2
   subst e1 e2;have hrt:=hrs i hlt;obtain⟨r,hr'⟩: ∃r,rs.getD i default=r:=⟨_,rfl⟩;rw[hr']at d0 d1 d2 hrt
   have hstep:seqT x.cl rs (i+1)=seqT x.cl rs i++rangeP x.cl r.f (r.t-r.f):=by
    have hi':i<rs.length:=by rw[←HNR.out];exact hlt
    rw[seqT_succ _ hi',←hr',List.getD_eq_getElem?_getD,List.getElem?_eq_getElem hi'];rfl
   have htt:(seqT x.cl rs i).length+(r.t-r.f)≤8388608:=by
    have hi':i<rs.length:=by rw[←HNR.out];exact hlt
    have h1:=seqT_length x.cl rs i;have h2:=totT_succ hi'
    have h3:totT rs (i+1)≤8388608:=Nat.le_trans (by
     have:=sum_take_le (rs.map (fun r=>r.t-r.f)) (i+1);have h4:=totT_le rs (i+1)
     exact h4) HTOT.out
    have h5:rs[i]=r:=by rw[←hr',List.getD_eq_getElem?_getD,List.getElem?_eq_getElem hi'];rfl
    rw[h5]at h2;omega
   obtain⟨rf,rt,rv⟩:=r;simp only at d0 d1 d2 hrt hstep htt;generalize hps:seqT x.cl rs i=ps at*;have HS:=Lib.hid hstep;have HTT:=Lib.hid htt;clear hstep htt hr' hps;obtain⟨W0,rfl⟩: ∃W0,W0=wr:=⟨_,rfl⟩;obtain⟨q0,q1,q2,q3,q4,qf,ql⟩:=hS.blk.c5;have hbs:=hb.size;have hql:w.heap.size+1<W0.heap.size:=ql;go_wp2
   go_loopg [8] (rt-rf) (fun gk av wr=> ∃j:Nat,j+gk=rt-rf∧av= .int .i64 ((rf+j:Nat):Int)∧ ∃pv cv,SqR w.heap.size l0 wr (ps++rangeP x.cl rf j) (clsP x.nw (ps++rangeP x.cl rf j)) pv cv∧Below w.heap.size w wr∧
    Blk wr W0.heap.size 166 #[.int .i64 rf,.int .i64 rt,.int .i8 rv]∧pv.ownBlock≠some W0.heap.size∧cv.ownBlock≠some W0.heap.size)
   case atStart=>
    refine⟨0,by omega,rfl,pv,cv,by simpa[rangeP]using hS.alloc _,hb.alloc hbs _,Blk.new _ _ _,?_,?_⟩
    ·intro e;have:=(hS.I.lt _ e).2;omega
    ·intro e;have:=(hS.J.lt _ e).2;omega
   case round=>
    clear hS q0 q1 q2 q3 q4 qf ql d0 d1 d2 hbs' h0;obtain⟨j,hj,rfl,pv,cv,hS,hb2,hR,hp,hc⟩:=hrel;have HJ:=Lib.hid hj;clear hj;have hbs2:=hb2.size;obtain⟨q0,q1,q2,q3,q4,qf,ql⟩:=hS.blk.c5;obtain⟨t0,t1,t2,tf,tl⟩:=hR.c3
    by_cases hlt2:rf+j<rt
    ·have h1:=h.below hb2 (Nat.le_refl _);obtain⟨y0,y1,y2,y3,y4,y5,y6,yf,yl⟩:=h1.blk.c7;obtain⟨b0,o0,rfl,_,hb0,k0⟩:=h1.cl.at_ (i:=rf+j) (by have:=HCL.out;omega);obtain⟨b1,o1,rfl,_,hb1,k1⟩:=h1.nw.at_ (i:=rf+j) (by have:=HNW.out;omega)
     have hN:rangeP x.cl rf (j+1)=if remC (x.cl.getD (rf+j) 0)=true then rangeP x.cl rf j else rangeP x.cl rf j++[((rf+j:Nat):Int)]:=rfl
     have hl:=rangeP_length x.cl rf j
     have hcc:clsP x.nw (ps++(rangeP x.cl rf j++[((rf+j:Nat):Int)]))=clsP x.nw (ps++rangeP x.cl rf j)++[clsC (x.nw.getD (rf+j) 0)]:=by rw[←List.append_assoc,clsP_snoc];rfl
     have hcn:=clsP_length x.nw (ps++rangeP x.cl rf j);generalize x.cl.getD (rf+j) 0=cx at k0 hN;generalize hnx:x.nw.getD (rf+j) 0=nx at k1 hcc;have HNX:=Lib.hid hnx;clear hnx;generalize hps2:ps++rangeP x.cl rf j=ps2 at*;generalize hcs2:clsP x.nw ps2=cs2 at*
     have hpl:ps2.length<8388608:=by rw[←hps2,List.length_append];have:=HTT.out;omega
     have HN:=Lib.hid hN;have HCC:=Lib.hid hcc;have HPS2:=Lib.hid hps2;have HCS2:=Lib.hid hcs2;clear hN hcc hps2 hcs2 hl
     by_cases hrem:remC cx=true
     ·go_wp2_with(go_at_call 53;refine(Removed_ok _ _).mono ?_;rintro r1 w1 ⟨rfl,rfl⟩)
      go_roundg (rt-rf-(j+1))
      case rel=>exact⟨j+1,by have:=HJ.out;omega,by go_num,pv,cv,by rw[HN.out,if_pos hrem,HPS2.out,HCS2.out];exact hS,hb2,hR,hp,hc⟩
      case measure=>have:=HJ.out;omega
     ·have hrem:remC cx=false:=by simpa using hrem
      obtain⟨pA,pc,rfl,_,_,_⟩:=hS.I.val;obtain⟨cA,cc,rfl,_,_,_⟩:=hS.J.val;rw[hcn]at hS hc q1
      go_wp2_with(first
       |(go_at_call 53;refine(Removed_ok _ _).mono ?_;rintro r1 w1 ⟨rfl,rfl⟩)
       |(at_builtin;go_must (refine wpList_appI ei24 rfl rfl rfl (hS.I.alloc _) rfl (Blk.at_ (by simp)) ?_ ?_ ?_ ?_)))
      ·unfold maxLen;omega
      ·omega
      ·simp;omega
      intro g cap w3 I3 g3 hg;have S4:=hS.step1 I3 g3 (by simpa using hg);have b4:=below_app (d:=w.heap.size+1) (j:=0) (u:=.slice (some ⟨g,0,none⟩) (ps2.length+1) cap) hb2 hbs2 g3 (fun k e=>by have:=(hS.I.lt k e).1;omega) (by omega);have R4:=hR.app (d:=w.heap.size+1) (j:=0) (u:=.slice (some ⟨g,0,none⟩) (ps2.length+1) cap) g3 hp (by omega)
      have hp4:(Value.slice (some ⟨g,0,none⟩) (ps2.length+1) cap).ownBlock≠some W0.heap.size:=by
       intro e
       have e:g=W0.heap.size:=by simpa[Value.ownBlock]using e
       subst e
       rcases hg with e|e
       ·exact hp e
       ·have:W0.heap.size=wr.heap.size+1:=by simpa using e
        omega
      obtain⟨w0c,w0f,w0l⟩:(∀{a:Addr},True)∧(w3.frozen? ⟨w.heap.size+1,0,none⟩=false)∧True:=⟨fun{_}=>trivial,(((hS.blk.alloc _).grown g3 (fun e=>by have:=(hS.I.lt _ e.symm).1;omega)).frozen 0),trivial⟩
      have w0c:w3.cell? ⟨w.heap.size+1,0,none⟩=some (Value.slice pA ps2.length pc):=by rw[((hS.blk.alloc _).grown g3 (fun e=>by have:=(hS.I.lt _ e.symm).1;omega)).cell];rfl
      clear hS hb2 hR hp q0 q1 q2 q3 q4 qf ql t0 t1 t2 tf tl y0 y1 y2 y3 y4 y5 y6 yf yl k0 k1 h1;go_wp2;generalize w3.setCell ⟨w.heap.size+1,0,none⟩ (.slice (some ⟨g,0,none⟩) (ps2.length+1) cap)=w4 at*;obtain⟨q0,q1,q2,q3,q4,qf,ql⟩:=S4.blk.c5;have h1:=h.below b4 (Nat.le_refl _);obtain⟨y0,y1,y2,y3,y4,y5,y6,yf,yl⟩:=h1.blk.c7;obtain⟨b',o',e,_,hb1,k1⟩:=h1.nw.at_ (i:=rf+j) (by have:=HNW.out;omega)
      injection e with e
      injection e with e1 e2
      subst e1 e2;rw[HNX.out]at k1;have hs4:=b4.size;clear g3 I3 hg w0f w0c w0l
      have hi0:(0:Int)≤(rf:Int)+(j:Int):=by omega
      have hi1:(rf:Int)+(j:Int)<(n:Int):=by omega
      have hi2:((rf:Int)+(j:Int)).toNat=rf+j:=by omega
      go_region_law (first
       |(go_simp;go_at_call 103;refine(known_ok _ _).mono ?_;rintro r1 w1 ⟨rfl,rfl⟩)
       |(refine step_appI (v:=.slice cA ps2.length cc) ei22 rfl (.tmp 46) (.tmp 55) rfl rfl (S4.alloc _).drew.J rfl (Blk.at_ (w:=w4) (by simp)).drew (by unfold maxLen;omega) (by omega) (by simp;omega) ?_
         intro g2 cap2 w5 J5 g5 hg5;have B5:=(S4.alloc _).drew.blk.grown g5 (fun e=>by have:=(S4.J.lt _ e.symm).1;omega);have w5f:=B5.frozen 1;have w5c:=B5.cell 1
         rw[hcn]at J5⊢))
      all_goals
       have hg5:(Value.slice cA ps2.length cc).ownBlock=some g2∨g2=w4.heap.size+1:=by simpa using hg5
       have S6:=S4.drew.step2 J5 g5 hg5;have b6:=below_app (d:=w.heap.size+1) (j:=1) (u:=.slice (some ⟨g2,0,none⟩) (ps2.length+1) cap2) b4.drew hs4 g5 (fun k e=>by have:=(S4.J.lt k e).1;omega) (by omega);have R6:=(R4.drew).app (d:=w.heap.size+1) (j:=1) (u:=.slice (some ⟨g2,0,none⟩) (ps2.length+1) cap2) g5 hc (by omega)
       have hc6:(Value.slice (some ⟨g2,0,none⟩) (ps2.length+1) cap2).ownBlock≠some W0.heap.size:=by
        intro e
        have e:g2=W0.heap.size:=by simpa[Value.ownBlock]using e
        subst e;have:=R4.lt
        rcases hg5 with e|e
        ·exact hc e
        ·omega
       clear S4 b4 R4 q0 q1 q2 q3 q4 qf ql y0 y1 y2 y3 y4 y5 y6 yf yl k1 h1 w5f w5c J5 g5 B5;go_wp2
       go_roundg (rt-rf-(j+1))
       case rel=>refine⟨j+1,by have:=HJ.out;omega,by go_num,_,_,?_,b6,R6,hp4,hc6⟩;rw[HN.out,hrem,if_neg (by simp),HCC.out,←List.append_assoc,HPS2.out];exact S6
       case measure=>have:=HJ.out;omega
    ·go_wp2
     go_roundg (nr-(i+1))
     case rel=>
      have hjj:j=rt-rf:=by have:=HJ.out;omega
      subst hjj;exact⟨i+1,by have:=HI.out;omega,by go_num,pv,cv,by rw[HS.out];exact hS,hb2⟩
     case measure=>have:=HI.out;omega
  ·have hin:i=nr:=by have:=HI.out;omega
   subst hin
   have hsq:seqT x.cl rs i=seqP x.cl rs:=by rw[HNR.out];unfold seqT seqP;rw[List.take_length]
   rw[hsq]at hS;clear hlt hsq HI hr;have hlen8:(seqP x.cl rs).length≤8388608:=Nat.le_trans (by have:=seqT_length x.cl rs rs.length;unfold seqT at this;rwa [List.take_length]at this) HTOT.out;obtain⟨a0,ha0,ha0n⟩:=seqP_at (cl:=x.cl) (n:=n) (rs:=rs) (fun k hk=>hrs k (by rw[HNR.out];exact hk)) (k:=0) HNE.out;obtain⟨a1,ha1,ha1n⟩:=seqP_at (cl:=x.cl) (n:=n) (rs:=rs) (fun k hk=>hrs k (by rw[HNR.out];exact hk)) (k:=(seqP x.cl rs).length-1) (by have:=HNE.out;omega)
   have hval:seqOf x rs=⟨seqP x.cl rs,clsP x.nw (seqP x.cl rs),l0,wayL (max l0 (lvK x (x.ix.getD a0 0-1))),wayL (max l0 (if(begI (x.cl.getD a1 0) && (x.mt.getD a1 0==(n:Int)))=true then x.base else lvK x (x.ix.getD a1 0+1)))⟩:=by unfold seqOf sqOf behindL;rw[HL0.out,ha0,ha1,←HCL.out];rfl
   generalize hps:seqP x.cl rs=ps at*;generalize hcs:clsP x.nw ps=cs at*;obtain⟨g,cap,rfl⟩:=hS.I.form HNE.out;obtain⟨-,p1,p2,p3,p4,p5,pc⟩:=hS.I.at_;obtain⟨cA,cap2,rfl,_,_,_⟩:=hS.J.val;have k0:=pc 0 HNE.out;have k1:=pc (ps.length-1) (by have:=HNE.out;omega);rw[ha0]at k0;rw[ha1]at k1;have HVAL:=Lib.hid hval;have hN0:0<ps.length:=HNE.out;generalize hN:ps.length=N at*
   have hw1:IntKind.i64.wrap ((N:Int)-1)=((N-1:Nat):Int):=by rw[IntWalk.i64_in _ (by omega)];omega
   have hbs:=hb.size;have h1:=h.below hb (Nat.le_refl _)
   have hlv: ∀(k:Int) (W:World),Below w.heap.size w W→Calls Tryz.prog 110 #[.pointer (some ⟨tb,0,none⟩),.int .i64 k] W fun r w'=>r= .returned (.int .i8 (lvK x k))∧ ∃d,w'=W.drewN d:=fun k W hW=>level_ok (h.below hW (Nat.le_refl _)) HLV.out HM.out hks k
   obtain⟨y0,y1,y2,y3,y4,y5,y6,yf,yl⟩:=h1.blk.c7;obtain⟨b5,o5,rfl,_,hb5w,_⟩:=h.ix.cells (by have:=HIX.out;omega);obtain⟨b',o',e,_,hb5,k5⟩:=h1.ix.cells (by have:=HIX.out;omega)
   injection e with e
   injection e with e1 e2
   subst e1 e2;have k50:=k5 a0 (by have:=HIX.out;omega);have k51:=k5 a1 (by have:=HIX.out;omega);obtain⟨b0,o0,rfl,_,hb0,kc⟩:=h1.cl.at_ (i:=a1) (by have:=HCL.out;omega);obtain⟨b6,o6,rfl,_,hb6,km⟩:=h1.mt.at_ (i:=a1) (by have:=HMT.out;omega);obtain⟨z0,z0'⟩:=hixb a0 ha0n;obtain⟨z1,z1'⟩:=hixb a1 ha1n;generalize x.ix.getD a0 0=i0 at*;generalize x.ix.getD a1 0=i1 at*;generalize x.cl.getD a1 0=cc at*;generalize x.mt.getD a1 0=mm at*;have hw2:IntKind.i64.wrap (i1+1)=i1+1:=IntWalk.i64_in _ (by omega);have hw3:IntKind.i64.wrap (i0-1)=i0-1:=IntWalk.i64_in _ (by omega);obtain⟨q0,q1,q2,q3,q4,qf,ql⟩:=hS.blk.c5;have HN:=Lib.hid hN;clear hval hps hcs pc ha0 ha1 k5 h hN;go_wp2
   go_quiet (fail)
   obtain⟨g1,g2,g3⟩:tb≠w.heap.size+1∧b5≠w.heap.size+1∧True:=⟨by omega,by omega,trivial⟩;have hbd: ∀d,Below w.heap.size w (wr.drewN d):=fun d=>⟨hb.os,hb.tape,hb.output,hb.size,hb.block⟩;generalize hv1:lvK x (i0-1)=v1 at*;generalize hv2:lvK x (i1+1)=v2 at*;have HV1:=Lib.hid hv1;have HV2:=Lib.hid hv2;have hbI:=fun(W:World)=>begI_ok W cc;obtain⟨M1,hM1⟩: ∃M,max l0 v1=M:=⟨_,rfl⟩
   have hM1':(if l0<v1 then v1 else l0)=M1:=by rw[←hM1];omega
   rw[hM1]at HVAL;clear hv1 hv2 hM1;have fin:=fun(d:Nat) (so eo:Int)=>SqR.finish (D:=w.heap.size) (so:=so) (eo:=eo) (X:=wr.drewN d) ⟨hS.blk,hS.res,hS.I,hS.J,hS.ne⟩ (hbd d) rfl;obtain⟨s0,s1,s2,s3,s4,sf,sl⟩:=hS.res.c5
   rcases hcc:begI cc with _|_
   ·rw[hcc]at HVAL hbI;simp only[Bool.false_and,Bool.false_eq_true,if_false]at HVAL;obtain⟨M2,hM2⟩: ∃M,max l0 v2=M:=⟨_,rfl⟩
    have hM2':(if l0<v2 then v2 else l0)=M2:=by rw[←hM2];omega
    rw[hM2]at HVAL;clear hM2
    go_wp2_with(go_at_call 110;refine(hlv _ _ (hbd nq)).mono ?_;rintro r1 w1 ⟨rfl,m1,rfl⟩;rw[HV2.out])
    go_quiet ((go_at_call 83;refine(hbI _).mono ?_;rintro e w9 ⟨rfl,rfl⟩;first|exact⟨rfl,_,rfl⟩|exact⟨rfl,_,World.drewN_drewN.symm⟩))
    go_wp2
    go_region_held3 (fun W=>W.cell? ⟨w.heap.size+1,2,none⟩=some (.int .i8 l0)∧W.cell? ⟨tb,5,none⟩=some (.slice (some ⟨b5,o5,none⟩) n c5)∧W.cell? ⟨b5,o5+a0,none⟩=some (.int .i64 i0)) (first|exact⟨q2,y5,k50⟩|exact⟨(World.cell?_setCell_other _ _ _ _ (by simp)).trans q2,(World.cell?_setCell_other _ _ _ _ (by first|(simp;done)|(simp;omega))).trans y5,(World.cell?_setCell_other _ _ _ _ (by first|(simp;done)|(simp;omega))).trans k50⟩)
     (first
      |(go_at_call 110;refine(hlv _ _ ?_).mono ?_;·exact hbd _
        rintro r1 w1 ⟨rfl,m2,rfl⟩;rw[HV1.out])
      |(go_at_call 63;refine(Way_ok _ _).mono ?_;rintro r1 w1 ⟨rfl,rfl⟩))
    go_wp2_with(go_at_call 63;refine(Way_ok _ _).mono ?_;rintro r1 w1 ⟨rfl,rfl⟩)
    refine bodyPost_ret (results_row0 rfl _ _ w.heap.size 92 _ _ rfl (fin _ _ _).1 Tryz.underlying92 rfl rfl) rfl ?_;rw[HVAL.out];exact⟨_,_,rfl,(fin _ _ _).2.1,(fin _ _ _).2.2.1,hS.ne,(fin _ _ _).2.2.2⟩
   ·rw[hcc]at HVAL hbI;simp only[Bool.true_and]at HVAL
    rcases hmm:(mm==(n:Int))with _|_
    ·rw[hmm]at HVAL;simp only[Bool.false_eq_true,if_false]at HVAL;obtain⟨M2,hM2⟩: ∃M,max l0 v2=M:=⟨_,rfl⟩
     have hM2':(if l0<v2 then v2 else l0)=M2:=by rw[←hM2];omega
     rw[hM2]at HVAL;clear hM2
     go_wp2_with(go_at_call 110;refine(hlv _ _ (hbd nq)).mono ?_;rintro r1 w1 ⟨rfl,m1,rfl⟩;rw[HV2.out])
     go_quiet ((go_at_call 83;refine(hbI _).mono ?_;rintro e w9 ⟨rfl,rfl⟩;first|exact⟨rfl,_,rfl⟩|exact⟨rfl,_,World.drewN_drewN.symm⟩))
     go_wp2
     go_region_held3 (fun W=>W.cell? ⟨w.heap.size+1,2,none⟩=some (.int .i8 l0)∧W.cell? ⟨tb,5,none⟩=some (.slice (some ⟨b5,o5,none⟩) n c5)∧W.cell? ⟨b5,o5+a0,none⟩=some (.int .i64 i0)) (first|exact⟨q2,y5,k50⟩|exact⟨(World.cell?_setCell_other _ _ _ _ (by simp)).trans q2,(World.cell?_setCell_other _ _ _ _ (by first|(simp;done)|(simp;omega))).trans y5,(World.cell?_setCell_other _ _ _ _ (by first|(simp;done)|(simp;omega))).trans k50⟩)
      (first
       |(go_at_call 110;refine(hlv _ _ ?_).mono ?_;·exact hbd _
         rintro r1 w1 ⟨rfl,m2,rfl⟩;rw[HV1.out])
       |(go_at_call 63;refine(Way_ok _ _).mono ?_;rintro r1 w1 ⟨rfl,rfl⟩))
     go_wp2_with(go_at_call 63;refine(Way_ok _ _).mono ?_;rintro r1 w1 ⟨rfl,rfl⟩)
     refine bodyPost_ret (results_row0 rfl _ _ w.heap.size 92 _ _ rfl (fin _ _ _).1 Tryz.underlying92 rfl rfl) rfl ?_;rw[HVAL.out];exact⟨_,_,rfl,(fin _ _ _).2.1,(fin _ _ _).2.2.1,hS.ne,(fin _ _ _).2.2.2⟩
    ·rw[hmm]at HVAL;simp only[if_true]at HVAL;obtain⟨M2,hM2⟩: ∃M,max l0 x.base=M:=⟨_,rfl⟩
     have hM2':(if l0<x.base then x.base else l0)=M2:=by rw[←hM2];omega
     rw[hM2]at HVAL;clear hM2
     go_wp2_with(go_at_call 110;refine(hlv _ _ (hbd nq)).mono ?_;rintro r1 w1 ⟨rfl,m1,rfl⟩;rw[HV2.out])
     go_quiet ((go_at_call 83;refine(hbI _).mono ?_;rintro e w9 ⟨rfl,rfl⟩;first|exact⟨rfl,_,rfl⟩|exact⟨rfl,_,World.drewN_drewN.symm⟩))
     go_wp2
     go_region_held3 (fun W=>W.cell? ⟨w.heap.size+1,2,none⟩=some (.int .i8 l0)∧W.cell? ⟨tb,5,none⟩=some (.slice (some ⟨b5,o5,none⟩) n c5)∧W.cell? ⟨b5,o5+a0,none⟩=some (.int .i64 i0)) (first|exact⟨q2,y5,k50⟩|exact⟨(World.cell?_setCell_other _ _ _ _ (by simp)).trans q2,(World.cell?_setCell_other _ _ _ _ (by first|(simp;done)|(simp;omega))).trans y5,(World.cell?_setCell_other _ _ _ _ (by first|(simp;done)|(simp;omega))).trans k50⟩)
      (first
       |(go_at_call 110;refine(hlv _ _ ?_).mono ?_;·exact hbd _
         rintro r1 w1 ⟨rfl,m2,rfl⟩;rw[HV1.out])
       |(go_at_call 63;refine(Way_ok _ _).mono ?_;rintro r1 w1 ⟨rfl,rfl⟩))
     go_wp2_with(go_at_call 63;refine(Way_ok _ _).mono ?_;rintro r1 w1 ⟨rfl,rfl⟩)
     refine bodyPost_ret (results_row0 rfl _ _ w.heap.size 92 _ _ rfl (fin _ _ _).1 Tryz.underlying92 rfl rfl) rfl ?_;rw[HVAL.out];exact⟨_,_,rfl,(fin _ _ _).2.1,(fin _ _ _).2.2.1,hS.ne,(fin _ _ _).2.2.2⟩
end
section
attribute [local go_sem] Oper.semAt_some
def edgeI (c:Int):Bool:=c==1||c==2
def lastAt (pl:List Int)(i:Nat):Int:=if i=0 then-1 else pl.getD (i-1) 0
def chkAt (s:Sq)(i:Nat):Bool:=decide (s.pl.getD i 0≤lastAt s.pl i)||remC (s.cs.getD i 0)||(clsC (s.cs.getD i 0) !=s.cs.getD i 0)
def chkL (s:Sq):Int:=
 if s.pl.length=0∨s.pl.length≠s.cs.length∨s.lv<0∨126<s.lv∨edgeI s.so=false∨edgeI s.eo=false then 170
 else if(List.range s.pl.length).any (chkAt s)=true then 170 else 0
theorem edge_ok (w:World)(c:Int):Calls Tryz.prog 102 #[.int .u8 c] w fun r w'=>r= .returned (.bool (edgeI c))∧w=w':=by
 go_enter Tryz.func102,Tryz.ntmps102
 go_wp2
 all_goals (go_ret;exact⟨by simp[edgeI, *],rfl⟩)
theorem Check_ok {w:World}{B B2 n n2 c c2:Nat}{A A2:Option Addr}{s:Sq}(hn:n=s.pl.length)(hn2:n2=s.cs.length)(h:RdInts w B .i64 A s.pl)(h2:RdInts w B2 .u8 A2 s.cs)(hl:n≤9223372036854775807):
 Calls Tryz.prog 67 #[.agg (s.is (.slice A n c) (.slice A2 n2 c2))] w fun r w'=>r= .returned (.int .i64 (chkL s))∧Below w.heap.size w w':=by
 have HN:=Lib.hid hn;have HN2:=Lib.hid hn2;obtain⟨pl,cs,lv,so,eo⟩:=s;simp only[Sq.is]at*
 have hbad:(pl.length=0∨pl.length≠cs.length∨lv<0∨126<lv∨edgeI so=false∨edgeI eo=false)→chkL ⟨pl,cs,lv,so,eo⟩=170:=fun h=>by unfold chkL;rw[if_pos h]
 have HBAD:=Lib.hid hbad;have hal:=(Below.refl w.heap.size w).alloc (Nat.le_refl _) (.cells #[.slice A n c,.slice A2 n2 c2,.int .i8 lv,.int .u8 so,.int .u8 eo] 92);have heS:=fun(W:World)=>edge_ok W so;have heE:=fun(W:World)=>edge_ok W eo
 by_cases g1:n=0
 ·have hv:=HBAD.out (.inl (by omega));subst g1;clear hbad hn hn2;rw[hv]
  go_enter Tryz.func67,Tryz.ntmps67
  go_wp2;go_ret;exact⟨rfl,hal⟩
 have hg1:((n:Int)==0)=false:=by simp;omega
 by_cases g2:n=n2
 case neg=>
  have hv:=HBAD.out (.inr (.inl (by omega)));have hg:((n:Int) !=(n2:Int))=true:=bne_iff_ne.2 (by omega);clear hbad hn hn2;rw[hv]
  go_enter Tryz.func67,Tryz.ntmps67
  go_wp2;go_ret;exact⟨rfl,hal⟩
 subst g2;have hg2:((n:Int) !=(n:Int))=false:=bne_self_eq_false _
 by_cases g3:lv<0
 ·have hv:=HBAD.out (.inr (.inr (.inl g3)));clear hbad hn hn2;rw[hv]
  go_enter Tryz.func67,Tryz.ntmps67
  go_wp2;go_ret;exact⟨rfl,hal⟩
 by_cases g4:126<lv
 ·have hv:=HBAD.out (.inr (.inr (.inr (.inl g4))));clear hbad hn hn2;rw[hv]
  go_enter Tryz.func67,Tryz.ntmps67
  go_wp2;go_ret;exact⟨rfl,hal⟩
 rcases g5:edgeI so with _|_
 ·have hv:=HBAD.out (.inr (.inr (.inr (.inr (.inl g5)))));rw[g5]at heS;clear hbad hn hn2;rw[hv]
  go_enter Tryz.func67,Tryz.ntmps67
  go_wp2_with(go_at_call_of 102 so;refine(heS _).mono ?_;rintro r1 w1 ⟨rfl,rfl⟩)
  go_ret;exact⟨rfl,hal⟩
 rw[g5]at heS
 rcases g6:edgeI eo with _|_
 ·have hv:=HBAD.out (.inr (.inr (.inr (.inr (.inr g6)))));rw[g6]at heE;clear hbad hn hn2;rw[hv]
  go_enter Tryz.func67,Tryz.ntmps67
  go_wp2_with(first
   |(go_at_call_of 102 so;refine(heS _).mono ?_;rintro r1 w1 ⟨rfl,rfl⟩)
   |(go_at_call_of 102 eo;refine(heE _).mono ?_;rintro r1 w1 ⟨rfl,rfl⟩))
  go_ret;exact⟨rfl,hal⟩
 rw[g6]at heE
 have hok:chkL ⟨pl,cs,lv,so,eo⟩=if(List.range n).any (chkAt ⟨pl,cs,lv,so,eo⟩)=true then 170 else 0:=by unfold chkL;rw[if_neg (by simp only[g5,g6];rintro(h|h|h|h|h|h)<;>first|omega|cases h),←hn]
 have HOK:=Lib.hid hok;clear hbad hok hn hn2 HBAD
 go_enter Tryz.func67,Tryz.ntmps67
 go_wp2_with(first
  |(go_at_call_of 102 so;refine(heS _).mono ?_;rintro r1 w1 ⟨rfl,rfl⟩)
  |(go_at_call_of 102 eo;refine(heE _).mono ?_;rintro r1 w1 ⟨rfl,rfl⟩))
 go_loopg [4,47] n (fun gk lv_ iv wr=> ∃i:Nat,i+gk=n∧iv= .int .i64 i∧lv_= .int .i64 (lastAt pl i)∧(∀j,j<i→chkAt ⟨pl,cs,lv,so,eo⟩ j=false)∧ ∃d,wr=(w.alloc (.cells #[.slice A n c,.slice A2 n c2,.int .i8 lv,.int .u8 so,.int .u8 eo] 92)).drewN d)
 case atStart=>exact⟨0,by omega,rfl,rfl,by omega,0,rfl⟩
 case round=>
  obtain⟨i,hi,rfl,rfl,hgood,d,rfl⟩:=hrel;have HI:=Lib.hid hi;have HG:=Lib.hid hgood;clear hi hgood
  by_cases hlt:i<n
  ·have hbk:Blk ((w.alloc (.cells #[.slice A n c,.slice A2 n c2,.int .i8 lv,.int .u8 so,.int .u8 eo] 92)).drewN d) w.heap.size 92 #[.slice A n c,.slice A2 n c2,.int .i8 lv,.int .u8 so,.int .u8 eo]:=(Blk.new w 92 _).drewN d;obtain⟨b1,o1,rfl,_,hb1,k1⟩:=h.at_ (i:=i) (by have:=HN.out;omega);obtain⟨b2,o2,rfl,_,hb2,k2⟩:=h2.at_ (i:=i) (by have:=HN2.out;omega);have hbadv:chkAt ⟨pl,cs,lv,so,eo⟩ i=(decide (pl.getD i 0≤lastAt pl i)||remC (cs.getD i 0)||(clsC (cs.getD i 0) !=cs.getD i 0)):=rfl
   have hnx:lastAt pl (i+1)=pl.getD i 0:=by unfold lastAt;rw[if_neg (by omega)];rfl
   generalize pl.getD i 0=px at*;generalize cs.getD i 0=cx at*;generalize lastAt pl i=la at*;obtain⟨q0,q1,q2,q3,q4,qf,ql⟩:=hbk.c5;have HBV:=Lib.hid hbadv;have HNX:=Lib.hid hnx;clear hbadv hnx hbk;have hrm:=fun(W:World)=>Removed_ok W cx;have hkn:=fun(W:World)=>known_ok W cx
   by_cases f1:px≤la
   ·have hv:chkL ⟨pl,cs,lv,so,eo⟩=170:=by
     rw[HOK.out,if_pos];exact List.any_eq_true.2 ⟨i,List.mem_range.2 hlt,by rw[HBV.out];simp[f1]⟩
    go_wp2
    go_quiet ((first|(go_at_call 53;refine(hrm _).mono ?_;rintro e w9 ⟨rfl,rfl⟩;first|exact⟨rfl,_,rfl⟩|exact⟨rfl,_,World.drewN_drewN.symm⟩)|(go_at_call 103;refine(hkn _).mono ?_;rintro e w9 ⟨rfl,rfl⟩;first|exact⟨rfl,_,rfl⟩|exact⟨rfl,_,World.drewN_drewN.symm⟩)))
    go_wp2;go_ret;rw[hv];exact⟨rfl,hal.os,hal.tape,hal.output,hal.size,hal.block⟩
   ·have hd:decide (px≤la)=false:=by simp;omega
    rcases f2:remC cx with _|_
    ·rw[f2]at hrm
     rcases f3:(clsC cx !=cx)with _|_
     ·have f4:clsC cx=cx:=by simpa using f3
      rw[f4]at hkn;have hE:(cx !=cx)=false:=bne_self_eq_false _;go_wp2
      go_quiet ((first|(go_at_call 53;refine(hrm _).mono ?_;rintro e w9 ⟨rfl,rfl⟩;first|exact⟨rfl,_,rfl⟩|exact⟨rfl,_,World.drewN_drewN.symm⟩)|(go_at_call 103;refine(hkn _).mono ?_;rintro e w9 ⟨rfl,rfl⟩;first|exact⟨rfl,_,rfl⟩|exact⟨rfl,_,World.drewN_drewN.symm⟩)))
      go_wp2
      go_roundg (n-(i+1))
      case rel=>
       refine⟨i+1,by have:=HI.out;omega,by go_num,by rw[HNX.out],fun j hj=> ?_,_,rfl⟩
       by_cases e:j=i
       ·rw[e,HBV.out,f2,f3];simp[f1]
       ·exact HG.out j (by omega)
      case measure=>have:=HI.out;omega
     ·have hv:chkL ⟨pl,cs,lv,so,eo⟩=170:=by
       rw[HOK.out,if_pos];exact List.any_eq_true.2 ⟨i,List.mem_range.2 hlt,by rw[HBV.out];simp[f3]⟩
      go_wp2
      go_quiet ((first|(go_at_call 53;refine(hrm _).mono ?_;rintro e w9 ⟨rfl,rfl⟩;first|exact⟨rfl,_,rfl⟩|exact⟨rfl,_,World.drewN_drewN.symm⟩)|(go_at_call 103;refine(hkn _).mono ?_;rintro e w9 ⟨rfl,rfl⟩;first|exact⟨rfl,_,rfl⟩|exact⟨rfl,_,World.drewN_drewN.symm⟩)))
      go_wp2;go_ret;rw[hv];exact⟨rfl,hal.os,hal.tape,hal.output,hal.size,hal.block⟩
    ·rw[f2]at hrm
     have hv:chkL ⟨pl,cs,lv,so,eo⟩=170:=by rw[HOK.out,if_pos];exact List.any_eq_true.2 ⟨i,List.mem_range.2 hlt,by rw[HBV.out];simp[f2]⟩
     go_wp2
     go_quiet ((first|(go_at_call 53;refine(hrm _).mono ?_;rintro e w9 ⟨rfl,rfl⟩;first|exact⟨rfl,_,rfl⟩|exact⟨rfl,_,World.drewN_drewN.symm⟩)|(go_at_call 103;refine(hkn _).mono ?_;rintro e w9 ⟨rfl,rfl⟩;first|exact⟨rfl,_,rfl⟩|exact⟨rfl,_,World.drewN_drewN.symm⟩)))
     go_wp2;go_ret;rw[hv];exact⟨rfl,hal.os,hal.tape,hal.output,hal.size,hal.block⟩
  ·have hin:i=n:=by have:=HI.out;omega
   subst hin
   have hv:chkL ⟨pl,cs,lv,so,eo⟩=0:=by rw[HOK.out,if_neg];rw[List.any_eq_true];rintro⟨j,hj,h3⟩;rw[HG.out j (List.mem_range.1 hj)]at h3;cases h3
   go_wp2;go_ret;rw[hv];exact⟨rfl,hal.os,hal.tape,hal.output,hal.size,hal.block⟩
end
section
attribute [local go_sem] Oper.semAt_some
@[go_sem] theorem eql24_nil' (w:World) (a:Option Addr) (n c:Nat):(binOp .eql 29 (.slice a n c) (.slice none 0 0)).run Tryz.prog w= .ok (.bool a.isNone) w:=_root_.Go.Lib.run_eql_slice_nil w 29 3 a n c 0 0 Tryz.underlying29
theorem CloneI_ok {w:World}{B:Nat}{A:Option Addr}{n c:Nat}{l:List Int}(hn:n=l.length)(h:RdInts w B .i64 A l)(hl:n*8≤140737488351232):
 Calls Tryz.prog 40 #[.slice A n c] w fun r w'=> ∃v,r= .returned v∧Ints w' w.heap.size 3 .i64 v l∧Below w.heap.size w w':=by
 have HN:=Lib.hid hn;clear hn
 rcases A with _|ad
 ·have hl0:l=[]:=by
   rcases l with _|⟨x,l⟩
   ·rfl
   ·obtain⟨b,off,e,-⟩:=h.cells (by simp);cases e
  go_enter Tryz.func40,Tryz.ntmps40
  go_wp2;go_ret;exact⟨_,rfl,by rw[hl0];exact Ints.nil _ _ _ _,Below.refl _ _⟩
 ·have b0:=(Below.refl w.heap.size w).alloc (Nat.le_refl _) (.cells #[] 3)
  have o0:Ints (w.alloc (.cells #[] 3)) w.heap.size 3 .i64 (.slice (some ⟨w.heap.size,0,none⟩) 0 0) []:=⟨by simp,.inr ⟨w.heap.size,0,#[],rfl,Nat.le_refl _,Blk.new w 3 #[],Nat.le_refl _,by simp,rfl,rfl⟩⟩
  go_enter Tryz.func40,Tryz.ntmps40
  go_wp2_with(at_builtin;go_must (refine wpList_appIs ei24 rfl rfl rfl o0 HN.out rfl (h.alloc _) ?_ ?_ ?_ ?_))
  ·have:=HN.out;simp;unfold maxLen;omega
  ·have:=HN.out;simp;omega
  ·simp
  intro v1 w1 I1 g1 hv1
  have b1:=b0.grown g1 (by simp) (fun k hk=>by have:w.heap.size=k:=by simpa[Value.ownBlock]using hk
                                               omega)
  have I1:Ints w1 w.heap.size 3 .i64 v1 l:=I1;go_wp2;go_ret;exact⟨v1,rfl,I1,b1⟩
@[go_sem] theorem eql22_nil' (w:World) (a:Option Addr) (n c:Nat):(binOp .eql 37 (.slice a n c) (.slice none 0 0)).run Tryz.prog w= .ok (.bool a.isNone) w:=_root_.Go.Lib.run_eql_slice_nil w 37 22 a n c 0 0 Tryz.underlying37
theorem CloneC_ok {w:World}{B:Nat}{A:Option Addr}{n c:Nat}{l:List Int}(hn:n=l.length)(h:RdInts w B .u8 A l)(hl:n*1≤140737488351232):
 Calls Tryz.prog 58 #[.slice A n c] w fun r w'=> ∃v,r= .returned v∧Ints w' w.heap.size 22 .u8 v l∧Below w.heap.size w w':=by
 have HN:=Lib.hid hn;clear hn
 rcases A with _|ad
 ·have hl0:l=[]:=by
   rcases l with _|⟨x,l⟩
   ·rfl
   ·obtain⟨b,off,e,-⟩:=h.cells (by simp);cases e
  go_enter Tryz.func58,Tryz.ntmps58
  go_wp2;go_ret;exact⟨_,rfl,by rw[hl0];exact Ints.nil _ _ _ _,Below.refl _ _⟩
 ·have b0:=(Below.refl w.heap.size w).alloc (Nat.le_refl _) (.cells #[] 22)
  have o0:Ints (w.alloc (.cells #[] 22)) w.heap.size 22 .u8 (.slice (some ⟨w.heap.size,0,none⟩) 0 0) []:=⟨by simp,.inr ⟨w.heap.size,0,#[],rfl,Nat.le_refl _,Blk.new w 22 #[],Nat.le_refl _,by simp,rfl,rfl⟩⟩
  go_enter Tryz.func58,Tryz.ntmps58
  go_wp2_with(at_builtin;go_must (refine wpList_appIs ei22 rfl rfl rfl o0 HN.out rfl (h.alloc _) ?_ ?_ ?_ ?_))
  ·have:=HN.out;simp;unfold maxLen;omega
  ·have:=HN.out;simp;omega
  ·simp
  intro v1 w1 I1 g1 hv1
  have b1:=b0.grown g1 (by simp) (fun k hk=>by have:w.heap.size=k:=by simpa[Value.ownBlock]using hk
                                               omega)
  have I1:Ints w1 w.heap.size 22 .u8 v1 l:=I1;go_wp2;go_ret;exact⟨v1,rfl,I1,b1⟩
attribute [local go_sem] Oper.semAt_some
attribute [local go_sem] Oper.semAt_some
theorem Copy_ok {w:World}{B1 B2 n m c d:Nat}{A C:Option Addr}{s:Sq}(hn:n=s.pl.length)(hm:m=s.cs.length)(h1:RdInts w B1 .i64 A s.pl)(h2:RdInts w B2 .u8 C s.cs)(hl:n*8≤140737488351232)(hl2:m≤140737488351232):
 Calls Tryz.prog 62 #[.agg (s.is (.slice A n c) (.slice C m d))] w fun r w'=> ∃pv cv,r= .returned (.agg (s.is pv cv))∧Ints w' w.heap.size 3 .i64 pv s.pl∧Ints w' w.heap.size 22 .u8 cv s.cs∧(∀j,pv.ownBlock=some j→cv.ownBlock≠some j)∧Below w.heap.size w w':=by
 obtain⟨pl,cs,lv,so,eo⟩:=s;simp only[Sq.is]at*;have HN:=Lib.hid hn;have HM:=Lib.hid hm;clear hn hm;have bb:Below w.heap.size w ((w.alloc (.cells #[.slice A n c,.slice C m d,.int .i8 lv,.int .u8 so,.int .u8 eo] 92)).alloc (.cells #[.slice none 0 0,.slice none 0 0,.int .i8 0,.int .u8 0,.int .u8 0] 92)):=((Below.refl _ w).alloc (Nat.le_refl _) _).alloc (by simp) _;have Bs:Blk ((w.alloc (.cells #[.slice A n c,.slice C m d,.int .i8 lv,.int .u8 so,.int .u8 eo] 92)).alloc (.cells #[.slice none 0 0,.slice none 0 0,.int .i8 0,.int .u8 0,.int .u8 0] 92)) w.heap.size 92 #[.slice A n c,.slice C m d,.int .i8 lv,.int .u8 so,.int .u8 eo]:=(Blk.new w 92 _).alloc _;have Br:Blk ((w.alloc (.cells #[.slice A n c,.slice C m d,.int .i8 lv,.int .u8 so,.int .u8 eo] 92)).alloc (.cells #[.slice none 0 0,.slice none 0 0,.int .i8 0,.int .u8 0,.int .u8 0] 92)) (w.heap.size+1) 92 #[.slice none 0 0,.slice none 0 0,.int .i8 0,.int .u8 0,.int .u8 0]:=Blk.at_ (by simp)
 go_enter Tryz.func62,Tryz.ntmps62
 go_upto_region 2 with(go_at_call 40;refine(CloneI_ok HN.out (h1.below bb (.inr (Nat.le_refl _))) hl).mono ?_;rintro r1 w1 ⟨v1,rfl,I1,b1⟩;obtain⟨pA,pc,rfl,-,-,-⟩:=I1.val;have Bs1:=Bs.below b1 (by simp;omega);have Br1:=Br.below b1 (by simp);obtain⟨q0,q1,q2,q3,q4,qf,ql⟩:=Bs1.c5)
 have hs1:=b1.size;simp only[World.size_alloc]at hs1 b1 I1;have F2:=(Frm.refl (fun k=>k=w.heap.size) w1).set (b:=w.heap.size) (j:=0) rfl (.slice pA pl.length pc);have Bs2:=Bs1.set_ 0 (.slice pA pl.length pc);have Br2:=Br1.frm F2 (by omega);have I2:=I1.frm F2 (fun j e=>by have:=(I1.lt j e).1;omega);have bw1:=bb.trans (b1.mono (by omega));have bw2:=bw1.setCell (p:=⟨w.heap.size,0,none⟩) (Nat.le_refl _) (.slice pA pl.length pc)
 have hs2:(w1.setCell ⟨w.heap.size,0,none⟩ (.slice pA pl.length pc)).heap.size=w1.heap.size:=by simp
 clear Bs Br Bs1 Br1 q0 q1 q2 q3 q4 qf ql bb;generalize w1.setCell ⟨w.heap.size,0,none⟩ (.slice pA pl.length pc)=w2 at*
 have Bs2:Blk w2 w.heap.size 92 #[.slice pA pl.length pc,.slice C m d,.int .i8 lv,.int .u8 so,.int .u8 eo]:=by simpa using Bs2
 obtain⟨q0,q1,q2,q3,q4,qf,ql⟩:=Bs2.c5
 go_wp2_with(go_at_call 58;refine(CloneC_ok HM.out (h2.below bw2 (.inr (Nat.le_refl _))) (by omega)).mono ?_;rintro r3 w3 ⟨v3,rfl,I3,b3⟩;obtain⟨cA,cc,rfl,-,-,-⟩:=I3.val;obtain⟨q0,q1,q2,q3,q4,qf,ql⟩:=(Bs2.below b3 (by omega)).c5;obtain⟨s0,s1,s2,s3,s4,sf,sl⟩:=(Br2.below b3 (by omega)).c5)
 have hs3:=b3.size
 have F3:Frm (fun k=>k=w.heap.size∨k=w.heap.size+1) w3 ((((((w3.setCell ⟨w.heap.size,1,none⟩ (.slice cA cs.length cc)).setCell ⟨w.heap.size+1,0,none⟩ (.slice pA pl.length pc)).setCell ⟨w.heap.size+1,1,none⟩ (.slice cA cs.length cc)).setCell ⟨w.heap.size+1,2,none⟩ (.int .i8 lv)).setCell ⟨w.heap.size+1,3,none⟩ (.int .u8 so)).setCell ⟨w.heap.size+1,4,none⟩ (.int .u8 eo)):=(((((((Frm.refl _ w3).set (.inl rfl) _).set (.inr rfl) _).set (.inr rfl) _).set (.inr rfl) _).set (.inr rfl) _).set (.inr rfl) _)
 have Br3:=((((((Br2.below b3 (by omega)).far (p:=⟨w.heap.size,1,none⟩) (by simp) (.slice cA cs.length cc)).set_ 0 (.slice pA pl.length pc)).set_ 1 (.slice cA cs.length cc)).set_ 2 (.int .i8 lv)).set_ 3 (.int .u8 so)).set_ 4 (.int .u8 eo);have I2':=(I2.below b3 (Nat.le_refl _)).frm F3 (fun j e=>by have:=(I2.lt j e).1;omega);have I3':=I3.frm F3 (fun j e=>by have:=(I3.lt j e).1;omega);have bw3:=bw2.trans (b3.mono bw2.size);have bwF:=bw3.trans (F3.below bw3.size (fun k hk e=>by omega));refine bodyPost_ret (results_row0 rfl _ _ (w.heap.size+1) 92 #[.slice pA pl.length pc,.slice cA cs.length cc,.int .i8 lv,.int .u8 so,.int .u8 eo] _ rfl (by simpa using Br3) Tryz.underlying92 rfl rfl) rfl ?_;exact⟨_,_,rfl,I2'.base (fun j e=>by have:=(I2.lt j e).1;omega),I3'.base (fun j e=>by have:=(I3.lt j e).1;omega),fun j e1 e2=>by have:=(I2.lt j e1).2;have:=(I3.lt j e2).1;omega,bwF⟩
end
section
def Aft (w w':World):Prop:=Below w.heap.size w w'
theorem Aft.refl (w:World):Aft w w:=Below.refl _ _
theorem Aft.trans {a b c:World}(h:Aft a b)(k:Aft b c):Aft a c:=Below.trans h (Below.mono k h.size)
theorem Aft.drew {w w':World}(h:Aft w w'):Aft w w'.drew:=Below.drew h
theorem Aft.alloc {w w':World}(h:Aft w w')(o:Obj):Aft w (w'.alloc o):=Below.alloc h h.size o
theorem Aft.grown {a w w':World}{row:Option Nat}(h:Aft a w)(hg:w.grownBy w' row)(hr: ∀k,row=some k→a.heap.size≤k):Aft a w':=Below.grown h hg h.size hr
theorem Aft.of_grown {w w':World}(hg:w.grownBy w' none):Aft w w':=(Aft.refl w).grown hg (fun _ e=>by cases e)
theorem Blk.aft {w w':World}{g:Nat}{t:TypeId}{cs:Array Value}(h:Blk w g t cs)(k:Aft w w'):Blk w' g t cs:=h.below k h.lt
theorem Ints.aft {w w':World}{B:Nat}{e:TypeId}{k:IntKind}{v:Value}{l:List Int}(h:Ints w B e k v l)(ha:Aft w w'):Ints w' B e k v l:=h.below ha (Nat.le_refl _)
theorem RdInts.aft {w w':World}{B:Nat}{k:IntKind}{A:Option Addr}{l:List Int}(h:RdInts w B k A l)(ha:Aft w w'):RdInts w' B k A l:=h.below ha (.inr (Nat.le_refl _))
theorem Aft.le {a b:World}(h:Aft a b):a.heap.size≤b.heap.size:=h.size
theorem Aft.set {a w:World}{g j:Nat}(h:Aft a w)(hg:a.heap.size≤g)(u:Value):Aft a (w.setCell ⟨g,j,none⟩ u):=Below.setCell h (p:=⟨g,j,none⟩) hg u
theorem step_appIs {P:Program}{ops:Array Oper}{o:Oper}{a:Act}{w:World}{K:Act→World→Prop}{Q:Exit→Act→World→Prop}{E:Prop}{t e:TypeId}{k:IntKind}{bytes:Nat}(T:ElemI P t e k bytes)
 (hg:o.guard=none) (s x:Operand) (hop:o.op=Op.call {callee:=Callee.builtin Builtin.append,args:=#[s,x],argTypes:=#[t,t]})
 {base:Nat} {v:Value} {l:List Int} (hs:a.eval s=v) (hown:Ints w base e k v l) {B:Nat} {A:Option Addr} {m c:Nat} {l':List Int} (hm:m=l'.length) (hx:a.eval x= .slice A m c) (hr:RdInts w B k A l')
 (h63:l.length+l'.length≤maxLen) (hbytes:(l.length+l'.length)*bytes≤140737488355328) (hbase:base≤w.heap.size)
 (hK: ∀v' w',Ints w' base e k v' (l++l')→w.grownBy w' v.ownBlock→(v'.ownBlock=v.ownBlock∨v'.ownBlock=some w.heap.size)→K (a.put o.dst v') w'):
 if Region.wanted o (yielded ops a.tmps)=true then Oper.wp P o a w K Q else E:=by
 have hw:Region.wanted o (yielded ops a.tmps)=true:=by simp[Region.wanted,hg]
 rw[if_pos hw];subst hm;refine wp_app T.t hop hs hown hx hr (ints_one _ _) h63 hbytes hbase fun v' w' h1 h2 h3=>hK v' w' ?_ h2 h3;unfold Ints
 simpa using h1
end
end Go.Proofs.YtplpbmkdfabfpaaGreat
