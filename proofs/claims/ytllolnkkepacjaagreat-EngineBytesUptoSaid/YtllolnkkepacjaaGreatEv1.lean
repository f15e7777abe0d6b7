/- engine.levels walked: with runes and without. -/
import Derived.Test.YtllolnkkepacjaaGreatEv0
import Derived.Test.YtllolnkkepacjaaGreatE7
import Derived.Test.YtllolnkkepacjaaGreatT8
set_option maxRecDepth 100000
set_option maxHeartbeats 8000000
namespace Go.Proofs.YtllolnkkepacjaaGreat
open Go.RowKit
attribute [local go_sem] Oper.semAt_some
theorem flat_pos: ∀(ss:List Sq),(∀s∈ss,0<s.pl.length)→ss.length≤(ss.flatMap Sq.pl).length
 |[],_=>Nat.le_refl _
 |s::ss,h=>by
  have h1:=h s List.mem_cons_self;have h2:=flat_pos ss (fun x hx=>h x (List.mem_cons_of_mem _ hx));rw[List.flatMap_cons,List.length_append,List.length_cons];omega
theorem flat_in: ∀(ss:List Sq) (s:Sq),s∈ss→s.pl.length≤(ss.flatMap Sq.pl).length
 |[],_,h=>by cases h
 |t::ss,s,h=>by
  rw[List.flatMap_cons,List.length_append]
  rcases List.mem_cons.1 h with rfl|h
  ·omega
  ·have:=flat_in ss s h;omega
theorem ech_len {cl nw lv:List Int}{ss:List Sq}(H:Ech cl nw lv ss):ss.length≤cl.length∧ ∀s∈ss,s.pl.length≤cl.length:=by have h1:=H.perm.length_eq;have h2:(keptL cl).length≤cl.length:=keptT_length cl cl.length;have h3:=flat_pos ss (fun s hs=>(H.place s hs).1);exact⟨by omega,fun s hs=>by have:=flat_in ss s hs;omega⟩
theorem putS_step {f:Sq→Sq}{o:List Int}{ss:List Sq}{k:Nat}(h:k<ss.length):putS f o (ss.take (k+1))=putL (putS f o (ss.take k)) ss[k].pl (valS f ss[k]):=by rw[List.take_succ_eq_append_getElem h,putS_snoc]
def stR (ch:List Chr)(rs fs:List Int)(s:Sq):Nat→Sq
 |0=>s
 |1=>s.wk
 |2=>brS ch rs fs s.wk
 |_=>(brS ch rs fs s.wk).ne
def stC' (s:Sq):Nat→Sq
 |0=>s
 |1=>s.wk
 |_=>s.wk.ne
def StepE (w:World)(m1:Nat)(lv so eo:Int)(pl cs:List Int)(r:Ending)(w':World):Prop:= ∃(A C:Option Addr) (c d:Nat),r= .returned (.tuple #[.agg #[.slice A m1 c,.slice C m1 d,.int .i8 lv,.int .u8 so,.int .u8 eo],.int .i64 0])∧RdInts w' w'.heap.size .i64 A pl∧RdInts w' w'.heap.size .u8 C cs∧(∀b off,A=some ⟨b,off,none⟩∨C=some ⟨b,off,none⟩→w.heap.size≤b)∧Aft w w'
theorem stepE_of {w w':World}{m1:Nat}{lv so eo:Int}{pl cs:List Int}{pv cv:Value}(hp:m1=pl.length)(hc:m1=cs.length)(I:Ints w' w.heap.size 3 .i64 pv pl)(J:Ints w' w.heap.size 22 .u8 cv cs)(a:Aft w w'):StepE w m1 lv so eo pl cs (.returned (.tuple #[.agg #[pv,cv,.int .i8 lv,.int .u8 so,.int .u8 eo],.int .i64 0])) w':=by obtain⟨A,c,e1,_,_,_⟩:=I.val;obtain⟨C,d,e2,_,_,_⟩:=J.val;subst e1 e2;refine⟨A,C,c,d,by rw[hp,←hc];rw[hp],I.rd,J.rd,fun b off e=>e.elim (fun e=>(I.addr e).1) (fun e=>(J.addr e).1),a⟩
theorem slot3 {W:World}{g:Nat}{t:TypeId}{a b c:Value}(h:Blk W g t #[a,b,c]):W.cell? ⟨g,0,none⟩=some a∧W.cell? ⟨g,1,none⟩=some b∧W.cell? ⟨g,2,none⟩=some c:=⟨h.cell 0,h.cell 1,h.cell 2⟩
structure EnvR (w:World) (B5 B4 q gs bf n cc lc xc oc:Nat) (cA lA xA oA:Option Addr) (p1 p2:Value) (base:Int) (cl xs:List Int) (L:List (Sq×Value×Value)) (W:World):Prop where
 sq:SqsAt W B5 (.slice oA L.length oc) L
 out:Blk W q 33 #[.int .i8 base,.slice cA n cc,.slice lA n lc]
 cp:Ints W B4 22 .u8 (.slice cA n cc) cl
 st:Blk W gs 118 #[.func (.func 47) #[] #[],clV p1 p2 (.pointer (some ⟨bf,0,none⟩)),.func (.func 48) #[] #[]]
 bf:Blk W bf 30 #[.slice xA n xc]
 ix:Ints W w.heap.size 22 .u8 (.slice xA n xc) xs
 aw:Aft w W
 res:Blk W w.heap.size 33 #[.int .i8 0,.slice none 0 0,.slice none 0 0]
section
variable{w W W':World} {B5 B4 q gs bf n cc lc xc oc:Nat} {cA lA xA oA:Option Addr} {p1 p2:Value} {base:Int} {cl xs:List Int} {L:List (Sq×Value×Value)}
theorem EnvR.aft (h:EnvR w B5 B4 q gs bf n cc lc xc oc cA lA xA oA p1 p2 base cl xs L W)(a:Aft W W'):EnvR w B5 B4 q gs bf n cc lc xc oc cA lA xA oA p1 p2 base cl xs L W':=⟨h.sq.below a (Nat.le_refl _),h.out.aft a,h.cp.aft a,h.st.aft a,h.bf.aft a,h.ix.aft a,h.aw.trans a,h.res.aft a⟩
theorem EnvR.put {lg:Nat}(h:EnvR w B5 B4 q gs bf n cc lc xc oc cA lA xA oA p1 p2 base cl xs L W)(F:Frm (fun j=>j=lg) W W')(h5:lg<B5)(h4:lg<B4)(hq:lg<q)(hs:lg<gs)(hf:lg<bf)(hx:(Value.slice xA n xc).ownBlock≠some lg)(hw:w.heap.size<lg):
 EnvR w B5 B4 q gs bf n cc lc xc oc cA lA xA oA p1 p2 base cl xs L W':=
 ⟨h.sq.frm1 F h5,h.out.frm F (by omega),h.cp.frm F (fun j e e2=>by have:=(h.cp.lt j e).1;omega),h.st.frm F (by omega),h.bf.frm F (by omega),h.ix.frm F (fun j e e2=>hx (by rw[e,e2])),Below.trans h.aw (F.below h.aw.size (fun j hj e=>by omega)),h.res.frm F (by omega)⟩
end
theorem levelsR_ok {w:World}{B n c Bp Br rn rc b1 b2:Nat}{A:Option Addr}{cl:List Int}{pv:Value}{rest:Int}{ch:List Chr}{rA:Option Addr}{rs:List Int}(hn:n=cl.length)(h:RdInts w B .u8 A cl)(hl:n≤1048576){b:Int}(hb:b= -1∨b=0∨b=1)
 (hP:PropsIs w Bp pv rest ch) (hR:RdInts w Br .i32 rA rs) (hrl:rn=rs.length) (hrn:rn=n) (x1':Blk w b1 79 #[.iface 25 pv]) (x2':Blk w b2 26 #[.slice rA rn rc]):
 Calls Tryz.prog 43 #[.slice A n c,.int .i8 b,.func (.func 44) #[] #[.pointer (some ⟨b1,0,none⟩),.pointer (some ⟨b2,0,none⟩)]] w fun r w'=> ∃lA lc cA cc,r= .returned (.tuple #[.agg #[.int .i8 (lvlB cl b),.slice cA n cc,.slice lA n lc],.int .i64 0])∧Ints w' w.heap.size 22 .u8 (.slice cA n cc) cl∧
  Ints w' w.heap.size 29 .i8 (.slice lA n lc) (levE (stpR ch rs (exC (lvlB cl b) cl)) (lvlB cl b) cl (exL (lvlB cl b) cl))∧(∀j,(Value.slice cA n cc).ownBlock=some j→(Value.slice lA n lc).ownBlock≠some j)∧Aft w w':=by
 have h0:=h.small;have CL: ∀W,Aft w W→Calls Tryz.prog 68 #[.slice A n c,.int .i8 b] W fun r w'=>r= .returned (.tuple #[.int .i8 (lvlB cl b),.int .i64 0])∧Below W.heap.size W w':=fun W hW=>PLevel_ok hn (h0.aft hW) (by omega) hb;have hbase2:=lvlB_two cl b;obtain⟨base,hbase⟩: ∃base,lvlB cl b=base:=⟨_,rfl⟩;rw[hbase]at CL hbase2;rw[hbase]
 have CE: ∀W,Aft w W→Calls Tryz.prog 69 #[.int .i8 base,.slice A n c] W fun r w'=> ∃lA lc cA cc mg,r= .returned (.tuple #[.agg #[.slice lA n lc,.slice cA n cc,.slice (some ⟨mg,0,none⟩) n n],.int .i64 0])∧
  Ints w' W.heap.size 29 .i8 (.slice lA n lc) (exL base cl)∧Ints w' W.heap.size 22 .u8 (.slice cA n cc) (exC base cl)∧(∀j,(Value.slice lA n lc).ownBlock=some j→(Value.slice cA n cc).ownBlock≠some j∧j≠mg)∧Below W.heap.size W w':=fun W hW=>by
  refine(Explicit_n base hn.symm hbase2 (h0.aft hW).small (Nat.le_refl _) hl).mono ?_;rintro r w' ⟨lA,lc,cA,cc,mg,e,h1,h2,-,h4,-,h6⟩;refine⟨lA,lc,cA,cc,mg,e,?_,?_,h4,h6⟩
  ·rw[hn]at h1;rw[hn];exact h1
  ·rw[hn]at h2;rw[hn];exact h2
 have hex:=exC_len base cl;have hel:=exL_len base cl;have hq2:=seqsE_ok hbase2 cl;have hq1:seqsE base cl=(seqsL cl (exC base cl) (exL base cl) base).1:=rfl;have hech:=seqsE_ech hbase2 cl
 have hlv: ∀s∈seqsE base cl,s.lv≤125:=fun s hs=>by obtain⟨hp,_,hk⟩:=hech.place s hs;obtain⟨a,ea,la,hv,_⟩:=hk 0 hp;obtain⟨_,hr⟩:=(seqsE_mem hbase2 cl (i:=a)).1 (List.mem_flatMap.2 ⟨s,hs,by rw[←ea];exact getD_mem0 _ hp⟩);have:=ex_ok hbase2 cl la hr;omega
 have CS: ∀(W:World) (xA lA:Option Addr) (xc lc:Nat) (B1 B2:Nat),Aft w W→RdInts W B1 .u8 xA (exC base cl)→RdInts W B2 .i8 lA (exL base cl)→Calls Tryz.prog 71 #[.slice A n c,.slice xA n xc,.slice lA n lc,.int .i8 base] W fun r w'=> ∃ov,r= .returned (.tuple #[ov,.int .i64 0])∧SqsOwn w' W.heap.size ov (seqsE base cl)∧Below W.heap.size W w':=fun W xA lA xc lc B1 B2 hW r1 r2=>by have:=Sequences_any (c0:=c) (c1:=xc) (c2:=lc) (n0:=n) (n1:=n) (n2:=n) base hn (by rw[hex];exact hn) (by rw[hel];exact hn) (h0.aft hW) r1 r2 (by omega);rw[hq2]at this;exact this
 have CN: ∀W,Aft w W→Calls Tryz.prog 70 #[.slice A n c] W fun r w'=> ∃v,r= .returned v∧Ints w' W.heap.size 22 .u8 v cl∧Below W.heap.size W w':=fun W hW=>CloneC_ok hn (h0.aft hW) (by omega);have HCL:=Lib.hid CL;have HCE:=Lib.hid CE;have HCS:=Lib.hid CS;have HCN:=Lib.hid CN;have HN:=Lib.hid hn;have HX:=Lib.hid hex;have HL:=Lib.hid hel;have HECH:=Lib.hid hech;have HLV:=Lib.hid hlv;have HB2:=Lib.hid hbase2;have HBASE:=Lib.hid hbase;clear CL CE CS CN hn hex hel hq2 hq1 hech hlv hbase2 hb h hbase;obtain⟨W1,hW1⟩: ∃W1,w.alloc (.cells #[.int .i8 0,.slice none 0 0,.slice none 0 0] 33)=W1:=⟨_,rfl⟩
 have X6:Blk W1 w.heap.size 33 #[.int .i8 0,.slice none 0 0,.slice none 0 0]:=by rw[←hW1];exact Blk.new w 33 _
 have a1:Aft w W1:=by rw[←hW1];exact(Aft.refl w).alloc _
 go_enter Tryz.func43,Tryz.ntmps43
 go_upto_region 1 with(fail)
 clear hW1
 go_upto_region 7 with(first
  |(go_at_call 68;refine(HCL.out _ a1).mono ?_;rintro r2 w2 ⟨rfl,b2'⟩;have a2:Aft w w2:=a1.trans b2')
  |(go_at_call 69;refine(HCE.out _ a2).mono ?_;rintro r3 w3 ⟨lA,lc,xA,xc,mg,rfl,IL,IX,hLX,b3⟩))
 obtain⟨w4,hw4⟩: ∃w4,w3.alloc (.cells #[.slice lA n lc,.slice xA n xc,.slice (some ⟨mg,0,none⟩) n n] 111)=w4:=⟨_,rfl⟩
 have X10:Blk w4 w3.heap.size 111 #[.slice lA n lc,.slice xA n xc,.slice (some ⟨mg,0,none⟩) n n]:=by rw[←hw4];exact Blk.new w3 111 _
 have a4:Aft w w4:=by rw[←hw4];exact(a2.trans b3).alloc _
 have IL4:Ints w4 w.heap.size 29 .i8 (.slice lA n lc) (exL base cl):=by rw[←hw4];exact(IL.base (fun j e=>Nat.le_trans a2.size (IL.lt j e).1)).alloc _
 have IX4:Ints w4 w.heap.size 22 .u8 (.slice xA n xc) (exC base cl):=by rw[←hw4];exact(IX.base (fun j e=>Nat.le_trans a2.size (IX.lt j e).1)).alloc _
 have X64:Blk w4 w.heap.size 33 #[.int .i8 0,.slice none 0 0,.slice none 0 0]:=by rw[←hw4];exact((X6.aft b2').aft b3).alloc _
 have hlg: ∀j,(Value.slice lA n lc).ownBlock=some j→w.heap.size<j∧j<w4.heap.size:=fun j e=>⟨Nat.lt_of_lt_of_le X6.lt (Nat.le_trans b2'.size (IL.lt j e).1),(IL4.lt j e).2⟩;rw[hw4];have HLG:=Lib.hid hlg;have HLX:=Lib.hid hLX;clear hlg hLX;obtain⟨b10,hb10⟩: ∃b,w3.heap.size=b:=⟨_,rfl⟩;rw[hb10]at X10⊢;have KEEP:=Lib.hid (fun(W:World) (hW:Aft w4 W)=>slot3 (X10.aft hW));have CN4:=Lib.hid (fun(W:World) (hW:Aft w4 W)=>HCN.out W (a4.trans hW));clear hw4 hb10 IL IX a1 a2 b2' b3 X6
 refine wpIn_wide.1 (wpIn_region_vars (d:=0) (c:=2) (av:=[(6,7)]) (vars:=[⟨6,7,33,#[.int .i8 0,.slice none 0 0,.slice none 0 0],fun r=>#[.int .i8 base,r,.slice lA n lc]⟩])
  (K:=[(0,0),(0,0),(1,0),(0,0),(0,0),(0,0),(2,0),(3,0)])
  (U:=[none,none,some 2,none,none,some 2,some 6,some 2]) (E:=[])
  (vs:=[.inl (.int .i8 base),.inl (.slice A n c),.inr (2,id),.inl (.pointer (some ⟨b10,0,none⟩)),.inl (.slice lA n lc),.inr (2,fun r=>.agg #[.int .i8 base,r,.slice lA n lc]),.inr (6,id),.inr (2,id)])
  (R:=fun r=> ∃A' c',r= .slice A' n c') (T:=fun r W=>Ints W w4.heap.size 22 .u8 r cl)
  (by kernel_rfl) (by kernel_rfl) rfl rfl (by kernel_rfl) (by kernel_rfl) ?_ ?_)
 ·simp only[List.map_cons,List.map_nil,valV,id,putAll,Act.put,List.setIfInBounds_toArray,List.set_cons_zero,List.set_cons_succ];refine⟨?_,?_,?_,?_,?_,?_,?_,?_,trivial⟩
  all_goals first
   |(intro ρ W hA _;obtain⟨k0,k1,k2⟩:=KEEP.out W hA;simp only[valV];go_simp;done)
   |(intro ρ W hA hu;obtain⟨A',c',e⟩:=hu rfl;simp only[valV,e];go_simp;done)
   |(refine⟨fun _=>rfl,fun ρ W=> ?_⟩;go_simp;done)
   |skip
  ·refine⟨fun _=>rfl,fun ρ W hA=>⟨70,#[.slice A n c],?_,?_⟩⟩
   ·go_simp
   ·refine(CN4.out W hA).mono ?_;rintro r w5 ⟨v5,rfl,I5,b5⟩;obtain⟨A',c',e,-,-,-⟩:=I5.val;refine⟨_,rfl,⟨A',c',by rw[e,HN.out]⟩,b5,fun W' hF=>(I5.frm hF (fun j e h=>by have:=(I5.lt j e).1;omega)).base (fun j e=>by have:=(I5.lt j e).1;have:=hA.le;omega)⟩
  ·intro ρ W q hq ⟨A',c',e⟩ hb;have hq:ρ 6= .pointer (some ⟨q,0,none⟩):=hq;have hb:Blk W q 33 #[.int .i8 0,.slice none 0 0,.slice none 0 0]:=hb;obtain⟨y0,y1,y2,yf,yl⟩:=hb.c3;refine⟨((W.setCell ⟨q,0,none⟩ (.int .i8 base)).setCell ⟨q,1,none⟩ (.slice A' n c')).setCell ⟨q,2,none⟩ (.slice lA n lc),?_,?_,?_⟩
   ·simp only[hq,e];go_simp
   ·have:=((hb.set_ 0 (.int .i8 base)).set_ 1 (.slice A' n c')).set_ 2 (.slice lA n lc)
    simpa[e]using this
   ·exact(((Frm.refl (fun k=>k=q) W).set rfl _).set rfl _).set rfl _
 ·intro ρ w5 hA ⟨cA,cc,e⟩ hT hv hd;obtain⟨q,hq,hqs,X11⟩:=hv _ List.mem_cons_self;have hq:ρ 6= .pointer (some ⟨q,0,none⟩):=hq;simp only[e]at X11 hT;simp only[List.map_cons,List.map_nil,valV,id,putAll,Act.put,List.setIfInBounds_toArray,List.set_cons_zero,List.set_cons_succ,hq,e];clear hv hd e hq KEEP CN4;have a5:Aft w w5:=a4.trans hA;have X105:=X10.aft hA;have X65:=X64.aft hA;have IL5:=IL4.aft hA;have IX5:=IX4.aft hA;obtain⟨x0,x1,x2,xf,xl⟩:=X105.c3;have hq4:w4.heap.size≤q:=hqs;have hlt4:w.heap.size<w4.heap.size:=X64.lt;clear X10 X64 IL4 IX4
  go_upto_region 9 with(go_at_call 71;refine(HCS.out _ xA lA xc lc _ _ a5 IX5.rd IL5.rd).mono ?_;rintro r6 w6 ⟨ov,rfl,SO,b6⟩;obtain⟨L,hL,hS⟩:=SO;obtain⟨oA,oc,hov⟩:=row_shape hS.row;subst hov)
  have hq5:q<w5.heap.size:=X11.lt;have IL6:=IL5.aft b6;have IX6:=IX5.aft b6;have X106:=X105.aft b6;have X116:=X11.aft b6;have X66:=X65.aft b6;have IC6:=hT.aft b6;have a6:Aft w w6:=a5.trans b6;have HLL:=Lib.hid hL
  have hLlen:L.length≤n:=by have h1:=congrArg List.length hL;rw[List.length_map]at h1;have h2:(seqsE base cl).length≤cl.length:=(ech_len HECH.out).1;have:=HN.out;omega
  obtain⟨x0,x1,x2,xf,xl⟩:=X106.c3;have hs5:=b6.size;have hs45:=hA.le;clear hL X105 X11 X65 IL5 IX5 hT HCL HCE HCS HCN
  go_upto_region 12 with(go_at_call 44;refine(stepsR_ok _ xA n xc _ _).mono ?_;rintro r7 w7 ⟨rfl,xf7,xs7,b7⟩)
  have a67:Aft w6 w7:=b7;obtain⟨f,hf⟩: ∃f:Sq→Sq,f=stpR ch rs (exC base cl):=⟨_,rfl⟩
  have hkeep:Keeps f:=by rw[hf];exact keeps_R _ _ _
  have EV:EnvR w w5.heap.size w4.heap.size q (w6.heap.size+1) w6.heap.size n cc lc xc oc cA lA xA oA _ _ base cl (exC base cl) L w7:=⟨hS.below b7 (Nat.le_refl _),X116.aft b7,IC6.aft b7,xs7,xf7,IX6.aft b7,a6.trans b7,X66.aft b7⟩;have IL7:=IL6.aft b7;have HKP:=Lib.hid hkeep;have HF:=Lib.hid hf
  have hsz6:w6.heap.size<w7.heap.size:=by first|exact xf7.lt|exact xs7.lt
  have hq6:q<w6.heap.size:=X116.lt;have h5q:w5.heap.size≤w6.heap.size:=hs5;clear xf7;clear xs7 hS X116 X106 IC6 IX6 IL6 x0 x1 x2 xf xl b6 b7 a67 hf hkeep;go_wp2
  go_loopg [68] L.length (fun gk iv wr=> ∃k:Nat,k+gk=L.length∧iv= .int .i64 k∧EnvR w w5.heap.size w4.heap.size q (w6.heap.size+1) w6.heap.size n cc lc xc oc cA lA xA oA (.pointer (some ⟨b1,0,none⟩)) (.pointer (some ⟨b2,0,none⟩)) base cl (exC base cl) L wr∧Ints wr w.heap.size 29 .i8 (.slice lA n lc) (putS f (exL base cl) ((seqsE base cl).take k))∧w7.heap.size≤wr.heap.size)
  case atStart=>exact⟨0,by omega,rfl,EV,IL7,Nat.le_refl _⟩
  case round=>
   clear EV IL7;obtain⟨k,hk,rfl,EV,IL,hsr⟩:=hrel;have HK:=Lib.hid hk;clear hk
   by_cases hkm:k<L.length
   ·obtain⟨og,oc',e,ho1,ho2⟩:=World.ownsRow.form EV.sq.row (by omega)
    injection e with e1 e2 e3
    subst e1 e3;obtain⟨A1,c1,C1,d1,-,-,y0,y1,y2,y3,y4,r1,r2⟩:=EV.sq.get (i:=k) (e:=L[k]) (List.getElem?_eq_getElem hkm)
    have hkE:k<(seqsE base cl).length:=by rw[←HLL.out,List.length_map];exact hkm
    have hsE:(seqsE base cl)[k]=L[k].1:=by
     have h1:(L.map (·.1))[k]?=(seqsE base cl)[k]?:=by rw[HLL.out]
     rw[List.getElem?_map,List.getElem?_eq_getElem hkm,List.getElem?_eq_getElem hkE]at h1;exact(Option.some.inj h1).symm
    have hstep:=putS_step (f:=f) (o:=exL base cl) hkE;rw[hsE]at hstep;obtain⟨s,hs⟩: ∃s,L[k].1=s:=⟨_,rfl⟩;rw[hs]at y0 y1 y2 y3 y4 r1 r2 hsE hstep
    have hmem:s∈seqsE base cl:=by rw[←hsE];exact List.getElem_mem hkE
    have hch:=HECH.out.chk s hmem;obtain⟨hp0,hpc,hpp⟩:=HECH.out.place s hmem
    have hpn:s.pl.length≤n:=by have h1:s.pl.length≤cl.length:=(ech_len HECH.out).2 s hmem;have:=HN.out;omega
    have hlv:=HLV.out s hmem
    have hpl: ∀i,i<s.pl.length→ ∃a:Nat,s.pl.getD i 0=a∧a<n:=fun i hi=>by obtain⟨a,ea,la,_⟩:=hpp i hi;exact⟨a,ea,by have:=HN.out;omega⟩
    obtain⟨m1,hm1⟩: ∃m1,s.pl.length=m1:=⟨_,rfl⟩;rw[hpc,hm1]at y1;rw[hm1]at y0 hp0 hpc hpn hpl;have HM1:=Lib.hid hm1;have HPC:=Lib.hid hpc;have HPL:=Lib.hid hpl;have HCH:=Lib.hid hch;have HSTEP:=Lib.hid hstep;have HYY:=Lib.hid hlv;obtain⟨Wr,hWr⟩: ∃Wr,Wr=wr:=⟨_,rfl⟩;subst hWr;have hq9:=EV.aw.size;clear hpp hkE hsE hs hmem hm1 hpc hpl hch hstep hlv e2
    go_upto_region 15 with(fail)
    obtain⟨W8,hW8⟩: ∃W8,Wr.alloc (.cells #[.slice A1 m1 c1,.slice C1 m1 d1,.int .i8 s.lv,.int .u8 s.so,.int .u8 s.eo] 87)=W8:=⟨_,rfl⟩
    have X15:Blk W8 Wr.heap.size 87 #[.slice A1 m1 c1,.slice C1 m1 d1,.int .i8 s.lv,.int .u8 s.so,.int .u8 s.eo]:=by rw[←hW8];exact Blk.new _ _ _
    have a8:Aft Wr W8:=by rw[←hW8];exact(Aft.refl _).alloc _
    rw[hW8];have r18:=(r1.aft a8).small;have r28:=(r2.aft a8).small;clear hW8 y0 y1 y2 y3 y4 r1 r2;go_wp2
    go_loopg [74] 3 (fun gk iv wr=> ∃j:Nat,j+gk=3∧iv= .int .i64 j∧Aft Wr wr∧ ∃A' c' C' d',Blk wr Wr.heap.size 87 #[.slice A' m1 c',.slice C' m1 d',.int .i8 s.lv,.int .u8 s.so,.int .u8 s.eo]∧RdInts wr wr.heap.size .i64 A' s.pl∧RdInts wr wr.heap.size .u8 C' (stR ch rs (exC base cl) s j).cs∧(0<j→ ∀b off,A'=some ⟨b,off,none⟩→Wr.heap.size≤b))
    case atStart=>exact⟨0,by omega,rfl,a8,A1,c1,C1,d1,X15,r18,r28,fun h=>absurd h (by omega)⟩
    case round=>
     clear X15 a8 r18 r28 W8;obtain⟨j,hj,rfl,a,A',c',C',d',X,rp,rc,hlow⟩:=hrel;have EVw:=EV.aft a;obtain⟨x0,x1,x2,x3,x4,xf,xl⟩:=X.c5;have hal:=a.le
     have hj3:j=0∨j=1∨j=2∨j=3:=by omega
     obtain⟨s0,s1,s2,sf,sl⟩:=EVw.st.c3;have HJ:=Lib.hid hj;clear hj;unfold clV at s1
     rcases hj3 with rfl|rfl|rfl|rfl
     ·have CW:Calls Tryz.prog 47 #[.agg #[.slice A' m1 c',.slice C' m1 d',.int .i8 s.lv,.int .u8 s.so,.int .u8 s.eo]] wr (StepE wr m1 s.lv s.so s.eo s.pl s.wk.cs):=by
       refine(WResolve_ok (s:=s) HM1.out.symm HPC.out.symm rp rc (by omega) (by omega) HCH.out).mono ?_;rintro r w9 ⟨pv,cv,rfl,I,J,a9⟩;exact stepE_of HM1.out.symm (by rw[wk_cs];unfold weakL;rw[rulesL_len];exact HPC.out.symm) I J a9
      clear rp rc hlow
      go_upto_region 19 with(go_at_call 47;refine CW.mono ?_;rintro r9 w9 ⟨A9,C9,c9,d9,rfl,rp9,rc9,hl9,a9⟩;have X9:=X.aft a9;obtain⟨x0,x1,x2,x3,x4,xf,xl⟩:=X9.c5)
      have F9:=frm_put5 w9 Wr.heap.size (.slice A9 m1 c9) (.slice C9 m1 d9) (.int .i8 s.lv) (.int .u8 s.so) (.int .u8 s.eo);have N9:=blk_put5 (.slice A9 m1 c9) (.slice C9 m1 d9) (.int .i8 s.lv) (.int .u8 s.so) (.int .u8 s.eo) X9;obtain⟨w10,hw10⟩: ∃w10,((((w9.setCell ⟨Wr.heap.size,0,none⟩ (.slice A9 m1 c9)).setCell ⟨Wr.heap.size,1,none⟩ (.slice C9 m1 d9)).setCell ⟨Wr.heap.size,2,none⟩ (.int .i8 s.lv)).setCell ⟨Wr.heap.size,3,none⟩ (.int .u8 s.so)).setCell ⟨Wr.heap.size,4,none⟩ (.int .u8 s.eo)=w10:=⟨_,rfl⟩;rw[hw10]at F9 N9⊢;have ha9:Aft Wr w9:=a.trans a9;have aN:Aft Wr w10:=Below.trans ha9 (F9.below ha9.size (fun j hj e=>by omega));have rpN:=(rp9.frmA F9 (fun b off e h=>by have:=hl9 b off (.inl e);have h:b=Wr.heap.size:=h;have:=X.lt;omega)).more F9.size;have rcN:RdInts w10 w10.heap.size .u8 C9 _:=(rc9.frmA F9 (fun b off e h=>by have:=hl9 b off (.inr e);have h:b=Wr.heap.size:=h;have:=X.lt;omega)).more F9.size;clear hw10 F9 X9 x0 x1 x2 x3 x4 xf xl rp9 rc9 ha9 a9 X a EVw;go_wp2
      go_roundg (2)
      case rel=>exact⟨1,by omega,rfl,aN,A9,c9,C9,d9,N9,rpN,rcN,fun _ b off e=>by have:=hl9 b off (.inl e);omega⟩
      case measure=>have:=HJ.out;omega
     ·have CW:Calls Tryz.prog 45 #[.agg #[.slice A' m1 c',.slice C' m1 d',.int .i8 s.lv,.int .u8 s.so,.int .u8 s.eo],.pointer (some ⟨b1,0,none⟩),.pointer (some ⟨b2,0,none⟩),.pointer (some ⟨w6.heap.size,0,none⟩)] wr (StepE wr m1 s.lv s.so s.eo s.pl (brS ch rs (exC base cl) s.wk).cs):=by
       have hcl:s.wk.cs.length=m1:=by rw[wk_cs];unfold weakL;rw[rulesL_len];exact HPC.out
       have hSq:SqIs wr wr.heap.size (.agg #[.slice A' m1 c',.slice C' m1 d',.int .i8 s.lv,.int .u8 s.so,.int .u8 s.eo]) s.wk:=⟨A',C',c',d',by rw[hcl];show _=Value.agg #[.slice A' s.pl.length c',.slice C' m1 d',.int .i8 s.lv,.int .u8 s.so,.int .u8 s.eo];rw[HM1.out],rp,rc,by show s.pl.length≤_;rw[HM1.out];omega,by rw[hcl];omega⟩
       have hp: ∀i,i<s.pl.length→s.pl.getD i 0<(n:Int):=fun i hi=>by obtain⟨a,e,h⟩:=HPL.out i (by rw[←HM1.out];exact hi);omega
       have hE:resE rn n s.wk=0:=resE_zero (wk_chk HCH.out) (by rw[hrn];exact hp) hp
       have hxn:n=(exC base cl).length:=by rw[HX.out];exact HN.out
       have hS9:resS ch rs (exC base cl) s.wk=brS ch rs (exC base cl) s.wk:=resS_br (by rw[←hrl,←hxn];exact hE);refine(step_br (rn:=rn) (fn:=n) hrl hxn (hP.below EVw.aw (.inr (Nat.le_refl _))) (hR.aft EVw.aw) EVw.ix.rd hSq (by show s.pl.length≤_;rw[HM1.out];omega) (by omega) (by omega) (x1'.aft EVw.aw) (x2'.aft EVw.aw) EVw.bf).mono ?_;rintro r w9 ⟨v,rfl,⟨pv,cv,rfl,I,J,-⟩,a9⟩;rw[hS9]at I J⊢;rw[hE];exact stepE_of HM1.out.symm (by show m1=(resT _ _ _ _).length;rw[resT_length];exact hcl.symm) I J a9
      clear rp rc hlow
      go_upto_region 19 with(go_at_call 45;refine CW.mono ?_;rintro r9 w9 ⟨A9,C9,c9,d9,rfl,rp9,rc9,hl9,a9⟩;have X9:=X.aft a9;obtain⟨x0,x1,x2,x3,x4,xf,xl⟩:=X9.c5)
      have F9:=frm_put5 w9 Wr.heap.size (.slice A9 m1 c9) (.slice C9 m1 d9) (.int .i8 s.lv) (.int .u8 s.so) (.int .u8 s.eo);have N9:=blk_put5 (.slice A9 m1 c9) (.slice C9 m1 d9) (.int .i8 s.lv) (.int .u8 s.so) (.int .u8 s.eo) X9;obtain⟨w10,hw10⟩: ∃w10,((((w9.setCell ⟨Wr.heap.size,0,none⟩ (.slice A9 m1 c9)).setCell ⟨Wr.heap.size,1,none⟩ (.slice C9 m1 d9)).setCell ⟨Wr.heap.size,2,none⟩ (.int .i8 s.lv)).setCell ⟨Wr.heap.size,3,none⟩ (.int .u8 s.so)).setCell ⟨Wr.heap.size,4,none⟩ (.int .u8 s.eo)=w10:=⟨_,rfl⟩;rw[hw10]at F9 N9⊢;have ha9:Aft Wr w9:=a.trans a9;have aN:Aft Wr w10:=Below.trans ha9 (F9.below ha9.size (fun j hj e=>by omega));have rpN:=(rp9.frmA F9 (fun b off e h=>by have:=hl9 b off (.inl e);have h:b=Wr.heap.size:=h;have:=X.lt;omega)).more F9.size;have rcN:RdInts w10 w10.heap.size .u8 C9 _:=(rc9.frmA F9 (fun b off e h=>by have:=hl9 b off (.inr e);have h:b=Wr.heap.size:=h;have:=X.lt;omega)).more F9.size;clear hw10 F9 X9 x0 x1 x2 x3 x4 xf xl rp9 rc9 ha9 a9 X a EVw;go_wp2
      go_roundg (1)
      case rel=>exact⟨2,by omega,rfl,aN,A9,c9,C9,d9,N9,rpN,rcN,fun _ b off e=>by have:=hl9 b off (.inl e);omega⟩
      case measure=>have:=HJ.out;omega
     ·have hcl:(stR ch rs (exC base cl) s 2).cs.length=m1:=by show(resT _ _ _ _).length=m1;rw[resT_length,wk_cs];unfold weakL;rw[rulesL_len];exact HPC.out
      have hck:chkL (stR ch rs (exC base cl) s 2)=0:=brS_chk (wk_chk HCH.out) (wk_late HCH.out);have hlate:LateC (stR ch rs (exC base cl) s 2).cs:=brS_late (wk_chk HCH.out) (wk_late HCH.out)
      have CW:Calls Tryz.prog 48 #[.agg #[.slice A' m1 c',.slice C' m1 d',.int .i8 s.lv,.int .u8 s.so,.int .u8 s.eo]] wr (StepE wr m1 s.lv s.so s.eo s.pl (stR ch rs (exC base cl) s 3).cs):=by refine(RResolve_ok (s:=stR ch rs (exC base cl) s 2) HM1.out.symm hcl.symm rp rc (by omega) (by omega) hck hlate).mono ?_;rintro r w9 ⟨pv,cv,rfl,I,J,a9⟩;exact stepE_of HM1.out.symm (by show m1=(restL _ _ _ _).length;rw[restL_len];exact hcl.symm) I J a9
      clear rp rc hlow hcl hck hlate
      go_upto_region 19 with(go_at_call 48;refine CW.mono ?_;rintro r9 w9 ⟨A9,C9,c9,d9,rfl,rp9,rc9,hl9,a9⟩;have X9:=X.aft a9;obtain⟨x0,x1,x2,x3,x4,xf,xl⟩:=X9.c5)
      have F9:=frm_put5 w9 Wr.heap.size (.slice A9 m1 c9) (.slice C9 m1 d9) (.int .i8 s.lv) (.int .u8 s.so) (.int .u8 s.eo);have N9:=blk_put5 (.slice A9 m1 c9) (.slice C9 m1 d9) (.int .i8 s.lv) (.int .u8 s.so) (.int .u8 s.eo) X9;obtain⟨w10,hw10⟩: ∃w10,((((w9.setCell ⟨Wr.heap.size,0,none⟩ (.slice A9 m1 c9)).setCell ⟨Wr.heap.size,1,none⟩ (.slice C9 m1 d9)).setCell ⟨Wr.heap.size,2,none⟩ (.int .i8 s.lv)).setCell ⟨Wr.heap.size,3,none⟩ (.int .u8 s.so)).setCell ⟨Wr.heap.size,4,none⟩ (.int .u8 s.eo)=w10:=⟨_,rfl⟩;rw[hw10]at F9 N9⊢;have ha9:Aft Wr w9:=a.trans a9;have aN:Aft Wr w10:=Below.trans ha9 (F9.below ha9.size (fun j hj e=>by omega));have rpN:=(rp9.frmA F9 (fun b off e h=>by have:=hl9 b off (.inl e);have h:b=Wr.heap.size:=h;have:=X.lt;omega)).more F9.size;have rcN:RdInts w10 w10.heap.size .u8 C9 _:=(rc9.frmA F9 (fun b off e h=>by have:=hl9 b off (.inr e);have h:b=Wr.heap.size:=h;have:=X.lt;omega)).more F9.size;clear hw10 F9 X9 x0 x1 x2 x3 x4 xf xl rp9 rc9 ha9 a9 X a EVw;go_wp2
      go_roundg (0)
      case rel=>exact⟨3,by omega,rfl,aN,A9,c9,C9,d9,N9,rpN,rcN,fun _ b off e=>by have:=hl9 b off (.inl e);omega⟩
      case measure=>have:=HJ.out;omega
     ·have hfs:(stR ch rs (exC base cl) s 3).cs=(f s).cs:=by rw[HF.out];rfl
      have hvl:(valS f s).length=m1:=by unfold valS lvsL;rw[List.length_map,(HKP.out s HCH.out).2.2];exact HPC.out
      have hcl:(stR ch rs (exC base cl) s 3).cs.length=m1:=by rw[hfs,(HKP.out s HCH.out).2.2];exact HPC.out
      have CV:Calls Tryz.prog 72 #[.agg #[.slice A' m1 c',.slice C' m1 d',.int .i8 s.lv,.int .u8 s.so,.int .u8 s.eo]] wr fun r w'=> ∃v,r= .returned (.tuple #[v,.int .i64 0])∧Ints w' wr.heap.size 29 .i8 v (valS f s)∧Aft wr w':=by
       have:=Levels_ok (s:=stR ch rs (exC base cl) s 3) (c:=c') (d:=d') HM1.out.symm hcl.symm rp rc (by omega) (by omega) (ne_chk (brS_chk (wk_chk HCH.out) (wk_late HCH.out)) (brS_late (wk_chk HCH.out) (wk_late HCH.out))) HYY.out (ne_set (brS_chk (wk_chk HCH.out) (wk_late HCH.out)) (brS_late (wk_chk HCH.out) (wk_late HCH.out)))
       have e:lvsL (stR ch rs (exC base cl) s 3).lv (stR ch rs (exC base cl) s 3).cs=valS f s:=by rw[hfs];rfl
       rw[e]at this;exact this
      have hOl:(putS f (exL base cl) ((seqsE base cl).take k)).length=n:=by rw[putS_len,HL.out];exact HN.out.symm
      obtain⟨O,hO⟩: ∃O,putS f (exL base cl) ((seqsE base cl).take k)=O:=⟨_,rfl⟩;rw[hO]at IL hOl;have hstep:=HSTEP.out;rw[hO]at hstep;obtain⟨VS,hVS⟩: ∃VS,valS f s=VS:=⟨_,rfl⟩;rw[hVS]at CV hvl hstep;have HST:=Lib.hid hstep;have HVL:=Lib.hid hvl;have HOL:=Lib.hid hOl;have hlow3:=hlow (by omega);have ILw:=IL.aft a;obtain⟨lg,lc',e⟩:=IL.form (by omega);rw[hOl]at e
      injection e with e1 e2 e3
      subst e1 e3;have hlg:=HLG.out lg rfl;have hlx:=(HLX.out lg rfl).1;clear hfs hvl hcl rc hlow IL hO hVS hstep hOl e2 s0 s1 sf sl;clear s2
      go_upto_region 26 with(go_at_call 72;refine CV.mono ?_;rintro r9 w9 ⟨v,rfl,IV,a9⟩;obtain⟨vg,vc,hv⟩:=IV.form (by rw[HVL.out];omega);rw[HVL.out]at hv;subst hv;have X9:=X.aft a9;obtain⟨x0,x1,x2,x3,x4,xf,xl⟩:=X9.c5)
      have ha9:Aft Wr w9:=a.trans a9;have EV9:=EVw.aft a9;have IL9:=ILw.aft a9;have rp9:=(rp.aft a9);have hvg:=(IV.lt vg rfl).1;have hWw:=EV.aw.size;clear CV X9 X EVw ILw rp a a9 x0 x1 x2 x3 x4 xf xl EV
      go_loopg [101] m1 (fun gk iv wr=> ∃i:Nat,i+gk=m1∧iv= .int .i64 i∧Ints wr w.heap.size 29 .i8 (.slice (some ⟨lg,0,none⟩) n lc) (putL O (s.pl.take i) (VS.take i))∧Frm (fun j=>j=lg) w9 wr)
      case atStart=>exact⟨0,by omega,rfl,by simpa[putL]using IL9,Frm.refl _ _⟩
      case round=>
       clear IL9;obtain⟨i,hi,rfl,IL,F⟩:=hrel;have HI:=Lib.hid hi;clear hi;have EV1:=EV9.put F (by omega) (by omega) (by omega) (by omega) (by omega) hlx (by omega)
       by_cases him:i<m1
       ·obtain⟨pa,hpa,hpan⟩:=HPL.out i him;have ht:=putL_take s.pl VS O i (by rw[HM1.out];exact him) (by rw[HVL.out];exact him);rw[hpa,Int.toNat_natCast]at ht;obtain⟨ab,ao,hA',_,hab,cpa⟩:=rp9.at_ (i:=i) (by rw[HM1.out];exact him);have habl:=hlow3 ab ao hA';subst hA';rw[hpa]at cpa;have cpa2:=(World.cell?_of_block (a:=⟨ab,ao+i,none⟩) (F.block ab hab (by show ab≠lg;omega))).trans cpa;obtain⟨-,v1,v2,_,v4,v5,v6⟩:=IV.at_;have cv0:=v6 i (by rw[HVL.out];exact him);have cv:=(World.cell?_of_block (a:=⟨vg,i,none⟩) (F.block vg v4 (by show vg≠lg;omega))).trans cv0;obtain⟨o0,o1,o2,of_,ol⟩:=EV1.out.c3;obtain⟨l0,l1,l2,_,l4,l5,l6⟩:=IL.at_;have clg:=l6 pa (by rw[←l0];exact hpan)
        have hlcn:n≤lc:=by rw[l0];exact l1
        have hvcn:m1≤vc:=by rw[←HVL.out];exact v1
        obtain⟨x,hx⟩: ∃x,VS.getD i 0=x:=⟨_,rfl⟩;rw[hx]at cv ht;generalize (putL O (s.pl.take i) (VS.take i)).getD pa 0=y at*;have ILn:=IL.set pa x;rw[←ht]at ILn;have HT:=Lib.hid ILn;have HFF:=Lib.hid F;clear ht hpa cpa cv0 v1 v6 l0 l1 l6 hx EV1 o0 o1 ILn IL F;go_wp2
        go_region
        go_wp2
        go_roundg (m1-(i+1))
        case rel=>exact⟨i+1,by have:=HI.out;omega,by go_num,HT.out,HFF.out.drew.set rfl _⟩
        case measure=>have:=HI.out;omega
       ·have him2:i=m1:=by have:=HI.out;omega
        have hfin:putL O (s.pl.take i) (VS.take i)=putS f (exL base cl) ((seqsE base cl).take (k+1)):=by rw[List.take_of_length_le (by rw[HM1.out];omega),List.take_of_length_le (by rw[HVL.out];omega)];exact HST.out.symm
        rw[hfin]at IL;have hFs:=F.size;have ha9s:=ha9.le;clear hfin him HI;subst him2;go_wp2
        go_roundg (L.length-(k+1))
        case rel=>exact⟨k+1,by have:=HK.out;omega,by go_num,EV1,IL,by omega⟩
        case measure=>have:=HK.out;omega
   ·have hkL:k=L.length:=by have:=HK.out;omega
    have hfin:putS f (exL base cl) ((seqsE base cl).take k)=levE f base cl (exL base cl):=by rw[List.take_of_length_le (by rw[←HLL.out,List.length_map];omega)];rfl
    rw[hfin]at IL;obtain⟨o0,o1,o2,of_,ol⟩:=EV.out.c3;obtain⟨z0,z1,z2,zf,zl⟩:=EV.res.c3;have F9:=frm_put3 wr w.heap.size (.int .i8 base) (.slice cA n cc) (.slice lA n lc);have N9:=blk_put3 (.int .i8 base) (.slice cA n cc) (.slice lA n lc) EV.res;have hff:=HF.out;rw[hff]at IL;have hlev:=Lib.hid (show Ints _ _ _ _ _ _ from IL);clear hfin hff IL hkm;go_wp2;refine bodyPost_ret (results_row1 rfl _ _ w.heap.size 33 _ _ rfl N9 Tryz.underlying33 rfl (by kernel_rfl)) rfl ?_;refine⟨lA,lc,cA,cc,rfl,?_,?_,?_,?_⟩
    ·refine(EV.cp.frm F9 (fun j e h=> ?_)).base (fun j e=> ?_)
     ·have:=(EV.cp.lt j e).1;have h:j=w.heap.size:=h;omega
     ·have:=(EV.cp.lt j e).1;omega
    ·exact hlev.out.frm F9 (fun j e h=>by have:=(HLG.out j e).1;have h:j=w.heap.size:=h;omega)
    ·intro j e e2;have:=(EV.cp.lt j e).1;have:=(HLG.out j e2).2;omega
    ·exact Below.trans EV.aw (F9.below EV.aw.size (fun j hj e=>by omega))
structure EnvC (w:World) (B5 B4 q gs n cc lc oc:Nat) (cA lA oA:Option Addr) (base:Int) (cl:List Int) (L:List (Sq×Value×Value)) (W:World):Prop where
 sq:SqsAt W B5 (.slice oA L.length oc) L
 out:Blk W q 33 #[.int .i8 base,.slice cA n cc,.slice lA n lc]
 cp:Ints W B4 22 .u8 (.slice cA n cc) cl
 st:Blk W gs 118 #[.func (.func 47) #[] #[],.func (.func 48) #[] #[]]
 aw:Aft w W
 res:Blk W w.heap.size 33 #[.int .i8 0,.slice none 0 0,.slice none 0 0]
section
variable{w W W':World} {B5 B4 q gs n cc lc oc:Nat} {cA lA oA:Option Addr} {base:Int} {cl:List Int} {L:List (Sq×Value×Value)}
theorem EnvC.aft (h:EnvC w B5 B4 q gs n cc lc oc cA lA oA base cl L W)(a:Aft W W'):EnvC w B5 B4 q gs n cc lc oc cA lA oA base cl L W':=⟨h.sq.below a (Nat.le_refl _),h.out.aft a,h.cp.aft a,h.st.aft a,h.aw.trans a,h.res.aft a⟩
theorem EnvC.put {lg:Nat}(h:EnvC w B5 B4 q gs n cc lc oc cA lA oA base cl L W)(F:Frm (fun j=>j=lg) W W')(h5:lg<B5)(h4:lg<B4)(hq:lg<q)(hs:lg<gs)(hw:w.heap.size<lg):
 EnvC w B5 B4 q gs n cc lc oc cA lA oA base cl L W':=
 ⟨h.sq.frm1 F h5,h.out.frm F (by omega),h.cp.frm F (fun j e e2=>by have:=(h.cp.lt j e).1;omega),h.st.frm F (by omega),Below.trans h.aw (F.below h.aw.size (fun j hj e=>by omega)),h.res.frm F (by omega)⟩
end
theorem levelsC_ok {w:World}{B n c:Nat}{A:Option Addr}{cl:List Int}(hn:n=cl.length)(h:RdInts w B .u8 A cl)(hl:n≤1048576){b:Int}(hb:b= -1∨b=0∨b=1):
 Calls Tryz.prog 43 #[.slice A n c,.int .i8 b,.func (.func 60) #[] #[]] w fun r w'=> ∃lA lc cA cc,r= .returned (.tuple #[.agg #[.int .i8 (lvlB cl b),.slice cA n cc,.slice lA n lc],.int .i64 0])∧Ints w' w.heap.size 22 .u8 (.slice cA n cc) cl∧
  Ints w' w.heap.size 29 .i8 (.slice lA n lc) (levE stpC (lvlB cl b) cl (exL (lvlB cl b) cl))∧(∀j,(Value.slice cA n cc).ownBlock=some j→(Value.slice lA n lc).ownBlock≠some j)∧Aft w w':=by
 have h0:=h.small;have CL: ∀W,Aft w W→Calls Tryz.prog 68 #[.slice A n c,.int .i8 b] W fun r w'=>r= .returned (.tuple #[.int .i8 (lvlB cl b),.int .i64 0])∧Below W.heap.size W w':=fun W hW=>PLevel_ok hn (h0.aft hW) (by omega) hb;have hbase2:=lvlB_two cl b;obtain⟨base,hbase⟩: ∃base,lvlB cl b=base:=⟨_,rfl⟩;rw[hbase]at CL hbase2;rw[hbase]
 have CE: ∀W,Aft w W→Calls Tryz.prog 69 #[.int .i8 base,.slice A n c] W fun r w'=> ∃lA lc cA cc mg,r= .returned (.tuple #[.agg #[.slice lA n lc,.slice cA n cc,.slice (some ⟨mg,0,none⟩) n n],.int .i64 0])∧
  Ints w' W.heap.size 29 .i8 (.slice lA n lc) (exL base cl)∧Ints w' W.heap.size 22 .u8 (.slice cA n cc) (exC base cl)∧(∀j,(Value.slice lA n lc).ownBlock=some j→(Value.slice cA n cc).ownBlock≠some j∧j≠mg)∧Below W.heap.size W w':=fun W hW=>by
  refine(Explicit_n base hn.symm hbase2 (h0.aft hW).small (Nat.le_refl _) hl).mono ?_;rintro r w' ⟨lA,lc,cA,cc,mg,e,h1,h2,-,h4,-,h6⟩;refine⟨lA,lc,cA,cc,mg,e,?_,?_,h4,h6⟩
  ·rw[hn]at h1;rw[hn];exact h1
  ·rw[hn]at h2;rw[hn];exact h2
 have hex:=exC_len base cl;have hel:=exL_len base cl;have hq2:=seqsE_ok hbase2 cl;have hq1:seqsE base cl=(seqsL cl (exC base cl) (exL base cl) base).1:=rfl;have hech:=seqsE_ech hbase2 cl
 have hlv: ∀s∈seqsE base cl,s.lv≤125:=fun s hs=>by obtain⟨hp,_,hk⟩:=hech.place s hs;obtain⟨a,ea,la,hv,_⟩:=hk 0 hp;obtain⟨_,hr⟩:=(seqsE_mem hbase2 cl (i:=a)).1 (List.mem_flatMap.2 ⟨s,hs,by rw[←ea];exact getD_mem0 _ hp⟩);have:=ex_ok hbase2 cl la hr;omega
 have CS: ∀(W:World) (xA lA:Option Addr) (xc lc:Nat) (B1 B2:Nat),Aft w W→RdInts W B1 .u8 xA (exC base cl)→RdInts W B2 .i8 lA (exL base cl)→Calls Tryz.prog 71 #[.slice A n c,.slice xA n xc,.slice lA n lc,.int .i8 base] W fun r w'=> ∃ov,r= .returned (.tuple #[ov,.int .i64 0])∧SqsOwn w' W.heap.size ov (seqsE base cl)∧Below W.heap.size W w':=fun W xA lA xc lc B1 B2 hW r1 r2=>by have:=Sequences_any (c0:=c) (c1:=xc) (c2:=lc) (n0:=n) (n1:=n) (n2:=n) base hn (by rw[hex];exact hn) (by rw[hel];exact hn) (h0.aft hW) r1 r2 (by omega);rw[hq2]at this;exact this
 have CN: ∀W,Aft w W→Calls Tryz.prog 70 #[.slice A n c] W fun r w'=> ∃v,r= .returned v∧Ints w' W.heap.size 22 .u8 v cl∧Below W.heap.size W w':=fun W hW=>CloneC_ok hn (h0.aft hW) (by omega);have HCL:=Lib.hid CL;have HCE:=Lib.hid CE;have HCS:=Lib.hid CS;have HCN:=Lib.hid CN;have HN:=Lib.hid hn;have HX:=Lib.hid hex;have HL:=Lib.hid hel;have HECH:=Lib.hid hech;have HLV:=Lib.hid hlv;have HB2:=Lib.hid hbase2;have HBASE:=Lib.hid hbase;clear CL CE CS CN hn hex hel hq2 hq1 hech hlv hbase2 hb h hbase;obtain⟨W1,hW1⟩: ∃W1,w.alloc (.cells #[.int .i8 0,.slice none 0 0,.slice none 0 0] 33)=W1:=⟨_,rfl⟩
 have X6:Blk W1 w.heap.size 33 #[.int .i8 0,.slice none 0 0,.slice none 0 0]:=by rw[←hW1];exact Blk.new w 33 _
 have a1:Aft w W1:=by rw[←hW1];exact(Aft.refl w).alloc _
 go_enter Tryz.func43,Tryz.ntmps43
 go_upto_region 1 with(fail)
 clear hW1
 go_upto_region 7 with(first
  |(go_at_call 68;refine(HCL.out _ a1).mono ?_;rintro r2 w2 ⟨rfl,b2'⟩;have a2:Aft w w2:=a1.trans b2')
  |(go_at_call 69;refine(HCE.out _ a2).mono ?_;rintro r3 w3 ⟨lA,lc,xA,xc,mg,rfl,IL,IX,hLX,b3⟩))
 obtain⟨w4,hw4⟩: ∃w4,w3.alloc (.cells #[.slice lA n lc,.slice xA n xc,.slice (some ⟨mg,0,none⟩) n n] 111)=w4:=⟨_,rfl⟩
 have X10:Blk w4 w3.heap.size 111 #[.slice lA n lc,.slice xA n xc,.slice (some ⟨mg,0,none⟩) n n]:=by rw[←hw4];exact Blk.new w3 111 _
 have a4:Aft w w4:=by rw[←hw4];exact(a2.trans b3).alloc _
 have IL4:Ints w4 w.heap.size 29 .i8 (.slice lA n lc) (exL base cl):=by rw[←hw4];exact(IL.base (fun j e=>Nat.le_trans a2.size (IL.lt j e).1)).alloc _
 have IX4:Ints w4 w.heap.size 22 .u8 (.slice xA n xc) (exC base cl):=by rw[←hw4];exact(IX.base (fun j e=>Nat.le_trans a2.size (IX.lt j e).1)).alloc _
 have X64:Blk w4 w.heap.size 33 #[.int .i8 0,.slice none 0 0,.slice none 0 0]:=by rw[←hw4];exact((X6.aft b2').aft b3).alloc _
 have hlg: ∀j,(Value.slice lA n lc).ownBlock=some j→w.heap.size<j∧j<w4.heap.size:=fun j e=>⟨Nat.lt_of_lt_of_le X6.lt (Nat.le_trans b2'.size (IL.lt j e).1),(IL4.lt j e).2⟩;rw[hw4];have HLG:=Lib.hid hlg;have HLX:=Lib.hid hLX;clear hlg hLX;obtain⟨b10,hb10⟩: ∃b,w3.heap.size=b:=⟨_,rfl⟩;rw[hb10]at X10⊢;have KEEP:=Lib.hid (fun(W:World) (hW:Aft w4 W)=>slot3 (X10.aft hW));have CN4:=Lib.hid (fun(W:World) (hW:Aft w4 W)=>HCN.out W (a4.trans hW));clear hw4 hb10 IL IX a1 a2 b2' b3 X6
 refine wpIn_wide.1 (wpIn_region_vars (d:=0) (c:=2) (av:=[(6,7)]) (vars:=[⟨6,7,33,#[.int .i8 0,.slice none 0 0,.slice none 0 0],fun r=>#[.int .i8 base,r,.slice lA n lc]⟩])
  (K:=[(0,0),(0,0),(1,0),(0,0),(0,0),(0,0),(2,0),(3,0)])
  (U:=[none,none,some 2,none,none,some 2,some 6,some 2]) (E:=[])
  (vs:=[.inl (.int .i8 base),.inl (.slice A n c),.inr (2,id),.inl (.pointer (some ⟨b10,0,none⟩)),.inl (.slice lA n lc),.inr (2,fun r=>.agg #[.int .i8 base,r,.slice lA n lc]),.inr (6,id),.inr (2,id)])
  (R:=fun r=> ∃A' c',r= .slice A' n c') (T:=fun r W=>Ints W w4.heap.size 22 .u8 r cl)
  (by kernel_rfl) (by kernel_rfl) rfl rfl (by kernel_rfl) (by kernel_rfl) ?_ ?_)
 ·simp only[List.map_cons,List.map_nil,valV,id,putAll,Act.put,List.setIfInBounds_toArray,List.set_cons_zero,List.set_cons_succ];refine⟨?_,?_,?_,?_,?_,?_,?_,?_,trivial⟩
  all_goals first
   |(intro ρ W hA _;obtain⟨k0,k1,k2⟩:=KEEP.out W hA;simp only[valV];go_simp;done)
   |(intro ρ W hA hu;obtain⟨A',c',e⟩:=hu rfl;simp only[valV,e];go_simp;done)
   |(refine⟨fun _=>rfl,fun ρ W=> ?_⟩;go_simp;done)
   |skip
  ·refine⟨fun _=>rfl,fun ρ W hA=>⟨70,#[.slice A n c],?_,?_⟩⟩
   ·go_simp
   ·refine(CN4.out W hA).mono ?_;rintro r w5 ⟨v5,rfl,I5,b5⟩;obtain⟨A',c',e,-,-,-⟩:=I5.val;refine⟨_,rfl,⟨A',c',by rw[e,HN.out]⟩,b5,fun W' hF=>(I5.frm hF (fun j e h=>by have:=(I5.lt j e).1;omega)).base (fun j e=>by have:=(I5.lt j e).1;have:=hA.le;omega)⟩
  ·intro ρ W q hq ⟨A',c',e⟩ hb;have hq:ρ 6= .pointer (some ⟨q,0,none⟩):=hq;have hb:Blk W q 33 #[.int .i8 0,.slice none 0 0,.slice none 0 0]:=hb;obtain⟨y0,y1,y2,yf,yl⟩:=hb.c3;refine⟨((W.setCell ⟨q,0,none⟩ (.int .i8 base)).setCell ⟨q,1,none⟩ (.slice A' n c')).setCell ⟨q,2,none⟩ (.slice lA n lc),?_,?_,?_⟩
   ·simp only[hq,e];go_simp
   ·have:=((hb.set_ 0 (.int .i8 base)).set_ 1 (.slice A' n c')).set_ 2 (.slice lA n lc)
    simpa[e]using this
   ·exact(((Frm.refl (fun k=>k=q) W).set rfl _).set rfl _).set rfl _
 ·intro ρ w5 hA ⟨cA,cc,e⟩ hT hv hd;obtain⟨q,hq,hqs,X11⟩:=hv _ List.mem_cons_self;have hq:ρ 6= .pointer (some ⟨q,0,none⟩):=hq;simp only[e]at X11 hT;simp only[List.map_cons,List.map_nil,valV,id,putAll,Act.put,List.setIfInBounds_toArray,List.set_cons_zero,List.set_cons_succ,hq,e];clear hv hd e hq KEEP CN4;have a5:Aft w w5:=a4.trans hA;have X105:=X10.aft hA;have X65:=X64.aft hA;have IL5:=IL4.aft hA;have IX5:=IX4.aft hA;obtain⟨x0,x1,x2,xf,xl⟩:=X105.c3;have hq4:w4.heap.size≤q:=hqs;have hlt4:w.heap.size<w4.heap.size:=X64.lt;clear X10 X64 IL4 IX4
  go_upto_region 9 with(go_at_call 71;refine(HCS.out _ xA lA xc lc _ _ a5 IX5.rd IL5.rd).mono ?_;rintro r6 w6 ⟨ov,rfl,SO,b6⟩;obtain⟨L,hL,hS⟩:=SO;obtain⟨oA,oc,hov⟩:=row_shape hS.row;subst hov)
  have hq5:q<w5.heap.size:=X11.lt;have IL6:=IL5.aft b6;have IX6:=IX5.aft b6;have X106:=X105.aft b6;have X116:=X11.aft b6;have X66:=X65.aft b6;have IC6:=hT.aft b6;have a6:Aft w w6:=a5.trans b6;have HLL:=Lib.hid hL
  have hLlen:L.length≤n:=by have h1:=congrArg List.length hL;rw[List.length_map]at h1;have h2:(seqsE base cl).length≤cl.length:=(ech_len HECH.out).1;have:=HN.out;omega
  obtain⟨x0,x1,x2,xf,xl⟩:=X106.c3;have hs5:=b6.size;have hs45:=hA.le;clear hL X105 X11 X65 IL5 IX5 hT HCL HCE HCS HCN
  go_upto_region 12 with(go_at_call 60;refine(stepsC_ok _ xA n xc).mono ?_;rintro r7 w7 ⟨rfl,xs7,b7⟩)
  have a67:Aft w6 w7:=b7;obtain⟨f,hf⟩: ∃f:Sq→Sq,f=stpC:=⟨_,rfl⟩
  have hkeep:Keeps f:=by rw[hf];exact keeps_C
  have EV:EnvC w w5.heap.size w4.heap.size q w6.heap.size n cc lc oc cA lA oA base cl L w7:=⟨hS.below b7 (Nat.le_refl _),X116.aft b7,IC6.aft b7,xs7,a6.trans b7,X66.aft b7⟩;have IL7:=IL6.aft b7;have HKP:=Lib.hid hkeep;have HF:=Lib.hid hf
  have hsz6:w6.heap.size<w7.heap.size:=by first|exact xf7.lt|exact xs7.lt
  have hq6:q<w6.heap.size:=X116.lt;have h5q:w5.heap.size≤w6.heap.size:=hs5;clear xs7 hS X116 X106 IC6 IX6 IL6 x0 x1 x2 xf xl b6 b7 a67 hf hkeep;go_wp2
  go_loopg [68] L.length (fun gk iv wr=> ∃k:Nat,k+gk=L.length∧iv= .int .i64 k∧EnvC w w5.heap.size w4.heap.size q w6.heap.size n cc lc oc cA lA oA base cl L wr∧Ints wr w.heap.size 29 .i8 (.slice lA n lc) (putS f (exL base cl) ((seqsE base cl).take k))∧w7.heap.size≤wr.heap.size)
  case atStart=>exact⟨0,by omega,rfl,EV,IL7,Nat.le_refl _⟩
  case round=>
   clear EV IL7;obtain⟨k,hk,rfl,EV,IL,hsr⟩:=hrel;have HK:=Lib.hid hk;clear hk
   by_cases hkm:k<L.length
   ·obtain⟨og,oc',e,ho1,ho2⟩:=World.ownsRow.form EV.sq.row (by omega)
    injection e with e1 e2 e3
    subst e1 e3;obtain⟨A1,c1,C1,d1,-,-,y0,y1,y2,y3,y4,r1,r2⟩:=EV.sq.get (i:=k) (e:=L[k]) (List.getElem?_eq_getElem hkm)
    have hkE:k<(seqsE base cl).length:=by rw[←HLL.out,List.length_map];exact hkm
    have hsE:(seqsE base cl)[k]=L[k].1:=by
     have h1:(L.map (·.1))[k]?=(seqsE base cl)[k]?:=by rw[HLL.out]
     rw[List.getElem?_map,List.getElem?_eq_getElem hkm,List.getElem?_eq_getElem hkE]at h1;exact(Option.some.inj h1).symm
    have hstep:=putS_step (f:=f) (o:=exL base cl) hkE;rw[hsE]at hstep;obtain⟨s,hs⟩: ∃s,L[k].1=s:=⟨_,rfl⟩;rw[hs]at y0 y1 y2 y3 y4 r1 r2 hsE hstep
    have hmem:s∈seqsE base cl:=by rw[←hsE];exact List.getElem_mem hkE
    have hch:=HECH.out.chk s hmem;obtain⟨hp0,hpc,hpp⟩:=HECH.out.place s hmem
    have hpn:s.pl.length≤n:=by have h1:s.pl.length≤cl.length:=(ech_len HECH.out).2 s hmem;have:=HN.out;omega
    have hlv:=HLV.out s hmem
    have hpl: ∀i,i<s.pl.length→ ∃a:Nat,s.pl.getD i 0=a∧a<n:=fun i hi=>by obtain⟨a,ea,la,_⟩:=hpp i hi;exact⟨a,ea,by have:=HN.out;omega⟩
    obtain⟨m1,hm1⟩: ∃m1,s.pl.length=m1:=⟨_,rfl⟩;rw[hpc,hm1]at y1;rw[hm1]at y0 hp0 hpc hpn hpl;have HM1:=Lib.hid hm1;have HPC:=Lib.hid hpc;have HPL:=Lib.hid hpl;have HCH:=Lib.hid hch;have HSTEP:=Lib.hid hstep;have HYY:=Lib.hid hlv;obtain⟨Wr,hWr⟩: ∃Wr,Wr=wr:=⟨_,rfl⟩;subst hWr;have hq9:=EV.aw.size;clear hpp hkE hsE hs hmem hm1 hpc hpl hch hstep hlv e2
    go_upto_region 15 with(fail)
    obtain⟨W8,hW8⟩: ∃W8,Wr.alloc (.cells #[.slice A1 m1 c1,.slice C1 m1 d1,.int .i8 s.lv,.int .u8 s.so,.int .u8 s.eo] 87)=W8:=⟨_,rfl⟩
    have X15:Blk W8 Wr.heap.size 87 #[.slice A1 m1 c1,.slice C1 m1 d1,.int .i8 s.lv,.int .u8 s.so,.int .u8 s.eo]:=by rw[←hW8];exact Blk.new _ _ _
    have a8:Aft Wr W8:=by rw[←hW8];exact(Aft.refl _).alloc _
    rw[hW8];have r18:=(r1.aft a8).small;have r28:=(r2.aft a8).small;clear hW8 y0 y1 y2 y3 y4 r1 r2;go_wp2
    go_loopg [74] 2 (fun gk iv wr=> ∃j:Nat,j+gk=2∧iv= .int .i64 j∧Aft Wr wr∧ ∃A' c' C' d',Blk wr Wr.heap.size 87 #[.slice A' m1 c',.slice C' m1 d',.int .i8 s.lv,.int .u8 s.so,.int .u8 s.eo]∧RdInts wr wr.heap.size .i64 A' s.pl∧RdInts wr wr.heap.size .u8 C' (stC' s j).cs∧(0<j→ ∀b off,A'=some ⟨b,off,none⟩→Wr.heap.size≤b))
    case atStart=>exact⟨0,by omega,rfl,a8,A1,c1,C1,d1,X15,r18,r28,fun h=>absurd h (by omega)⟩
    case round=>
     clear X15 a8 r18 r28 W8;obtain⟨j,hj,rfl,a,A',c',C',d',X,rp,rc,hlow⟩:=hrel;have EVw:=EV.aft a;obtain⟨x0,x1,x2,x3,x4,xf,xl⟩:=X.c5;have hal:=a.le
     have hj3:j=0∨j=1∨j=2:=by omega
     obtain⟨s0,s1,sf,sl⟩:=EVw.st.c2;have HJ:=Lib.hid hj;clear hj
     rcases hj3 with rfl|rfl|rfl
     ·have CW:Calls Tryz.prog 47 #[.agg #[.slice A' m1 c',.slice C' m1 d',.int .i8 s.lv,.int .u8 s.so,.int .u8 s.eo]] wr (StepE wr m1 s.lv s.so s.eo s.pl s.wk.cs):=by
       refine(WResolve_ok (s:=s) HM1.out.symm HPC.out.symm rp rc (by omega) (by omega) HCH.out).mono ?_;rintro r w9 ⟨pv,cv,rfl,I,J,a9⟩;exact stepE_of HM1.out.symm (by rw[wk_cs];unfold weakL;rw[rulesL_len];exact HPC.out.symm) I J a9
      clear rp rc hlow
      go_upto_region 19 with(go_at_call 47;refine CW.mono ?_;rintro r9 w9 ⟨A9,C9,c9,d9,rfl,rp9,rc9,hl9,a9⟩;have X9:=X.aft a9;obtain⟨x0,x1,x2,x3,x4,xf,xl⟩:=X9.c5)
      have F9:=frm_put5 w9 Wr.heap.size (.slice A9 m1 c9) (.slice C9 m1 d9) (.int .i8 s.lv) (.int .u8 s.so) (.int .u8 s.eo);have N9:=blk_put5 (.slice A9 m1 c9) (.slice C9 m1 d9) (.int .i8 s.lv) (.int .u8 s.so) (.int .u8 s.eo) X9;obtain⟨w10,hw10⟩: ∃w10,((((w9.setCell ⟨Wr.heap.size,0,none⟩ (.slice A9 m1 c9)).setCell ⟨Wr.heap.size,1,none⟩ (.slice C9 m1 d9)).setCell ⟨Wr.heap.size,2,none⟩ (.int .i8 s.lv)).setCell ⟨Wr.heap.size,3,none⟩ (.int .u8 s.so)).setCell ⟨Wr.heap.size,4,none⟩ (.int .u8 s.eo)=w10:=⟨_,rfl⟩;rw[hw10]at F9 N9⊢;have ha9:Aft Wr w9:=a.trans a9;have aN:Aft Wr w10:=Below.trans ha9 (F9.below ha9.size (fun j hj e=>by omega));have rpN:=(rp9.frmA F9 (fun b off e h=>by have:=hl9 b off (.inl e);have h:b=Wr.heap.size:=h;have:=X.lt;omega)).more F9.size;have rcN:RdInts w10 w10.heap.size .u8 C9 _:=(rc9.frmA F9 (fun b off e h=>by have:=hl9 b off (.inr e);have h:b=Wr.heap.size:=h;have:=X.lt;omega)).more F9.size;clear hw10 F9 X9 x0 x1 x2 x3 x4 xf xl rp9 rc9 ha9 a9 X a EVw;go_wp2
      go_roundg (1)
      case rel=>exact⟨1,by omega,rfl,aN,A9,c9,C9,d9,N9,rpN,rcN,fun _ b off e=>by have:=hl9 b off (.inl e);omega⟩
      case measure=>have:=HJ.out;omega
     ·have hcl:(stC' s 1).cs.length=m1:=by show s.wk.cs.length=m1;rw[wk_cs];unfold weakL;rw[rulesL_len];exact HPC.out
      have hck:chkL (stC' s 1)=0:=wk_chk HCH.out;have hlate:LateC (stC' s 1).cs:=wk_late HCH.out
      have CW:Calls Tryz.prog 48 #[.agg #[.slice A' m1 c',.slice C' m1 d',.int .i8 s.lv,.int .u8 s.so,.int .u8 s.eo]] wr (StepE wr m1 s.lv s.so s.eo s.pl (stC' s 2).cs):=by refine(RResolve_ok (s:=stC' s 1) HM1.out.symm hcl.symm rp rc (by omega) (by omega) hck hlate).mono ?_;rintro r w9 ⟨pv,cv,rfl,I,J,a9⟩;exact stepE_of HM1.out.symm (by show m1=(restL _ _ _ _).length;rw[restL_len];exact hcl.symm) I J a9
      clear rp rc hlow hcl hck hlate
      go_upto_region 19 with(go_at_call 48;refine CW.mono ?_;rintro r9 w9 ⟨A9,C9,c9,d9,rfl,rp9,rc9,hl9,a9⟩;have X9:=X.aft a9;obtain⟨x0,x1,x2,x3,x4,xf,xl⟩:=X9.c5)
      have F9:=frm_put5 w9 Wr.heap.size (.slice A9 m1 c9) (.slice C9 m1 d9) (.int .i8 s.lv) (.int .u8 s.so) (.int .u8 s.eo);have N9:=blk_put5 (.slice A9 m1 c9) (.slice C9 m1 d9) (.int .i8 s.lv) (.int .u8 s.so) (.int .u8 s.eo) X9;obtain⟨w10,hw10⟩: ∃w10,((((w9.setCell ⟨Wr.heap.size,0,none⟩ (.slice A9 m1 c9)).setCell ⟨Wr.heap.size,1,none⟩ (.slice C9 m1 d9)).setCell ⟨Wr.heap.size,2,none⟩ (.int .i8 s.lv)).setCell ⟨Wr.heap.size,3,none⟩ (.int .u8 s.so)).setCell ⟨Wr.heap.size,4,none⟩ (.int .u8 s.eo)=w10:=⟨_,rfl⟩;rw[hw10]at F9 N9⊢;have ha9:Aft Wr w9:=a.trans a9;have aN:Aft Wr w10:=Below.trans ha9 (F9.below ha9.size (fun j hj e=>by omega));have rpN:=(rp9.frmA F9 (fun b off e h=>by have:=hl9 b off (.inl e);have h:b=Wr.heap.size:=h;have:=X.lt;omega)).more F9.size;have rcN:RdInts w10 w10.heap.size .u8 C9 _:=(rc9.frmA F9 (fun b off e h=>by have:=hl9 b off (.inr e);have h:b=Wr.heap.size:=h;have:=X.lt;omega)).more F9.size;clear hw10 F9 X9 x0 x1 x2 x3 x4 xf xl rp9 rc9 ha9 a9 X a EVw;go_wp2
      go_roundg (0)
      case rel=>exact⟨2,by omega,rfl,aN,A9,c9,C9,d9,N9,rpN,rcN,fun _ b off e=>by have:=hl9 b off (.inl e);omega⟩
      case measure=>have:=HJ.out;omega
     ·have hfs:(stC' s 2).cs=(f s).cs:=by rw[HF.out];rfl
      have hvl:(valS f s).length=m1:=by unfold valS lvsL;rw[List.length_map,(HKP.out s HCH.out).2.2];exact HPC.out
      have hcl:(stC' s 2).cs.length=m1:=by rw[hfs,(HKP.out s HCH.out).2.2];exact HPC.out
      have CV:Calls Tryz.prog 72 #[.agg #[.slice A' m1 c',.slice C' m1 d',.int .i8 s.lv,.int .u8 s.so,.int .u8 s.eo]] wr fun r w'=> ∃v,r= .returned (.tuple #[v,.int .i64 0])∧Ints w' wr.heap.size 29 .i8 v (valS f s)∧Aft wr w':=by
       have:=Levels_ok (s:=stC' s 2) (c:=c') (d:=d') HM1.out.symm hcl.symm rp rc (by omega) (by omega) (ne_chk (wk_chk HCH.out) (wk_late HCH.out)) HYY.out (ne_set (wk_chk HCH.out) (wk_late HCH.out))
       have e:lvsL (stC' s 2).lv (stC' s 2).cs=valS f s:=by rw[hfs];rfl
       rw[e]at this;exact this
      have hOl:(putS f (exL base cl) ((seqsE base cl).take k)).length=n:=by rw[putS_len,HL.out];exact HN.out.symm
      obtain⟨O,hO⟩: ∃O,putS f (exL base cl) ((seqsE base cl).take k)=O:=⟨_,rfl⟩;rw[hO]at IL hOl;have hstep:=HSTEP.out;rw[hO]at hstep;obtain⟨VS,hVS⟩: ∃VS,valS f s=VS:=⟨_,rfl⟩;rw[hVS]at CV hvl hstep;have HST:=Lib.hid hstep;have HVL:=Lib.hid hvl;have HOL:=Lib.hid hOl;have hlow3:=hlow (by omega);have ILw:=IL.aft a;obtain⟨lg,lc',e⟩:=IL.form (by omega);rw[hOl]at e
      injection e with e1 e2 e3
      subst e1 e3;have hlg:=HLG.out lg rfl;have hlx:=(HLX.out lg rfl).1;clear hfs hvl hcl rc hlow IL hO hVS hstep hOl e2 s0 s1 sf sl
      go_upto_region 26 with(go_at_call 72;refine CV.mono ?_;rintro r9 w9 ⟨v,rfl,IV,a9⟩;obtain⟨vg,vc,hv⟩:=IV.form (by rw[HVL.out];omega);rw[HVL.out]at hv;subst hv;have X9:=X.aft a9;obtain⟨x0,x1,x2,x3,x4,xf,xl⟩:=X9.c5)
      have ha9:Aft Wr w9:=a.trans a9;have EV9:=EVw.aft a9;have IL9:=ILw.aft a9;have rp9:=(rp.aft a9);have hvg:=(IV.lt vg rfl).1;have hWw:=EV.aw.size;clear CV X9 X EVw ILw rp a a9 x0 x1 x2 x3 x4 xf xl EV
      go_loopg [101] m1 (fun gk iv wr=> ∃i:Nat,i+gk=m1∧iv= .int .i64 i∧Ints wr w.heap.size 29 .i8 (.slice (some ⟨lg,0,none⟩) n lc) (putL O (s.pl.take i) (VS.take i))∧Frm (fun j=>j=lg) w9 wr)
      case atStart=>exact⟨0,by omega,rfl,by simpa[putL]using IL9,Frm.refl _ _⟩
      case round=>
       clear IL9;obtain⟨i,hi,rfl,IL,F⟩:=hrel;have HI:=Lib.hid hi;clear hi;have EV1:=EV9.put F (by omega) (by omega) (by omega) (by omega) (by omega)
       by_cases him:i<m1
       ·obtain⟨pa,hpa,hpan⟩:=HPL.out i him;have ht:=putL_take s.pl VS O i (by rw[HM1.out];exact him) (by rw[HVL.out];exact him);rw[hpa,Int.toNat_natCast]at ht;obtain⟨ab,ao,hA',_,hab,cpa⟩:=rp9.at_ (i:=i) (by rw[HM1.out];exact him);have habl:=hlow3 ab ao hA';subst hA';rw[hpa]at cpa;have cpa2:=(World.cell?_of_block (a:=⟨ab,ao+i,none⟩) (F.block ab hab (by show ab≠lg;omega))).trans cpa;obtain⟨-,v1,v2,_,v4,v5,v6⟩:=IV.at_;have cv0:=v6 i (by rw[HVL.out];exact him);have cv:=(World.cell?_of_block (a:=⟨vg,i,none⟩) (F.block vg v4 (by show vg≠lg;omega))).trans cv0;obtain⟨o0,o1,o2,of_,ol⟩:=EV1.out.c3;obtain⟨l0,l1,l2,_,l4,l5,l6⟩:=IL.at_;have clg:=l6 pa (by rw[←l0];exact hpan)
        have hlcn:n≤lc:=by rw[l0];exact l1
        have hvcn:m1≤vc:=by rw[←HVL.out];exact v1
        obtain⟨x,hx⟩: ∃x,VS.getD i 0=x:=⟨_,rfl⟩;rw[hx]at cv ht;generalize (putL O (s.pl.take i) (VS.take i)).getD pa 0=y at*;have ILn:=IL.set pa x;rw[←ht]at ILn;have HT:=Lib.hid ILn;have HFF:=Lib.hid F;clear ht hpa cpa cv0 v1 v6 l0 l1 l6 hx EV1 o0 o1 ILn IL F;go_wp2
        go_region
        go_wp2
        go_roundg (m1-(i+1))
        case rel=>exact⟨i+1,by have:=HI.out;omega,by go_num,HT.out,HFF.out.drew.set rfl _⟩
        case measure=>have:=HI.out;omega
       ·have him2:i=m1:=by have:=HI.out;omega
        have hfin:putL O (s.pl.take i) (VS.take i)=putS f (exL base cl) ((seqsE base cl).take (k+1)):=by rw[List.take_of_length_le (by rw[HM1.out];omega),List.take_of_length_le (by rw[HVL.out];omega)];exact HST.out.symm
        rw[hfin]at IL;have hFs:=F.size;have ha9s:=ha9.le;clear hfin him HI;subst him2;go_wp2
        go_roundg (L.length-(k+1))
        case rel=>exact⟨k+1,by have:=HK.out;omega,by go_num,EV1,IL,by omega⟩
        case measure=>have:=HK.out;omega
   ·have hkL:k=L.length:=by have:=HK.out;omega
    have hfin:putS f (exL base cl) ((seqsE base cl).take k)=levE f base cl (exL base cl):=by rw[List.take_of_length_le (by rw[←HLL.out,List.length_map];omega)];rfl
    rw[hfin]at IL;obtain⟨o0,o1,o2,of_,ol⟩:=EV.out.c3;obtain⟨z0,z1,z2,zf,zl⟩:=EV.res.c3;have F9:=frm_put3 wr w.heap.size (.int .i8 base) (.slice cA n cc) (.slice lA n lc);have N9:=blk_put3 (.int .i8 base) (.slice cA n cc) (.slice lA n lc) EV.res;have hff:=HF.out;rw[hff]at IL;have hlev:=Lib.hid (show Ints _ _ _ _ _ _ from IL);clear hfin hff IL hkm;go_wp2;refine bodyPost_ret (results_row1 rfl _ _ w.heap.size 33 _ _ rfl N9 Tryz.underlying33 rfl (by kernel_rfl)) rfl ?_;refine⟨lA,lc,cA,cc,rfl,?_,?_,?_,?_⟩
    ·refine(EV.cp.frm F9 (fun j e h=> ?_)).base (fun j e=> ?_)
     ·have:=(EV.cp.lt j e).1;have h:j=w.heap.size:=h;omega
     ·have:=(EV.cp.lt j e).1;omega
    ·exact hlev.out.frm F9 (fun j e h=>by have:=(HLG.out j e).1;have h:j=w.heap.size:=h;omega)
    ·intro j e e2;have:=(EV.cp.lt j e).1;have:=(HLG.out j e2).2;omega
    ·exact Below.trans EV.aw (F9.below EV.aw.size (fun j hj e=>by omega))
end Go.Proofs.YtllolnkkepacjaaGreat
