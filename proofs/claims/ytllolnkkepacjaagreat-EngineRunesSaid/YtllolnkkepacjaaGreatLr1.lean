/- EngineRunes walked. -/
import Derived.Test.YtllolnkkepacjaaGreatKn2
import Derived.Test.YtllolnkkepacjaaGreatEw3
import Derived.Test.YtllolnkkepacjaaGreatA1
import Derived.Test.YtllolnkkepacjaaGreatY5
set_option maxRecDepth 100000
set_option maxHeartbeats 8000000
namespace Go.Proofs.YtllolnkkepacjaaGreat
open Go.RowKit
attribute [local go_sem] Oper.semAt_some
theorem ei21:ElemI Tryz.prog 26 21 .i32 4:=ElemI.mk' Tryz.underlying26 (by kernel_rfl)
theorem runesX_len (rest:Int)(ch:List Chr)(l:List Int)(b:Int):(runesX rest ch l b).cs.length≤l.length∧(runesX rest ch l b).lv.length≤l.length:=by
 unfold runesX
 split
 ·exact⟨Nat.zero_le _,Nat.zero_le _⟩
 split
 ·exact⟨Nat.zero_le _,Nat.zero_le _⟩
 split
 ·exact⟨Nat.zero_le _,Nat.zero_le _⟩
 ·refine⟨by rw[clsL_len];exact Nat.le_refl _,?_⟩;show(levE _ _ _ _).length≤_;rw[levE_len,exL_len,clsL_len];exact Nat.le_refl _
theorem runes_ok {w:World}{pv:Value}{rest:Int}{ch:List Chr}(hP:PropsIs w w.heap.size pv rest ch){A:Option Addr}{n c:Nat}{l:List Int}(h:RdInts w w.heap.size .i32 A l)(hn:n=l.length)(hl:n≤35184372087808)(b:Int):
 Calls Tryz.prog 3 #[pv,.slice A n c,.int .i8 b] w fun r w'=>r= .returned (.bool true)∧Aft w w':=by
 have CA:=fun W=>awake_ok W;have CF:=fun W=>fit_ok W (n:Int);obtain⟨⟨Xe,Xb,Xc,Xl⟩,hX⟩: ∃X,runesX rest ch l b=X:=⟨_,rfl⟩;obtain⟨mp,hmp⟩: ∃z,mayP rest ch=z:=⟨_,rfl⟩
 have CM: ∀W,Aft w W→Calls Tryz.prog 16 #[pv] W fun r w'=>r= .returned (.bool mp)∧Aft W w':=fun W hW=>by rw[←hmp];exact May_ok (hP.below hW (.inl (Nat.le_refl _)))
 have C15:=fun(W:World) (hW:Aft w W) (A2:Option Addr) (c2:Nat) (hr:RdInts W W.heap.size .i32 A2 l)=>ERunes_ok (rc:=c2) (hP.below hW (.inl (Nat.le_refl _))) hr hn b;have C19:=fun(W:World) (hW:Aft w W)=>rERunes_ok (rc:=c) (hP.below hW (.inl (Nat.le_refl _))) (h.aft hW) hn b;have hlen:=runesX_len rest ch l b;rw[hX]at C15 C19 hlen;obtain⟨p,hp⟩: ∃p,Xc.length=p:=⟨_,rfl⟩;obtain⟨q,hq⟩: ∃q,Xl.length=q:=⟨_,rfl⟩
 have C15': ∀(W:World),Aft w W→ ∀(A2:Option Addr) (c2:Nat),RdInts W W.heap.size .i32 A2 l→Calls Tryz.prog 15 #[.iface 25 pv,.slice A2 n c2,.int .i8 b] W fun r w'=> ∃cA lA cc lc,r= .returned (.tuple #[.agg #[.int .i8 Xb,.slice cA p cc,.slice lA q lc],.int .i64 Xe])∧Ints w' W.heap.size 22 .u8 (.slice cA p cc) Xc∧Ints w' W.heap.size 29 .i8 (.slice lA q lc) Xl∧(∀j,(Value.slice cA p cc).ownBlock=some j→(Value.slice lA q lc).ownBlock≠some j)∧Aft W w':=fun W hW A2 c2 hr=>by refine(C15 W hW A2 c2 hr).mono ?_;rintro r w' ⟨v,rfl,⟨cA,lA,cc,lc,rfl,h1,h2,h3⟩,a⟩;simp only at h1 h2 h3;rw[hp]at h1 h3;rw[hq]at h2 h3;exact⟨cA,lA,cc,lc,by simp only[hp,hq],h1,h2,h3,a⟩
 have C19': ∀(W:World),Aft w W→Calls Tryz.prog 19 #[pv,.slice A n c,.int .i8 b] W fun r w'=> ∃cA lA cc lc,r= .returned (.tuple #[.agg #[.int .i8 Xb,.slice cA p cc,.slice lA q lc],.int .i64 Xe])∧Ints w' W.heap.size 22 .u8 (.slice cA p cc) Xc∧Ints w' W.heap.size 29 .i8 (.slice lA q lc) Xl∧Aft W w':=fun W hW=>by refine(C19 W hW).mono ?_;rintro r w' ⟨v,rfl,⟨cA,lA,cc,lc,rfl,h1,h2,h3⟩,a⟩;simp only at h1 h2 h3;rw[hp]at h1;rw[hq]at h2;exact⟨cA,lA,cc,lc,by simp only[hp,hq],h1,h2,a⟩
 simp only at hlen;have HLN:=Lib.hid hlen;have HN:=Lib.hid hn;have HP:=Lib.hid hp;have HQ:=Lib.hid hq;clear hn hX hp hq hlen C15 C19 hmp;obtain⟨pA,pc,epv,-,-⟩:=hP;obtain⟨pn,hpn⟩: ∃pn,ch.length=pn:=⟨_,rfl⟩;rw[hpn]at epv;clear hpn;subst epv
 go_enter Tryz.func3,Tryz.ntmps3
 go_upto_region 2 with(fail)
 have X3:=Blk.new w 25 #[.int .u8 rest,.slice pA pn pc];have a00:Aft w (w.alloc (.cells #[.int .u8 rest,.slice pA pn pc] 25)):=(Aft.refl w).alloc _;obtain⟨x3,hx3⟩: ∃x,w.heap.size=x:=⟨_,rfl⟩;obtain⟨w0,hw0⟩: ∃w0,w.alloc (.cells #[.int .u8 rest,.slice pA pn pc] 25)=w0:=⟨_,rfl⟩;rw[hw0]at X3 a00⊢;have h0:RdInts w0 w.heap.size .i32 A l:=h.aft a00;have HX3:=Lib.hid hx3;rw[hx3]at X3⊢;clear hw0 hx3
 go_upto_region 3 with(first
  |(at_builtin;go_must (refine wpList_appIs ei21 rfl rfl rfl (Ints.nil w0 w0.heap.size 21 .i32) HN.out rfl (h0.more a00.size) ?_ ?_ ?_ ?_)))
 ·have:=HN.out;simp;unfold maxLen;omega
 ·have:=HN.out;simp;omega
 ·omega
 intro v1 w1 I1 g1 hv1;have I1:Ints w1 w0.heap.size 21 .i32 v1 l:=I1;have a1:Aft w0 w1:=Aft.of_grown (by simpa[Value.ownBlock]using g1)
 go_upto_region 3 with(at_builtin;go_must (refine wpList_appI ei21 rfl rfl rfl (I1.alloc _) rfl (Blk.at_ (by simp)) ?_ ?_ ?_ ?_))
 ·have:=HN.out;unfold maxLen;omega
 ·have:=HN.out;omega
 ·simp;have:=a1.size;omega
 intro g cap w2 I2 g2 hg2;have a02:Aft w0 w2:=(a1.alloc _).grown g2 (fun j e=>(I1.lt j e).1);have a2:Aft w w2:=a00.trans a02;have X32:=X3.aft a02;rw[←HN.out]at I2;rw[←HN.out];have hgs:w0.heap.size≤g:=(I2.lt g rfl).1;clear I1 g1 hv1 g2 hg2 a1
 have hcap:n+1≤cap:=by obtain⟨_,hc,_⟩:=I2.at_;have:=HN.out;simp at hc;omega
 have hc0:n≤cap:=by omega
 have R2:RdInts w2 w2.heap.size .i32 (some ⟨g,0,none⟩) l:=by have:=I2.rd.take n;rw[List.take_left' HN.out.symm]at this;exact this
 clear X3 h0;go_wp2;have KEEP:=Lib.hid (fun(W:World) (hW:Aft w2 W)=>(X32.aft hW).c2);have CN:=Lib.hid (fun(W:World) (hW:Aft w2 W)=>C15' W (a2.trans hW) _ cap ((R2.aft hW).more hW.size))
 refine wpIn_wide.1 (wpIn_region_vars (d:=0) (c:=7) (av:=[(11,12)]) (vars:=[⟨11,12,33,#[.int .i8 0,.slice none 0 0,.slice none 0 0],fun r=>aggV (extV 0 r)⟩])
  (K:=[(0,0),(0,0),(0,0),(0,0),(0,0),(0,0),(0,0),(1,0),(0,0),(0,0),(0,0),(2,0),(3,0),(0,0)])
  (U:=[none,none,none,none,none,none,none,some 7,some 7,some 7,some 7,some 11,some 7,some 7]) (E:=[])
  (vs:=[.inl (.agg #[.int .u8 rest,.slice pA pn pc]),.inl (.iface 25 (.agg #[.int .u8 rest,.slice pA pn pc])),.inl (.slice (some ⟨g,0,none⟩) (n+1) cap),.inl (.slice A n c),.inl (.int .i64 n),.inl (.slice (some ⟨g,0,none⟩) n cap),.inl (.int .i8 b),
   .inr (7,id),.inr (7,id),.inr (7,extV 0),.inr (7,extV 1),.inr (11,id),.inr (7,fun _=>undef),.inr (7,extV 1)])
  (R:=fun r=> ∃cA lA cc lc,r= .tuple #[.agg #[.int .i8 Xb,.slice cA p cc,.slice lA q lc],.int .i64 Xe])
  (T:=fun r W=> ∃cA lA cc lc,r= .tuple #[.agg #[.int .i8 Xb,.slice cA p cc,.slice lA q lc],.int .i64 Xe]∧Ints W w2.heap.size 22 .u8 (.slice cA p cc) Xc∧Ints W w2.heap.size 29 .i8 (.slice lA q lc) Xl∧(∀j,(Value.slice cA p cc).ownBlock=some j→(Value.slice lA q lc).ownBlock≠some j))
  (by kernel_rfl) (by kernel_rfl) rfl rfl (by kernel_rfl) (by kernel_rfl) ?_ ?_)
 ·simp only[List.map_cons,List.map_nil,valV,id,putAll,Act.put,List.setIfInBounds_toArray,List.set_cons_zero,List.set_cons_succ];refine⟨?_,?_,?_,?_,?_,?_,?_,?_,?_,?_,?_,?_,?_,?_,trivial⟩
  all_goals first
   |(intro ρ W hA _;obtain⟨k0,k1,k2,k3⟩:=KEEP.out W hA;simp only[valV,id];go_simp;done)
   |(intro ρ W hA hu;obtain⟨cA,lA,cc,lc,e⟩:=hu rfl;simp only[valV,e,extV_20,extV_21];go_simp;done)
   |(refine⟨fun _=>rfl,fun ρ W=> ?_⟩;go_simp;done)
   |skip
  ·refine⟨fun _=>rfl,fun ρ W hA=>⟨15,#[.iface 25 (.agg #[.int .u8 rest,.slice pA pn pc]),.slice (some ⟨g,0,none⟩) n cap,.int .i8 b],?_,?_⟩⟩
   ·go_simp
   ·refine(CN.out W hA).mono ?_;rintro r w5 ⟨cA,lA,cc,lc,rfl,IC,IL,hap,b5⟩
    exact⟨_,rfl,⟨cA,lA,cc,lc,rfl⟩,b5,fun W' hF=>⟨cA,lA,cc,lc,rfl,(IC.frm hF (fun j e h=>by have:=(IC.lt j e).1;omega)).base (fun j e=>by have:=(IC.lt j e).1;have:=hA.le;omega),
     (IL.frm hF (fun j e h=>by have:=(IL.lt j e).1;omega)).base (fun j e=>by have:=(IL.lt j e).1;have:=hA.le;omega),hap⟩⟩
  ·intro ρ W u hu ⟨cA,lA,cc,lc,e⟩ hb;have hu:ρ 11= .pointer (some ⟨u,0,none⟩):=hu;have hb:Blk W u 33 #[.int .i8 0,.slice none 0 0,.slice none 0 0]:=hb;obtain⟨y0,y1,y2,yf,yl⟩:=hb.c3;refine⟨((W.setCell ⟨u,0,none⟩ (.int .i8 Xb)).setCell ⟨u,1,none⟩ (.slice cA p cc)).setCell ⟨u,2,none⟩ (.slice lA q lc),?_,?_,?_⟩
   ·simp only[hu,e,extV_20,extV_21];go_simp
   ·have:=((hb.set_ 0 (.int .i8 Xb)).set_ 1 (.slice cA p cc)).set_ 2 (.slice lA q lc)
    simpa[e,extV,aggV]using this
   ·exact(((Frm.refl (fun k=>k=u) W).set rfl _).set rfl _).set rfl _
 intro ρ w3 hw3 _ ⟨cA1,lA1,cc1,lc1,e,IC1,IL1,hne1⟩ hv _;obtain⟨x8,hu,hx8,X8⟩:=hv _ List.mem_cons_self;have hu:ρ 11= .pointer (some ⟨x8,0,none⟩):=hu;simp only[e,extV_20,aggV_at]at X8;simp only[List.map_cons,List.map_nil,valV,id,putAll,Act.put,List.setIfInBounds_toArray,List.set_cons_zero,List.set_cons_succ,hu,e,extV_20,extV_21];clear hv e hu KEEP CN;have a3:Aft w w3:=a2.trans hw3;have X33:=X32.aft hw3;have I3:=I2.aft hw3;have R3:=(R2.aft hw3).more hw3.size;clear X32 I2 R2;go_wp2;have KEEP:=Lib.hid (fun(W:World) (hW:Aft w3 W)=>(X33.aft hW).c2);have CN:=Lib.hid (fun(W:World) (hW:Aft w3 W)=>C15' W (a3.trans hW) _ cap ((R3.aft hW).more hW.size))
 refine wpIn_wide.1 (wpIn_region_vars (d:=0) (c:=7) (av:=[(11,12)]) (vars:=[⟨11,12,33,#[.int .i8 0,.slice none 0 0,.slice none 0 0],fun r=>aggV (extV 0 r)⟩])
  (K:=[(0,0),(0,0),(0,0),(0,0),(0,0),(0,0),(0,0),(1,0),(0,0),(0,0),(0,0),(2,0),(3,0),(0,0)])
  (U:=[none,none,none,none,none,none,none,some 7,some 7,some 7,some 7,some 11,some 7,some 7]) (E:=[])
  (vs:=[.inl (.agg #[.int .u8 rest,.slice pA pn pc]),.inl (.iface 25 (.agg #[.int .u8 rest,.slice pA pn pc])),.inl (.slice (some ⟨g,0,none⟩) (n+1) cap),.inl (.slice A n c),.inl (.int .i64 n),.inl (.slice (some ⟨g,0,none⟩) n cap),.inl (.int .i8 b),
   .inr (7,id),.inr (7,id),.inr (7,extV 0),.inr (7,extV 1),.inr (11,id),.inr (7,fun _=>undef),.inr (7,extV 1)])
  (R:=fun r=> ∃cA lA cc lc,r= .tuple #[.agg #[.int .i8 Xb,.slice cA p cc,.slice lA q lc],.int .i64 Xe])
  (T:=fun r W=> ∃cA lA cc lc,r= .tuple #[.agg #[.int .i8 Xb,.slice cA p cc,.slice lA q lc],.int .i64 Xe]∧Ints W w3.heap.size 22 .u8 (.slice cA p cc) Xc∧Ints W w3.heap.size 29 .i8 (.slice lA q lc) Xl∧(∀j,(Value.slice cA p cc).ownBlock=some j→(Value.slice lA q lc).ownBlock≠some j))
  (by kernel_rfl) (by kernel_rfl) rfl rfl (by kernel_rfl) (by kernel_rfl) ?_ ?_)
 ·simp only[List.map_cons,List.map_nil,valV,id,putAll,Act.put,List.setIfInBounds_toArray,List.set_cons_zero,List.set_cons_succ];refine⟨?_,?_,?_,?_,?_,?_,?_,?_,?_,?_,?_,?_,?_,?_,trivial⟩
  all_goals first
   |(intro ρ W hA _;obtain⟨k0,k1,k2,k3⟩:=KEEP.out W hA;simp only[valV,id];go_simp;done)
   |(intro ρ W hA hu;obtain⟨cA,lA,cc,lc,e⟩:=hu rfl;simp only[valV,e,extV_20,extV_21];go_simp;done)
   |(refine⟨fun _=>rfl,fun ρ W=> ?_⟩;go_simp;done)
   |skip
  ·refine⟨fun _=>rfl,fun ρ W hA=>⟨15,#[.iface 25 (.agg #[.int .u8 rest,.slice pA pn pc]),.slice (some ⟨g,0,none⟩) n cap,.int .i8 b],?_,?_⟩⟩
   ·go_simp
   ·refine(CN.out W hA).mono ?_;rintro r w5 ⟨cA,lA,cc,lc,rfl,IC,IL,hap,b5⟩
    exact⟨_,rfl,⟨cA,lA,cc,lc,rfl⟩,b5,fun W' hF=>⟨cA,lA,cc,lc,rfl,(IC.frm hF (fun j e h=>by have:=(IC.lt j e).1;omega)).base (fun j e=>by have:=(IC.lt j e).1;have:=hA.le;omega),
     (IL.frm hF (fun j e h=>by have:=(IL.lt j e).1;omega)).base (fun j e=>by have:=(IL.lt j e).1;have:=hA.le;omega),hap⟩⟩
  ·intro ρ W u hu ⟨cA,lA,cc,lc,e⟩ hb;have hu:ρ 11= .pointer (some ⟨u,0,none⟩):=hu;have hb:Blk W u 33 #[.int .i8 0,.slice none 0 0,.slice none 0 0]:=hb;obtain⟨y0,y1,y2,yf,yl⟩:=hb.c3;refine⟨((W.setCell ⟨u,0,none⟩ (.int .i8 Xb)).setCell ⟨u,1,none⟩ (.slice cA p cc)).setCell ⟨u,2,none⟩ (.slice lA q lc),?_,?_,?_⟩
   ·simp only[hu,e,extV_20,extV_21];go_simp
   ·have:=((hb.set_ 0 (.int .i8 Xb)).set_ 1 (.slice cA p cc)).set_ 2 (.slice lA q lc)
    simpa[e,extV,aggV]using this
   ·exact(((Frm.refl (fun k=>k=u) W).set rfl _).set rfl _).set rfl _
 intro ρ w4 hw4 _ ⟨cA2,lA2,cc2,lc2,e,IC2,IL2,hne2⟩ hv _;obtain⟨x10,hu,hx10,X10⟩:=hv _ List.mem_cons_self;have hu:ρ 11= .pointer (some ⟨x10,0,none⟩):=hu;simp only[e,extV_20,aggV_at]at X10;simp only[List.map_cons,List.map_nil,valV,id,putAll,Act.put,List.setIfInBounds_toArray,List.set_cons_zero,List.set_cons_succ,hu,e,extV_20,extV_21];clear hv e hu KEEP CN;have a4:Aft w w4:=a3.trans hw4;have X34:=X33.aft hw4;have I4:=I3.aft hw4;have ICa:=IC1.aft hw4;have ILa:=IL1.aft hw4;have X84:=X8.aft hw4
 have HAP: ∀j,Own2 cA1 lA1 j→cA2.map (fun a=>a.block)≠some j∧lA2.map (fun a=>a.block)≠some j:=fun j hj=>⟨own_apartW IC1 IL1 IC2 hj,own_apartW IC1 IL1 IL2 hj⟩
 have hs2:w.heap.size≤w2.heap.size:=a2.size;have hs3:w.heap.size≤w3.heap.size:=a3.size;clear X33 I3 R3 IC1 IL1 X8
 go_upto_region 6 with(go_at_call 15;refine(ERunes_nil _ _ _ _ _).mono ?_;rintro r5 w5 ⟨rfl,a5⟩)
 have a6:Aft w4 (w5.alloc (.cells #[.int .i8 0,.slice none 0 0,.slice none 0 0] 33)):=a5.alloc _;generalize w5.alloc (.cells #[.int .i8 0,.slice none 0 0,.slice none 0 0] 33)=w6 at a6⊢;have I6:=I4.aft a6;have a06:=a4.trans a6;have X36:=X34.aft a6;have X86:=X84.aft a6;have X106:=X10.aft a6;have ICb:=IC2.aft a6;have ILb:=IL2.aft a6;replace ICa:=ICa.aft a6;replace ILa:=ILa.aft a6;have h6:=h.aft a06;clear I4 a5 X34 X84 X10 IC2 IL2 hne2;obtain⟨-,-,-,hgB,hgl,hgf,hgc⟩:=I6.at_;have k2:=hgc n (by have:=HN.out;simp;omega)
 have e77:(l++[-77]).getD n 0= -77:=by rw[HN.out];simp
 rw[e77]at k2;have HS:=Lib.hid (And.intro hs2 hs3);clear hgc e77 hs2 hs3
 go_upto_region 8 with(fail)
 clear hgB hgl hgf k2;go_wp2
 go_loopg [14] n (fun gk iv wr=> ∃j:Nat,j+gk=n∧iv= .int .i64 j∧Aft w6 wr)
 case atStart=>exact⟨0,by omega,rfl,Aft.refl _⟩
 case round=>
  obtain⟨j,hj,rfl,av⟩:=hrel;have HJ:=Lib.hid hj;clear hj;obtain⟨-,-,-,hgB,hgl,hgf,hgc⟩:=(I6.aft av).at_
  by_cases hjn:j<n
  ·obtain⟨qb,o,rfl,_,hq,k1⟩:=(h6.aft av).at_ (i:=j) (by have:=HN.out;omega);have k2:=hgc j (by have:=HN.out;simp;omega)
   have eg:(l++[(-77:Int)]).getD j 0=l.getD j 0:=by rw[List.getD_eq_getElem?_getD,List.getElem?_append_left (by have:=HN.out;omega),List.getD_eq_getElem?_getD]
   rw[eg]at k2;clear eg;generalize l.getD j 0=x at k1 k2;have hxx:(x !=x)=false:=bne_self_eq_false x
   have hj1:j<n+1:=by omega
   clear hgc;go_wp2
   go_quiet (fail)
   go_wp2
   go_roundg (n-(j+1))
   case rel=>exact⟨j+1,by have:=HJ.out;omega,by go_num,⟨av.os,av.tape,av.output,av.size,av.block⟩⟩
   case measure=>have:=HJ.out;omega
  ·have h1500:=h6.aft av;clear hgc HJ;have X3r:=X36.aft av;have X8r:=X86.aft av;have X10r:=X106.aft av;have ICr:=ICa.aft av;have ILr:=ILa.aft av;have ICs:=ICb.aft av;have ILs:=ILb.aft av;have av0:=a06.trans av;clear X36 X86 X106 ICa ILa ICb ILb I6 h6;obtain⟨t0,t1,tf,tl⟩:=X3r.c2;cases mp
   case false=>
    go_wp2_with(first
     |(go_at_call 16;refine(CM _ av0).mono ?_;rintro r2 w7 ⟨rfl,a7⟩)
     |(go_at_call 18;refine(CA _).mono ?_;rintro r3 w8 ⟨rfl,a8⟩))
    go_ret;exact⟨rfl,(av0.trans a7).trans a8⟩
   case true=>
    by_cases hfit:n≤1500
    ·have f1:decide ((n:Int)≤1500)=true:=decide_eq_true (by omega);rw[f1]at CF;clear f1
     go_upto_region 15 with(first
      |(go_at_call 16;refine(CM _ av0).mono ?_;rintro r2 w7 ⟨rfl,a7⟩)
      |(go_at_call 17;refine(CF _).mono ?_;rintro r2' w2' ⟨rfl,hw2'⟩;subst hw2'))
     have X37:=X3r.aft a7;have av7:=av0.trans a7;clear t0 t1 tf tl X3r;obtain⟨t0,t1,tf,tl⟩:=X37.c2
     go_upto_region 16 with(go_at_call 19;refine(C19' _ av7).mono ?_;rintro r8 w8 ⟨cA3,lA3,cc3,lc3,rfl,IC3,IL3,a8⟩)
     have HD: ∀j,Own2 cA1 lA1 j→cA2.map (fun a=>a.block)≠some j∧lA2.map (fun a=>a.block)≠some j∧cA3.map (fun a=>a.block)≠some j∧lA3.map (fun a=>a.block)≠some j:=fun j hj=>⟨(HAP j hj).1,(HAP j hj).2,own_apartW (ICr.aft a7) (ILr.aft a7) IC3 hj,own_apartW (ICr.aft a7) (ILr.aft a7) IL3 hj⟩
     have X11:=Blk.new w8 33 #[.int .i8 Xb,.slice cA3 p cc3,.slice lA3 q lc3];have a9:Aft w8 (w8.alloc (.cells #[.int .i8 Xb,.slice cA3 p cc3,.slice lA3 q lc3] 33)):=(Aft.refl w8).alloc _;obtain⟨x11,hx11⟩: ∃x,w8.heap.size=x:=⟨_,rfl⟩;generalize w8.alloc (.cells #[.int .i8 Xb,.slice cA3 p cc3,.slice lA3 q lc3] 33)=w9 at X11 a9⊢;rw[hx11]at X11⊢;have a79:=(a7.trans a8).trans a9
     have hown: ∀j,Own2 cA1 lA1 j→w.heap.size≤j:=fun j hj=>by
      rcases hj with e|e
      ·exact Nat.le_trans HS.out.1 (ICr.lt j (by rw[own_slice];exact e)).1
      ·exact Nat.le_trans HS.out.1 (ILr.lt j (by rw[own_slice];exact e)).1
     have CH:=held_ok (w:=w9) (ba:=Xb) (bb:=Xb) (bw:=Xb) (k1:=cc1) (k2:=lc1) (k3:=cc2) (k4:=lc2) (k5:=cc3) (k6:=lc3) HP.out.symm HQ.out.symm HP.out.symm HQ.out.symm HP.out.symm HQ.out.symm
      ((ICr.aft a79).base (B':=0) (fun _ _=>Nat.zero_le _)) ((ILr.aft a79).base (B':=0) (fun _ _=>Nat.zero_le _)) hne1 (Nat.zero_le _) (ICs.aft a79).rd (ILs.aft a79).rd (IC3.aft a9).rd (IL3.aft a9).rd HD
      (by have:=HP.out;have:=HLN.out;have:=HN.out;omega) (by have:=HQ.out;have:=HLN.out;have:=HN.out;omega) (by have:=HP.out;have:=HLN.out;have:=HN.out;omega) (by have:=HQ.out;have:=HLN.out;have:=HN.out;omega)
     rw[show sameX (Xb,Xc,Xl) (Xb,Xc,Xl)=true by simp[sameX]]at CH;have a09:=av0.trans a79;have X89:=X8r.aft a79;have X109:=X10r.aft a79;clear t0 t1 tf tl X37 X8r X10r ICr ILr ICs ILs IC3 IL3 a8 a9 HD HAP hne1 hx11;obtain⟨z0,z1,z2,zf,zl⟩:=X89.c3;obtain⟨y0,y1,y2,yf,yl⟩:=X109.c3;obtain⟨v0,v1',v2,vf,vl⟩:=X11.c3;have hE:(Xe==Xe)=true:=beq_self_eq_true Xe
     go_wp2_with(first
      |(go_at_call 20;refine CH.mono ?_;rintro r9 w10 ⟨rfl,F9⟩)
      |(go_at_call 18;refine(CA _).mono ?_;rintro r10 w11 ⟨rfl,a10⟩))
     go_ret;exact⟨rfl,Below.trans a09 (Below.trans (F9.below a09.size (fun j hj e=>by have:=hown j e;omega)) (a10.mono (Nat.le_trans a09.size F9.size)))⟩
    ·have f1:decide ((n:Int)≤1500)=false:=decide_eq_false (by omega);rw[f1]at CF
     go_wp2_with(first
      |(go_at_call 16;refine(CM _ av0).mono ?_;rintro r2 w7 ⟨rfl,a7⟩)
      |(go_at_call 17;refine(CF _).mono ?_;rintro r2' w2' ⟨rfl,hw2'⟩;subst hw2')
      |(go_at_call 18;refine(CA _).mono ?_;rintro r3 w8 ⟨rfl,a8⟩))
     go_ret;exact⟨rfl,(av0.trans a7).trans a8⟩
end Go.Proofs.YtllolnkkepacjaaGreat
