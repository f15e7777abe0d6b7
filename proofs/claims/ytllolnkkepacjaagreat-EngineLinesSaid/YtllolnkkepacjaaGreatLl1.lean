/- EngineLines walked. -/
import Derived.Test.YtllolnkkepacjaaGreatLn5
import Derived.Test.YtllolnkkepacjaaGreatKp1
import Derived.Test.YtllolnkkepacjaaGreatKn2
set_option maxRecDepth 100000
set_option maxHeartbeats 8000000
namespace Go.Proofs.YtllolnkkepacjaaGreat
open Go.RowKit
attribute [local go_sem] Oper.semAt_some
theorem own_low {w w1:World}{B:Nat}{A:Option Addr}{n c:Nat}{e:TypeId}{k:IntKind}{l:List Int}(h:Ints w B e k (.slice A n c) l)(hs:w.heap.size≤w1.heap.size){j:Nat}(hj:A.map (fun a=>a.block)=some j):B≤j∧j<w1.heap.size:=by have:=h.lt j (by rw[own_slice];exact hj);omega
theorem lines_ok {w:World}{n m cc lc:Nat}{cA lA:Option Addr}{b:Int}{cs lv:List Int}(hn:n=cs.length)(hm:m=lv.length)(h1:RdInts w w.heap.size .u8 cA cs)(h2:RdInts w w.heap.size .i8 lA lv)(hcc:n≤cc)(hlc:m≤lc)(f t:Int):
 Calls Tryz.prog 5 #[.agg #[.int .i8 b,.slice cA n cc,.slice lA m lc],.agg #[.int .i64 f,.int .i64 t]] w fun r w'=>r= .returned (.bool true)∧Aft w w':=by
 have CA:=fun W=>awake_ok W;obtain⟨W1,hW1⟩: ∃W1,(w.alloc (.cells #[.int .i8 b,.slice cA n cc,.slice lA m lc] 33)).alloc (.cells #[.int .i64 f,.int .i64 t] 44)=W1:=⟨_,rfl⟩
 have X1:Blk W1 w.heap.size 33 #[.int .i8 b,.slice cA n cc,.slice lA m lc]:=by rw[←hW1];exact(Blk.new w 33 _).alloc _
 have X2:Blk W1 (w.heap.size+1) 44 #[.int .i64 f,.int .i64 t]:=by rw[←hW1];exact Blk.at_ (by simp)
 have a1:Aft w W1:=by rw[←hW1];exact((Aft.refl w).alloc _).alloc _
 have h1a:=h1.aft a1;have h2a:=h2.aft a1;have HN:=Lib.hid hn;have HM:=Lib.hid hm;have HW:=Lib.hid hW1;clear hW1;obtain⟨x0,x1,x2,xf,xl⟩:=X1.c3
 by_cases hfit: ¬n≤1500
 ·have f1:decide ((n:Int)≤1500)=false:=decide_eq_false (by omega);clear hn hm
  go_enter Tryz.func5,Tryz.ntmps5
  go_upto_region 1 with(fail)
  rw[HW.out]
  go_wp2_with(first
   |(go_at_call 17;refine(fit_ok _ _).mono ?_;rintro r2 w2 ⟨h,hw2⟩;subst hw2;(first|rw[f1]at h|rw[f2]at h);subst h)
   |(go_at_call 18;refine(CA _).mono ?_;rintro r3 w3 ⟨rfl,a9⟩))
  go_ret;exact⟨rfl,a1.trans a9⟩
 have hfit:n≤1500:=by omega
 have f1:decide ((n:Int)≤1500)=true:=decide_eq_true (by omega)
 by_cases hfit2: ¬m≤1500
 ·have f2:decide ((m:Int)≤1500)=false:=decide_eq_false (by omega);clear hn hm
  go_enter Tryz.func5,Tryz.ntmps5
  go_upto_region 1 with(fail)
  rw[HW.out]
  go_wp2_with(first
   |(go_at_call 17;refine(fit_ok _ _).mono ?_;rintro r2 w2 ⟨h,hw2⟩;subst hw2;(first|rw[f1]at h|rw[f2]at h);subst h)
   |(go_at_call 18;refine(CA _).mono ?_;rintro r3 w3 ⟨rfl,a9⟩))
  go_ret;exact⟨rfl,a1.trans a9⟩
 have hfit2:m≤1500:=by omega
 have f2:decide ((m:Int)≤1500)=true:=decide_eq_true (by omega);have HF:=Lib.hid (And.intro hfit hfit2);have HC:=Lib.hid (And.intro hcc hlc);obtain⟨mr,hmr⟩: ∃z,mayR b cs lv=z:=⟨_,rfl⟩;obtain⟨ev,hev⟩: ∃z:Int,(if mr=true then 0 else 211)=z:=⟨_,rfl⟩;have HEV:=Lib.hid hev;obtain⟨e,L,hX⟩: ∃e L,lineX b cs lv f t=(e,L):=⟨_,_,rfl⟩;obtain⟨e',L',hX'⟩: ∃e L,lineX b cs lv 0 n=(e,L):=⟨_,_,rfl⟩;have CL:=fun(W:World) (hW:Aft W1 W)=>lent_ok (cc:=cc) (lc:=lc) (b:=b) hn hm ((h1a.aft hW).more (Nat.le_trans a1.size hW.size)) ((h2a.aft hW).more (Nat.le_trans a1.size hW.size)) (by omega) (by omega);have C25:=fun(W:World) (hW:Aft W1 W)=>rLine_ok (cc:=cc) (lc:=lc) (base:=b) f t hn hm (h1a.aft hW) (h2a.aft hW) (by omega) hcc;have C25':=fun(W:World) (hW:Aft W1 W)=>rLine_ok (cc:=cc) (lc:=lc) (base:=b) 0 n hn hm (h1a.aft hW) (h2a.aft hW) (by omega) hcc;have C23:=fun(W:World) (hW:Aft W1 W)=>rMay_ok (cc:=cc) (lc:=lc) (base:=b) hn hm (h1a.aft hW) (h2a.aft hW) (by omega);rw[hX]at C25;rw[hX']at C25';rw[hmr]at C23;have HX:=Lib.hid hX;have HX':=Lib.hid hX';have HMR:=Lib.hid hmr;clear hn hm hfit hfit2 hcc hlc hX hX' hmr hev h1 h2
 go_enter Tryz.func5,Tryz.ntmps5
 go_upto_region 1 with(fail)
 rw[HW.out]
 go_upto_region 3 with(go_at_call 17;refine(fit_ok _ _).mono ?_;rintro r2 w2 ⟨h,hw2⟩;subst hw2;(first|rw[f1]at h|rw[f2]at h);subst h)
 go_upto_region 4 with(go_at_call 21;refine(CL _ (Aft.refl _)).mono ?_;rintro r2 w2 ⟨g1,g2,c1,c2,rfl,I1,I2,hne,a2⟩)
 have X5:=Blk.new w2 33 #[.int .i8 b,.slice (some ⟨g1,0,none⟩) n c1,.slice (some ⟨g2,0,none⟩) m c2];have a3:Aft w2 (w2.alloc (.cells #[.int .i8 b,.slice (some ⟨g1,0,none⟩) n c1,.slice (some ⟨g2,0,none⟩) m c2] 33)):=(Aft.refl w2).alloc _;obtain⟨x5,hx5⟩: ∃x,w2.heap.size=x:=⟨_,rfl⟩;generalize w2.alloc (.cells #[.int .i8 b,.slice (some ⟨g1,0,none⟩) n c1,.slice (some ⟨g2,0,none⟩) m c2] 33)=w3 at X5 a3⊢
 have hs5:w2.heap.size≤x5:=by omega
 have hs12:=a2.size;have HS5:=Lib.hid (And.intro hs5 hs12);rw[hx5]at X5⊢;clear hx5 hs5 hs12;have I13:=I1.aft a3;have I23:=I2.aft a3;have a13:Aft W1 w3:=a2.trans a3;have X13:=X1.aft a13;have X23:=X2.aft a13
 have R1:RdInts w3 w3.heap.size .u8 (some ⟨g1,0,none⟩) cs:=by have:=I13.rd.take n;rw[List.take_left' HN.out.symm]at this;exact this.clip
 have R2:RdInts w3 w3.heap.size .i8 (some ⟨g2,0,none⟩) lv:=by have:=I23.rd.take m;rw[List.take_left' HM.out.symm]at this;exact this.clip
 have hc2:m≤c2:=by obtain⟨_,hc,_⟩:=I23.at_;have:=HM.out;simp at hc;omega
 have C22: ∀W,Aft w3 W→Calls Tryz.prog 22 #[.agg #[.int .i8 b,.slice (some ⟨g1,0,none⟩) n c1,.slice (some ⟨g2,0,none⟩) m c2]] W fun r w'=>r= .returned (.int .i64 ev)∧Aft W w':=fun W hW=>by have:=ECheck_ok (cc:=c1) (lc:=c2) (base:=b) HN.out HM.out (R1.aft hW) (R2.aft hW) (by have:=HF.out.1;omega);rw[HMR.out,HEV.out]at this;exact this
 have C23': ∀W,Aft w3 W→Calls Tryz.prog 23 #[.agg #[.int .i8 b,.slice cA n cc,.slice lA m lc]] W fun r w'=>r= .returned (.bool mr)∧Aft W w':=fun W hW=>C23 W (a13.trans hW)
 have C24: ∀W,Aft w3 W→Calls Tryz.prog 24 #[.agg #[.int .i8 b,.slice (some ⟨g1,0,none⟩) n c1,.slice (some ⟨g2,0,none⟩) m c2],.agg #[.int .i64 f,.int .i64 t]] W fun r w'=> ∃A c,r= .returned (.tuple #[.slice A L.length c,.int .i64 e])∧Ints w' W.heap.size 29 .i8 (.slice A L.length c) L∧Aft W w':=fun W hW=>by have:=ELine_ok (cc:=c1) (lc:=c2) (base:=b) f t HN.out HM.out (R1.aft hW) (R2.aft hW) (by have:=HF.out.1;omega) hc2;rw[HX.out]at this;refine this.mono ?_;rintro r w' ⟨v,rfl,I,a⟩;obtain⟨A,c,e1,_,_,_⟩:=I.val;subst e1;exact⟨A,c,rfl,I,a⟩
 have C25a: ∀W,Aft w3 W→Calls Tryz.prog 25 #[.agg #[.int .i8 b,.slice cA n cc,.slice lA m lc],.agg #[.int .i64 f,.int .i64 t]] W fun r w'=> ∃A c,r= .returned (.tuple #[.slice A L.length c,.int .i64 e])∧Ints w' W.heap.size 29 .i8 (.slice A L.length c) L∧Aft W w':=fun W hW=>by refine(C25 W (a13.trans hW)).mono ?_;rintro r w' ⟨v,rfl,I,a⟩;obtain⟨A,c,e1,_,_,_⟩:=I.val;subst e1;exact⟨A,c,rfl,I,a⟩
 have C25b: ∀W,Aft w3 W→Calls Tryz.prog 25 #[.agg #[.int .i8 b,.slice cA n cc,.slice lA m lc],.agg #[.int .i64 0,.int .i64 n]] W fun r w'=> ∃A c,r= .returned (.tuple #[.slice A L'.length c,.int .i64 e'])∧Ints w' W.heap.size 29 .i8 (.slice A L'.length c) L'∧Aft W w':=fun W hW=>by refine(C25' W (a13.trans hW)).mono ?_;rintro r w' ⟨v,rfl,I,a⟩;obtain⟨A,c,e1,_,_,_⟩:=I.val;subst e1;exact⟨A,c,rfl,I,a⟩
 have C26: ∀W,Aft w3 W→Calls Tryz.prog 26 #[.agg #[.int .i8 b,.slice (some ⟨g1,0,none⟩) n c1,.slice (some ⟨g2,0,none⟩) m c2]] W fun r w'=> ∃A c,r= .returned (.tuple #[.slice A L'.length c,.int .i64 e'])∧Ints w' W.heap.size 29 .i8 (.slice A L'.length c) L'∧Aft W w':=fun W hW=>by have:=EWhole_ok (cc:=c1) (lc:=c2) (base:=b) HN.out HM.out (R1.aft hW) (R2.aft hW) (by have:=HF.out.1;omega) hc2;rw[←HN.out,HX'.out]at this;refine this.mono ?_;rintro r w' ⟨v,rfl,I,a⟩;obtain⟨A,c,e1,_,_,_⟩:=I.val;subst e1;exact⟨A,c,rfl,I,a⟩
 have hL:L.length≤1500∧L'.length≤1500:=by
  have key: ∀f t e L,lineX b cs lv f t=(e,L)→L.length≤1500:=fun f t e L h=>by
   unfold lineX at h
   split at h
   ·cases h;simp
   ·split at h
    ·cases h;simp
    ·injection h with _ h
     rw[←h,lineL_len];unfold cutL;have:=HM.out;have:=HF.out.2;simp;omega
  exact⟨key _ _ _ _ HX.out,key _ _ _ _ HX'.out⟩
 obtain⟨p,hp⟩: ∃p,L.length=p:=⟨_,rfl⟩;obtain⟨p',hp'⟩: ∃p,L'.length=p:=⟨_,rfl⟩;rw[hp]at C24 C25a hL;rw[hp']at C25b C26 hL;have HP:=Lib.hid hp;have HP':=Lib.hid hp';have HLL:=Lib.hid hL;clear hp hp' hL C25 C25' C23 X1 X2 I1 I2 a2 a3 R1 R2 x0 x1 x2 xf xl CL f1 f2
 go_cut [48] from 33 to 48 (fun cv wx=>cv= .bool false∧Aft w3 wx)
 case first=>
  have hev:=HEV.out;clear HEV;have a0:Aft w3 w3.drew:=(Aft.refl w3).drew
  have C22b: ∀(W:World) (hW:Aft w3 W),Calls Tryz.prog 22 #[.agg #[.int .i8 b,.slice (some ⟨g1,0,none⟩) n c1,.slice (some ⟨g2,0,none⟩) m c2]] W fun r w'=>r= .returned (.int .i64 ev)∧Aft w3 w'∧Blk w' x5 33 #[.int .i8 b,.slice (some ⟨g1,0,none⟩) n c1,.slice (some ⟨g2,0,none⟩) m c2]∧Blk w' w.heap.size 33 #[.int .i8 b,.slice cA n cc,.slice lA m lc]:=fun W hW=>by refine(C22 W hW).mono ?_;rintro r w' ⟨rfl,a⟩;exact⟨rfl,hW.trans a,X5.aft (hW.trans a),X13.aft (hW.trans a)⟩
  have C23b: ∀(W:World) (hW:Aft w3 W),Calls Tryz.prog 23 #[.agg #[.int .i8 b,.slice cA n cc,.slice lA m lc]] W fun r w'=>r= .returned (.bool mr)∧Aft w3 w'∧Blk w' x5 33 #[.int .i8 b,.slice (some ⟨g1,0,none⟩) n c1,.slice (some ⟨g2,0,none⟩) m c2]∧Blk w' w.heap.size 33 #[.int .i8 b,.slice cA n cc,.slice lA m lc]:=fun W hW=>by refine(C23' W hW).mono ?_;rintro r w' ⟨rfl,a⟩;exact⟨rfl,hW.trans a,X5.aft (hW.trans a),X13.aft (hW.trans a)⟩
  obtain⟨p0,p1,p2,pf,pl⟩:=X5.c3;obtain⟨q0,q1,q2,qf,ql⟩:=X13.c3;clear C22 C23' C24 C25a C25b C26 X23 I13 I23 h1a h2a
  rcases mr with _|_
  all_goals
   first|rw[if_pos rfl]at hev|rw[if_neg (by decide)]at hev
   subst hev
   go_region_with (first
    |(go_at_call 22;refine(C22b _ (by assumption)).mono ?_;rintro rr ww ⟨rfl,ba,bx,bz⟩;obtain⟨p0,p1,p2,pf,pl⟩:=bx.c3;obtain⟨q0,q1,q2,qf,ql⟩:=bz.c3)
    |(go_at_call 23;refine(C23b _ (by assumption)).mono ?_;rintro rr ww ⟨rfl,ba,bx,bz⟩;obtain⟨p0,p1,p2,pf,pl⟩:=bx.c3;obtain⟨q0,q1,q2,qf,ql⟩:=bz.c3))
  all_goals (go_wp2;go_meet)
  all_goals exact⟨rfl,by assumption⟩
 case rest=>
  obtain⟨rfl,a4⟩:=hcut;clear C22 C23';obtain⟨p0,p1,p2,pf,pl⟩:=(X5.aft a4).c3;obtain⟨q0,q1,q2,qf,ql⟩:=(X13.aft a4).c3;obtain⟨r0,r1,rf,rl⟩:=(X23.aft a4).c2
  go_upto_region 7 with(go_at_call 24;refine(C24 _ a4).mono ?_;rintro r7 w7 ⟨A7,k7,rfl,I7,b7⟩)
  have a7:=a4.trans b7;clear p0 p1 p2 pf pl q0 q1 q2 qf ql r0 r1 rf rl;obtain⟨p0,p1,p2,pf,pl⟩:=(X5.aft a7).c3;obtain⟨r0,r1,rf,rl⟩:=(X23.aft a7).c2
  go_upto_region 8 with(go_at_call 24;refine(C24 _ a7).mono ?_;rintro r8 w8 ⟨A8,k8,rfl,I8,b8⟩)
  have a8:=a7.trans b8;clear p0 p1 p2 pf pl r0 r1 rf rl;obtain⟨q0,q1,q2,qf,ql⟩:=(X13.aft a8).c3;obtain⟨r0,r1,rf,rl⟩:=(X23.aft a8).c2
  go_upto_region 9 with(go_at_call 25;refine(C25a _ a8).mono ?_;rintro r9 w9 ⟨A9,k9,rfl,I9,b9⟩)
  have a9:=a8.trans b9;clear q0 q1 q2 qf ql r0 r1 rf rl;obtain⟨p0,p1,p2,pf,pl⟩:=(X5.aft a9).c3
  go_upto_region 10 with(go_at_call 26;refine(C26 _ a9).mono ?_;rintro r10 w10 ⟨A10,k10,rfl,I10,b10⟩)
  have a10:=a9.trans b10;clear p0 p1 p2 pf pl;obtain⟨q0,q1,q2,qf,ql⟩:=(X13.aft a10).c3
  go_upto_region 11 with(go_at_call 25;refine(C25b _ a10).mono ?_;rintro r11 w11 ⟨A11,k11,rfl,I11,b11⟩)
  have a11:=a10.trans b11;clear q0 q1 q2 qf ql C24 C25a C25b C26;have J7:=(((I7.aft b8).aft b9).aft b10).aft b11;have J8:=((I8.aft b9).aft b10).aft b11;have J9:=(I9.aft b10).aft b11;have J10:=I10.aft b11;have L7: ∀j,A7.map (fun a=>a.block)=some j→wc.heap.size≤j∧j<w7.heap.size:=fun j hj=>own_low I7 (Nat.le_refl _) hj;have L8: ∀j,A8.map (fun a=>a.block)=some j→w7.heap.size≤j∧j<w8.heap.size:=fun j hj=>own_low I8 (Nat.le_refl _) hj;have L9: ∀j,A9.map (fun a=>a.block)=some j→w8.heap.size≤j∧j<w9.heap.size:=fun j hj=>own_low I9 (Nat.le_refl _) hj;have L10: ∀j,A10.map (fun a=>a.block)=some j→w9.heap.size≤j∧j<w10.heap.size:=fun j hj=>own_low I10 (Nat.le_refl _) hj;have z4:=a4.size;have z8:=b8.size;have z9:=b9.size;have z10:=b10.size;have z11:=b11.size;have z7:=b7.size;have X5b:=X5.aft a11;have X1b:=X13.aft a11;have I1b:=I13.aft a11;have I2b:=I23.aft a11;have hw1:w.heap.size+1<w3.heap.size:=X23.lt;have hx5:x5<w3.heap.size:=X5.lt;have hg1:=I13.lt g1 rfl;have hg2:=I23.lt g2 rfl;have HZ:=Lib.hid (And.intro z4 (And.intro z7 (And.intro z8 (And.intro z9 (And.intro z10 (And.intro z11 (And.intro hw1 (And.intro hx5 (And.intro hg1 hg2)))))))));have HR:=Lib.hid (fun(W:World) (hW:Aft W1 W)=>And.intro (h1a.aft hW) (h2a.aft hW));have HA:=Lib.hid (a13.trans a11);clear I7 I8 I9 I10 b7 b8 b9 b10 b11 a4 a7 a8 a9 a10 X5 X13 X23 I13 I23 h1a h2a z4 z7 z8 z9 z10 z11 hw1 hx5 hg1 hg2
  have CS: ∀(W:World) (v1 v2:Value),Aft w11 W→((v1= .slice A7 p k7∧v2= .slice A9 p k9)∨(v1= .slice A10 p' k10∧v2= .slice A11 p' k11))→
   Calls Tryz.prog 27 #[v1,v2] W fun r w'=>r= .returned (.bool true)∧Aft w11 w'∧Blk w' x5 33 #[.int .i8 b,.slice (some ⟨g1,0,none⟩) n c1,.slice (some ⟨g2,0,none⟩) m c2]∧Blk w' w.heap.size 33 #[.int .i8 b,.slice cA n cc,.slice lA m lc]:=fun W v1 v2 hW hv=>by
   have fin: ∀(w':World) d,w'=W.drewN d→Aft w11 w'∧Blk w' x5 33 #[.int .i8 b,.slice (some ⟨g1,0,none⟩) n c1,.slice (some ⟨g2,0,none⟩) m c2]∧Blk w' w.heap.size 33 #[.int .i8 b,.slice cA n cc,.slice lA m lc]:=fun w' d e=>by
    have a:Aft w11 w':=by rw[e];exact⟨hW.os,hW.tape,hW.output,hW.size,hW.block⟩
    exact⟨a,X5b.aft a,X1b.aft a⟩
   rcases hv with⟨rfl,rfl⟩|⟨rfl,rfl⟩
   ·refine(sameLv_ok (c:=k7) (c2:=k9) HP.out.symm HP.out.symm (J7.aft hW).rd (J9.aft hW).rd (by have:=HLL.out.1;omega)).mono ?_;rintro r w' ⟨rfl,d,e⟩;exact⟨by rw[decide_eq_true rfl],fin w' d e⟩
   ·refine(sameLv_ok (c:=k10) (c2:=k11) HP'.out.symm HP'.out.symm (J10.aft hW).rd (I11.aft hW).rd (by have:=HLL.out.2;omega)).mono ?_;rintro r w' ⟨rfl,d,e⟩;exact⟨by rw[decide_eq_true rfl],fin w' d e⟩
  obtain⟨p0,p1,p2,pf,pl⟩:=X5b.c3;obtain⟨q0,q1,q2,qf,ql⟩:=X1b.c3;have b0:=Aft.refl w11
  go_upto_region 13 with(first
   |(go_at_call 27;refine(CS _ _ _ (by assumption) (by first|exact .inl ⟨rfl,rfl⟩|exact .inr ⟨rfl,rfl⟩)).mono ?_;rintro rr ww ⟨rfl,ba,bx,bz⟩;obtain⟨p0,p1,p2,pf,pl⟩:=bx.c3;obtain⟨q0,q1,q2,qf,ql⟩:=bz.c3)
   |(go_at_call 28;refine(kept_ok HN.out HM.out (I1b.aft (by assumption)) (I2b.aft (by assumption)) (HR.out _ (HA.out.trans (by assumption))).1 (HR.out _ (HA.out.trans (by assumption))).2 (by have:=HF.out.1;omega) (by have:=HF.out.2;omega)).mono ?_;rintro r12 w12 ⟨rfl,b12⟩))
  have a12:Aft w11 w12:=Aft.trans (by assumption) b12;clear b12;have K7:=J7.aft a12;have K8:=J8.aft a12;have K9:=J9.aft a12;have K10:=J10.aft a12;have X5c:=X5b.aft a12;have X1c:=X1b.aft a12;have I1c:=I1b.aft a12;have I2c:=I2b.aft a12;have HA2:=Lib.hid (HA.out.trans a12);have hs12:=a12.size;have HZ2:=Lib.hid hs12;clear J7 J8 J9 J10 X5b X1b I1b I2b CS HA a12 hs12 I11;go_wp2
  go_loopg [16] p (fun gk iv wr=> ∃(j:Nat) (xs:List Int),j+gk=p∧iv= .int .i64 j∧xs.length=p∧Ints wr wc.heap.size 29 .i8 (.slice A7 p k7) xs∧Frm (fun k=>A7.map (fun a=>a.block)=some k) w12 wr)
  case atStart=>exact⟨0,L,by omega,rfl,HP.out,K7,Frm.refl _ _⟩
  case round=>
   obtain⟨j,xs,hj,rfl,hx,I,F⟩:=hrel;have HJ:=Lib.hid hj;clear hj
   by_cases hjn:j<p
   ·obtain⟨g,cp,hv⟩:=I.form (by omega)
    injection hv with e1 e2 e3
    subst e1;clear e2 e3;obtain⟨-,-,-,hBg,hgw,hfz,hce⟩:=I.at_;have hcj:=hce j (by omega);have HXS:=Lib.hid hx;clear hce hx;generalize xs.getD j 0=v at hcj;have hpb:=HLL.out.1;go_wp2
    go_roundg (p-(j+1))
    case rel=>exact⟨j+1,xs.set j 99,by have:=HJ.out;omega,by go_num,by rw[List.length_set];exact HXS.out,I.set j 99,F.set rfl _⟩
    case measure=>have:=HJ.out;omega
   ·clear HJ hx I K7
    have K10a:Ints wr w9.heap.size 29 .i8 (.slice A10 p' k10) L':=K10.frm F (fun j e h=>by
     have q1:=L7 j h;have q2:=L10 j (map_of_ownW e);have:=HZ.out
     omega)
    have Fa:Frm (fun k=>A7.map (fun a=>a.block)=some k∨A10.map (fun a=>a.block)=some k) w12 wr:=F.mono (fun k _ h=>.inl h);go_wp2
    go_loopg [17] p' (fun gk iv wr=> ∃(j:Nat) (xs:List Int),j+gk=p'∧iv= .int .i64 j∧xs.length=p'∧Ints wr w9.heap.size 29 .i8 (.slice A10 p' k10) xs∧Frm (fun k=>A7.map (fun a=>a.block)=some k∨A10.map (fun a=>a.block)=some k) w12 wr)
    case atStart=>exact⟨0,L',by omega,rfl,HP'.out,K10a,Fa⟩
    case round=>
     clear F K10a Fa hjn;obtain⟨j,xs,hj,rfl,hx,I,F⟩:=hrel;have HJ:=Lib.hid hj;clear hj
     by_cases hjn:j<p'
     ·obtain⟨g,cp,hv⟩:=I.form (by omega)
      injection hv with e1 e2 e3
      subst e1;clear e2 e3;obtain⟨-,-,-,hBg,hgw,hfz,hce⟩:=I.at_;have hcj:=hce j (by omega);have HXS:=Lib.hid hx;clear hce hx;generalize xs.getD j 0=v at hcj;have hpb:=HLL.out.2;go_wp2
      go_roundg (p'-(j+1))
      case rel=>exact⟨j+1,xs.set j 99,by have:=HJ.out;omega,by go_num,by rw[List.length_set];exact HXS.out,I.set j 99,F.set (.inr rfl) _⟩
      case measure=>have:=HJ.out;omega
     ·clear HJ hx I;have HD: ∀j,(A7.map (fun a=>a.block)=some j∨A10.map (fun a=>a.block)=some j)→(wc.heap.size≤j∧j<w7.heap.size)∨(w9.heap.size≤j∧j<w10.heap.size):=fun j h=>h.imp (L7 j) (L10 j)
      have M8:Ints wr w7.heap.size 29 .i8 (.slice A8 p k8) L:=K8.frm F (fun j e h=>by
       have q1:=HD j h;have q2:=L8 j (map_of_ownW e);have:=HZ.out
       omega)
      have M9:Ints wr w8.heap.size 29 .i8 (.slice A9 p k9) L:=K9.frm F (fun j e h=>by
       have q1:=HD j h;have q2:=L9 j (map_of_ownW e);have:=HZ.out
       omega)
      have X5d:=X5c.frm F (fun h=>by have q1:=HD _ h;have:=HZ.out;omega);have X1d:=X1c.frm F (fun h=>by have q1:=HD _ h;have:=HZ.out;omega)
      have I1d:=I1c.frm F (fun j e h=>by
       have e:g1=j:=by simpa[Value.ownBlock]using e
       have q1:=HD _ h;have:=HZ.out;omega)
      have I2d:=I2c.frm F (fun j e h=>by
       have e:g2=j:=by simpa[Value.ownBlock]using e
       have q1:=HD _ h;have:=HZ.out;omega)
      have AW:Aft W1 wr:=Below.trans HA2.out (F.below HA2.out.size (fun j hj h=>by
       have q1:=HD _ h;have:=HZ.out;have:=a13.size
       omega))
      have CS2:Calls Tryz.prog 27 #[.slice A8 p k8,.slice A9 p k9] wr fun r w'=>r= .returned (.bool true)∧Aft wr w'∧Blk w' x5 33 #[.int .i8 b,.slice (some ⟨g1,0,none⟩) n c1,.slice (some ⟨g2,0,none⟩) m c2]∧Blk w' w.heap.size 33 #[.int .i8 b,.slice cA n cc,.slice lA m lc]:=by refine(sameLv_ok (c:=k8) (c2:=k9) HP.out.symm HP.out.symm M8.rd M9.rd (by have:=HLL.out.1;omega)).mono ?_;rintro r w' ⟨rfl,d,rfl⟩;have ad:Aft wr (wr.drewN d):=⟨rfl,rfl,rfl,Nat.le_refl _,fun _ _=>rfl⟩;exact⟨by rw[decide_eq_true rfl],ad,X5d.aft ad,X1d.aft ad⟩
      clear F K8 K9 K10 X5c X1c I1c I2c M8 M9 L7 L8 L9 L10 HD
      go_wp2_with(first
       |(go_at_call 27;refine CS2.mono ?_;rintro rr ww ⟨rfl,ba,bx,bz⟩;obtain⟨p0,p1,p2,pf,pl⟩:=bx.c3;obtain⟨q0,q1,q2,qf,ql⟩:=bz.c3)
       |(go_at_call 28;refine(kept_ok HN.out HM.out (I1d.aft ba) (I2d.aft ba) (HR.out _ (AW.trans ba)).1 (HR.out _ (AW.trans ba)).2 (by have:=HF.out.1;omega) (by have:=HF.out.2;omega)).mono ?_;rintro r12 w13 ⟨rfl,b13⟩)
       |(go_at_call 18;refine(CA _).mono ?_;rintro r13 w14 ⟨rfl,b14⟩))
      go_ret;exact⟨rfl,a1.trans (((AW.trans ba).trans b13).trans b14)⟩
end Go.Proofs.YtllolnkkepacjaaGreat
