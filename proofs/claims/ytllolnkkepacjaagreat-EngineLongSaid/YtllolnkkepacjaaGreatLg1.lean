/- EngineLong walked. -/
import Derived.Test.YtllolnkkepacjaaGreatLb1
import Derived.Test.YtllolnkkepacjaaGreatLo1
set_option maxRecDepth 100000
set_option maxHeartbeats 8000000
namespace Go.Proofs.YtllolnkkepacjaaGreat
open Go.RowKit
attribute [local go_sem] Oper.semAt_some
theorem ei21':ElemI Tryz.prog 26 21 .i32 4:=ElemI.mk' Tryz.underlying26 (by kernel_rfl)
theorem all_rep {n:Nat}{x:Int}{xs:List Int}(hl:xs.length=n)(h: ∀i,i<n→xs.getD i 0=x):xs=List.replicate n x:=ext_getDW (by rw[hl,List.length_replicate]) fun i hi=>by rw[h i (by omega),rep_getD (by omega)]
theorem RdInts.off1 {w:World}{B:Nat}{k:IntKind}{g M:Nat}{x:Int}(h:RdInts w B k (some ⟨g,0,none⟩) (List.replicate (M+1) x)):RdInts w B k (some ⟨g,1,none⟩) (List.replicate M x):=by have:=h.drop rfl 1;rw[List.drop_replicate,Nat.add_sub_cancel]at this;exact this
theorem long_ok (w:World):Calls Tryz.prog 11 #[] w fun r w'=>r= .returned (.bool true)∧Aft w w':=by
 obtain⟨M,hM⟩: ∃M:Nat,M=1048576:=⟨_,rfl⟩;have HM:=Lib.hid hM
 have eN:(1048577:Int)=((M+1:Nat):Int):=by omega
 have CR: ∀(W:World) (pv:Value) (A:Option Addr) (n c:Nat) (l:List Int) (e base:Int) (C L:List Int) (p:Nat),PropsIs W W.heap.size pv 14 knP→RdInts W W.heap.size .i32 A l→n=l.length→runesX 14 knP l (-1)=⟨e,base,C,L⟩→C.length=p→L.length=p→
  Calls Tryz.prog 15 #[.iface 25 pv,.slice A n c,.int .i8 (-1)] W fun r w'=> ∃cA lA cc lc,r= .returned (.tuple #[.agg #[.int .i8 base,.slice cA p cc,.slice lA p lc],.int .i64 e])∧Ints w' W.heap.size 29 .i8 (.slice lA p lc) L∧Aft W w':=fun W pv A n c l e base C L p hP hR hn hX hC hL=>by
  have:=ERunes_ok (rc:=c) hP hR hn (-1);rw[hX]at this;refine this.mono ?_;rintro r w' ⟨v,rfl,⟨cA,lA,cc,lc,rfl,h1,h2,_⟩,a⟩;simp only at h1 h2;rw[hL]at h2;exact⟨cA,lA,cc,lc,by simp only[hC,hL],h2,a⟩
 have CC: ∀(W:World) (A:Option Addr) (n c:Nat) (l:List Int) (e base:Int) (C L:List Int) (p:Nat),RdInts W W.heap.size .u8 A l→n=l.length→classesX l (-1)=⟨e,base,C,L⟩→C.length=p→L.length=p→
  Calls Tryz.prog 29 #[.slice A n c,.int .i8 (-1)] W fun r w'=> ∃cA lA cc lc,r= .returned (.tuple #[.agg #[.int .i8 base,.slice cA p cc,.slice lA p lc],.int .i64 e])∧Ints w' W.heap.size 29 .i8 (.slice lA p lc) L∧Aft W w':=fun W A n c l e base C L p hR hn hX hC hL=>by
  have:=EClasses_ok (c:=c) hR hn (-1);rw[hX]at this;refine this.mono ?_;rintro r w' ⟨v,rfl,⟨cA,lA,cc,lc,rfl,h1,h2,_⟩,a⟩;simp only at h1 h2;rw[hL]at h2;exact⟨cA,lA,cc,lc,by simp only[hC,hL],h2,a⟩
 have HN1:=Lib.hid (long_no (n:=M+1) (by omega));have HR1:=Lib.hid (long_r (n:=M) (by omega) (by omega));have HC1:=Lib.hid (long_c (n:=M) (by omega) (by omega));have HCR:=Lib.hid CR;have HCC:=Lib.hid CC;have HEN:=Lib.hid eN;clear hM CR CC eN
 go_enter Tryz.func11,Tryz.ntmps11
 go_upto_region 2 with(at_make;go_must (refine wpList_mkI ei21' w.heap.size rfl rfl (M+1) rfl rfl HEN.out HEN.out ?_ ?_ (Nat.le_refl _) ?_))
 ·have:=HM.out;omega
 ·have:=HM.out;unfold maxLen;omega
 intro w1 I1 g1;have a1:Aft w w1:=Aft.of_grown g1
 go_upto_region 3 with(at_make;go_must (refine wpList_mkI ei22 w1.heap.size rfl rfl (M+1) rfl rfl HEN.out HEN.out ?_ ?_ (Nat.le_refl _) ?_))
 ·have:=HM.out;omega
 ·have:=HM.out;unfold maxLen;omega
 intro w2 I2 g2;have a2:Aft w1 w2:=Aft.of_grown g2;have I12:=I1.aft a2
 have hne:w1.heap.size≠w.heap.size:=by have:=(I1.lt w.heap.size rfl).2;omega
 obtain⟨b1,hb1⟩: ∃x,w.heap.size=x:=⟨_,rfl⟩;obtain⟨b2,hb2⟩: ∃x,w1.heap.size=x:=⟨_,rfl⟩;rw[hb1]at I12⊢;rw[hb2]at I2⊢;have a12:=a1.trans a2
 have hMM:M≤1048576:=by have:=HM.out;omega
 have hs12:b1≤b2:=by have:=a1.size;omega
 have hne:b2≠b1:=by omega
 have HB1:=Lib.hid hb1;have HB2:=Lib.hid hb2;clear I1 g1 g2 hb1 hb2 a1 a2;go_wp2
 go_loopg [3] (M+1) (fun gk iv wr=> ∃(j:Nat) (xs ys:List Int),j+gk=M+1∧iv= .int .i64 j∧xs.length=M+1∧ys.length=M+1∧(∀i,i<j→xs.getD i 0=97)∧(∀i,i<j→ys.getD i 0=2)∧
  Ints wr b1 21 .i32 (.slice (some ⟨b1,0,none⟩) (M+1) (M+1)) xs∧Ints wr b2 22 .u8 (.slice (some ⟨b2,0,none⟩) (M+1) (M+1)) ys∧Aft w wr)
 case atStart=>exact⟨0,_,_,by omega,rfl,List.length_replicate,List.length_replicate,by omega,by omega,I12,I2,a12⟩
 case round=>
  clear I12 I2 a12;obtain⟨j,xs,ys,hj,rfl,hx,hy,hxs,hys,I,J,ar⟩:=hrel;have HJ:=Lib.hid hj;have HX:=Lib.hid hx;have HY:=Lib.hid hy;have HXS:=Lib.hid hxs;have HYS:=Lib.hid hys;clear hj hx hy hxs hys
  by_cases hjn:j<M+1
  ·obtain⟨-,-,-,hB,hl,hf,hc⟩:=I.at_;obtain⟨-,-,-,hB2,hl2,hf2,hc2⟩:=J.at_;have c1:=hc j (by have:=HX.out;omega);have c2:=hc2 j (by have:=HY.out;omega);generalize xs.getD j 0=u at c1;generalize ys.getD j 0=v at c2;clear hc hc2;go_wp2
   go_roundg (M+1-(j+1))
   case rel=>
    have F1:=(Frm.refl (fun k=>k=b1) wr).set (b:=b1) (j:=j) rfl (.int .i32 97);have F2:=(Frm.refl (fun k=>k=b2) (wr.setCell ⟨b1,j,none⟩ (.int .i32 97))).set (b:=b2) (j:=j) rfl (.int .u8 2);refine⟨j+1,xs.set j 97,ys.set j 2,by have:=HJ.out;omega,by go_num,by rw[List.length_set];exact HX.out,by rw[List.length_set];exact HY.out,fun i hi=> ?_,fun i hi=> ?_,?_,?_,?_⟩
    ·by_cases e:i=j
     ·subst e;rw[List.getD_eq_getElem?_getD,List.getElem?_set];rw[if_pos rfl,if_pos (by have:=HX.out;omega)];rfl
     ·rw[List.getD_eq_getElem?_getD,List.getElem?_set,if_neg (by omega),←List.getD_eq_getElem?_getD];exact HXS.out i (by omega)
    ·by_cases e:i=j
     ·subst e;rw[List.getD_eq_getElem?_getD,List.getElem?_set];rw[if_pos rfl,if_pos (by have:=HY.out;omega)];rfl
     ·rw[List.getD_eq_getElem?_getD,List.getElem?_set,if_neg (by omega),←List.getD_eq_getElem?_getD];exact HYS.out i (by omega)
    ·exact(I.set j 97).frm F2 (fun k e h=>by
      have e:b1=k:=by simpa[Value.ownBlock]using e
      have h:k=b2:=h
      omega)
    ·exact(J.frm F1 (fun k e h=>by
      have e:b2=k:=by simpa[Value.ownBlock]using e
      have h:k=b1:=h
      omega)).set j 2
    ·exact(ar.set (by have:=HB1.out;omega) _).set (by have:=HB1.out;omega) _
   case measure=>have:=HJ.out;omega
  ·have ex:xs=List.replicate (M+1) 97:=all_rep HX.out (fun i hi=>HXS.out i (by have:=HJ.out;omega));have ey:ys=List.replicate (M+1) 2:=all_rep HY.out (fun i hi=>HYS.out i (by have:=HJ.out;omega));subst ex ey;have RX:RdInts wr wr.heap.size .i32 (some ⟨b1,0,none⟩) (List.replicate (M+1) 97):=I.rd;have RY:RdInts wr wr.heap.size .u8 (some ⟨b2,0,none⟩) (List.replicate (M+1) 2):=J.rd;clear HJ HX HY HXS HYS I J
   go_upto_region 9 with(first
    |(go_at_call 33;refine(knownP_ok _).mono ?_;rintro r3 w3 ⟨pv,rfl,P3,b3⟩)
    |(go_at_call 15;refine(HCR.out _ _ _ _ _ _ _ _ _ _ _ P3 ((RX.aft b3).more b3.size) (by rw[List.length_replicate]) HN1.out.2 rfl rfl).mono ?_;rintro r4 w4 ⟨cA,lA,cc,lc,rfl,-,b4⟩))
   have b5:Aft w4 (w4.alloc (.cells #[.int .i8 0,.slice cA 0 cc,.slice lA 0 lc] 33)):=(Aft.refl w4).alloc _;have b35:=(b3.trans b4).trans b5;generalize w4.alloc (.cells #[.int .i8 0,.slice cA 0 cc,.slice lA 0 lc] 33)=w5 at b5 b35⊢;clear b3 b4 b5 P3
   go_upto_region 10 with(go_at_call 29;refine(HCC.out _ _ _ _ _ _ _ _ _ _ ((RY.aft b35).more b35.size) (by rw[List.length_replicate]) HN1.out.1 rfl rfl).mono ?_;rintro r6 w6 ⟨dA,mA,dc,mc,rfl,-,b6⟩)
   have b7:Aft w6 (w6.alloc (.cells #[.int .i8 0,.slice dA 0 dc,.slice mA 0 mc] 33)):=(Aft.refl w6).alloc _;have b57:=(b35.trans b6).trans b7;generalize w6.alloc (.cells #[.int .i8 0,.slice dA 0 dc,.slice mA 0 mc] 33)=w7 at b7 b57⊢;clear b35 b6 b7;have RX7:=((RX.aft b57).more b57.size).off1;have RY7:=((RY.aft b57).more b57.size).off1;have a7:=ar.trans b57;clear RX RY ar b57;have hX8:=HR1.out;have hX10:=HC1.out
   have h1M:1<M+1:=by have:=HM.out;omega
   have hM0:0<M:=by omega
   have hM1: ¬M=0:=by omega
   go_cut [8,9] from 39 to 46 (fun pv ev wx=> ∃(x8:Nat) (cA lA:Option Addr) (cc lc:Nat),pv= .pointer (some ⟨x8,0,none⟩)∧ev= .int .i64 0∧Blk wx x8 33 #[.int .i8 0,.slice cA M cc,.slice lA M lc]∧RdInts wx wx.heap.size .i8 lA (List.replicate M 0)∧Aft w7 wx)
   case first=>
    have CK: ∀W,Aft w7 W→Calls Tryz.prog 33 #[] W fun r w'=> ∃pv,r= .returned pv∧PropsIs w' w'.heap.size pv 14 knP∧Aft w7 w'∧Aft W w':=fun W hW=>(knownP_ok W).mono (fun r w' ⟨pv,e,h,a⟩=>⟨pv,e,h,hW.trans a,a⟩)
    have CQ: ∀(W:World) (pv:Value) (c:Nat),Aft w7 W→PropsIs W W.heap.size pv 14 knP→Calls Tryz.prog 15 #[.iface 25 pv,.slice (some ⟨b1,1,none⟩) M c,.int .i8 (-1)] W fun r w'=> ∃cA lA cc lc,r= .returned (.tuple #[.agg #[.int .i8 0,.slice cA M cc,.slice lA M lc],.int .i64 0])∧Ints w' W.heap.size 29 .i8 (.slice lA M lc) (List.replicate M 0)∧Aft w7 w'∧Aft W w':=fun W pv c hW hP=>by refine(HCR.out W pv _ M c _ _ _ _ _ M hP ((RX7.aft hW).more hW.size) (by rw[List.length_replicate]) hX8 (by rw[List.length_replicate]) (by rw[List.length_replicate])).mono ?_;rintro r w' ⟨cA,lA,cc,lc,rfl,I,a⟩;exact⟨cA,lA,cc,lc,rfl,I,hW.trans a,a⟩
    clear hX8 hX10 HN1 HR1 HC1 HCR HCC RY7
    go_region_with (first
     |(go_at_call 33;refine(CK _ (by first|assumption|exact(Aft.refl _).drew|exact((Aft.refl _).drew).alloc _)).mono ?_;rintro r8 w8 ⟨pv,rfl,P8,b8,c8⟩;first|(have hz:Blk w8 w7.heap.size 33 #[.int .i8 0,.slice none 0 0,.slice none 0 0]:=(Blk.new w7.drew 33 #[.int .i8 0,.slice none 0 0,.slice none 0 0]).aft c8;obtain⟨z0,z1,z2,zf,zl⟩:=hz.c3)|skip)
     |(go_at_call 15;refine(CQ _ _ _ (by first|assumption|exact b8.alloc _) (by first|assumption|exact(PropsIs.below P8 ((Aft.refl _).alloc _) (.inl (Nat.le_refl _))).clip)).mono ?_;rintro r9 w9 ⟨cA,lA,cc,lc,rfl,I9,b9,c9⟩;first|(have hz9:=hz.aft c9;obtain⟨y0,y1,y2,yf,yl⟩:=hz9.c3)|(have hz9:=(Blk.new w8 33 #[.int .i8 0,.slice none 0 0,.slice none 0 0]).aft c9;obtain⟨y0,y1,y2,yf,yl⟩:=hz9.c3)|skip))
    all_goals (go_wp2;go_meet)
    all_goals first
     |exact⟨_,cA,lA,cc,lc,rfl,rfl,Blk.new _ _ _,(I9.alloc _).rd,b9.alloc _⟩
     |exact⟨_,cA,lA,cc,lc,rfl,rfl,blk_put3 _ _ _ hz9,(I9.frm (frm_put3 _ _ _ _ _) (fun j e h=>by have h1:=(I9.lt j e).1;have h2:j=_:=h;have:=hz9.lt;have:=b8.size;(try simp only[World.size_alloc]at h1);omega)).rd,Below.trans b9 ((frm_put3 _ _ _ _ _).below b9.size (fun j hj e=>by have e2:j=_:=e;have:=b8.size;omega))⟩
   case rest=>
    obtain⟨x8,cA2,lA2,cc2,lc2,rfl,rfl,X8,R8,b8⟩:=hcut;have RY8:=(RY7.aft b8).more b8.size;clear RX7 RY7
    go_upto_region 12 with(go_at_call 29;refine(HCC.out _ _ M _ _ _ _ _ _ M RY8 (by rw[List.length_replicate]) hX10 (by rw[List.length_replicate]) (by rw[List.length_replicate])).mono ?_;rintro r9 w9 ⟨dA2,mA2,dc2,mc2,rfl,J9,b9⟩)
    have X10:=Blk.new w9 33 #[.int .i8 1,.slice dA2 M dc2,.slice mA2 M mc2];have b10:Aft w9 (w9.alloc (.cells #[.int .i8 1,.slice dA2 M dc2,.slice mA2 M mc2] 33)):=(Aft.refl w9).alloc _;obtain⟨x10,hx10⟩: ∃x,w9.heap.size=x:=⟨_,rfl⟩;generalize w9.alloc (.cells #[.int .i8 1,.slice dA2 M dc2,.slice mA2 M mc2] 33)=w10 at X10 b10⊢;rw[hx10]at X10⊢;have b910:=b9.trans b10;have S8:=X8.aft b910;have T8:=R8.aft b910;have T10:=(J9.aft b10).rd;have afin:=(a7.trans b8).trans b910
    have hMM2:((M:Int) !=1048576)=false:=by rw[HM.out];rfl
    obtain⟨x0,x1,x2,xf,xl⟩:=S8.c3;obtain⟨y0,y1,y2,yf,yl⟩:=X10.c3;clear hx10 b910 b9 b10 b8 a7 X8 R8 J9 RY8 hX8 hX10;go_wp2
    go_loopg [12] M (fun gk iv wr=> ∃j:Nat,j+gk=M∧iv= .int .i64 j∧w10=wr)
    case atStart=>exact⟨0,by omega,rfl,rfl⟩
    case round=>
     obtain⟨j,hj,rfl,hwr⟩:=hrel;subst hwr;have HJ:=Lib.hid hj;clear hj
     by_cases hjM:j<M
     ·have hjc:(j:Int)<1048576:=by omega
      obtain⟨qb,o,rfl,_,hq,k1⟩:=T8.at_ (i:=j) (by rw[List.length_replicate];exact hjM);obtain⟨qb2,o2,rfl,_,hq2,k2⟩:=T10.at_ (i:=j) (by rw[List.length_replicate];exact hjM);rw[rep_getD hjM]at k1 k2;go_wp2
      go_roundg (M-(j+1))
      case rel=>exact⟨j+1,by have:=HJ.out;omega,by go_num,rfl⟩
      case measure=>have:=HJ.out;omega
     ·have hjc: ¬(j:Int)<1048576:=by have:=HM.out;omega
      go_wp2_with(go_at_call 18;refine(awake_ok _).mono ?_;rintro r11 w11 ⟨rfl,a11⟩)
      go_ret;exact⟨rfl,afin.trans a11⟩
end Go.Proofs.YtllolnkkepacjaaGreat
