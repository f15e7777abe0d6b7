/- EngineBounds walked. -/
import Derived.Test.YtllolnkkepacjaaGreatEw4
import Derived.Test.YtllolnkkepacjaaGreatLn5
import Derived.Test.YtllolnkkepacjaaGreatKn2
import Derived.Test.YtllolnkkepacjaaGreatEn4
import Derived.Test.YtllolnkkepacjaaGreatA1
import Derived.Test.YtllolnkkepacjaaGreatY5
set_option maxRecDepth 100000
set_option maxHeartbeats 8000000
namespace Go.Proofs.YtllolnkkepacjaaGreat
open Go.RowKit
attribute [local go_sem] Oper.semAt_some
theorem ERunes_at {w:World}{pv:Value}{rest:Int}{ch:List Chr}(hP:PropsIs w w.heap.size pv rest ch){A:Option Addr}{n c:Nat}{l:List Int}(h:RdInts w w.heap.size .i32 A l)(hn:n=l.length)(b:Int){p q:Nat}{Xe Xb:Int}{Xc Xl:List Int}(hX:runesX rest ch l b=⟨Xe,Xb,Xc,Xl⟩)(hp:Xc.length=p)(hq:Xl.length=q):
 ∀W,Aft w W→Calls Tryz.prog 15 #[.iface 25 pv,.slice A n c,.int .i8 b] W fun r w'=> ∃cA lA cc lc,r= .returned (.tuple #[.agg #[.int .i8 Xb,.slice cA p cc,.slice lA q lc],.int .i64 Xe])∧Ints w' W.heap.size 22 .u8 (.slice cA p cc) Xc∧Ints w' W.heap.size 29 .i8 (.slice lA q lc) Xl∧Aft W w':=fun W hW=>by
 have:=ERunes_ok (rc:=c) (hP.below hW (.inl (Nat.le_refl _))) (h.aft hW) hn b;rw[hX]at this;refine this.mono ?_;rintro r w' ⟨v,rfl,⟨cA,lA,cc,lc,rfl,h1,h2,_⟩,a⟩;simp only at h1 h2;rw[hp]at h1;rw[hq]at h2;exact⟨cA,lA,cc,lc,by simp only[hp,hq],h1,h2,a⟩
theorem EClasses_at {w:World}{A:Option Addr}{n c:Nat}{l:List Int}(h:RdInts w w.heap.size .u8 A l)(hn:n=l.length)(b:Int){p q:Nat}{Xe Xb:Int}{Xc Xl:List Int}(hX:classesX l b=⟨Xe,Xb,Xc,Xl⟩)(hp:Xc.length=p)(hq:Xl.length=q):
 ∀W,Aft w W→Calls Tryz.prog 29 #[.slice A n c,.int .i8 b] W fun r w'=> ∃cA lA cc lc,r= .returned (.tuple #[.agg #[.int .i8 Xb,.slice cA p cc,.slice lA q lc],.int .i64 Xe])∧Ints w' W.heap.size 22 .u8 (.slice cA p cc) Xc∧Ints w' W.heap.size 29 .i8 (.slice lA q lc) Xl∧Aft W w':=fun W hW=>by
 have:=EClasses_ok (c:=c) (h.aft hW) hn b;rw[hX]at this;refine this.mono ?_;rintro r w' ⟨v,rfl,⟨cA,lA,cc,lc,rfl,h1,h2,_⟩,a⟩;simp only at h1 h2;rw[hp]at h1;rw[hq]at h2;exact⟨cA,lA,cc,lc,by simp only[hp,hq],h1,h2,a⟩
theorem bounds_ok {w:World}{pv:Value}{rest:Int}{ch:List Chr}(hP:PropsIs w w.heap.size pv rest ch){A:Option Addr}{n c:Nat}{l:List Int}(h:RdInts w w.heap.size .i32 A l)(hn:n=l.length)
 {A2:Option Addr} {n2 k2:Nat} {l2:List Int} (h2:RdInts w w.heap.size .u8 A2 l2) (hn2:n2=l2.length) (hl:n≤35184372087808) (hl2:n2≤140737488351232) (b:Int):
 Calls Tryz.prog 7 #[pv,.slice A n c,.slice A2 n2 k2,.int .i8 b] w fun r w'=>r= .returned (.bool true)∧Aft w w':=by
 obtain⟨⟨Xe,Xb,Xc,Xl⟩,hX⟩: ∃X,runesX rest ch l b=X:=⟨_,rfl⟩;obtain⟨⟨Ye,Yb,Yc,Yl⟩,hY⟩: ∃X,classesX l2 b=X:=⟨_,rfl⟩;obtain⟨mp,hmp⟩: ∃z,mayP rest ch=z:=⟨_,rfl⟩
 have CM: ∀W,Aft w W→Calls Tryz.prog 16 #[pv] W fun r w'=>r= .returned (.bool mp)∧Aft W w':=fun W hW=>by rw[←hmp];exact May_ok (hP.below hW (.inl (Nat.le_refl _)))
 have mX:Xe=0→mayR Xb Xc Xl=true∧Xc.length=n∧Xl.length=n∧n≤1048576:=fun e=>by have:=runesX_may (rest:=rest) (ch:=ch) (rs:=l) (b:=b) (by rw[hX];exact e);rw[hX]at this;rw[hn];exact this
 have mY:Ye=0→mayR Yb Yc Yl=true∧Yc.length=n2∧Yl.length=n2∧n2≤1048576:=fun e=>by have:=classesX_may (l:=l2) (b:=b) (by rw[hY];exact e);rw[hY]at this;rw[hn2];exact this
 obtain⟨p,hp⟩: ∃p,Xc.length=p:=⟨_,rfl⟩;obtain⟨q,hq⟩: ∃q,Xl.length=q:=⟨_,rfl⟩;obtain⟨p',hp'⟩: ∃p,Yc.length=p:=⟨_,rfl⟩;obtain⟨q',hq'⟩: ∃q,Yl.length=q:=⟨_,rfl⟩;have C15:=ERunes_at (c:=c) hP h hn b hX hp hq;have C29:=EClasses_at (c:=k2) h2 hn2 b hY hp' hq';rw[hp,hq]at mX;rw[hp',hq']at mY;have HN:=Lib.hid hn;have HN2:=Lib.hid hn2;have HP:=Lib.hid hp;have HQ:=Lib.hid hq;have HP':=Lib.hid hp';have HQ':=Lib.hid hq';clear hn hn2 hX hY hp hq hp' hq' hmp h h2;obtain⟨pA,pc,epv,-,-⟩:=hP;obtain⟨pn,hpn⟩: ∃pn,ch.length=pn:=⟨_,rfl⟩;rw[hpn]at epv;clear hpn;subst epv;have X4:=Blk.new w 25 #[.int .u8 rest,.slice pA pn pc];have a0:Aft w (w.alloc (.cells #[.int .u8 rest,.slice pA pn pc] 25)):=(Aft.refl w).alloc _;obtain⟨W0,hW0⟩: ∃W0,w.alloc (.cells #[.int .u8 rest,.slice pA pn pc] 25)=W0:=⟨_,rfl⟩;rw[hW0]at X4 a0;obtain⟨x0,x1,xf,xl⟩:=X4.c2
 go_enter Tryz.func7,Tryz.ntmps7
 go_upto_region 1 with(fail)
 clear hW0
 go_upto_region 3 with(go_at_call 18;refine(awake_ok _).mono ?_;rintro r1 w1 ⟨rfl,b1⟩)
 have X41:=X4.aft b1;have a1:=a0.trans b1;clear x0 x1 xf xl X4 a0 b1;obtain⟨x0,x1,xf,xl⟩:=X41.c2
 rcases mp with _|_
 ·go_upto_region 7 with(go_at_call 16;refine(CM _ a1).mono ?_;rintro r2 wz ⟨rfl,b2⟩)
  have aZ:Aft w wz:=a1.trans b2
  go_upto_region 8 with(go_at_call 29;refine(C29 _ aZ).mono ?_;rintro r7 w7 ⟨dA,mA,dc,mc,rfl,JC,JL,b7⟩)
  have Z9:=Blk.new w7 33 #[.int .i8 Yb,.slice dA p' dc,.slice mA q' mc];have b8:Aft w7 (w7.alloc (.cells #[.int .i8 Yb,.slice dA p' dc,.slice mA q' mc] 33)):=(Aft.refl w7).alloc _;obtain⟨z9,hz9⟩: ∃x,w7.heap.size=x:=⟨_,rfl⟩;generalize w7.alloc (.cells #[.int .i8 Yb,.slice dA p' dc,.slice mA q' mc] 33)=w8 at Z9 b8⊢;rw[hz9]at Z9⊢;have a8:=(aZ.trans b7).trans b8;replace JC:=JC.aft b8;replace JL:=JL.aft b8;clear hz9 b7 b8;obtain⟨z0,z1,z2,zf,zl⟩:=Z9.c3
  by_cases hYe:Ye=0
  ·obtain⟨m1,m2,m3,m4⟩:=mY hYe
   have e3:(Ye !=0)=false:=by simpa using hYe
   have e4:((q':Int)==(n2:Int))=true:=by rw[m3];simp
   have C22:=ECheck_ok (w:=w8) (cc:=dc) (lc:=mc) (base:=Yb) HP'.out.symm HQ'.out.symm JC.rd JL.rd (by omega);rw[if_pos m1]at C22;have C23:=fun(W:World) (hW:Aft w8 W)=>rMay_ok (w:=W) (cc:=dc) (lc:=mc) (base:=Yb) HP'.out.symm HQ'.out.symm (JC.aft hW).rd (JL.aft hW).rd (by omega);rw[m1]at C23;clear m1 m2 m3 m4 mY hYe
   go_wp2_with(first
    |(go_at_call 22;refine C22.mono ?_;rintro r9 w9 ⟨rfl,b9⟩;obtain⟨z0,z1,z2,zf,zl⟩:=(Z9.aft b9).c3)
    |(go_at_call 23;refine(C23 _ b9).mono ?_;rintro r10 w10 ⟨rfl,b10⟩;obtain⟨z0,z1,z2,zf,zl⟩:=(Z9.aft (b9.trans b10)).c3))
   go_ret;exact⟨rfl,(a8.trans b9).trans b10⟩
  ·have e3:(Ye !=0)=true:=bne_iff_ne.2 hYe;go_wp2;go_ret;exact⟨rfl,a8⟩
 ·go_upto_region 4 with(go_at_call 16;refine(CM _ a1).mono ?_;rintro r2 w2 ⟨rfl,b2⟩)
  have X42:=X41.aft b2;have a2:=a1.trans b2;clear x0 x1 xf xl;obtain⟨x0,x1,xf,xl⟩:=X42.c2
  go_upto_region 5 with(go_at_call 15;refine(C15 _ a2).mono ?_;rintro r3 w3 ⟨cA,lA,cc,lc,rfl,IC,IL,b3⟩)
  have X9:=Blk.new w3 33 #[.int .i8 Xb,.slice cA p cc,.slice lA q lc];have b4:Aft w3 (w3.alloc (.cells #[.int .i8 Xb,.slice cA p cc,.slice lA q lc] 33)):=(Aft.refl w3).alloc _;obtain⟨x9,hx9⟩: ∃x,w3.heap.size=x:=⟨_,rfl⟩;generalize w3.alloc (.cells #[.int .i8 Xb,.slice cA p cc,.slice lA q lc] 33)=w4 at X9 b4⊢;rw[hx9]at X9⊢;have a4:=(a2.trans b3).trans b4;replace IC:=IC.aft b4;replace IL:=IL.aft b4;clear x0 x1 xf xl hx9 X41 X42 a1 b2 a2 b3 b4;obtain⟨y0,y1,y2,yf,yl⟩:=X9.c3
  by_cases hXe:Xe=0
  ·obtain⟨m1,m2,m3,m4⟩:=mX hXe
   have e1:(Xe==0)=true:=by simpa using hXe
   have e2:((q:Int) !=(n:Int))=false:=by rw[m3];simp
   have C22:=ECheck_ok (w:=w4) (cc:=cc) (lc:=lc) (base:=Xb) HP.out.symm HQ.out.symm IC.rd IL.rd (by omega);rw[if_pos m1]at C22;have C23:=fun(W:World) (hW:Aft w4 W)=>rMay_ok (w:=W) (cc:=cc) (lc:=lc) (base:=Xb) HP.out.symm HQ.out.symm (IC.aft hW).rd (IL.aft hW).rd (by omega);rw[m1]at C23;clear m1 m2 m3 m4 mX hXe
   go_upto_region 7 with(first
    |(go_at_call 22;refine C22.mono ?_;rintro r5 w5 ⟨rfl,b5⟩;obtain⟨y0,y1,y2,yf,yl⟩:=(X9.aft b5).c3)
    |(go_at_call 23;refine(C23 _ b5).mono ?_;rintro r6 wz ⟨rfl,b6⟩;obtain⟨y0,y1,y2,yf,yl⟩:=(X9.aft (b5.trans b6)).c3))
   have aZ:Aft w wz:=(a4.trans b5).trans b6
   go_upto_region 8 with(go_at_call 29;refine(C29 _ aZ).mono ?_;rintro r7 w7 ⟨dA,mA,dc,mc,rfl,JC,JL,b7⟩)
   have Z9:=Blk.new w7 33 #[.int .i8 Yb,.slice dA p' dc,.slice mA q' mc];have b8:Aft w7 (w7.alloc (.cells #[.int .i8 Yb,.slice dA p' dc,.slice mA q' mc] 33)):=(Aft.refl w7).alloc _;obtain⟨z9,hz9⟩: ∃x,w7.heap.size=x:=⟨_,rfl⟩;generalize w7.alloc (.cells #[.int .i8 Yb,.slice dA p' dc,.slice mA q' mc] 33)=w8 at Z9 b8⊢;rw[hz9]at Z9⊢;have a8:=(aZ.trans b7).trans b8;replace JC:=JC.aft b8;replace JL:=JL.aft b8;clear hz9 b7 b8;obtain⟨z0,z1,z2,zf,zl⟩:=Z9.c3
   by_cases hYe:Ye=0
   ·obtain⟨m1,m2,m3,m4⟩:=mY hYe
    have e3:(Ye !=0)=false:=by simpa using hYe
    have e4:((q':Int)==(n2:Int))=true:=by rw[m3];simp
    have C22:=ECheck_ok (w:=w8) (cc:=dc) (lc:=mc) (base:=Yb) HP'.out.symm HQ'.out.symm JC.rd JL.rd (by omega);rw[if_pos m1]at C22;have C23:=fun(W:World) (hW:Aft w8 W)=>rMay_ok (w:=W) (cc:=dc) (lc:=mc) (base:=Yb) HP'.out.symm HQ'.out.symm (JC.aft hW).rd (JL.aft hW).rd (by omega);rw[m1]at C23;clear m1 m2 m3 m4 mY hYe
    go_wp2_with(first
     |(go_at_call 22;refine C22.mono ?_;rintro r9 w9 ⟨rfl,b9⟩;obtain⟨z0,z1,z2,zf,zl⟩:=(Z9.aft b9).c3)
     |(go_at_call 23;refine(C23 _ b9).mono ?_;rintro r10 w10 ⟨rfl,b10⟩;obtain⟨z0,z1,z2,zf,zl⟩:=(Z9.aft (b9.trans b10)).c3))
    go_ret;exact⟨rfl,(a8.trans b9).trans b10⟩
   ·have e3:(Ye !=0)=true:=bne_iff_ne.2 hYe;go_wp2;go_ret;exact⟨rfl,a8⟩
  ·have e1:(Xe==0)=false:=by simpa using hXe
   go_upto_region 7 with(fail)
   have aZ:Aft w w4:=a4
   go_upto_region 8 with(go_at_call 29;refine(C29 _ aZ).mono ?_;rintro r7 w7 ⟨dA,mA,dc,mc,rfl,JC,JL,b7⟩)
   have Z9:=Blk.new w7 33 #[.int .i8 Yb,.slice dA p' dc,.slice mA q' mc];have b8:Aft w7 (w7.alloc (.cells #[.int .i8 Yb,.slice dA p' dc,.slice mA q' mc] 33)):=(Aft.refl w7).alloc _;obtain⟨z9,hz9⟩: ∃x,w7.heap.size=x:=⟨_,rfl⟩;generalize w7.alloc (.cells #[.int .i8 Yb,.slice dA p' dc,.slice mA q' mc] 33)=w8 at Z9 b8⊢;rw[hz9]at Z9⊢;have a8:=(aZ.trans b7).trans b8;replace JC:=JC.aft b8;replace JL:=JL.aft b8;clear hz9 b7 b8;obtain⟨z0,z1,z2,zf,zl⟩:=Z9.c3
   by_cases hYe:Ye=0
   ·obtain⟨m1,m2,m3,m4⟩:=mY hYe
    have e3:(Ye !=0)=false:=by simpa using hYe
    have e4:((q':Int)==(n2:Int))=true:=by rw[m3];simp
    have C22:=ECheck_ok (w:=w8) (cc:=dc) (lc:=mc) (base:=Yb) HP'.out.symm HQ'.out.symm JC.rd JL.rd (by omega);rw[if_pos m1]at C22;have C23:=fun(W:World) (hW:Aft w8 W)=>rMay_ok (w:=W) (cc:=dc) (lc:=mc) (base:=Yb) HP'.out.symm HQ'.out.symm (JC.aft hW).rd (JL.aft hW).rd (by omega);rw[m1]at C23;clear m1 m2 m3 m4 mY hYe
    go_wp2_with(first
     |(go_at_call 22;refine C22.mono ?_;rintro r9 w9 ⟨rfl,b9⟩;obtain⟨z0,z1,z2,zf,zl⟩:=(Z9.aft b9).c3)
     |(go_at_call 23;refine(C23 _ b9).mono ?_;rintro r10 w10 ⟨rfl,b10⟩;obtain⟨z0,z1,z2,zf,zl⟩:=(Z9.aft (b9.trans b10)).c3))
    go_ret;exact⟨rfl,(a8.trans b9).trans b10⟩
   ·have e3:(Ye !=0)=true:=bne_iff_ne.2 hYe;go_wp2;go_ret;exact⟨rfl,a8⟩
end Go.Proofs.YtllolnkkepacjaaGreat
