/- EngineApart walked. -/
import Derived.Test.YtllolnkkepacjaaGreatLb1
import Derived.Test.YtllolnkkepacjaaGreatAp5
set_option maxRecDepth 100000
set_option maxHeartbeats 8000000
namespace Go.Proofs.YtllolnkkepacjaaGreat
open Go.RowKit
attribute [local go_sem] Oper.semAt_some
theorem balB_drop {l:List Int}{d j:Nat}(hj:j<l.length):balB d (l.drop j)=(if l.getD j 0=11 then false else if begins (l.getD j 0)=true then balB (d+1) (l.drop (j+1))else if l.getD j 0=23 then(if d=0 then false else balB (d-1) (l.drop (j+1)))else balB d (l.drop (j+1))):=by rw[List.drop_eq_getElem_cons hj,List.getD_eq_getElem?_getD,List.getElem?_eq_getElem hj];rfl
theorem beg_no {x:Int}(h1:x≠20)(h2:x≠21)(h3:x≠22):begins x=false:=by unfold begins;simp;omega
theorem inside_ok {w:World}{A:Option Addr}{n c:Nat}{l:List Int}(h:RdInts w w.heap.size .u8 A l)(hn:n=l.length)(hl:n≤140737488351232):
 Calls Tryz.prog 31 #[.slice A n c] w fun r w'=>r= .returned (.bool (balB 0 l))∧w'=w:=by
 have HN:=Lib.hid hn;clear hn
 go_enter Tryz.func31,Tryz.ntmps31
 go_wp2
 go_loopg [3,4] n (fun gk ov iv wr=> ∃(j d:Nat),j+gk=n∧ov= .int .i64 d∧iv= .int .i64 j∧d≤j∧balB 0 l=balB d (l.drop j)∧wr=w)
 case atStart=>exact⟨0,0,by omega,rfl,rfl,by omega,by simp,rfl⟩
 case round=>
  obtain⟨j,d,hj,rfl,rfl,hd,hb,rfl⟩:=hrel;have HJ:=Lib.hid hj;clear hj
  by_cases hjn:j<n
  ·obtain⟨qb,o,rfl,_,hq,k1⟩:=h.at_ (i:=j) (by have:=HN.out;omega);obtain⟨x,hx⟩: ∃x,l.getD j 0=x:=⟨_,rfl⟩;have hbd:=balB_drop (d:=d) (show j<l.length by have:=HN.out;omega);rw[hx]at k1 hbd;rw[hbd]at hb;have HX:=Lib.hid hx;clear hx hbd
   have key:x=11∨(x=20∨x=21∨x=22)∨x=23∨(x≠11∧x≠20∧x≠21∧x≠22∧x≠23):=by omega
   rcases key with rfl|hk|rfl|⟨n1,n2,n3,n4,n5⟩
   ·have HB:=Lib.hid (hb.trans (if_pos rfl));clear hb;go_wp2;go_ret;exact⟨by rw[HB.out];rfl,rfl⟩
   ·rcases hk with rfl|rfl|rfl
    all_goals
     have HB:=Lib.hid (hb.trans rfl);clear hb;go_wp2
     go_roundg (n-(j+1))
     case rel=>exact⟨j+1,d+1,by have:=HJ.out;omega,by go_num,by go_num,by omega,HB.out,rfl⟩
     case measure=>have:=HJ.out;omega
   ·by_cases h0:d=0
    ·subst h0;have HB:=Lib.hid (hb.trans rfl);clear hb;go_wp2;go_ret;exact⟨by rw[HB.out];rfl,rfl⟩
    ·have HB:=Lib.hid (hb.trans (show _=balB (d-1) (l.drop (j+1)) by rw[if_neg (by decide),if_neg (by decide),if_pos rfl,if_neg h0]));clear hb
     have hd1: ¬((d:Int)-1<0):=by omega
     go_wp2
     go_roundg (n-(j+1))
     case rel=>exact⟨j+1,d-1,by have:=HJ.out;omega,by go_num,by go_num,by omega,HB.out,rfl⟩
     case measure=>have:=HJ.out;omega
   ·have HB:=Lib.hid (hb.trans (show _=balB d (l.drop (j+1)) by rw[if_neg n1,beg_no n2 n3 n4,if_neg (by decide),if_neg n5]));have g1:(x==11)=false:=beq_eq_false_iff_ne.2 n1;have g2:(x==20)=false:=beq_eq_false_iff_ne.2 n2;have g3:(x==21)=false:=beq_eq_false_iff_ne.2 n3;have g4:(x==22)=false:=beq_eq_false_iff_ne.2 n4;have g5:(x==23)=false:=beq_eq_false_iff_ne.2 n5;clear hb n1 n2 n3 n4 n5;go_wp2
    go_roundg (n-(j+1))
    case rel=>exact⟨j+1,d,by have:=HJ.out;omega,rfl,by go_num,by omega,HB.out,rfl⟩
    case measure=>have:=HJ.out;omega
  ·have hjq:j=n:=by have:=HJ.out;omega
   subst hjq;rw[List.drop_eq_nil_of_le (by have:=HN.out;omega)]at hb
   have hb2:balB 0 l=decide ((d:Int)=0):=by
    rw[hb];show(d==0)=_
    rcases d with _|d
    ·rfl
    ·simp;omega
   have HB:=Lib.hid hb2;clear hb hb2
   by_cases h0:d=0
   ·subst h0;go_wp2;go_ret;exact⟨by rw[HB.out];rfl,rfl⟩
   ·have g1:((d:Int)==0)=false:=beq_eq_false_iff_ne.2 (by omega);have g2:decide ((d:Int)=0)=false:=decide_eq_false (by omega);go_wp2;go_ret;exact⟨by rw[HB.out,g2];rfl,rfl⟩
theorem apart_ok {w:World}{A0 A1 A2 A3:Option Addr}{n0 n1 n2 n3 c0 c1 c2 c3:Nat}{l0 l1 l2 l3:List Int}(h0:RdInts w w.heap.size .u8 A0 l0)(e0:n0=l0.length)(s0:n0≤1048576)(h1:RdInts w w.heap.size .u8 A1 l1)(e1:n1=l1.length)(s1:n1≤1048576)
 (h2:RdInts w w.heap.size .u8 A2 l2) (e2:n2=l2.length) (s2:n2≤1048576) (h3:RdInts w w.heap.size .u8 A3 l3) (e3:n3=l3.length) (s3:n3≤1048576) (kind b:Int):
 Calls Tryz.prog 9 #[.slice A0 n0 c0,.slice A1 n1 c1,.slice A2 n2 c2,.slice A3 n3 c3,.int .u8 kind,.int .i8 b] w fun r w'=>r= .returned (.bool true)∧Aft w w':=by
 have C2:=fun(W:World) (a:Aft w W)=>inside_ok (c:=c2) (h2.aft a).clip e2 (by omega);have C3:=fun(W:World) (a:Aft w W)=>inside_ok (c:=c3) (h3.aft a).clip e3 (by omega);obtain⟨⟨Xe,Xb,Xc,Xl⟩,hX⟩: ∃X,classesX (isoT l0 kind l2 l1) b=X:=⟨_,rfl⟩;obtain⟨⟨Ye,Yb,Yc,Yl⟩,hY⟩: ∃X,classesX (isoT l0 kind l3 l1) b=X:=⟨_,rfl⟩;obtain⟨m1,hm1⟩: ∃m,n0+n1+n2+2=m:=⟨_,rfl⟩;obtain⟨m2,hm2⟩: ∃m,n0+n1+n3+2=m:=⟨_,rfl⟩
 have hlX:(isoT l0 kind l2 l1).length=m1:=by rw[isoT_len];omega
 have hlY:(isoT l0 kind l3 l1).length=m2:=by rw[isoT_len];omega
 have hT:(kind=20∨kind=21∨kind=22)→balB 0 l2=true→balB 0 l3=true→m1≤1048576→m2≤1048576→Ye=Xe∧(Xe=0→Xl.length=m1∧Yl.length=m2∧(Xl.getD n0 0≤123→(∀i,i≤n0→Xl.getD i 0=Yl.getD i 0)∧ ∀i,1≤i→i≤n1+1→Xl.getD (m1-i) 0=Yl.getD (m2-i) 0)):=fun hk b1 b2 q1 q2=>by have h:=apart_two (b:=b) hk b1 b2 (by rw[hlX];exact q1) (by rw[hlY];exact q2);rw[hX,hY,hlX,hlY,←e0,←e1]at h;exact⟨h.1.symm,h.2⟩
 obtain⟨p,hp⟩: ∃p,Xc.length=p:=⟨_,rfl⟩;obtain⟨q,hq⟩: ∃q,Xl.length=q:=⟨_,rfl⟩;obtain⟨p',hp'⟩: ∃p,Yc.length=p:=⟨_,rfl⟩;obtain⟨q',hq'⟩: ∃q,Yl.length=q:=⟨_,rfl⟩;have CX:=fun(W:World) (A:Option Addr) (c:Nat) (hr:RdInts W W.heap.size .u8 A (isoT l0 kind l2 l1))=>EClasses_at (n:=m1) (c:=c) hr hlX.symm b hX hp hq W (Aft.refl W);have CY:=fun(W:World) (A:Option Addr) (c:Nat) (hr:RdInts W W.heap.size .u8 A (isoT l0 kind l3 l1))=>EClasses_at (n:=m2) (c:=c) hr hlY.symm b hY hp' hq' W (Aft.refl W);rw[hq,hq']at hT;have E0:=Lib.hid e0;have E1:=Lib.hid e1;have E2:=Lib.hid e2;have E3:=Lib.hid e3;have M1:=Lib.hid hm1;have M2:=Lib.hid hm2;have LX:=Lib.hid hlX;have LY:=Lib.hid hlY;have HQ:=Lib.hid hq;have HQ':=Lib.hid hq';have HT:=Lib.hid hT;have HCX:=Lib.hid CX;have HCY:=Lib.hid CY;clear e0 e1 e2 e3 hm1 hm2 hlX hlY hX hY hp hq hp' hq' hT CX CY
 go_enter Tryz.func9,Tryz.ntmps9
 go_upto_region 3 with(go_at_call 18;refine(awake_ok _).mono ?_;rintro r1 w1 ⟨rfl,a1⟩)
 have D2:=C2 _ a1;have D3:=C3 _ a1;clear C2 C3
 by_cases hk:kind≠20∧kind≠21∧kind≠22
 ·obtain⟨k1,k2,k3⟩:=hk;have g1:(kind !=20)=true:=bne_iff_ne.2 k1;have g2:(kind !=21)=true:=bne_iff_ne.2 k2;have g3:(kind !=22)=true:=bne_iff_ne.2 k3;clear k1 k2 k3;go_wp2;go_ret;exact⟨rfl,a1⟩
 have hk1:kind=20∨kind=21∨kind=22:=by omega
 have HK:=Lib.hid hk1;obtain⟨B2,hB2⟩: ∃x,balB 0 l2=x:=⟨_,rfl⟩;obtain⟨B3,hB3⟩: ∃x,balB 0 l3=x:=⟨_,rfl⟩;have GB2:=Lib.hid hB2;have GB3:=Lib.hid hB3;clear hB2 hB3 hk
 rcases hk1 with rfl|rfl|rfl
 all_goals
  rw[GB2.out]at D2;rw[GB3.out]at D3
  rcases B2 with _|_
  ·go_wp2_with(go_at_call 31;refine D2.mono ?_;rintro r2 w2 ⟨rfl,hw2⟩;subst hw2)
   go_ret;exact⟨rfl,a1⟩
  rcases B3 with _|_
  ·go_wp2_with(first
    |(go_at_call 31;with_reducible refine D2.mono ?_;rintro r2 w2 ⟨rfl,hw2⟩;subst hw2)
    |(go_at_call 31;with_reducible refine D3.mono ?_;rintro r3 w3 ⟨rfl,hw3⟩;subst hw3))
   go_ret;exact⟨rfl,a1⟩
  go_upto_region 6 with(first
   |(go_at_call 31;with_reducible refine D2.mono ?_;rintro r2 w2 ⟨rfl,hw2⟩;rw[hw2];clear hw2)
   |(go_at_call 31;with_reducible refine D3.mono ?_;rintro r3 w3 ⟨rfl,hw3⟩;rw[hw3];clear hw3))
  clear D2 D3
  go_upto_region 7 with(at_builtin;go_must (refine wpList_appIs ei22 rfl rfl rfl (Ints.nil w1 w1.heap.size _ _) E0.out rfl (h0.aft a1).clip ?_ ?_ (Nat.le_refl _) ?_))
  ·try simp
   unfold maxLen;have:=E0.out;omega
  ·try simp
   have:=E0.out;omega
  intro vx1 wx1 Ix1 gx1 _;have bx1:Aft w1 wx1:=(Aft.refl w1).grown gx1 (fun j e=>by cases e);clear gx1
  go_upto_region 7 with(at_builtin;go_must (refine wpList_appI ei22 rfl rfl rfl (Ix1.alloc _) rfl (Blk.at_ (by simp)) ?_ ?_ ?_ ?_))
  ·try simp
   unfold maxLen;have:=E0.out;have:=E2.out;omega
  ·try simp
   have:=E0.out;have:=E2.out;omega
  ·try simp
   have:=bx1.size;omega
  intro gx2 capx2 wx2 Ix2 kx2 hgx2;have bx2:Aft w1 wx2:=(bx1.alloc _).grown kx2 (fun j e=>(Ix1.lt j e).1);clear kx2 hgx2 Ix1 bx1
  go_upto_region 7 with(at_builtin;go_must (refine wpList_appIs ei22 rfl rfl rfl Ix2 E2.out rfl ((h2.aft a1).aft bx2).clip ?_ ?_ ?_ ?_))
  ·try simp
   unfold maxLen;have:=E0.out;have:=E2.out;have:=E2.out;omega
  ·try simp
   have:=E0.out;have:=E2.out;have:=E2.out;omega
  ·have:=bx2.size;omega
  intro vx3 wx3 Ix3 gx3 _;have bx3:Aft w1 wx3:=bx2.grown gx3 (fun j e=>(Ix2.lt j e).1);clear gx3 Ix2 bx2
  go_upto_region 7 with(at_builtin;go_must (refine wpList_appI ei22 rfl rfl rfl (Ix3.alloc _) rfl (Blk.at_ (by simp)) ?_ ?_ ?_ ?_))
  ·try simp
   unfold maxLen;have:=E0.out;have:=E2.out;omega
  ·try simp
   have:=E0.out;have:=E2.out;omega
  ·try simp
   have:=bx3.size;omega
  intro gx4 capx4 wx4 Ix4 kx4 hgx4;have bx4:Aft w1 wx4:=(bx3.alloc _).grown kx4 (fun j e=>(Ix3.lt j e).1);clear kx4 hgx4 Ix3 bx3
  go_upto_region 7 with(at_builtin;go_must (refine wpList_appIs ei22 rfl rfl rfl Ix4 E1.out rfl ((h1.aft a1).aft bx4).clip ?_ ?_ ?_ ?_))
  ·try simp
   unfold maxLen;have:=E0.out;have:=E2.out;have:=E1.out;omega
  ·try simp
   have:=E0.out;have:=E2.out;have:=E1.out;omega
  ·have:=bx4.size;omega
  intro vx5 wx5 Ix5 gx5 _;have bx5:Aft w1 wx5:=bx4.grown gx5 (fun j e=>(Ix4.lt j e).1);clear gx5 Ix4 bx4;rw[show∀k,l0++k::(l2++23::l1)=isoT l0 k l2 l1 from fun _=>rfl]at Ix5;obtain⟨ox,ocx,hvx,-,-,ROx⟩:=Ix5.val;rw[LX.out]at hvx;subst hvx;have a5:=a1.trans bx5
  go_upto_region 8 with(at_builtin;go_must (refine wpList_appIs ei22 rfl rfl rfl (Ints.nil wx5 wx5.heap.size _ _) E0.out rfl (h0.aft a5).clip ?_ ?_ (Nat.le_refl _) ?_))
  ·try simp
   unfold maxLen;have:=E0.out;omega
  ·try simp
   have:=E0.out;omega
  intro vy1 wy1 Iy1 gy1 _;have by1:Aft wx5 wy1:=(Aft.refl wx5).grown gy1 (fun j e=>by cases e);clear gy1
  go_upto_region 8 with(at_builtin;go_must (refine wpList_appI ei22 rfl rfl rfl (Iy1.alloc _) rfl (Blk.at_ (by simp)) ?_ ?_ ?_ ?_))
  ·try simp
   unfold maxLen;have:=E0.out;have:=E3.out;omega
  ·try simp
   have:=E0.out;have:=E3.out;omega
  ·try simp
   have:=by1.size;omega
  intro gy2 capy2 wy2 Iy2 ky2 hgy2;have by2:Aft wx5 wy2:=(by1.alloc _).grown ky2 (fun j e=>(Iy1.lt j e).1);clear ky2 hgy2 Iy1 by1
  go_upto_region 8 with(at_builtin;go_must (refine wpList_appIs ei22 rfl rfl rfl Iy2 E3.out rfl ((h3.aft a5).aft by2).clip ?_ ?_ ?_ ?_))
  ·try simp
   unfold maxLen;have:=E0.out;have:=E3.out;have:=E3.out;omega
  ·try simp
   have:=E0.out;have:=E3.out;have:=E3.out;omega
  ·have:=by2.size;omega
  intro vy3 wy3 Iy3 gy3 _;have by3:Aft wx5 wy3:=by2.grown gy3 (fun j e=>(Iy2.lt j e).1);clear gy3 Iy2 by2
  go_upto_region 8 with(at_builtin;go_must (refine wpList_appI ei22 rfl rfl rfl (Iy3.alloc _) rfl (Blk.at_ (by simp)) ?_ ?_ ?_ ?_))
  ·try simp
   unfold maxLen;have:=E0.out;have:=E3.out;omega
  ·try simp
   have:=E0.out;have:=E3.out;omega
  ·try simp
   have:=by3.size;omega
  intro gy4 capy4 wy4 Iy4 ky4 hgy4;have by4:Aft wx5 wy4:=(by3.alloc _).grown ky4 (fun j e=>(Iy3.lt j e).1);clear ky4 hgy4 Iy3 by3
  go_upto_region 8 with(at_builtin;go_must (refine wpList_appIs ei22 rfl rfl rfl Iy4 E1.out rfl ((h1.aft a5).aft by4).clip ?_ ?_ ?_ ?_))
  ·try simp
   unfold maxLen;have:=E0.out;have:=E3.out;have:=E1.out;omega
  ·try simp
   have:=E0.out;have:=E3.out;have:=E1.out;omega
  ·have:=by4.size;omega
  intro vy5 wy5 Iy5 gy5 _;have by5:Aft wx5 wy5:=by4.grown gy5 (fun j e=>(Iy4.lt j e).1);clear gy5 Iy4 by4;rw[show∀k,l0++k::(l3++23::l1)=isoT l0 k l3 l1 from fun _=>rfl]at Iy5;obtain⟨oy,ocy,hvy,-,-,ROy⟩:=Iy5.val;rw[LY.out]at hvy;subst hvy
  by_cases t1:1048576<m1
  ·have t1:(1048576:Int)<(m1:Int):=by omega
   go_wp2;go_ret;exact⟨rfl,a5.trans by5⟩
  by_cases t2:1048576<m2
  ·have t1: ¬(1048576:Int)<(m1:Int):=by omega
   have t2:(1048576:Int)<(m2:Int):=by omega
   go_wp2;go_ret;exact⟨rfl,a5.trans by5⟩
  have t3: ¬(1048576:Int)<(m1:Int):=by omega
  have t4: ¬(1048576:Int)<(m2:Int):=by omega
  have a6:=a5.trans by5;have RX1:=(ROx.aft by5).more by5.size;clear Ix5 Iy5 ROx;obtain⟨tE,tR⟩:=HT.out HK.out GB2.out GB3.out (by omega) (by omega);subst tE;have TR:=Lib.hid tR;have S1:=Lib.hid (show m1≤1048576 by omega);have S2:=Lib.hid (show m2≤1048576 by omega);clear tR HT t1 t2
  go_upto_region 11 with(go_at_call 29;refine(HCX.out _ _ _ RX1.clip).mono ?_;rintro r4 w4 ⟨cA,lA,cc,lc,rfl,-,IL,b4⟩)
  have X6:=Blk.new w4 33 #[.int .i8 Xb,.slice cA p cc,.slice lA q lc];have b5:Aft w4 (w4.alloc (.cells #[.int .i8 Xb,.slice cA p cc,.slice lA q lc] 33)):=(Aft.refl w4).alloc _;obtain⟨x6,hx6⟩: ∃x,w4.heap.size=x:=⟨_,rfl⟩;generalize w4.alloc (.cells #[.int .i8 Xb,.slice cA p cc,.slice lA q lc] 33)=w5 at X6 b5⊢;rw[hx6]at X6⊢;have b45:=b4.trans b5;have RO5:=(ROy.aft b45).more b45.size;have RL5:=(IL.aft b5).rd;have b15:=a6.trans b45;clear hx6 b4 b5 IL ROy b45 t3 t4 RX1
  go_upto_region 12 with(go_at_call 29;refine(HCY.out _ _ _ RO5.clip).mono ?_;rintro r6 w6 ⟨dA,mA,dc,mc,rfl,-,JL,b6⟩)
  have X8:=Blk.new w6 33 #[.int .i8 Yb,.slice dA p' dc,.slice mA q' mc];have b7:Aft w6 (w6.alloc (.cells #[.int .i8 Yb,.slice dA p' dc,.slice mA q' mc] 33)):=(Aft.refl w6).alloc _;obtain⟨x8,hx8⟩: ∃x,w6.heap.size=x:=⟨_,rfl⟩;generalize w6.alloc (.cells #[.int .i8 Yb,.slice dA p' dc,.slice mA q' mc] 33)=w7 at X8 b7⊢;rw[hx8]at X8⊢;have b67:=b6.trans b7;have X67:=X6.aft b67;have RX:=RL5.aft b67;have RY:=(JL.aft b7).rd;have b17:=b15.trans b67;obtain⟨x0,x1,x2,xf,xl⟩:=X67.c3;obtain⟨y0,y1,y2,yf,yl⟩:=X8.c3;clear hx8 b6 b7 RO5 RL5 JL X6 b15 HCX HCY b67
  by_cases hYe: ¬Ye=0
  ·have e1:(Ye !=0)=true:=bne_iff_ne.2 hYe;have e2:(Ye==Ye)=true:=beq_self_eq_true Ye;have e3:(Ye !=Ye)=false:=bne_self_eq_false _;clear hYe;go_wp2;go_ret;exact⟨rfl,b17⟩
  have hYe:Ye=0:=by omega
  subst hYe;obtain⟨q1,q2,t3⟩:=TR.out rfl;subst q1 q2;obtain⟨qb,o,rfl,_,hq,k1⟩:=RX.at_ (i:=n0) (by rw[HQ.out,←M1.out];omega)
  have hn0:n0<q:=by rw[←M1.out];omega
  obtain⟨v,hv⟩: ∃v,Xl.getD n0 0=v:=⟨_,rfl⟩;rw[hv]at k1 t3;have HV:=Lib.hid hv;clear hv TR
  by_cases h123:123<v
  ·clear t3;go_wp2;go_ret;exact⟨rfl,b17⟩
  obtain⟨t4,t5⟩:=t3 (by omega);have T4:=Lib.hid t4;have T5:=Lib.hid t5;clear t3 t4 t5;clear x0 x1 x2 xf xl y0 y1 y2 yf yl;obtain⟨x0,x1,x2,xf,xl⟩:=X67.c3;obtain⟨y0,y1,y2,yf,yl⟩:=X8.c3;have e3:((0:Int) !=0)=false:=rfl;go_wp2
  go_loopg [20] (n0+1) (fun gk iv wr=> ∃j:Nat,j+gk=n0+1∧iv= .int .i64 j∧Aft w7 wr)
  case atStart=>exact⟨0,by omega,rfl,Aft.refl _⟩
  case round=>
   clear x0 x1 x2 xf xl y0 y1 y2 yf yl hq k1;obtain⟨i,hi,rfl,ai⟩:=hrel;have HI:=Lib.hid hi;clear hi;obtain⟨x0,x1,x2,xf,xl⟩:=(X67.aft ai).c3;obtain⟨y0,y1,y2,yf,yl⟩:=(X8.aft ai).c3
   by_cases hin:i<n0+1
   ·have hle:(i:Int)≤(n0:Int):=by omega
    obtain⟨qb',o',hA',_,hq,k1⟩:=(RX.aft ai).at_ (i:=i) (by rw[HQ.out];omega);cases hA';obtain⟨qb2,o2,rfl,_,hq2,k2⟩:=(RY.aft ai).at_ (i:=i) (by rw[HQ'.out,←M2.out];omega)
    have him1:i<q:=by omega
    have him2:i<q':=by rw[←M2.out];omega
    rw[←T4.out i (by omega)]at k2;obtain⟨u,hu⟩: ∃u,Xl.getD i 0=u:=⟨_,rfl⟩;rw[hu]at k1 k2;clear hu;have g1:(u !=u)=false:=bne_self_eq_false _;go_wp2
    go_quiet (fail)
    go_wp2
    go_roundg (n0+1-(i+1))
    case rel=>exact⟨i+1,by have:=HI.out;omega,by go_num,⟨ai.os,ai.tape,ai.output,ai.size,ai.block⟩⟩
    case measure=>have:=HI.out;omega
   ·have hle: ¬(i:Int)≤(n0:Int):=by omega
    have a27:=b17.trans ai;have Y67:=X67.aft ai;have Y8:=X8.aft ai;have SX:=RX.aft ai;have SY:=RY.aft ai
    have hn1:n1+1<q:=by rw[←M1.out];omega
    have hn2:n1+1<q':=by rw[←M2.out];omega
    clear HI hin x0 x1 x2 xf xl y0 y1 y2 yf yl b17 X67 X8 RX RY T4;generalize wr=w8 at a27 Y67 Y8 SX SY⊢;go_wp2
    go_loopg [21] (n1+1) (fun gk iv wr=> ∃j:Nat,j+gk=n1+1∧iv= .int .i64 (j+1:Nat)∧Aft w8 wr)
    case atStart=>exact⟨0,by omega,rfl,Aft.refl _⟩
    case round=>
     obtain⟨i,hi,rfl,ai⟩:=hrel;have HI:=Lib.hid hi;clear hi;obtain⟨x0,x1,x2,xf,xl⟩:=(Y67.aft ai).c3;obtain⟨y0,y1,y2,yf,yl⟩:=(Y8.aft ai).c3
     by_cases hin:i<n1+1
     ·have hle:(i:Int)+1≤(n1:Int)+1:=by omega
      have hs1:(q:Int)-((i:Int)+1)=((q-(i+1):Nat):Int):=by omega
      have hs2:(q':Int)-((i:Int)+1)=((q'-(i+1):Nat):Int):=by omega
      have hL1:q-(i+1)<q:=by omega
      have hq1:=S1.out;have hq2:=S2.out
      have hL2:q'-(i+1)<q':=by omega
      obtain⟨qb',o',hA',_,hq,k1⟩:=(SX.aft ai).at_ (i:=q-(i+1)) (by rw[HQ.out];omega);cases hA';obtain⟨qb2,o2,rfl,_,hq2,k2⟩:=(SY.aft ai).at_ (i:=q'-(i+1)) (by rw[HQ'.out];omega);rw[←T5.out (i+1) (by omega) (by omega)]at k2;obtain⟨u,hu⟩: ∃u,Xl.getD (q-(i+1)) 0=u:=⟨_,rfl⟩;rw[hu]at k1 k2;clear hu;have g1:(u !=u)=false:=bne_self_eq_false _;go_wp2
      go_quiet (fail)
      go_wp2
      go_roundg (n1+1-(i+1))
      case rel=>exact⟨i+1,by have:=HI.out;omega,by go_num,⟨ai.os,ai.tape,ai.output,ai.size,ai.block⟩⟩
      case measure=>have:=HI.out;omega
     ·have hle: ¬(i:Int)+1≤(n1:Int)+1:=by omega
      go_wp2;go_ret;exact⟨rfl,a27.trans ai⟩
end Go.Proofs.YtllolnkkepacjaaGreat
