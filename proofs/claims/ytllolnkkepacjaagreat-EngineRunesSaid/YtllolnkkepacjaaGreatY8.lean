/- The reference's Find walked. The reference's Resolve walked. -/
import Derived.Test.YtllolnkkepacjaaGreatY3
import Derived.Test.YtllolnkkepacjaaGreatD5
import Derived.Test.YtllolnkkepacjaaGreatY2
import Derived.BigRegion
set_option maxRecDepth 100000
set_option maxHeartbeats 4000000
namespace Go.Proofs.YtllolnkkepacjaaGreat
open Go.RowKit
section
attribute [local go_sem] Oper.semAt_some
theorem fold_ok: ∀(ms:List Mk) {p:PS} {k:Nat},PSok p k→PSok (ms.foldl stpM p) (k+ms.length)
 |[],_,_,h=>h
 |m::ms,p,k,h=>by
  rw[List.foldl_cons,List.length_cons,←Nat.add_assoc,Nat.add_right_comm];exact fold_ok ms (stpM_ok h m)
theorem take_fold {ms:List Mk}{i:Nat}{m:Mk}(h:ms[i]?=some m)(p:PS):(ms.take (i+1)).foldl stpM p=stpM ((ms.take i).foldl stpM p) m:=by rw[List.take_add_one,h,List.foldl_append];rfl
theorem fold_all {ms:List Mk}{i:Nat}{p:PS}(h:ms.length≤i∨((ms.take i).foldl stpM p).ov=true):ms.foldl stpM p=(ms.take i).foldl stpM p:=by
 rcases h with h|h
 ·rw[List.take_of_length_le h]
 ·conv=>lhs;rw[←List.take_append_drop i ms,List.foldl_append]
  exact fold_over _ h
theorem rFind_ok {w:World}{Bp Br Bs rc:Nat}{pv sv:Value}{rest:Int}{ch:List Chr}{rA:Option Addr}{rs:List Int}{s:Sq}(hP:PropsIs w Bp pv rest ch)(hR:RdInts w Br .i32 rA rs)(hS:SqIs w Bs sv s)(hn:s.pl.length≤1048576):
 Calls Tryz.prog 136 #[pv,.slice rA rs.length rc,sv] w fun r w'=> ∃v,r= .returned (.tuple #[v,.int .i64 (mayL rs.length s)])∧Rw brC 2 w' w.heap.size 129 v (findF ch rs s)∧Below w.heap.size w w':=by
 replace hP:=hP.clip;replace hR:=hR.clip
 have CM: ∀W,Aft w W→chkL s=0→mayL rs.length s=0→Calls Tryz.prog 166 #[pv,.slice rA rs.length rc,sv] W fun r w'=> ∃v,r= .returned v∧Rw m3C 3 w' W.heap.size 255 v (mkT ch rs s s.pl.length)∧Below W.heap.size W w':=fun W hW h0 h1=>rMarks_ok (hP.below hW (.inr (Nat.le_refl _))) (hR.aft hW) (hS.below hW (.inr (Nat.le_refl _))) hn (chk_pos h0).2 (may_zero h1).2
 have CK: ∀W,Aft w W→Calls Tryz.prog 165 #[sv] W fun r w'=>r= .returned (.int .i64 (chkL s))∧Below W.heap.size W w':=by intro W hW;obtain⟨A,A2,c,c2,rfl,h1,h2,h3,h4⟩:=hS;exact r19Check_ok rfl rfl (h1.aft hW) (h2.aft hW) (by omega)
 obtain⟨F,hF⟩: ∃F,findF ch rs s=F:=⟨_,rfl⟩;obtain⟨m,hm⟩: ∃m,mayL rs.length s=m:=⟨_,rfl⟩;obtain⟨e,he⟩: ∃e,chkL s=e:=⟨_,rfl⟩;obtain⟨rn,hrl⟩: ∃rn,rs.length=rn:=⟨_,rfl⟩;rw[hF,hm,hrl];rw[hm,he,hrl]at CM;rw[he]at CK;rw[hrl]at hm;have HRL:=Lib.hid hrl;have HM:=Lib.hid hm;have HE:=Lib.hid he;have HFF:=Lib.hid hF;obtain⟨A,A2,c,c2,hsv,h1,h2,h3,h4⟩:=hS;replace h1:=h1.clip;obtain⟨n,hnn⟩: ∃n,s.pl.length=n:=⟨_,rfl⟩;rw[hnn]at hsv hn h3 CM;have HN:=Lib.hid hnn;subst hsv;simp only[Sq.is]at CM CK⊢;obtain⟨n2,hn2⟩: ∃n2,s.cs.length=n2:=⟨_,rfl⟩;rw[hn2]at h4 CM CK⊢;have HN2:=Lib.hid hn2;obtain⟨pA,pc,rfl,hPr,hPn⟩:=hP;obtain⟨pn,hpn⟩: ∃pn,ch.length=pn:=⟨_,rfl⟩;rw[hpn]at CM hPn⊢;have HPN:=Lib.hid hpn;have HCM:=Lib.hid CM;clear hrl hnn hn2 hpn hm he hF CM h2 hPr;obtain⟨W1,hW1⟩: ∃W1,(w.alloc (.cells #[.int .u8 rest,.slice pA pn pc] 25)).alloc (.cells #[.slice A n c,.slice A2 n2 c2,.int .i8 s.lv,.int .u8 s.so,.int .u8 s.eo] 87)=W1:=⟨_,rfl⟩
 have b1:Below w.heap.size w W1:=by rw[←hW1];exact((Below.refl _ w).alloc (Nat.le_refl _) _).alloc (by simp) _
 have X3:Blk W1 w.heap.size 25 #[.int .u8 rest,.slice pA pn pc]:=by rw[←hW1];exact(Blk.new w 25 _).alloc _
 have X5:Blk W1 (w.heap.size+1) 87 #[.slice A n c,.slice A2 n2 c2,.int .i8 s.lv,.int .u8 s.so,.int .u8 s.eo]:=by rw[←hW1];exact Blk.at_ (by simp)
 have HW1:=Lib.hid hW1;have CK1:=CK W1 b1;clear hW1 CK;obtain⟨x0,x1,x2,x3,x4,xf,xl⟩:=X5.c5
 by_cases he0:e=0
 ·subst he0;have hmt:=may_two (n:=rn) HE.out;rw[HM.out]at hmt;have HMT:=Lib.hid hmt;clear hmt
  go_enter Tryz.func136,Tryz.ntmps136
  go_upto_region 1 with(fail)
  rw[HW1.out]
  go_wp2_with(go_at_call 165;refine CK1.mono ?_;rintro r1 w1 ⟨rfl,b2⟩)
  have X31:=X3.below b2 X3.lt;have X51:=X5.below b2 X5.lt;clear x0 x1 x2 x3 x4 xf xl;obtain⟨x0,x1,x2,x3,x4,xf,xl⟩:=X51.c5;obtain⟨y0,y1,yf,yl⟩:=X31.c2;have h11:=(h1.below b1 (.inl (Nat.le_refl _))).aft b2;have b12:Aft w w1:=b1.trans (b2.mono b1.size)
  go_loopg [9] n (fun gk iv wr=> ∃i:Nat,i+gk=n∧iv= .int .i64 i∧(∀j,j<i→s.pl.getD j 0<(rn:Int))∧wr=w1)
  case atStart=>exact⟨0,by omega,rfl,fun j h=>by omega,rfl⟩
  case round=>
   obtain⟨i,hi,rfl,hlo,rfl⟩:=hrel;have HI:=Lib.hid hi;have HLO:=Lib.hid hlo;clear hi hlo
   by_cases hlt:i<n
   ·obtain⟨ab,ao,rfl,a1,a2,ca⟩:=h11.at_ (i:=i) (by have:=HN.out;omega);obtain⟨q,hq⟩: ∃q,s.pl.getD i 0=q:=⟨_,rfl⟩;rw[hq]at ca;have HQ:=Lib.hid hq;clear hq
    by_cases hge:(rn:Int)≤q
    ·have hm2:m=2:=by rw[HMT.out,if_pos ⟨i,by have:=HN.out;omega,by rw[HQ.out];exact hge⟩]
     subst hm2
     have hf:F=[]:=by rw[←HFF.out];unfold findF;rw[if_neg (by rw[HRL.out,HM.out];decide)]
     have hgd:decide ((rn:Int)≤q)=true:=by simpa using hge
     go_wp2
     go_ret2
     exact⟨_,rfl,by rw[hf];exact Rw.nil _ _ _,b12⟩
    ·have hgd:decide ((rn:Int)≤q)=false:=by simpa using hge
     go_wp2
     go_roundg (n-(i+1))
     case rel=>exact⟨i+1,by have:=HI.out;omega,by go_num,fun j hj=>(by by_cases hji:j=i
                                                                       ·subst hji;rw[HQ.out];omega
                                                                       ·exact HLO.out j (by omega)),rfl⟩
     case measure=>have:=HI.out;omega
   ·have hin:i=n:=by have:=HI.out;omega
    subst hin
    have hm0:m=0:=by rw[HMT.out,if_neg];rintro⟨j,hj,h⟩;have:=HLO.out j (by have:=HN.out;omega);omega
    subst hm0;clear HLO HI hlt;have CM2: ∀W,Aft w W→Calls Tryz.prog 166 #[.agg #[.int .u8 rest,.slice pA pn pc],.slice rA rn rc,.agg #[.slice A i c,.slice A2 n2 c2,.int .i8 s.lv,.int .u8 s.so,.int .u8 s.eo]] W fun r w'=> ∃v,r= .returned v∧Rw m3C 3 w' W.heap.size 255 v (mkT ch rs s i)∧Below W.heap.size W w':=fun W hW=>HCM.out W hW (by trivial) (by trivial);have Y0:=Blk.new wr 252 #[.slice none 0 0,.bool false,.slice none 0 0];have hms:=mkT_len ch rs s i;have hfd:fdT ch rs s i=(mkT ch rs s i).foldl stpM ⟨[],[],false⟩:=rfl;obtain⟨M,hM⟩: ∃M,mkT ch rs s i=M:=⟨_,rfl⟩;rw[hM]at hms hfd CM2;have HFD:=Lib.hid hfd;clear hfd hM
    go_wp2_with(go_at_call 166;refine(CM2 _ (Aft.alloc b12 _)).mono ?_;rintro r2 w2 ⟨v2,rfl,R2,b3⟩;obtain⟨mA,mc,hv2,_,_,_⟩:=R2.val;subst hv2)
    obtain⟨ml,hml⟩: ∃ml,M.length=ml:=⟨_,rfl⟩;rw[hml]at hms R2⊢;have HML:=Lib.hid hml;have Y1:=Y0.below b3 (by simp);have b4:Aft w w2:=(Aft.alloc b12 _).trans b3;have hu:w.heap.size≤wr.heap.size:=b12.size;obtain⟨u,hue⟩: ∃u,wr.heap.size=u:=⟨_,rfl⟩;rw[hue]at Y1 hu;have R3:Rw m3C 3 w2 (u+1) 255 (.slice mA ml mc) M:=R2.base (fun j e=>by have:=(R2.lt j e).1;simp at this;omega);rw[hue];clear hml hue Y0 CM2 CK1 x0 x1 x2 x3 x4 xf xl y0 y1 yf yl b3 R2;obtain⟨V,rfl⟩: ∃V,V=w2:=⟨_,rfl⟩;have hul:=Y1.lt;obtain⟨W0,rfl⟩: ∃W0,W0=wr:=⟨_,rfl⟩
    go_loopg [12] ml (fun gk iv wr=> ∃(k:Nat) (A A':Option Addr) (c c' ll fl:Nat) (l f:List (Int×Int)) (ov:Bool),k+gk=ml∧iv= .int .i64 k∧l.length=ll∧f.length=fl∧(M.take k).foldl stpM ⟨[],[],false⟩=⟨l,f,ov⟩∧Blk wr u 252 #[.slice A ll c,.bool ov,.slice A' fl c']∧RPil wr (.agg #[.slice A ll c,.bool ov,.slice A' fl c']) l f ov∧(∀q,rAd (.agg #[.slice A ll c,.bool ov,.slice A' fl c']) q→q<wr.heap.size)∧Frm (fun j=>j=u) V wr)
    case atStart=>exact⟨0,none,none,0,0,0,0,[],[],false,by omega,rfl,rfl,rfl,rfl,Y1,⟨none,none,0,0,rfl,Nat.le_refl _,Nat.le_refl _,Reads.none_,Reads.none_⟩,(fun q ⟨o,h⟩=>by rcases h with h|h<;>cases h),Frm.refl _ _⟩
    case round=>
     obtain⟨k,lA,fA,lc,fc,ll,fl,l,f,ov,hk,rfl,hll,hfl,hfold,Y,RP,hra,bb⟩:=hrel
     have hok:PSok ⟨l,f,ov⟩ (0+(M.take k).length):=by rw[←hfold];exact fold_ok _ ⟨by simp,by simp,fun h=>by cases h⟩
     have hl63:l.length≤63:=hok.1
     have hfk:f.length≤1048576:=by have:=hok.2.1;simp only at this;rw[List.length_take]at this;omega
     have hovl:ov=true→l=[]:=hok.2.2;have HK:=Lib.hid hk;have HFO:=Lib.hid hfold;clear hk hfold hok Y1;obtain⟨p0,p1,p2,pf,pl⟩:=Y.c3
     by_cases hend:k<ml∧ov=false
     ·obtain⟨hlt,rfl⟩:=hend;obtain⟨x,hx⟩: ∃x,M[k]?=some x:=⟨_,List.getElem?_eq_getElem (by have:=HML.out;omega)⟩;have hnx:=take_fold hx ⟨[],[],false⟩;rw[HFO.out]at hnx;obtain⟨mb,mo,rfl,m1,m2,hcm⟩:=((R3.frm bb (fun j e h=>by have:=(R3.lt j e).1;have h:j=u:=h;omega)).rd).at_ enc3 hx (by omega);have c0:=hcm 0 _ rfl;have c1:=hcm 1 _ rfl;have cc2:=hcm 2 _ rfl;rw[Nat.add_zero]at c0;rw[←Nat.add_assoc]at c1 cc2;obtain⟨xi,xs,xk⟩:=x;simp only at c0 c1 cc2 hnx;clear hcm hx hovl
      have hst:stpM ⟨l,f,false⟩ ⟨xi,xs,xk⟩=if xs=1 then⟨opL l false xi xk,f,opV l false⟩else⟨clL l xk,clF l f xi xk,false⟩:=by unfold stpM;rw[if_neg (fun h=>by cases h)]
      rw[hst]at hnx;have HNX:=Lib.hid hnx;have HLL:=Lib.hid hll;have HFL:=Lib.hid hfl;clear hst hnx hll hfl
      by_cases hs1:xs=1
      ·subst hs1
       have hs1b:((1:Int)==1)=true:=by simp
       have HNY:=Lib.hid (HNX.out.trans (if_pos rfl));clear HNX;have CO: ∀W,Aft wr W→Calls Tryz.prog 167 #[.agg #[.slice lA ll lc,.bool false,.slice fA fl fc],.int .i64 xi,.int .i32 xk] W fun r w'=> ∃pv',r= .returned (.tuple #[pv',.int .i64 (opE l false)])∧RPil w' pv' (opL l false xi xk) (f) (opV l false)∧Below W.heap.size W w'∧RAd W w' (.agg #[.slice lA ll lc,.bool false,.slice fA fl fc]) pv':=fun W hW=>rOpen2_ok xi xk (RP.below hW (Nat.le_refl _)) hl63 (fun h=>by cases h)
       have keep: ∀W,Aft wr W→W.cell? ⟨u,0,none⟩=some (.slice lA ll lc)∧W.cell? ⟨u,1,none⟩=some (.bool false)∧W.cell? ⟨u,2,none⟩=some (.slice fA fl fc)∧W.cell? ⟨mb,mo+k*3,none⟩=some (.int .i64 xi)∧W.cell? ⟨mb,mo+k*3+2,none⟩=some (.int .i32 xk):=by intro W hW;obtain⟨k1,-⟩:=bcell hW;rw[k1 _ _ pl,k1 _ _ pl,k1 _ _ pl,k1 _ _ m2,k1 _ _ m2];exact⟨p0,p1,p2,c0,cc2⟩
       have KEEP:=Lib.hid keep;clear keep;obtain⟨L,hL⟩: ∃L,opL l false xi xk=L:=⟨_,rfl⟩;obtain⟨F2,hF2⟩: ∃F2,f=F2:=⟨_,rfl⟩;obtain⟨ov,hov⟩: ∃ov,opV l false=ov:=⟨_,rfl⟩;obtain⟨en,hee⟩: ∃en,opE l false=en:=⟨_,rfl⟩;rw[hL,hF2,hov,hee]at CO;rw[hL,hF2,hov]at HNY;clear hL hF2 hov hee;obtain⟨ll',hll'⟩: ∃ll',L.length=ll':=⟨_,rfl⟩;obtain⟨fl',hfl'⟩: ∃fl',F2.length=fl':=⟨_,rfl⟩;have HLL':=Lib.hid hll';have HFL':=Lib.hid hfl';clear hll' hfl';go_wp2
       refine wpIn_wide.1 (wpIn_region_vars (d:=0) (c:=11) (av:=[(15,16)]) (vars:=[⟨15,16,252,#[.slice none 0 0,.bool false,.slice none 0 0],fun r=>aggV (extV 0 r)⟩])
        (K:=[(0,0),(0,0),(0,0),(0,0),(0,0),(0,0),(0,0),(0,0),(0,0),(0,0),(0,0),(1,0),(0,0),(0,0),(0,0),(2,0),(3,0),(0,0)])
        (U:=[none,none,none,none,none,none,none,none,none,none,none,some 11,some 11,some 11,some 11,some 15,some 11,some 11]) (E:=[])
        (vs:=[.inl (.agg #[.slice lA ll lc,.bool false,.slice fA fl fc]),.inl (.slice (some ⟨mb,mo,none⟩) ml mc),.inl (.int .i64 k),.inl (.pointer (some ⟨mb,mo+k*3,none⟩)),.inl (.pointer (some ⟨mb,mo+k*3,none⟩)),.inl (.int .i64 xi),
         .inl (.slice (some ⟨mb,mo,none⟩) ml mc),.inl (.int .i64 k),.inl (.pointer (some ⟨mb,mo+k*3,none⟩)),.inl (.pointer (some ⟨mb,mo+k*3+2,none⟩)),.inl (.int .i32 xk),
         .inr (11,id),.inr (11,id),.inr (11,extV 0),.inr (11,extV 1),.inr (15,id),.inr (11,fun _=>undef),.inr (11,extV 1)])
        (R:=fun r=> ∃A' B' c' d',r= .tuple #[.agg #[.slice A' ll' c',.bool ov,.slice B' fl' d'],.int .i64 en])
        (T:=fun r W=>RPil W (extV 0 r) L F2 ov∧ ∀q,rAd (extV 0 r) q→q<W.heap.size)
        (by kernel_rfl) (by kernel_rfl) rfl rfl (by kernel_rfl) (by kernel_rfl) ?_ ?_)
       ·simp only[List.map_cons,List.map_nil,valV,id,putAll,Act.put,List.setIfInBounds_toArray,List.set_cons_zero,List.set_cons_succ];refine⟨?_,?_,?_,?_,?_,?_,?_,?_,?_,?_,?_,?_,?_,?_,?_,?_,?_,?_,trivial⟩
        all_goals first
         |(intro ρ W hA _;obtain⟨k0,k1,k2,k3,k4⟩:=KEEP.out W hA;simp only[valV,id];go_simp;done)
         |(intro ρ W hA hu;obtain⟨A',B',c',d',e⟩:=hu rfl;simp only[valV,e,extV_20,extV_21];go_simp;done)
         |(refine⟨fun _=>rfl,fun ρ W=> ?_⟩;go_simp;done)
         |skip
        ·refine⟨fun _=>rfl,fun ρ W hA=>⟨167,#[.agg #[.slice lA ll lc,.bool false,.slice fA fl fc],.int .i64 xi,.int .i32 xk],?_,?_⟩⟩
         ·go_simp
         ·refine(CO W hA).mono ?_;rintro r w3 ⟨pv',rfl,hRP,b3,ha3⟩;have hRP2:=hRP;obtain⟨A',B',c',d',rfl,_,_,_,_⟩:=hRP;rw[HLL'.out,HFL'.out]at ha3 hRP2;have hstay: ∀q,rAd (.agg #[.slice A' ll' c',.bool ov,.slice B' fl' d']) q→q<wr.heap.size∨W.heap.size≤q∧q<w3.heap.size:=fun q h=>(ha3 q h).imp (hra q) id;refine⟨_,rfl,⟨A',B',c',d',by rw[HLL'.out,HFL'.out]⟩,b3,fun W' hF=>⟨?_,?_⟩⟩
          ·rw[HLL'.out,HFL'.out];exact RPil.apart hRP2 hF (fun q h ⟨h1,h2,_⟩=>by rcases hstay q h with h3|h3<;>omega)
          ·rw[HLL'.out,HFL'.out];intro q h;have:=hF.size;have:=b3.size;have:=hA.le
           rcases hstay q h with h3|h3<;>omega
        ·intro ρ W q hq ⟨A',B',c',d',e⟩ hb;have hq:ρ 15= .pointer (some ⟨q,0,none⟩):=hq;have hb:Blk W q 252 #[.slice none 0 0,.bool false,.slice none 0 0]:=hb;obtain⟨y0,y1,y2,yf,yl⟩:=hb.c3;refine⟨((W.setCell ⟨q,0,none⟩ (.slice A' ll' c')).setCell ⟨q,1,none⟩ (.bool ov)).setCell ⟨q,2,none⟩ (.slice B' fl' d'),?_,?_,?_⟩
         ·simp only[hq,e,extV_20,extV_21];go_simp
         ·have:=((hb.set_ 0 (.slice A' ll' c')).set_ 1 (.bool ov)).set_ 2 (.slice B' fl' d')
          simpa[e,extV,aggV]using this
         ·exact(((Frm.refl (fun k=>k=q) W).set rfl _).set rfl _).set rfl _
       ·intro ρ W hA ⟨A',B',c',d',e⟩ hT hv hd;obtain⟨q,hq,hqs,Y2⟩:=hv _ List.mem_cons_self;have hq:ρ 15= .pointer (some ⟨q,0,none⟩):=hq;simp only[e,extV_20,aggV_at]at Y2 hT;obtain⟨hT,hT2⟩:=hT;have YW:=Y.aft hA;simp only[List.map_cons,List.map_nil,valV,id,putAll,Act.put,List.setIfInBounds_toArray,List.set_cons_zero,List.set_cons_succ,hq,e,extV_20,extV_21];clear hv hd e hq p0 p1 p2 pf pl c0 c1 cc2;obtain⟨p0,p1,p2,pf,pl⟩:=YW.c3;obtain⟨y0,y1,y2,yf,yl⟩:=Y2.c3;have F9:Frm (fun j=>j=u) W (((W.setCell ⟨u,0,none⟩ (.slice A' ll' c')).setCell ⟨u,1,none⟩ (.bool ov)).setCell ⟨u,2,none⟩ (.slice B' fl' d')):=(((Frm.refl (fun j=>j=u) W).set rfl _).set rfl _).set rfl _
        have Y9:Blk (((W.setCell ⟨u,0,none⟩ (.slice A' ll' c')).setCell ⟨u,1,none⟩ (.bool ov)).setCell ⟨u,2,none⟩ (.slice B' fl' d')) u 252 #[.slice A' ll' c',.bool ov,.slice B' fl' d']:=by simpa using((YW.set_ 0 (.slice A' ll' c')).set_ 1 (.bool ov)).set_ 2 (.slice B' fl' d')
        have hT9:=hT.var F9 (fun k e=>⟨252,#[.slice lA ll lc,.bool false,.slice fA fl fc],by have e:k=u:=e;rw[e];exact YW,by simp[noInt]⟩);have hlen:(L.length=ll')∧(F2.length=fl'):=⟨HLL'.out,HFL'.out⟩;have F10:Frm (fun j=>j=u) V (((W.setCell ⟨u,0,none⟩ (.slice A' ll' c')).setCell ⟨u,1,none⟩ (.bool ov)).setCell ⟨u,2,none⟩ (.slice B' fl' d')):=(bb.trans (Frm.of_below (F:=fun j=>j=u) hA) (fun _ _ h=>h)).trans F9 (fun _ _ h=>h);have HLEN:=Lib.hid hlen;have hsz9:=F9.size;clear hlen KEEP CO hra Y RP;go_wp2
        go_roundg (ml-(k+1))
        case rel=>exact⟨k+1,A',B',c',d',ll',fl',L,F2,_,by have:=HK.out;omega,by go_num,HLEN.out.1,HLEN.out.2,HNY.out,Y9,hT9,(fun q h=>Nat.lt_of_lt_of_le (hT2 q h) hsz9),F10⟩
        case measure=>have:=HK.out;omega
      ·have hs1b:(xs==1)=false:=by simpa using hs1
       have HNY:=Lib.hid (HNX.out.trans (if_neg hs1));clear HNX;have CO: ∀W,Aft wr W→Calls Tryz.prog 168 #[.agg #[.slice lA ll lc,.bool false,.slice fA fl fc],.int .i64 xi,.int .i32 xk] W fun r w'=> ∃pv',r= .returned (.tuple #[pv',.agg #[.int .i64 (clB l xi xk).1,.int .i64 (clB l xi xk).2],.bool (clI l xk)])∧RPil w' pv' (clL l xk) (clF l f xi xk) (false)∧Below W.heap.size W w'∧RAd W w' (.agg #[.slice lA ll lc,.bool false,.slice fA fl fc]) pv':=fun W hW=>rClose2_ok xi xk (RP.below hW (Nat.le_refl _)) (by omega) hfk
       have keep: ∀W,Aft wr W→W.cell? ⟨u,0,none⟩=some (.slice lA ll lc)∧W.cell? ⟨u,1,none⟩=some (.bool false)∧W.cell? ⟨u,2,none⟩=some (.slice fA fl fc)∧W.cell? ⟨mb,mo+k*3,none⟩=some (.int .i64 xi)∧W.cell? ⟨mb,mo+k*3+2,none⟩=some (.int .i32 xk):=by intro W hW;obtain⟨k1,-⟩:=bcell hW;rw[k1 _ _ pl,k1 _ _ pl,k1 _ _ pl,k1 _ _ m2,k1 _ _ m2];exact⟨p0,p1,p2,c0,cc2⟩
       have KEEP:=Lib.hid keep;clear keep;obtain⟨L,hL⟩: ∃L,clL l xk=L:=⟨_,rfl⟩;obtain⟨F2,hF2⟩: ∃F2,clF l f xi xk=F2:=⟨_,rfl⟩;obtain⟨z1,hz1⟩: ∃z1,(clB l xi xk).1=z1:=⟨_,rfl⟩;obtain⟨z2,hz2⟩: ∃z2,(clB l xi xk).2=z2:=⟨_,rfl⟩;obtain⟨zi,hzi⟩: ∃zi,clI l xk=zi:=⟨_,rfl⟩;rw[hL,hF2,hz1,hz2,hzi]at CO;rw[hL,hF2]at HNY;clear hL hF2 hz1 hz2 hzi;obtain⟨ll',hll'⟩: ∃ll',L.length=ll':=⟨_,rfl⟩;obtain⟨fl',hfl'⟩: ∃fl',F2.length=fl':=⟨_,rfl⟩;have HLL':=Lib.hid hll';have HFL':=Lib.hid hfl';clear hll' hfl';go_wp2
       refine wpIn_wide.1 (wpIn_region_vars (d:=0) (c:=11) (av:=[(16,18),(17,19)]) (vars:=[⟨16,18,252,#[.slice none 0 0,.bool false,.slice none 0 0],fun r=>aggV (extV 0 r)⟩,⟨17,19,129,#[.int .i64 0,.int .i64 0],fun r=>aggV (extV 1 r)⟩])
        (K:=[(0,0),(0,0),(0,0),(0,0),(0,0),(0,0),(0,0),(0,0),(0,0),(0,0),(0,0),(1,0),(0,0),(0,0),(0,0),(0,0),(2,0),(2,1),(3,0),(3,1),(0,0)])
        (U:=[none,none,none,none,none,none,none,none,none,none,none,some 11,some 11,some 11,some 11,some 11,some 16,some 17,some 11,some 11,some 11]) (E:=[])
        (vs:=[.inl (.agg #[.slice lA ll lc,.bool false,.slice fA fl fc]),.inl (.slice (some ⟨mb,mo,none⟩) ml mc),.inl (.int .i64 k),.inl (.pointer (some ⟨mb,mo+k*3,none⟩)),.inl (.pointer (some ⟨mb,mo+k*3,none⟩)),.inl (.int .i64 xi),
         .inl (.slice (some ⟨mb,mo,none⟩) ml mc),.inl (.int .i64 k),.inl (.pointer (some ⟨mb,mo+k*3,none⟩)),.inl (.pointer (some ⟨mb,mo+k*3+2,none⟩)),.inl (.int .i32 xk),
         .inr (11,id),.inr (11,id),.inr (11,extV 0),.inr (11,extV 1),.inr (11,extV 2),.inr (16,id),.inr (17,id),.inr (11,fun _=>undef),.inr (11,fun _=>undef),.inr (11,extV 2)])
        (R:=fun r=> ∃A' B' c' d',r= .tuple #[.agg #[.slice A' ll' c',.bool false,.slice B' fl' d'],.agg #[.int .i64 z1,.int .i64 z2],.bool zi])
        (T:=fun r W=>RPil W (extV 0 r) L F2 false∧ ∀q,rAd (extV 0 r) q→q<W.heap.size)
        (by kernel_rfl) (by kernel_rfl) rfl rfl (by kernel_rfl) (by kernel_rfl) ?_ ?_)
       ·simp only[List.map_cons,List.map_nil,valV,id,putAll,Act.put,List.setIfInBounds_toArray,List.set_cons_zero,List.set_cons_succ];refine⟨?_,?_,?_,?_,?_,?_,?_,?_,?_,?_,?_,?_,?_,?_,?_,?_,?_,?_,?_,?_,?_,trivial⟩
        all_goals first
         |(intro ρ W hA _;obtain⟨k0,k1,k2,k3,k4⟩:=KEEP.out W hA;simp only[valV,id];go_simp;done)
         |(intro ρ W hA hu;obtain⟨A',B',c',d',e⟩:=hu rfl;simp only[valV,e,extV_30,extV_31,extV_32];go_simp;done)
         |(refine⟨fun _=>rfl,fun ρ W=> ?_⟩;go_simp;done)
         |skip
        ·refine⟨fun _=>rfl,fun ρ W hA=>⟨168,#[.agg #[.slice lA ll lc,.bool false,.slice fA fl fc],.int .i64 xi,.int .i32 xk],?_,?_⟩⟩
         ·go_simp
         ·refine(CO W hA).mono ?_;rintro r w3 ⟨pv',rfl,hRP,b3,ha3⟩;have hRP2:=hRP;obtain⟨A',B',c',d',rfl,_,_,_,_⟩:=hRP;rw[HLL'.out,HFL'.out]at ha3 hRP2;have hstay: ∀q,rAd (.agg #[.slice A' ll' c',.bool false,.slice B' fl' d']) q→q<wr.heap.size∨W.heap.size≤q∧q<w3.heap.size:=fun q h=>(ha3 q h).imp (hra q) id;refine⟨_,rfl,⟨A',B',c',d',by rw[HLL'.out,HFL'.out]⟩,b3,fun W' hF=>⟨?_,?_⟩⟩
          ·rw[HLL'.out,HFL'.out];exact RPil.apart hRP2 hF (fun q h ⟨h1,h2,_⟩=>by rcases hstay q h with h3|h3<;>omega)
          ·rw[HLL'.out,HFL'.out];intro q h;have:=hF.size;have:=b3.size;have:=hA.le
           rcases hstay q h with h3|h3<;>omega
        ·intro ρ W q hq ⟨A',B',c',d',e⟩ hb;have hq:ρ 16= .pointer (some ⟨q,0,none⟩):=hq;have hb:Blk W q 252 #[.slice none 0 0,.bool false,.slice none 0 0]:=hb;obtain⟨y0,y1,y2,yf,yl⟩:=hb.c3;refine⟨((W.setCell ⟨q,0,none⟩ (.slice A' ll' c')).setCell ⟨q,1,none⟩ (.bool false)).setCell ⟨q,2,none⟩ (.slice B' fl' d'),?_,?_,?_⟩
         ·simp only[hq,e,extV_30,extV_31,extV_32];go_simp
         ·have:=((hb.set_ 0 (.slice A' ll' c')).set_ 1 (.bool false)).set_ 2 (.slice B' fl' d')
          simpa[e,extV,aggV]using this
         ·exact(((Frm.refl (fun k=>k=q) W).set rfl _).set rfl _).set rfl _
        ·intro ρ W q hq ⟨A',B',c',d',e⟩ hb;have hq:ρ 17= .pointer (some ⟨q,0,none⟩):=hq;have hb:Blk W q 129 #[.int .i64 0,.int .i64 0]:=hb;obtain⟨y0,y1,yf,yl⟩:=hb.c2;refine⟨(W.setCell ⟨q,0,none⟩ (.int .i64 z1)).setCell ⟨q,1,none⟩ (.int .i64 z2),?_,?_,?_⟩
         ·simp only[hq,e,extV_30,extV_31,extV_32];go_simp
         ·have:=(hb.set_ 0 (.int .i64 z1)).set_ 1 (.int .i64 z2)
          simpa[e,extV,aggV]using this
         ·exact((Frm.refl (fun k=>k=q) W).set rfl _).set rfl _
       ·intro ρ W hA ⟨A',B',c',d',e⟩ hT hv hd;obtain⟨q,hq,hqs,Y2⟩:=hv _ List.mem_cons_self;have hq:ρ 16= .pointer (some ⟨q,0,none⟩):=hq;obtain⟨q2,hq2,hqs2,Y22⟩:=hv _ (List.mem_cons_of_mem _ List.mem_cons_self);have hq2:ρ 17= .pointer (some ⟨q2,0,none⟩):=hq2;simp only[e,extV_30,aggV_at]at Y2 hT;obtain⟨hT,hT2⟩:=hT;have YW:=Y.aft hA;simp only[List.map_cons,List.map_nil,valV,id,putAll,Act.put,List.setIfInBounds_toArray,List.set_cons_zero,List.set_cons_succ,hq,hq2,e,extV_30,extV_31,extV_32];clear hv hd e hq p0 p1 p2 pf pl c0 c1 cc2 hq2;obtain⟨p0,p1,p2,pf,pl⟩:=YW.c3;obtain⟨y0,y1,y2,yf,yl⟩:=Y2.c3;have F9:Frm (fun j=>j=u) W (((W.setCell ⟨u,0,none⟩ (.slice A' ll' c')).setCell ⟨u,1,none⟩ (.bool false)).setCell ⟨u,2,none⟩ (.slice B' fl' d')):=(((Frm.refl (fun j=>j=u) W).set rfl _).set rfl _).set rfl _
        have Y9:Blk (((W.setCell ⟨u,0,none⟩ (.slice A' ll' c')).setCell ⟨u,1,none⟩ (.bool false)).setCell ⟨u,2,none⟩ (.slice B' fl' d')) u 252 #[.slice A' ll' c',.bool false,.slice B' fl' d']:=by simpa using((YW.set_ 0 (.slice A' ll' c')).set_ 1 (.bool false)).set_ 2 (.slice B' fl' d')
        have hT9:=hT.var F9 (fun k e=>⟨252,#[.slice lA ll lc,.bool false,.slice fA fl fc],by have e:k=u:=e;rw[e];exact YW,by simp[noInt]⟩);have hlen:(L.length=ll')∧(F2.length=fl'):=⟨HLL'.out,HFL'.out⟩;have F10:Frm (fun j=>j=u) V (((W.setCell ⟨u,0,none⟩ (.slice A' ll' c')).setCell ⟨u,1,none⟩ (.bool false)).setCell ⟨u,2,none⟩ (.slice B' fl' d')):=(bb.trans (Frm.of_below (F:=fun j=>j=u) hA) (fun _ _ h=>h)).trans F9 (fun _ _ h=>h);have HLEN:=Lib.hid hlen;have hsz9:=F9.size;clear hlen KEEP CO hra Y RP;go_wp2
        go_roundg (ml-(k+1))
        case rel=>exact⟨k+1,A',B',c',d',ll',fl',L,F2,_,by have:=HK.out;omega,by go_num,HLEN.out.1,HLEN.out.2,HNY.out,Y9,hT9,(fun q h=>Nat.lt_of_lt_of_le (hT2 q h) hsz9),F10⟩
        case measure=>have:=HK.out;omega
     ·have hfin:M.foldl stpM ⟨[],[],false⟩=⟨l,f,ov⟩:=by
       rw[←HFO.out];refine fold_all ?_
       by_cases hlt:k<ml
       ·right;rw[HFO.out];show ov=true;cases ov
        ·exact absurd ⟨hlt,rfl⟩ hend
        ·rfl
       ·left;have:=HML.out;omega
      have hF:F=ssort f:=by rw[←HFF.out];unfold findF;rw[HRL.out,HM.out,if_pos rfl,HN.out,HFD.out,hfin]
      have hFr:RdR brC 2 wr wr.heap.size fA f:=by obtain⟨A9,A9',c9,c9',hRe,_,_,_,h⟩:=RP;cases hRe;exact h
      have CS:=rSorted_ok (w:=wr) (c:=fc) hfl.symm hFr (by omega);have bfin:Aft w wr:=Below.trans b4 (bb.below (by have:=b4.le;omega) (fun k hk e=>by have e:k=u:=e;omega));have HF:=Lib.hid hF;clear hfin hF hll hfl hfk RP hra hFr hovl Y bb
      by_cases hlt:k<ml
      ·have hov:ov=true:=by
        cases ov
        ·exact absurd ⟨hlt,rfl⟩ hend
        ·rfl
       subst hov
       go_wp2_with(go_at_call 169;refine CS.mono ?_;rintro r9 w9 ⟨v9,rfl,R9,b9⟩)
       go_ret2
       exact⟨v9,rfl,by rw[HF.out];exact R9.base (fun j e=>by have:=(R9.lt j e).1;have:=bfin.le;omega),bfin.trans b9⟩
      ·go_wp2_with(go_at_call 169;refine CS.mono ?_;rintro r9 w9 ⟨v9,rfl,R9,b9⟩)
       go_ret2
       exact⟨v9,rfl,by rw[HF.out];exact R9.base (fun j e=>by have:=(R9.lt j e).1;have:=bfin.le;omega),bfin.trans b9⟩
 ·have hme:m=e:=by rw[←HM.out];unfold mayL;rw[if_pos (by rw[HE.out];exact he0),HE.out]
  subst hme
  have hf:F=[]:=by rw[←HFF.out];unfold findF;rw[if_neg (by rw[HRL.out,HM.out];exact he0)]
  have hm1:(m !=0)=true:=by simpa using he0
  go_enter Tryz.func136,Tryz.ntmps136
  go_upto_region 1 with(fail)
  rw[HW1.out]
  go_wp2_with(go_at_call 165;refine CK1.mono ?_;rintro r1 w1 ⟨rfl,b2⟩)
  go_ret2
  exact⟨_,rfl,by rw[hf];exact Rw.nil _ _ _,b1.trans (b2.mono b1.size)⟩
end
section
attribute [local go_sem] Oper.semAt_some
theorem ahT_ne {cs:List Int}{so:Int}(h:so≠0): ∀k,ahT cs so k≠0
 |0=>h
 |k+1=>by
  rw[ahT_at]
  split
  ·assumption
  ·exact ahT_ne h k
theorem seL_eq {pl fs cs:List Int}{n o d:Nat}{way so:Int}(hw:way≠0)(hs:so≠0):seL pl fs n way so o d cs=if seC cs way so o d=0 then cs else becL pl fs n d (seC cs way so o d) (becL pl fs n o (seC cs way so o d) cs):=by
 have hC:seC cs way so o d=if wiS cs way (o+1) (d-(o+1))then way else if wiA cs (o+1) (d-(o+1))then ahT cs so o else 0:=rfl
 unfold seL
 rcases h1:wiS cs way (o+1) (d-(o+1))with _|_
 ·rcases h2:wiA cs (o+1) (d-(o+1))with _|_
  ·rw[h1,h2]at hC;have hC:seC cs way so o d=0:=hC;rw[if_neg (by decide),if_pos hC]
  ·rw[h1,h2]at hC;have hC:seC cs way so o d=ahT cs so o:=hC;rw[if_pos (by decide),if_neg (by rw[hC];exact ahT_ne hs o)]
 ·rw[h1]at hC;have hC:seC cs way so o d=way:=hC;rw[if_pos (by rw[Bool.true_or]),if_neg (by rw[hC];exact hw)]
theorem chk_so {s:Sq}(h:chkL s=0):s.so≠0∧0≤s.lv∧s.lv≤126:=by
 unfold chkL at h
 split at h
 ·cases h
 ·rename_i h1
  refine⟨fun e=> ?_,?_,?_⟩
  ·exact h1 (.inr (.inr (.inr (.inr (.inl (by rw[e];rfl))))))
  ·rcases Int.lt_or_le s.lv 0 with h2|h2
   ·exact absurd (.inr (.inr (.inl h2))) h1
   ·exact h2
  ·rcases Int.lt_or_le 126 s.lv with h2|h2
   ·exact absurd (.inr (.inr (.inr (.inl h2)))) h1
   ·exact h2
theorem wayL_eq {l:Int}(h0:0≤l)(h1:l≤126):wayL l=if l % 2=1 then 2 else 1:=by
 unfold wayL;rw[if_neg (by omega),if_neg (by omega)]
 by_cases h:l % 2=0
 ·rw[if_pos h,if_neg (by omega)]
 ·rw[if_neg h,if_pos (by omega)]
theorem rResolve_ok {w:World}{Bp Br Bf Bs rc fc:Nat}{pv sv:Value}{rest:Int}{ch:List Chr}{rA fA:Option Addr}{rs fs:List Int}{s:Sq}(hP:PropsIs w Bp pv rest ch)(hR:RdInts w Br .i32 rA rs)(hFs:RdInts w Bf .u8 fA fs)(hS:SqIs w Bs sv s)(hn:s.pl.length≤1048576):
 Calls Tryz.prog 87 #[pv,.slice rA rs.length rc,.slice fA fs.length fc,sv] w fun r w'=> ∃v,r= .returned (.tuple #[v,.int .i64 (resE rs.length fs.length s)])∧SqOwn w' w.heap.size v (resS ch rs fs s)∧Below w.heap.size w w':=by
 have CF: ∀W,Aft w W→Calls Tryz.prog 136 #[pv,.slice rA rs.length rc,sv] W fun r w'=> ∃v,r= .returned (.tuple #[v,.int .i64 (mayL rs.length s)])∧Rw brC 2 w' W.heap.size 129 v (findF ch rs s)∧Below W.heap.size W w':=fun W hW=>rFind_ok (hP.below hW (.inr (Nat.le_refl _))) (hR.aft hW) (hS.below hW (.inr (Nat.le_refl _))) hn
 obtain⟨pA,pc,rfl,hPr,hPn⟩:=hP;replace hFs:=hFs.clip;obtain⟨E,hE⟩: ∃E,resE rs.length fs.length s=E:=⟨_,rfl⟩;obtain⟨S,hSS⟩: ∃S,resS ch rs fs s=S:=⟨_,rfl⟩;rw[hE,hSS];obtain⟨m,hm⟩: ∃m,mayL rs.length s=m:=⟨_,rfl⟩;obtain⟨F,hF⟩: ∃F,findF ch rs s=F:=⟨_,rfl⟩;obtain⟨rn,hrl⟩: ∃rn,rs.length=rn:=⟨_,rfl⟩;obtain⟨fn,hfl⟩: ∃fn,fs.length=fn:=⟨_,rfl⟩;rw[hm,hF,hrl]at CF;rw[hrl,hfl];obtain⟨pn,hpn⟩: ∃pn,ch.length=pn:=⟨_,rfl⟩;rw[hpn]at CF⊢;have HE:=Lib.hid hE;have HSS:=Lib.hid hSS;have HM:=Lib.hid hm;have HF:=Lib.hid hF;have HRL:=Lib.hid hrl;have HFL:=Lib.hid hfl;clear hE hSS hm hF hrl hfl hR hpn hPn hPr;obtain⟨A,A2,c,c2,hsv,h1,h2,h3,h4⟩:=hS;replace h1:=h1.clip;replace h2:=h2.clip;obtain⟨n,hnn⟩: ∃n,s.pl.length=n:=⟨_,rfl⟩;obtain⟨n2,hn2⟩: ∃n2,s.cs.length=n2:=⟨_,rfl⟩;rw[hnn,hn2]at hsv;rw[hnn]at hn h3;have HN:=Lib.hid hnn;have HN2:=Lib.hid hn2;subst hsv;simp only[Sq.is]at CF⊢;clear hnn hn2;obtain⟨W1,hW1⟩: ∃W1,((w.alloc (.cells #[.int .u8 rest,.slice pA pn pc] 25)).alloc (.cells #[.slice A n c,.slice A2 n2 c2,.int .i8 s.lv,.int .u8 s.so,.int .u8 s.eo] 87)).alloc (.cells #[.slice none 0 0,.slice none 0 0,.int .i8 0,.int .u8 0,.int .u8 0] 87)=W1:=⟨_,rfl⟩
 have a1:Aft w W1:=by rw[←hW1];exact(((Aft.refl w).alloc _).alloc _).alloc _
 have X5:Blk W1 w.heap.size 25 #[.int .u8 rest,.slice pA pn pc]:=by rw[←hW1];exact((Blk.new w 25 _).alloc _).alloc _
 have X7:Blk W1 (w.heap.size+1) 87 #[.slice A n c,.slice A2 n2 c2,.int .i8 s.lv,.int .u8 s.so,.int .u8 s.eo]:=by rw[←hW1];exact(Blk.at_ (by simp)).alloc _
 have X8:Blk W1 (w.heap.size+1+1) 87 #[.slice none 0 0,.slice none 0 0,.int .i8 0,.int .u8 0,.int .u8 0]:=by rw[←hW1];exact Blk.at_ (by simp)
 have CF1:=CF W1 a1
 have hsz1:W1.heap.size=w.heap.size+3:=by rw[←hW1];simp
 have HW1:=Lib.hid hW1;have HSZ:=Lib.hid hsz1;obtain⟨x0,x1,x2,x3,x4,xf,xl⟩:=X7.c5;obtain⟨p0,p1,pf,pl⟩:=X5.c2;clear hW1 CF hsz1
 by_cases hm0:m=0
 ·subst hm0;have hck:=(may_zero HM.out).1
  have hEm:E=mayL fn s:=by rw[←HE.out];unfold resE;rw[HM.out,if_neg (fun h=>h rfl),HFL.out]
  have hmt:=may_two (n:=fn) hck;rw[←hEm]at hmt;have HMT:=Lib.hid hmt;have HCK:=Lib.hid hck;have HEM:=Lib.hid hEm;clear hmt hck hEm
  go_enter Tryz.func87,Tryz.ntmps87
  go_upto_region 1 with(fail)
  rw[HW1.out]
  go_wp2_with(go_at_call 136;refine CF1.mono ?_;rintro r1 w1 ⟨lv,rfl,L1,b1⟩;obtain⟨lA,lc,hlv,_,_,_⟩:=L1.val;subst hlv)
  have X71:=X7.below b1 X7.lt;have X81:=X8.below b1 X8.lt;have a2:Aft w w1:=a1.trans b1
  have hs1:w.heap.size+3≤w1.heap.size:=by have:=b1.size;have:=HSZ.out;omega
  clear x0 x1 x2 x3 x4 xf xl p0 p1 pf pl CF1 X7 X8 X5;obtain⟨x0,x1,x2,x3,x4,xf,xl⟩:=X71.c5;obtain⟨z0,z1,z2,z3,z4,zf,zl⟩:=X81.c5;have h11:=h1.aft a2;have hf1:=hFs.aft a2;obtain⟨fl,hfll⟩: ∃fl,F.length=fl:=⟨_,rfl⟩;rw[hfll]at L1⊢;have HFLL:=Lib.hid hfll;clear hfll;obtain⟨V1,rfl⟩: ∃V,V=w1:=⟨_,rfl⟩
  go_loopg [12] n (fun gk iv wr=> ∃i:Nat,i+gk=n∧iv= .int .i64 i∧(∀j,j<i→s.pl.getD j 0<(fn:Int))∧wr=V1)
  case atStart=>exact⟨0,by omega,rfl,fun j h=>by omega,rfl⟩
  case round=>
   obtain⟨i,hi,rfl,hlo,rfl⟩:=hrel;have HI:=Lib.hid hi;have HLO:=Lib.hid hlo;clear hi hlo
   by_cases hlt:i<n
   ·obtain⟨ab,ao,rfl,_,_,ca⟩:=h11.at_ (i:=i) (by have:=HN.out;omega);obtain⟨q,hq⟩: ∃q,s.pl.getD i 0=q:=⟨_,rfl⟩;rw[hq]at ca;have HQ:=Lib.hid hq;clear hq
    by_cases hge:(fn:Int)≤q
    ·have hE2:E=2:=by rw[HMT.out,if_pos ⟨i,by have:=HN.out;omega,by rw[HQ.out];exact hge⟩]
     subst hE2
     have hS2:S=Sq.zero:=by rw[←HSS.out];unfold resS;rw[if_neg (by rw[HE.out];decide)]
     subst hS2
     have hgd:decide ((fn:Int)≤q)=true:=by simpa using hge
     go_wp2;have B8:=blk_put5 (.slice none 0 0) (.slice none 0 0) (.int .i8 0) (.int .u8 0) (.int .u8 0) X81;have F8:=frm_put5 wr (w.heap.size+1+1) (.slice none 0 0) (.slice none 0 0) (.int .i8 0) (.int .u8 0) (.int .u8 0);generalize ((((wr.setCell ⟨w.heap.size+1+1,0,none⟩ (.slice none 0 0)).setCell ⟨w.heap.size+1+1,1,none⟩ (.slice none 0 0)).setCell ⟨w.heap.size+1+1,2,none⟩ (.int .i8 0)).setCell ⟨w.heap.size+1+1,3,none⟩ (.int .u8 0)).setCell ⟨w.heap.size+1+1,4,none⟩ (.int .u8 0)=W8 at*;have bF:Below w.heap.size w W8:=Below.trans a2 (F8.below (by omega) (fun i hi e=>by omega));refine bodyPost_ret (results_row1 rfl _ _ (w.heap.size+1+1) 87 _ _ rfl B8 Tryz.underlying87 rfl (by kernel_rfl)) rfl ?_;exact⟨_,rfl,⟨_,_,rfl,Ints.nil _ _ _ _,Ints.nil _ _ _ _,by simp[Value.ownBlock]⟩,bF⟩
    ·have hgd:decide ((fn:Int)≤q)=false:=by simpa using hge
     go_wp2
     go_roundg (n-(i+1))
     case rel=>exact⟨i+1,by have:=HI.out;omega,by go_num,fun j hj=>(by by_cases hji:j=i
                                                                       ·subst hji;rw[HQ.out];omega
                                                                       ·exact HLO.out j (by omega)),rfl⟩
     case measure=>have:=HI.out;omega
   ·have hin:i=n:=by have:=HI.out;omega
    subst hin
    have hE0:E=0:=by rw[HMT.out,if_neg];rintro⟨j,hj,h⟩;have:=HLO.out j (by have:=HN.out;omega);omega
    subst hE0
    have hS2:S={s with cs:=resT s fs F F.length}:=by rw[←HSS.out];unfold resS;rw[if_pos (by rw[HE.out]),HF.out]
    have hin2:=(may_zero HEM.out.symm).2;have hlen:=(chk_pos HCK.out).2;have hp0:=(chk_pos HCK.out).1;obtain⟨hso,hlv0,hlv1⟩:=chk_so HCK.out;have hFin:=findF_in (ch:=ch) (rs:=rs) (s:=s);have hFlen:=findF_len (ch:=ch) (rs:=rs) (s:=s);rw[HF.out]at hFin hFlen;rw[HN.out]at hp0 hFlen;have HS2:=Lib.hid hS2;have HIN:=Lib.hid hin2;have HFIN:=Lib.hid hFin
    have hfl2:fl≤1048576:=by have:=HFLL.out;omega
    have hnn2:n2=i:=by have:=HN.out;have:=HN2.out;omega
    have HNN:=Lib.hid hnn2;clear HLO HI hlt hS2 hin2 hlen hFin hFlen hnn2;have CC: ∀W,Aft w W→Calls Tryz.prog 137 #[.agg #[.slice A i c,.slice A2 n2 c2,.int .i8 s.lv,.int .u8 s.so,.int .u8 s.eo]] W fun r w'=> ∃pv cv,r= .returned (.agg #[pv,cv,.int .i8 s.lv,.int .u8 s.so,.int .u8 s.eo])∧Ints w' W.heap.size 3 .i64 pv s.pl∧Ints w' W.heap.size 22 .u8 cv s.cs∧(∀j,pv.ownBlock=some j→cv.ownBlock≠some j)∧Below W.heap.size W w':=fun W hW=>rCopy_ok HN.out.symm HN2.out.symm (h1.aft hW) (h2.aft hW) (by omega) (by have:=HNN.out;omega)
    go_upto_region 10 with(go_at_call 137;refine(CC _ a2).mono ?_;rintro r2 w2 ⟨pv2,cv2,rfl,I1,I2,hap,b2⟩;obtain⟨gp,pc2,rfl⟩:=I1.form (by have:=HN.out;omega);obtain⟨g,cc2,rfl⟩:=I2.form (by have:=HN2.out;have:=HNN.out;omega))
    have hgp:=I1.lt gp rfl;have hgg:=I2.lt g rfl;have hpg:gp≠g:=fun e=>hap gp rfl (by rw[e];rfl);rw[HN.out]at I1;rw[HN2.out,HNN.out]at I2;rw[HN.out,HN2.out,HNN.out];have a3:Aft w w2:=a2.trans b2;have hsW:=b2.size;have LB:=(L1.below b2 (Nat.le_refl _)).alloc (.cells #[.slice (some ⟨gp,0,none⟩) i pc2,.slice (some ⟨g,0,none⟩) i cc2,.int .i8 s.lv,.int .u8 s.so,.int .u8 s.eo] 87);have hLlt:=L1.lt;have X72:=(X71.below b2 X71.lt).alloc (.cells #[.slice (some ⟨gp,0,none⟩) i pc2,.slice (some ⟨g,0,none⟩) i cc2,.int .i8 s.lv,.int .u8 s.so,.int .u8 s.eo] 87);have X82:=(X81.below b2 X81.lt).alloc (.cells #[.slice (some ⟨gp,0,none⟩) i pc2,.slice (some ⟨g,0,none⟩) i cc2,.int .i8 s.lv,.int .u8 s.so,.int .u8 s.eo] 87);have IP:=I1.alloc (.cells #[.slice (some ⟨gp,0,none⟩) i pc2,.slice (some ⟨g,0,none⟩) i cc2,.int .i8 s.lv,.int .u8 s.so,.int .u8 s.eo] 87);have IC:=I2.alloc (.cells #[.slice (some ⟨gp,0,none⟩) i pc2,.slice (some ⟨g,0,none⟩) i cc2,.int .i8 s.lv,.int .u8 s.so,.int .u8 s.eo] 87);have XO:=Blk.new w2 87 #[.slice (some ⟨gp,0,none⟩) i pc2,.slice (some ⟨g,0,none⟩) i cc2,.int .i8 s.lv,.int .u8 s.so,.int .u8 s.eo];have a4:Aft w (w2.alloc (.cells #[.slice (some ⟨gp,0,none⟩) i pc2,.slice (some ⟨g,0,none⟩) i cc2,.int .i8 s.lv,.int .u8 s.so,.int .u8 s.eo] 87)):=a3.alloc _;obtain⟨u,hu⟩: ∃u,w2.heap.size=u:=⟨_,rfl⟩;obtain⟨D,hD⟩: ∃D,wr.heap.size=D:=⟨_,rfl⟩;rw[hD]at IP IC hgp hgg hLlt hsW hs1;rw[hu]at XO hsW hgp hgg;rw[hu];clear x0 x1 x2 x3 x4 xf xl z0 z1 z2 z3 z4 zf zl h11 hf1 X71 X81 I1 I2 b1 b2 L1 a2 a3 hap CC;obtain⟨WB,hWB⟩: ∃WB,w2.alloc (.cells #[.slice (some ⟨gp,0,none⟩) i pc2,.slice (some ⟨g,0,none⟩) i cc2,.int .i8 s.lv,.int .u8 s.so,.int .u8 s.eo] 87)=WB:=⟨_,rfl⟩;rw[hWB]at LB X72 X82 IP IC XO a4;rw[hWB];have h1B:=h1.aft a4;have hfB:=hFs.aft a4;clear hWB hu hD
    have hw0:wayL s.lv≠0:=by rw[wayL_eq hlv0 hlv1];split<;>decide
    obtain⟨way,hway⟩: ∃way,wayL s.lv=way:=⟨_,rfl⟩;have hwe:=wayL_eq hlv0 hlv1;rw[hway]at hw0 hwe;have HW:=Lib.hid hway;have HWE:=Lib.hid hwe;clear hway hwe;have X72':=X72;obtain⟨y0,y1,y2,y3,y4,yf,yl⟩:=X72'.c5
    go_upto_if 52 with(fail)
    go_cut [14] from 49 to 52 (fun wv wx=>wv= .int .u8 way∧wx=WB)
    case first=>
     by_cases hodd:s.lv % 2=1
     ·have e1:(s.lv % 2==1)=true:=by simpa using hodd
      have e2:way=2:=by rw[HWE.out,if_pos hodd]
      go_wp2;go_meet;exact⟨by rw[e2],rfl⟩
     ·have e1:(s.lv % 2==1)=false:=by simpa using hodd
      have e2:way=1:=by rw[HWE.out,if_neg hodd]
      go_wp2;go_meet;exact⟨by rw[e2],rfl⟩
    case rest=>
     obtain⟨rfl,hwx⟩:=hcut;have hwx2:=hwx.symm;subst hwx2;clear hwx y0 y1 y2 y3 y4 yf yl;obtain⟨W00,rfl⟩: ∃W00,W00=wr:=⟨_,rfl⟩;go_wp2
     go_loopg [15] fl (fun gk kv wr=> ∃k:Nat,k+gk=fl∧kv= .int .i64 k∧Ints wr D 22 .u8 (.slice (some ⟨g,0,none⟩) i cc2) (resT s fs F k)∧Frm (fun j=>j=g) WB wr)
     case atStart=>exact⟨0,by omega,rfl,IC,Frm.refl _ _⟩
     case round=>
      obtain⟨k,hk,rfl,IK,Fg⟩:=hrel;have HK:=Lib.hid hk;clear hk IC;have hFs2:=Fg.size;have XOk:=XO.frm Fg (by omega);have X72k:=X72.frm Fg (by omega)
      have hcl:i=(resT s fs F k).length:=by rw[resT_length];have:=HN2.out;have:=HNN.out;omega
      obtain⟨y0,y1,y2,y3,y4,yf,yl⟩:=XOk.c5;obtain⟨z0,z1,z2,z3,z4,zf,zl⟩:=X72k.c5
      by_cases hlt:k<fl
      ·obtain⟨x,hx⟩: ∃x,F[k]?=some x:=⟨_,List.getElem?_eq_getElem (by have:=HFLL.out;omega)⟩
       have hgd:F.getD k (0,0)=x:=by rw[List.getD_eq_getElem?_getD,hx];rfl
       have hxm:x∈F:=List.mem_of_getElem? hx;obtain⟨hx1,hx2,hx3⟩:=HFIN.out x hxm;obtain⟨lb,lo,rfl,l1,l2,lcl⟩:=((LB.frm Fg (fun j e h=>by have:=(hLlt j e).2;have h:j=g:=h;omega)).rd).at_ encB hx (by omega);have u0:=lcl 0 _ rfl;have u1:=lcl 1 _ rfl;rw[Nat.add_zero]at u0;rw[←Nat.add_assoc]at u1;obtain⟨o,ho⟩: ∃o:Nat,x.1=o:=⟨x.1.toNat,by omega⟩;obtain⟨d,hd⟩: ∃d:Nat,x.2=d:=⟨x.2.toNat,by omega⟩
       have hnx:resT s fs F (k+1)=seL s.pl fs i way s.so o d (resT s fs F k):=by show seL s.pl fs s.pl.length (wayL s.lv) s.so (F.getD k (0,0)).1.toNat (F.getD k (0,0)).2.toNat (resT s fs F k)=_;rw[hgd,ho,hd,HN.out,HW.out,Int.toNat_natCast,Int.toNat_natCast]
       rw[seL_eq hw0 hso]at hnx;rw[ho]at u0;rw[hd]at u1
       have hod:o<d:=by omega
       have hdi:d<i:=by have:=HN.out;omega
       obtain⟨cur,hcur⟩: ∃cur,resT s fs F k=cur:=⟨_,rfl⟩;rw[hcur]at hnx IK hcl;obtain⟨cv,hcv⟩: ∃cv,seC cur way s.so o d=cv:=⟨_,rfl⟩
       have CB: ∀W,Aft wr W→Calls Tryz.prog 138 #[.slice (some ⟨g,0,none⟩) i cc2,.agg #[.int .i64 o,.int .i64 d],.int .u8 way,.int .u8 s.so] W fun r w'=>r= .returned (.int .u8 cv)∧Below W.heap.size W w':=fun W hW=>by rw[←hcv];exact becomes_ok way s.so hcl ((IK.rd).aft hW) hod hdi hn
       rw[hcv]at hnx
       have keep: ∀W,Aft wr W→W.cell? ⟨u,1,none⟩=some (.slice (some ⟨g,0,none⟩) i cc2)∧W.cell? ⟨w.heap.size+1,3,none⟩=some (.int .u8 s.so)∧W.cell? ⟨lb,lo+k*2,none⟩=some (.int .i64 o)∧W.cell? ⟨lb,lo+k*2+1,none⟩=some (.int .i64 d):=by intro W hW;obtain⟨k1,-⟩:=bcell hW;rw[k1 _ _ yl,k1 _ _ zl,k1 _ _ l2,k1 _ _ l2];exact⟨y1,z3,u0,u1⟩
       have KEEP:=Lib.hid keep;have HNX:=Lib.hid hnx;have HCL:=Lib.hid hcl;have l2': ∀W,Aft wr W→lb<W.heap.size:=fun W hW=>Nat.lt_of_lt_of_le l2 hW.le;have L2:=Lib.hid l2';clear hx hgd hxm hx1 hx2 hx3 lcl ho hd hnx keep hcv hcur hcl y0 y1 y2 y3 y4 yf z0 z1 z2 z3 z4 zf l2';go_wp2
       refine wpIn_wide.1 (wpIn_region_vars (d:=0) (c:=9) (av:=[]) (vars:=[]) (K:=[(0,0),(0,0),(0,0),(0,0),(0,0),(0,0),(0,0),(0,0),(0,0),(1,0),(0,0)])
        (U:=[none,none,none,none,none,none,none,none,none,some 9,some 9]) (E:=[])
        (vs:=[.inl (.pointer (some ⟨u,1,none⟩)),.inl (.slice (some ⟨g,0,none⟩) i cc2),.inl (.slice (some ⟨lb,lo,none⟩) fl lc),.inl (.int .i64 k),.inl (.pointer (some ⟨lb,lo+k*2,none⟩)),.inl (.agg #[.int .i64 o,.int .i64 d]),.inl (.int .u8 way),
         .inl (.pointer (some ⟨w.heap.size+1,3,none⟩)),.inl (.int .u8 s.so),.inr (9,id),.inr (9,id)])
        (R:=fun r=>r= .int .u8 cv) (T:=fun _ _=>True) (by kernel_rfl) (by kernel_rfl) rfl rfl (by kernel_rfl) (by kernel_rfl) ?_ ?_)
       ·simp only[List.map_cons,List.map_nil,valV,id,putAll,Act.put,List.setIfInBounds_toArray,List.set_cons_zero,List.set_cons_succ];refine⟨?_,?_,?_,?_,?_,?_,?_,?_,?_,?_,?_,trivial⟩
        all_goals first
         |(intro ρ W hA _;obtain⟨k0,k1,k2,k3⟩:=KEEP.out W hA;simp only[valV,id];go_simp;done)
         |(intro ρ W hA hu;have e:ρ 9= .int .u8 cv:=hu rfl;simp only[valV,id,e];go_simp;done)
         |skip
        refine⟨fun _=>rfl,fun ρ W hA=>⟨138,#[.slice (some ⟨g,0,none⟩) i cc2,.agg #[.int .i64 o,.int .i64 d],.int .u8 way,.int .u8 s.so],?_,?_⟩⟩
        ·go_simp
        ·refine(CB W hA).mono ?_;rintro r w3 ⟨rfl,b3⟩;exact⟨_,rfl,rfl,b3,fun _ _=>trivial⟩
       ·intro ρ W hA hR _ _ _;have hR:ρ 9= .int .u8 cv:=hR;simp only[List.map_cons,List.map_nil,valV,id,putAll,Act.put,List.setIfInBounds_toArray,List.set_cons_zero,List.set_cons_succ,hR];clear hR;have IW:=IK.aft hA;have FW:Frm (fun j=>j=g) WB W:=Fg.trans (Frm.of_below (F:=fun j=>j=g) hA) (fun _ _ h=>h);have XOw:=XOk.aft hA;have X72w:=X72k.aft hA;obtain⟨k0,k1,k2,k3⟩:=KEEP.out W hA;have kl:=L2.out W hA;clear KEEP CB IK Fg XOk X72k
        by_cases hc0:cv=0
        ·have e1:(cv==0)=true:=by simpa using hc0
         go_wp2
         go_roundg (fl-(k+1))
         case rel=>exact⟨k+1,by have:=HK.out;omega,by go_num,by rw[HNX.out,if_pos hc0];exact IW,FW⟩
         case measure=>have:=HK.out;omega
        ·have e1:(cv==0)=false:=by simpa using hc0
         have HNX:=Lib.hid (HNX.out.trans (if_neg hc0));obtain⟨C1,hC1⟩: ∃C1,becL s.pl fs i o cv cur=C1:=⟨_,rfl⟩;obtain⟨C2,hC2⟩: ∃C2,becL s.pl fs i d cv C1=C2:=⟨_,rfl⟩;rw[hC1,hC2]at HNX;have HC1:=Lib.hid hC1;have HC2:=Lib.hid hC2;clear hC1 hC2;go_wp2
         go_region
         have XE:=(Blk.new W 3 #[.int .i64 o,.int .i64 d]).drew;have IA:=IW.alloc (.cells #[.int .i64 o,.int .i64 d] 3)|>.drew;have FA:=(FW.alloc (.cells #[.int .i64 o,.int .i64 d] 3)).drew;have XOA:=(XOw.alloc (.cells #[.int .i64 o,.int .i64 d] 3)).drew;have X72A:=(X72w.alloc (.cells #[.int .i64 o,.int .i64 d] 3)).drew;obtain⟨WA,hWA⟩: ∃WA,(W.alloc (.cells #[.int .i64 o,.int .i64 d] 3)).drew=WA:=⟨_,rfl⟩;obtain⟨eb,heb⟩: ∃eb,W.heap.size=eb:=⟨_,rfl⟩
         have hgW:g<W.heap.size:=by have:=(IW.lt g rfl).2;omega
         rw[hWA,heb]at XE;rw[hWA]at IA FA XOA X72A;rw[hWA,heb];rw[heb]at hgW;have hgA:g<WA.heap.size:=(IA.lt g rfl).2;have FAA:=Lib.hid FA;clear hWA heb k0 k1 k2 k3 kl IW FW XOw X72w hA;go_wp2
         go_loopg [18] 2 (fun gk nv wr=> ∃(nn:Nat) (cu:List Int),nn+gk=2∧nv= .int .i64 nn∧(nn=0∧cu=cur∨nn=1∧cu=C1∨nn=2∧cu=C2)∧Ints wr D 22 .u8 (.slice (some ⟨g,0,none⟩) i cc2) cu∧Frm (fun j=>j=g) WA wr)
         case atStart=>exact⟨0,cur,rfl,rfl,.inl ⟨rfl,rfl⟩,IA,Frm.refl _ _⟩
         case round=>
          obtain⟨nn,cu,hnn,rfl,hcase,IN,FN⟩:=hrel;clear IA;have XEn:=XE.frm FN (by omega);have XOn:=XOA.frm FN (by omega);obtain⟨y0,y1,y2,y3,y4,yf,yl2⟩:=XOn.c5;have xel:=XEn.lt
          by_cases hn2:nn<2
          ·have hst: ∃(q:Nat) (C':List Int),q<i∧wr.cell? ⟨eb,nn,none⟩=some (.int .i64 q)∧becL s.pl fs i q cv cu=C'∧(nn+1=0∧C'=cur∨nn+1=1∧C'=C1∨nn+1=2∧C'=C2):=by
            rcases hcase with⟨rfl,rfl⟩|⟨rfl,rfl⟩|⟨rfl,_⟩
            ·exact⟨o,C1,by omega,XEn.cell 0,HC1.out,.inr (.inl ⟨rfl,rfl⟩)⟩
            ·exact⟨d,C2,hdi,XEn.cell 1,HC2.out,.inr (.inr ⟨rfl,rfl⟩)⟩
            ·omega
           obtain⟨q,C',hqi,xq,hbec,hnext⟩:=hst;obtain⟨hcl1,hcl2,_,_,hgs,hgf,hgc⟩:=IN.at_;have hgq:=hgc q (by omega)
           have hqc:q<cc2:=by omega
           have e5:IntKind.i64.wrap ((q:Int)+1)=((q+1:Nat):Int):=by rw[IntWalk.i64_in _ (by omega)];omega
           have hbec2:bcT s.pl fs cv (i-(q+1)) (q+1) (cu.set q cv)=C':=hbec;have ISET:=IN.set q cv;have FSET:Frm (fun j=>j=g) WA (wr.setCell ⟨g,q,none⟩ (.int .u8 cv)):=FN.set rfl _;have HB:=Lib.hid hbec2;have HNE:=Lib.hid hnext;have HNN2:=Lib.hid hnn;have HCA:=Lib.hid hcase;clear hbec hbec2 hnext hnn hcase hcl1 hgc
           have nng:decide ((nn:Int)<2)=true:=by simp;omega
           go_wp2
           go_region
           have XS:=(XOA.frm FSET (by omega)).drew;have IS:=ISET.drew;have FS:=FSET.drew;obtain⟨WS,hWS⟩: ∃WS,(wr.setCell ⟨g,q,none⟩ (.int .u8 cv)).drew=WS:=⟨_,rfl⟩;have XQ:=(XE.frm FSET (by omega)).drew.cell nn;have xq3:=XEn.cell nn;rw[xq]at xq3;rw[←xq3]at XQ;rw[hWS]at XS XQ IS FS;rw[hWS];clear hWS y0 y1 y2 y3 y4 yf yl2 XEn XOn hgq xq xq3 xel hgf;obtain⟨W33,rfl⟩: ∃W33,W33=wr:=⟨_,rfl⟩;obtain⟨y0,y1,y2,y3,y4,yf,yl2⟩:=XS.c5;have hgS:=(IS.lt g rfl).2
           have hebS:eb<WS.heap.size:=by have:=XE.lt;have:=FS.size;omega
           go_wp2
           go_loopg [19] (i-(q+1)) (fun gk jv wr=> ∃(j:Nat) (cw:List Int),j+gk=i∧jv= .int .i64 j∧bcT s.pl fs cv (i-j) j cw=C'∧Ints wr D 22 .u8 (.slice (some ⟨g,0,none⟩) i cc2) cw∧Frm (fun j=>j=g) WA wr)
           case atStart=>exact⟨q+1,cu.set q cv,by omega,rfl,HB.out,IS,FS⟩
           case round=>
            obtain⟨j,cw,hj,rfl,hb,IJ,FJ⟩:=hrel;clear y0 y1 y2 y3 y4 yf yl2;have XOj:=XOA.frm FJ (by omega);have X72j:=X72A.frm FJ (by omega);obtain⟨y0,y1,y2,y3,y4,yf,yl2⟩:=XOj.c5;obtain⟨z0,z1,z2,z3,z4,zf,zl2⟩:=X72j.c5;have HJ:=Lib.hid hj;have HBJ:=Lib.hid hb;clear hj hb
            by_cases hji:j<i
            ·obtain⟨hcl1,hcl2,_,_,hgs,hgf,hgc⟩:=IJ.at_;have hgj:=hgc j (by omega)
             have hjc:j<cc2:=by omega
             have hplj:=HIN.out j (by have:=HN.out;omega);have FWJ:Frm (fun k=>D≤k) w wr:=((Frm.of_below (F:=fun k=>D≤k) a4).trans (FAA.out) (fun k _ e=>by have e:k=g:=e;omega)).trans FJ (fun k _ e=>by have e:k=g:=e;omega);have h1J:RdInts wr w.heap.size .i64 A s.pl:=Reads.frm h1 FWJ (fun k hk _ e=>by have e:D≤k:=e;omega);have hfJ:RdInts wr w.heap.size .u8 fA fs:=Reads.frm hFs FWJ (fun k hk _ e=>by have e:D≤k:=e;omega);obtain⟨ab,ao,rfl,d1,d2,ca⟩:=h1J.at_ (i:=j) (by have:=HN.out;omega);obtain⟨a,ha⟩: ∃a:Nat,s.pl.getD j 0=a:=⟨(s.pl.getD j 0).toNat,by omega⟩;rw[ha]at ca hplj
             have hafn:a<fn:=by omega
             obtain⟨fb,fo,rfl,f1,f2,cf⟩:=hfJ.at_ (i:=a) (by have:=HFL.out;omega);obtain⟨y9,hy9⟩: ∃y9,fs.getD a 0=y9:=⟨_,rfl⟩;rw[hy9]at cf
             have hsucc:bcT s.pl fs cv (i-j) j cw=if y9=9 then bcT s.pl fs cv (i-(j+1)) (j+1) (cw.set j cv)else cw:=by
              have e:i-j=(i-(j+1))+1:=by omega
              rw[e,bcT,ha,Int.toNat_natCast,hy9]
             rw[HBJ.out]at hsucc;have HSU:=Lib.hid hsucc;have ISJ:=IJ.set j cv;have FSJ:Frm (fun j=>j=g) WA (wr.setCell ⟨g,j,none⟩ (.int .u8 cv)):=FJ.set rfl _;clear hsucc ha hplj hcl1 hgc hy9 FWJ
             by_cases h9:y9=9
             ·have e9:(y9==9)=true:=by simpa using h9
              have HSU:=Lib.hid (HSU.out.trans (if_pos h9));go_wp2
              go_roundg (i-(j+1))
              case rel=>exact⟨j+1,cw.set j cv,by omega,by go_num,HSU.out.symm,ISJ,FSJ⟩
              case measure=>have:=HJ.out;omega
             ·have e9:(y9==9)=false:=by simpa using h9
              have HSU:=Lib.hid (HSU.out.trans (if_neg h9));go_wp2
              go_roundg (2-(nn+1))
              case rel=>exact⟨nn+1,cw,by have:=HNN2.out;omega,by go_num,by rw[←HSU.out];exact HNE.out,IJ,FJ⟩
              case measure=>have:=HNN2.out;omega
            ·have hjn:j=i:=by have:=HJ.out;omega
             subst hjn
             have hCw:C'=cw:=by rw[←HBJ.out,Nat.sub_self];rfl
             have HCW:=Lib.hid hCw;clear hCw;go_wp2
             go_roundg (2-(nn+1))
             case rel=>exact⟨nn+1,cw,by have:=HNN2.out;omega,by go_num,by rw[←HCW.out];exact HNE.out,IJ,FJ⟩
             case measure=>have:=HNN2.out;omega
          ·have hn2':nn=2:=by omega
           have hcu:cu=C2:=by rcases hcase with⟨h,_⟩|⟨h,_⟩|⟨_,h⟩;omega;omega;exact h
           subst hn2' hcu;have HCA:=Lib.hid hcase;clear hcase hnn;go_wp2
           go_roundg (fl-(k+1))
           case rel=>exact⟨k+1,by have:=HK.out;omega,by go_num,by rw[HNX.out];exact IN,FA.trans FN (fun _ _ e=>e)⟩
           case measure=>have:=HK.out;omega
      ·have hkf:k=fl:=by have:=HK.out;omega
       subst hkf;clear hcl;have X83:=X82.frm Fg (by omega);obtain⟨v0,v1,v2,v3,v4,vf,vl⟩:=X83.c5;go_wp2;have B8:=blk_put5 (.slice (some ⟨gp,0,none⟩) i pc2) (.slice (some ⟨g,0,none⟩) i cc2) (.int .i8 s.lv) (.int .u8 s.so) (.int .u8 s.eo) X83;have F8:=frm_put5 wr (w.heap.size+1+1) (.slice (some ⟨gp,0,none⟩) i pc2) (.slice (some ⟨g,0,none⟩) i cc2) (.int .i8 s.lv) (.int .u8 s.so) (.int .u8 s.eo);generalize ((((wr.setCell ⟨w.heap.size+1+1,0,none⟩ (.slice (some ⟨gp,0,none⟩) i pc2)).setCell ⟨w.heap.size+1+1,1,none⟩ (.slice (some ⟨g,0,none⟩) i cc2)).setCell ⟨w.heap.size+1+1,2,none⟩ (.int .i8 s.lv)).setCell ⟨w.heap.size+1+1,3,none⟩ (.int .u8 s.so)).setCell ⟨w.heap.size+1+1,4,none⟩ (.int .u8 s.eo)=W8 at*;refine bodyPost_ret (results_row1 rfl _ _ (w.heap.size+1+1) 87 _ _ rfl B8 Tryz.underlying87 rfl (by kernel_rfl)) rfl ?_;have bF:Below w.heap.size w W8:=(Below.trans a4 (Fg.below a4.le (fun i hi e=>by have e:i=g:=e;omega))).trans (F8.below (by have:=a4.le;omega) (fun i hi e=>by omega));rw[HS2.out]
       have hgpg: ∀j,(Value.slice (some ⟨gp,0,none⟩) i pc2).ownBlock=some j→j=gp:=fun j e=>by simpa[Value.ownBlock]using e.symm
       have hggg: ∀j,(Value.slice (some ⟨g,0,none⟩) i cc2).ownBlock=some j→j=g:=fun j e=>by simpa[Value.ownBlock]using e.symm
       refine⟨_,rfl,⟨_,_,rfl,?_,?_,?_⟩,bF⟩
       ·show Ints W8 w.heap.size 3 .i64 (.slice (some ⟨gp,0,none⟩) i pc2) s.pl;exact((IP.frm Fg (fun j e h=>by have:=hgpg j e;have h:j=g:=h;omega)).frm F8 (fun j e h=>by have:=hgpg j e;omega)).base (fun j e=>by have:=hgpg j e;omega)
       ·show Ints W8 w.heap.size 22 .u8 (.slice (some ⟨g,0,none⟩) i cc2) (resT s fs F F.length);rw[HFLL.out];exact(IK.frm F8 (fun j e h=>by have:=hggg j e;omega)).base (fun j e=>by have:=hggg j e;omega)
       ·intro j e e2;have:=hgpg j e;have:=hggg j e2;omega
 ·have hEm:E=m:=by rw[←HE.out];unfold resE;rw[HM.out,if_pos hm0]
  have hS2:S=Sq.zero:=by rw[←HSS.out];unfold resS;rw[if_neg (by rw[HE.out,hEm];exact hm0)]
  subst hEm hS2
  have hm1:(E !=0)=true:=by simpa using hm0
  go_enter Tryz.func87,Tryz.ntmps87
  go_upto_region 1 with(fail)
  rw[HW1.out]
  go_wp2_with(go_at_call 136;refine CF1.mono ?_;rintro r1 w1 ⟨lv,rfl,L1,b1⟩;have X81:=X8.below b1 X8.lt;obtain⟨z0,z1,z2,z3,z4,zf,zl⟩:=X81.c5)
  have B8:=blk_put5 (.slice none 0 0) (.slice none 0 0) (.int .i8 0) (.int .u8 0) (.int .u8 0) X81;have F8:=frm_put5 w1 (w.heap.size+1+1) (.slice none 0 0) (.slice none 0 0) (.int .i8 0) (.int .u8 0) (.int .u8 0);generalize ((((w1.setCell ⟨w.heap.size+1+1,0,none⟩ (.slice none 0 0)).setCell ⟨w.heap.size+1+1,1,none⟩ (.slice none 0 0)).setCell ⟨w.heap.size+1+1,2,none⟩ (.int .i8 0)).setCell ⟨w.heap.size+1+1,3,none⟩ (.int .u8 0)).setCell ⟨w.heap.size+1+1,4,none⟩ (.int .u8 0)=W8 at*;have bF:Below w.heap.size w W8:=Below.trans (a1.trans b1) (F8.below (by have:=b1.size;have:=HSZ.out;omega) (fun i hi e=>by omega));refine bodyPost_ret (results_row1 rfl _ _ (w.heap.size+1+1) 87 _ _ rfl B8 Tryz.underlying87 rfl (by kernel_rfl)) rfl ?_;exact⟨_,rfl,⟨_,_,rfl,Ints.nil _ _ _ _,Ints.nil _ _ _ _,by simp[Value.ownBlock]⟩,bF⟩
end
end Go.Proofs.YtllolnkkepacjaaGreat
