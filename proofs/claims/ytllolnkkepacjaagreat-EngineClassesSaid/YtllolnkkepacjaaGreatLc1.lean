/- EngineNames, EngineClasses walked. -/
import Derived.Test.YtllolnkkepacjaaGreatKn2
import Derived.Test.YtllolnkkepacjaaGreatA1
set_option maxRecDepth 100000
set_option maxHeartbeats 4000000
namespace Go.Proofs.YtllolnkkepacjaaGreat
open Go.RowKit
attribute [local go_sem] Oper.semAt_some
theorem names_ok (w:World):Calls Tryz.prog 4 #[] w fun r w'=>r= .returned (.bool true)∧Aft w w':=by
 have CA:=fun W=>awake_ok W
 go_enter Tryz.func4,Tryz.ntmps4
 go_wp2_with(go_at_call 18;refine(CA _).mono ?_;rintro r1 w1 ⟨rfl,a1⟩)
 go_ret;exact⟨rfl,a1⟩
theorem classesX_len (l:List Int)(b:Int):(classesX l b).cs.length≤l.length∧(classesX l b).lv.length≤l.length:=by
 unfold classesX
 split
 ·exact⟨Nat.zero_le _,Nat.zero_le _⟩
 split
 ·exact⟨Nat.zero_le _,Nat.zero_le _⟩
 split
 ·exact⟨Nat.zero_le _,Nat.zero_le _⟩
 ·exact⟨by simp,by show(levE _ _ _ _).length≤_;rw[levE_len,exL_len];simp⟩
theorem classes_ok {w:World}{A:Option Addr}{n c:Nat}{l:List Int}(h:RdInts w w.heap.size .u8 A l)(hn:n=l.length)(hl:n≤140737488351232)(b:Int):
 Calls Tryz.prog 6 #[.slice A n c,.int .i8 b] w fun r w'=>r= .returned (.bool true)∧Aft w w':=by
 have CA:=fun W=>awake_ok W;have CF:=fun W=>fit_ok W (n:Int);obtain⟨⟨Xe,Xb,Xc,Xl⟩,hX⟩: ∃X,classesX l b=X:=⟨_,rfl⟩;have C29:=fun(W:World) (A2:Option Addr) (c2:Nat) (hr:RdInts W W.heap.size .u8 A2 l)=>EClasses_ok (c:=c2) hr hn b;have C30:=fun(W:World) (hW:Aft w W)=>rEClasses_ok (c:=c) (h.aft hW) hn b;have hlen:=classesX_len l b;rw[hX]at C29 C30 hlen;obtain⟨p,hp⟩: ∃p,Xc.length=p:=⟨_,rfl⟩;obtain⟨q,hq⟩: ∃q,Xl.length=q:=⟨_,rfl⟩
 have C29': ∀(W:World) (A2:Option Addr) (c2:Nat),RdInts W W.heap.size .u8 A2 l→Calls Tryz.prog 29 #[.slice A2 n c2,.int .i8 b] W fun r w'=> ∃cA lA cc lc,r= .returned (.tuple #[.agg #[.int .i8 Xb,.slice cA p cc,.slice lA q lc],.int .i64 Xe])∧Ints w' W.heap.size 22 .u8 (.slice cA p cc) Xc∧Ints w' W.heap.size 29 .i8 (.slice lA q lc) Xl∧(∀j,(Value.slice cA p cc).ownBlock=some j→(Value.slice lA q lc).ownBlock≠some j)∧Aft W w':=fun W A2 c2 hr=>by refine(C29 W A2 c2 hr).mono ?_;rintro r w' ⟨v,rfl,⟨cA,lA,cc,lc,rfl,h1,h2,h3⟩,a⟩;simp only at h1 h2 h3;rw[hp]at h1 h3;rw[hq]at h2 h3;exact⟨cA,lA,cc,lc,by simp only[hp,hq],h1,h2,h3,a⟩
 have C30': ∀(W:World),Aft w W→Calls Tryz.prog 30 #[.slice A n c,.int .i8 b] W fun r w'=> ∃cA lA cc lc,r= .returned (.tuple #[.agg #[.int .i8 Xb,.slice cA p cc,.slice lA q lc],.int .i64 Xe])∧Ints w' W.heap.size 22 .u8 (.slice cA p cc) Xc∧Ints w' W.heap.size 29 .i8 (.slice lA q lc) Xl∧Aft W w':=fun W hW=>by refine(C30 W hW).mono ?_;rintro r w' ⟨v,rfl,⟨cA,lA,cc,lc,rfl,h1,h2,h3⟩,a⟩;simp only at h1 h2 h3;rw[hp]at h1;rw[hq]at h2;exact⟨cA,lA,cc,lc,by simp only[hp,hq],h1,h2,a⟩
 simp only at hlen;have HLN:=Lib.hid hlen;have HN:=Lib.hid hn;have HP:=Lib.hid hp;have HQ:=Lib.hid hq;clear hn hX hp hq hlen C29 C30
 go_enter Tryz.func6,Tryz.ntmps6
 go_upto_region 3 with(first
  |(at_builtin;go_must (refine wpList_appIs ei22 rfl rfl rfl (Ints.nil w w.heap.size 22 .u8) HN.out rfl h ?_ ?_ ?_ ?_)))
 ·have:=HN.out;simp;unfold maxLen;omega
 ·have:=HN.out;simp;omega
 ·omega
 intro v1 w1 I1 g1 hv1;have I1:Ints w1 w.heap.size 22 .u8 v1 l:=I1;have a1:Aft w w1:=Aft.of_grown (by simpa[Value.ownBlock]using g1)
 go_upto_region 3 with(at_builtin;go_must (refine wpList_appI ei22 rfl rfl rfl (I1.alloc _) rfl (Blk.at_ (by simp)) ?_ ?_ ?_ ?_))
 ·have:=HN.out;unfold maxLen;omega
 ·have:=HN.out;omega
 ·simp;have:=a1.size;omega
 intro g cap w2 I2 g2 hg2;have a2:Aft w w2:=(a1.alloc _).grown g2 (fun j e=>(I1.lt j e).1);rw[←HN.out]at I2;rw[←HN.out];clear I1 g1 hv1 g2 hg2 a1
 have hcap:n+1≤cap:=by obtain⟨_,hc,_⟩:=I2.at_;have:=HN.out;simp at hc;omega
 have hc0:n≤cap:=by omega
 have R2:RdInts w2 w2.heap.size .u8 (some ⟨g,0,none⟩) l:=by have:=I2.rd.take n;rw[List.take_left' HN.out.symm]at this;exact this
 go_upto_region 4 with(go_at_call 29;refine(C29' _ _ _ R2).mono ?_;rintro r3 w3 ⟨cA,lA,cc,lc,rfl,IC,IL,hne,a3⟩)
 have X6:=Blk.new w3 33 #[.int .i8 Xb,.slice cA p cc,.slice lA q lc];have a4:Aft w3 (w3.alloc (.cells #[.int .i8 Xb,.slice cA p cc,.slice lA q lc] 33)):=(Aft.refl w3).alloc _;obtain⟨x6,hx6⟩: ∃x,w3.heap.size=x:=⟨_,rfl⟩;generalize w3.alloc (.cells #[.int .i8 Xb,.slice cA p cc,.slice lA q lc] 33)=w4 at X6 a4⊢;rw[hx6]at X6⊢;have a24:=a3.trans a4
 go_upto_region 5 with(go_at_call 29;refine(C29' _ _ _ (((R2.aft a24)).more a24.size)).mono ?_;rintro r5 w5 ⟨cA2,lA2,cc2,lc2,rfl,IC2,IL2,hne2,a5⟩)
 have X8:=Blk.new w5 33 #[.int .i8 Xb,.slice cA2 p cc2,.slice lA2 q lc2];have a6:Aft w5 (w5.alloc (.cells #[.int .i8 Xb,.slice cA2 p cc2,.slice lA2 q lc2] 33)):=(Aft.refl w5).alloc _;obtain⟨x8,hx8⟩: ∃x,w5.heap.size=x:=⟨_,rfl⟩;generalize w5.alloc (.cells #[.int .i8 Xb,.slice cA2 p cc2,.slice lA2 q lc2] 33)=w6 at X8 a6⊢;rw[hx8]at X8⊢;have a46:=a5.trans a6;have a26:=a24.trans a46;have a06:=a2.trans a26;have I6:=I2.aft a26;have X66:=X6.aft a46;have ICa:=(IC.aft a4).aft a46;have ILa:=(IL.aft a4).aft a46;have ICb:=IC2.aft a6;have ILb:=IL2.aft a6;have h6:=h.aft a06;have hx:x6<w6.heap.size:=X66.lt
 have HAP: ∀j,Own2 cA lA j→cA2.map (fun a=>a.block)≠some j∧lA2.map (fun a=>a.block)≠some j:=fun j hj=>⟨own_apartW (IC.aft a4) (IL.aft a4) IC2 hj,own_apartW (IC.aft a4) (IL.aft a4) IL2 hj⟩
 have hs2:w.heap.size≤w2.heap.size:=a2.size;clear IC IL IC2 IL2 X6 I2 R2 a3 a4 a5 a6 a24 a46 a26 a2 h hne2 hx6 hx8;have HH:=Lib.hid h6;go_wp2
 go_loopg [10] n (fun gk iv wr=> ∃j:Nat,j+gk=n∧iv= .int .i64 j∧Aft w6 wr)
 case atStart=>exact⟨0,by omega,rfl,Aft.refl _⟩
 case round=>
  obtain⟨j,hj,rfl,av⟩:=hrel;have HJ:=Lib.hid hj;clear hj;obtain⟨-,-,-,hgB,hgl,hgf,hgc⟩:=(I6.aft av).at_
  by_cases hjn:j<n
  ·obtain⟨qb,o,rfl,_,hq,k1⟩:=(h6.aft av).at_ (i:=j) (by have:=HN.out;omega);have k2:=hgc j (by have:=HN.out;simp;omega)
   have eg:(l++[(77:Int)]).getD j 0=l.getD j 0:=by rw[List.getD_eq_getElem?_getD,List.getElem?_append_left (by have:=HN.out;omega),List.getD_eq_getElem?_getD]
   rw[eg]at k2;clear eg;generalize l.getD j 0=x at k1 k2;have hxx:(x !=x)=false:=bne_self_eq_false x
   have hj1:j<n+1:=by omega
   clear hgc;go_wp2
   go_quiet (fail)
   go_wp2
   go_roundg (n-(j+1))
   case rel=>exact⟨j+1,by have:=HJ.out;omega,by go_num,⟨av.os,av.tape,av.output,av.size,av.block⟩⟩
   case measure=>have:=HJ.out;omega
  ·have k2:=hgc n (by have:=HN.out;simp;omega)
   have e77:(l++[77]).getD n 0=77:=by rw[HN.out];simp
   rw[e77]at k2;have h1500:=h6.aft av;clear hgc e77 HJ;have X6r:=X66.aft av;have X8r:=X8.aft av;have ICr:=ICa.aft av;have ILr:=ILa.aft av;have ICs:=ICb.aft av;have ILs:=ILb.aft av;have av0:=a06.trans av;clear X66 X8 ICa ILa ICb ILb I6;obtain⟨z0,z1,z2,zf,zl⟩:=X6r.c3;obtain⟨y0,y1,y2,yf,yl⟩:=X8r.c3
   by_cases hfit:n≤1500
   ·have f1:decide ((n:Int)≤1500)=true:=decide_eq_true (by omega);rw[f1]at CF;clear f1
    go_upto_region 15 with(first
     |(go_at_call 17;refine(CF _).mono ?_;rintro r2 w2 ⟨rfl,hw2⟩;subst hw2)
     |(go_at_call 30;refine(C30' _ av0).mono ?_;rintro r7 w7 ⟨cA3,lA3,cc3,lc3,rfl,IC3,IL3,a7⟩))
    have hne0:=hne;have X11:=Blk.new w7 33 #[.int .i8 Xb,.slice cA3 p cc3,.slice lA3 q lc3];have a8:Aft w7 (w7.alloc (.cells #[.int .i8 Xb,.slice cA3 p cc3,.slice lA3 q lc3] 33)):=(Aft.refl w7).alloc _
    have HD: ∀j,Own2 cA lA j→cA2.map (fun a=>a.block)≠some j∧lA2.map (fun a=>a.block)≠some j∧cA3.map (fun a=>a.block)≠some j∧lA3.map (fun a=>a.block)≠some j:=fun j hj=>⟨(HAP j hj).1,(HAP j hj).2,own_apartW ICr ILr IC3 hj,own_apartW ICr ILr IL3 hj⟩
    obtain⟨x11,hx11⟩: ∃x,w7.heap.size=x:=⟨_,rfl⟩;generalize w7.alloc (.cells #[.int .i8 Xb,.slice cA3 p cc3,.slice lA3 q lc3] 33)=w8 at X11 a8⊢;rw[hx11]at X11⊢;have a78:=a7.trans a8
    have hown: ∀j,Own2 cA lA j→w2.heap.size≤j:=fun j hj=>by
     rcases hj with e|e
     ·exact(ICr.lt j (by rw[own_slice];exact e)).1
     ·exact(ILr.lt j (by rw[own_slice];exact e)).1
    have CH:=held_ok (w:=w8) (ba:=Xb) (bb:=Xb) (bw:=Xb) (k1:=cc) (k2:=lc) (k3:=cc2) (k4:=lc2) (k5:=cc3) (k6:=lc3) HP.out.symm HQ.out.symm HP.out.symm HQ.out.symm HP.out.symm HQ.out.symm
     ((ICr.aft a78).base (B':=0) (fun _ _=>Nat.zero_le _)) ((ILr.aft a78).base (B':=0) (fun _ _=>Nat.zero_le _)) hne0 (Nat.zero_le _) (ICs.aft a78).rd (ILs.aft a78).rd (IC3.aft a8).rd (IL3.aft a8).rd HD
     (by have:=HP.out;have:=HLN.out;have:=HN.out;omega) (by have:=HQ.out;have:=HLN.out;have:=HN.out;omega) (by have:=HP.out;have:=HLN.out;have:=HN.out;omega) (by have:=HQ.out;have:=HLN.out;have:=HN.out;omega)
    rw[show sameX (Xb,Xc,Xl) (Xb,Xc,Xl)=true by simp[sameX]]at CH;have a08:=av0.trans a78;have X68:=X6r.aft a78;have X88:=X8r.aft a78;clear z0 z1 z2 zf zl y0 y1 y2 yf yl X6r X8r ICr ILr ICs ILs IC3 IL3 a7 a8 HD HAP hne hne0 hx11;obtain⟨z0,z1,z2,zf,zl⟩:=X68.c3;obtain⟨y0,y1,y2,yf,yl⟩:=X88.c3;obtain⟨v0,v1',v2,vf,vl⟩:=X11.c3;have hE:(Xe==Xe)=true:=beq_self_eq_true Xe
    go_wp2_with(first
     |(go_at_call 20;refine CH.mono ?_;rintro r9 w9 ⟨rfl,F9⟩)
     |(go_at_call 18;refine(CA _).mono ?_;rintro r10 w10 ⟨rfl,a10⟩))
    go_ret;exact⟨rfl,Below.trans a08 (Below.trans (F9.below a08.size (fun j hj e=>by have:=hown j e;omega)) (a10.mono (Nat.le_trans a08.size F9.size)))⟩
   ·have f1:decide ((n:Int)≤1500)=false:=decide_eq_false (by omega);rw[f1]at CF
    go_wp2_with(first
     |(go_at_call 17;refine(CF _).mono ?_;rintro r2 w2 ⟨rfl,hw2⟩;subst hw2)
     |(go_at_call 18;refine(CA _).mono ?_;rintro r3 w3 ⟨rfl,a9⟩))
    go_ret;exact⟨rfl,av0.trans a9⟩
end Go.Proofs.YtllolnkkepacjaaGreat
