/- A fold walked: the loop. -/
import Derived.Test.YtplpbmkdfabfpaaGreatF11
import Derived.WalkMore
import Derived.IntWalk
import Derived.Deep.CutRange
set_option maxRecDepth 100000
set_option maxHeartbeats 4000000
namespace Go.Proofs.YtplpbmkdfabfpaaGreat
open Go.RowKit
theorem fold_ok {w:World}{p q:Nat}{l ws:List Int}{most:Int}{a:Nat}(hp:Paper w p l ws most)(hq:Blk w q 71 #[.pointer (some ⟨p,0,none⟩)])(ha:a<(clusL l).length)(hl:l.length≤1048576)(hf:Fine ws)(hm0:0≤most):
 Calls Tryz.prog 47 #[.pointer (some ⟨p,0,none⟩),.int .i64 a,.func (.func 46) #[] #[.pointer (some ⟨q,0,none⟩)]] w fun r w'=>(∃v:Int,r= .returned (.tuple #[.int .i64 (nextC l ws most a),.int .i64 v]))∧Below w.heap.size w w':=by
 obtain⟨A,c,cA,cc,wA,wc,h1,⟨B,h2⟩,h3,h4⟩:=hp.ex;have HF:=Lib.hid hf;have hcl:=clusL_length l;have hpl:=h1.lt;have hql:=hq.lt;clear hf
 have hm:(clusL l).length≤1048576:=by omega
 go_enter Tryz.func47,Tryz.ntmps47
 go_wp2
 go_step3
 go_wp2
 go_step3
 go_wp2;have b0:=((Below.refl _ w).alloc (Nat.le_refl _) (.cells #[.int .i64 0,.int .i64 0] 145)).alloc (by simp) (.cells #[.int .i64 0,.int .i64 0] 145);have X0:=(Blk.new w 145 #[.int .i64 0,.int .i64 0]).alloc (.cells #[.int .i64 0,.int .i64 0] 145);have Y0:Blk ((w.alloc (.cells #[.int .i64 0,.int .i64 0] 145)).alloc (.cells #[.int .i64 0,.int .i64 0] 145)) (w.heap.size+1) 145 #[.int .i64 0,.int .i64 0]:=Blk.at_ (by simp)
 go_loopg [10,11,12] ((clusL l).length-a) (fun gk sv wv kv wr=> ∃(k:Nat) (x y:Int),k+gk=(clusL l).length∧a≤k∧kv= .int .i64 k∧sv= .int .i64 (PP l ws k-PP l ws a)∧wv= .int .i64 (Wd l ws a k)∧Wd l ws a k≤most∧Below w.heap.size w wr∧
  Blk wr w.heap.size 145 #[.int .i64 (lastW l ws most (mayJ l) a (k-1)),.int .i64 x]∧Blk wr (w.heap.size+1) 145 #[.int .i64 (if a<k-1 then k-1 else 0:Nat),.int .i64 y])
 case atStart=>
  refine⟨a,0,0,by omega,Nat.le_refl _,rfl,by simp,by rw[Wd_self],by rw[Wd_self];exact hm0,b0,?_,?_⟩
  ·have h:=lastW_le (l:=l) (ws:=ws) (most:=most) (ok:=mayJ l) (a:=a) (a-1)
   have h0:lastW l ws most (mayJ l) a (a-1)=0:=by
    by_cases hz:0<lastW l ws most (mayJ l) a (a-1)
    ·have:=lastW_gt _ hz;omega
    ·omega
   rw[h0];exact X0
  ·rw[if_neg (by omega)];exact Y0
 case round=>
  obtain⟨k,x,y,hk,hak,rfl,rfl,rfl,hwd,bb,X,Y⟩:=hrel;have HK:=Lib.hid hk;clear hk;have HWD:=Lib.hid hwd;clear hwd X0 Y0 b0;have hws:=bb.size
  by_cases hlt:k<(clusL l).length
  ·have k1:=h1.below bb hpl;have kq:=hq.below bb hql;have k2:=h2.below bb (.inr (Nat.le_refl _));have k3:=(h3.below bb (.inr (Nat.le_refl _))).more bb.size;have k4:=(h4.below bb (.inr (Nat.le_refl _))).more bb.size;obtain⟨ab,ao,cb,co,wb,wo,rfl,rfl,rfl,hab,hcb,hwb,hc2,hc1,hc3⟩:=Paper.at k1 k2 k3 k4 hlt;obtain⟨x0,x1,x2,x3,xf,xl⟩:=k1.c4;obtain⟨y0,y1,yf,yl⟩:=X.c2;obtain⟨z0,z1,zf,zl⟩:=Y.c2;have hpp:=hp.below bb
   go_upto_if 25 with(fail)
   go_cut [25] from 14 to 62 (fun _ wx=> ∃x y:Int,Below w.heap.size w wx∧Blk wx w.heap.size 145 #[.int .i64 (lastW l ws most (mayJ l) a k),.int .i64 x]∧Blk wx (w.heap.size+1) 145 #[.int .i64 (if a<k then k else 0:Nat),.int .i64 y])
   case first=>
    clear hc1 hc2 hc3 k1 k2 k3 k4
    by_cases hka:a<k
    ·have hkI:(a:Int)<k:=by omega
     have Y2:=(Y.set_ 0 (.int .i64 k)).set_ 1 (.int .i64 (Wd l ws a k));have G:=((Frm.refl (fun j=>j=w.heap.size+1) wr).set (j:=0) rfl (.int .i64 k)).set (j:=1) rfl (.int .i64 (Wd l ws a k));have X2:=X.frm G (by omega);have hpW:=hpp;have kq2:=kq.frm G (by omega);have hp2:Paper ((wr.setCell ⟨w.heap.size+1,0,none⟩ (.int .i64 k)).setCell ⟨w.heap.size+1,1,none⟩ (.int .i64 (Wd l ws a k))) p l ws most:=hp.below (bb.trans (G.below (B:=w.heap.size) hws (by omega)));have bb2:=bb.trans (G.below (B:=w.heap.size) hws (by omega))
     have hN:lastW l ws most (mayJ l) a k=if mayJ l k=true then k else lastW l ws most (mayJ l) a (k-1):=by
      obtain⟨k',rfl⟩: ∃k',k=k'+1:=⟨k-1,by omega⟩;rw[lastW,Nat.add_sub_cancel];have:=HWD.out
      by_cases hm:mayJ l (k'+1)=true
      ·rw[if_pos ⟨hka,hm,this⟩,if_pos hm]
      ·rw[if_neg (fun e=>hm e.2.1),if_neg hm]
     have HN:=Lib.hid hN;clear hN
     go_upto_region 8 with(fail)
     generalize hW2:(wr.setCell ⟨w.heap.size+1,0,none⟩ (.int .i64 k)).setCell ⟨w.heap.size+1,1,none⟩ (.int .i64 (Wd l ws a k))=W2 at*
     have Y3:Blk W2 (w.heap.size+1) 145 #[.int .i64 k,.int .i64 (Wd l ws a k)]:=by simpa using Y2
     have hmay:=mayF_ok kq2 hp2 hlt hl;clear hW2 G Y2 y0 y1 yf yl z0 z1 zf zl x0 x1 x2 x3 xf xl;cases hmy:mayJ l k
     ·rw[hmy]at hmay
      go_wp2_with(go_at_call 46;refine hmay.mono ?_;rintro r3 w3 ⟨rfl,b3⟩)
      go_meet;exact⟨x,_,bb2.trans (b3.mono bb2.size),by rw[HN.out,if_neg (by simp[hmy])];exact X2.below b3 X2.lt,by rw[if_pos hka];exact Y3.below b3 Y3.lt⟩
     ·rw[hmy]at hmay
      go_wp2_with(go_at_call 46;refine hmay.mono ?_;rintro r3 w3 ⟨rfl,b3⟩;have X3:=X2.below b3 X2.lt;have Y4:=Y3.below b3 Y3.lt;obtain⟨y0,y1,yf,yl⟩:=X3.c2;obtain⟨z0,z1,zf,zl⟩:=Y4.c2)
      go_meet;have G3:=frm_put2 w3 w.heap.size (.int .i64 k) (.int .i64 (Wd l ws a k));have bb3:=bb2.trans (b3.mono bb2.size);exact⟨_,_,bb3.trans (G3.below bb3.size (by omega)),by rw[HN.out,if_pos hmy];exact blk_put2 _ _ X3,by rw[if_pos hka];exact Y4.frm G3 (by omega)⟩
    ·go_wp2;go_meet;refine⟨x,y,bb,?_,?_⟩
     ·have:k=a:=by omega
      subst this
      have h0: ∀j,j≤k→lastW l ws most (mayJ l) k j=0:=fun j hj=>by
       have h:=lastW_le (l:=l) (ws:=ws) (most:=most) (ok:=mayJ l) (a:=k) j
       by_cases hz:0<lastW l ws most (mayJ l) k j
       ·have:=lastW_gt _ hz;omega
       ·omega
      rw[h0 _ (Nat.le_refl _)];rw[h0 _ (by omega)]at X;exact X
     ·rw[if_neg hka];rw[if_neg (by omega)]at Y;exact Y
   case rest=>
    obtain⟨x',y',bb',X',Y'⟩:=hcut;clear X Y k1 k2 k3 k4 kq hpp hc1 hc2 hc3 y0 y1 yf yl z0 z1 zf zl x0 x1 x2 x3 xf xl hab hcb hwb;have k1:=h1.below bb' hpl;have k2:=h2.below bb' (.inr (Nat.le_refl _));have k3:=(h3.below bb' (.inr (Nat.le_refl _))).more bb'.size;have k4:=(h4.below bb' (.inr (Nat.le_refl _))).more bb'.size;obtain⟨ab',ao',cb',co',wb',wo',e1,e2,e3,hab,hcb,hwb,hc2,hc1,hc3⟩:=Paper.at k1 k2 k3 k4 hlt;cases e1;cases e2;cases e3;obtain⟨x0,x1,x2,x3,xf,xl⟩:=k1.c4;have hpz:=(posC_lt hlt).2;have hB1:=PP_bound (l:=l) HF.out hl (j:=k) (by omega);have hB2:=PP_bound (l:=l) HF.out hl (j:=k+1) (by omega);have hB3:=PP_bound (l:=l) HF.out hl (j:=a) (by omega);have hB4:=PP_le (l:=l) HF.out (show k≤k+1 by omega) (by omega);have hB5:=PP_le (l:=l) HF.out (show a≤k by omega) (by omega)
    have hWN:Wd l ws a (k+1)=if blkC (l.getD (posC l k) 0)=true then Wd l ws a k else PP l ws (k+1)-PP l ws a:=by rw[Wd,if_neg (by omega)];rfl
    have hstop:=fun(h1:blkC (l.getD (posC l k) 0)=false) (h2:most<PP l ws (k+1)-PP l ws a)=>nextC_stop (l:=l) (ws:=ws) (most:=most) HF.out hak hlt HWD.out h1 h2
    have hkm1:k+1-1=k:=by omega
    have HWN:=Lib.hid hWN;have HST:=Lib.hid hstop;clear hWN hstop k1 k2 k3 k4;generalize hG0:PP l ws k=s0 at*;generalize hG1:PP l ws (k+1)=s1 at*;generalize hG2:PP l ws a=s2 at*;generalize l.getD (posC l k) 0=cx at*;generalize posC l k=pk at*;have HG:=Lib.hid (And.intro hG0 (And.intro hG1 hG2));clear hG0 hG1 hG2;have hb: ∀W:World,Calls Tryz.prog 72 #[.int .u8 cx] W fun r w'=>r= .returned (.bool (blkC cx))∧W=w':=fun W=>blankF_ok W _
    have hsum:IntKind.i64.wrap (s0-s2+(s1-s0))=s1-s2:=by rw[show s0-s2+(s1-s0)=s1-s2 by omega];exact IntWalk.i64_in _ (by omega)
    go_upto_region 11 with(fail)
    go_quiet ((go_at_call 72;exact Calls.quiet_of_same (same_of (hb _))))
    cases hcx:blkC cx
    ·by_cases hgt:most<s1-s2
     ·have hnx:=HST.out hcx hgt;obtain⟨y0,y1,yf,yl⟩:=(X'.drewN nq).c2;obtain⟨z0,z1,zf,zl⟩:=(Y'.drewN nq).c2
      have hkmI:((k:Int)==((clusL l).length:Int))=false:=by simp;omega
      have bbq:Below w.heap.size w (wc.drewN nq):=⟨bb'.os,bb'.tape,bb'.output,bb'.size,bb'.block⟩;have hlo:=lone_ok (w:=wc.drewN nq) (hp.below bbq) ha hl;clear x0 x1 x2 x3 xf xl;obtain⟨x0,x1,x2,x3,xf,xl⟩:=(h1.below bbq hpl).c4;generalize hLW:lastW l ws most (mayJ l) a k=L at*;clear X' Y' bb' hc1 hc2 hc3;generalize wc.drewN nq=W at*
      by_cases hL:0<L
      ·rw[if_pos hL]at hnx;have HNX:=Lib.hid hnx
       have hLI:(0:Int)<(L:Int):=by omega
       clear hnx HST hlo hLW
       go_wp2_with(go_quiet (fail))
       try rw[Exit.noGoto_ret]
       go_ret2
       exact⟨⟨x',by rw[HNX.out];rfl⟩,⟨bbq.os,bbq.tape,bbq.output,bbq.size,bbq.block⟩⟩
      ·have hL0:L=0:=by omega
       have hLI: ¬((0:Int)<(L:Int)):=by omega
       rw[if_neg hL]at hnx
       by_cases hak2:a<k
       ·rw[if_pos hak2]at hnx z0;have HNX:=Lib.hid hnx
        have hkI:(0:Int)<(k:Int):=by omega
        clear hnx HST hlo hLW hL0
        go_wp2_with(go_quiet (fail))
        try rw[Exit.noGoto_ret]
        go_ret2
        exact⟨⟨y',by rw[HNX.out];rfl⟩,⟨bbq.os,bbq.tape,bbq.output,bbq.size,bbq.block⟩⟩
       ·rw[if_neg hak2]at hnx z0;have HNX:=Lib.hid hnx;clear hnx HST hLW hL0
        go_wp2_with(go_at_call 74;refine hlo.mono ?_;rintro r5 w5 ⟨⟨v5,rfl⟩,b5⟩)
        try rw[Exit.noGoto_ret]
        go_ret2
        exact⟨⟨v5,by rw[HNX.out];rfl⟩,bbq.trans (b5.mono bbq.size)⟩
     ·have hnx:s1-s2≤most:=by omega
      go_wp2
      go_roundg ((clusL l).length-(k+1))
      case rel=>
       refine⟨k+1,x',y',by have:=HK.out;omega,by omega,by go_num,by rw[HG.out.2.1],?_,?_,⟨bb'.os,bb'.tape,bb'.output,bb'.size,bb'.block⟩,by rw[hkm1];exact X'.drewN nq,by rw[hkm1];exact Y'.drewN nq⟩
       ·rw[HWN.out,if_neg (by simp[hcx])]
       ·rw[HWN.out,if_neg (by simp[hcx])];exact hnx
      case measure=>have:=HK.out;omega
    ·go_wp2
     go_roundg ((clusL l).length-(k+1))
     case rel=>
      refine⟨k+1,x',y',by have:=HK.out;omega,by omega,by go_num,by rw[HG.out.2.1],?_,?_,⟨bb'.os,bb'.tape,bb'.output,bb'.size,bb'.block⟩,by rw[hkm1];exact X'.drewN nq,by rw[hkm1];exact Y'.drewN nq⟩
      ·rw[HWN.out,if_pos (by first|trivial|exact hcx)]
      ·rw[HWN.out,if_pos (by first|trivial|exact hcx)];exact HWD.out
     case measure=>have:=HK.out;omega
  ·have hkm:k=(clusL l).length:=by have:=HK.out;omega
   have hnx:=nextC_end (l:=l) (ws:=ws) (most:=most) (a:=a) (by rw[←hkm];exact HWD.out);have HNX:=Lib.hid hnx;have HKM:=Lib.hid hkm
   have hkI: ¬((k:Int)<((clusL l).length:Int)):=by omega
   have hkI2:((k:Int)==((clusL l).length:Int))=true:=by simp;omega
   obtain⟨x0,x1,x2,x3,xf,xl⟩:=(h1.below bb hpl).c4;clear hnx hkm;go_wp2
   try rw[Exit.noGoto_ret]
   go_ret2
   exact⟨⟨_,by rw[HNX.out,←HKM.out];rfl⟩,bb⟩
end Go.Proofs.YtplpbmkdfabfpaaGreat
