/- Marks set behind their own, by the program. -/
import Derived.Test.YtplpbmkdfabfpaaGreatF22
import Derived.IntWalk
set_option maxRecDepth 100000
set_option maxHeartbeats 4000000
namespace Go.Proofs.YtplpbmkdfabfpaaGreat
open Go.RowKit
theorem Marks_ok {w:World}{B B2 B3:Nat}{A V O:Option Addr}{n n2 o c cv co:Nat}{l v os:List Int}(hn:n=l.length)(hv:n2=v.length)(hnn:n2=n)(ho:o=os.length)(h:RdInts w B .u8 A l)(h2:RdInts w B2 .i8 V v)(h3:RdInts w B3 .i64 O os)(hcn:n≤c)(hl:n≤1048576)(hol:o≤1048576)(hgood:GoodO n os o):
 Calls Tryz.prog 20 #[.slice A n c,.slice V n2 cv,.slice O o co] w fun r w'=> ∃v',r= .returned (.tuple #[v',.int .i64 0])∧Ints w' w.heap.size 3 .i64 v' (mrkT l v os o)∧Below w.heap.size w w':=by
 subst hnn;have HO:=Lib.hid ho;have HNV:=Lib.hid (And.intro hn hv);have HGOOD:=Lib.hid hgood;clear ho hn hv hgood
 go_enter Tryz.func20,Tryz.ntmps20
 go_wp2_with(at_make;go_must (refine wpList_mkI ei24 w.heap.size rfl rfl n2 rfl rfl rfl rfl ?_ ?_ (Nat.le_refl _) ?_))
 ·omega
 ·unfold maxLen;omega
 intro w1 I1 g1;have b1:=(Below.refl w.heap.size w).grown g1 (Nat.le_refl _) (by simp);have hs1:=b1.size;go_wp2
 go_loopg [25] o (fun gk iv wr=> ∃(k:Nat) (M:List Int),k+gk=o∧iv= .int .i64 k∧MetIs M os n2 k∧Ints wr w.heap.size 3 .i64 (.slice (some ⟨w.heap.size,0,none⟩) n2 n2) M∧Below w.heap.size w wr)
 case atStart=>exact⟨0,_,by omega,rfl,MetIs.start _ _,I1,b1⟩
 case round=>
  clear I1 g1 b1 hs1;obtain⟨k,M,hk,rfl,hM,I,b⟩:=hrel;have HK:=Lib.hid hk;have HM:=Lib.hid hM;clear hk hM
  by_cases hlt:k<o
  ·obtain⟨oa,oo,rfl,_,_,hc⟩:=(h3.below b (.inr (Nat.le_refl _))).at_ (i:=k) (by rw[←HO.out];exact hlt);obtain⟨e1,hpn⟩:=HGOOD.out.at hlt;have HX:=Lib.hid e1;rw[e1]at hc
   have hz:M.getD (psO os k) 0=0:=by
    rcases(HM.out.2 _ hpn).1 with h|h
    ·exact h
    ·obtain⟨i,hi,he⟩:=(HM.out.2 _ hpn).2.1 h;exact absurd (he.trans e1.symm) ((HGOOD.out k hlt).2 i hi)
   clear e1;generalize psO os k=p at*;obtain⟨hMl,_,_,hgd,hgr,hfr,hce⟩:=I.at_;have hcp:=hce p (by omega);rw[hz]at hcp;clear hce hz hMl
   have hpI:(p:Int)<(n2:Int):=by omega
   go_wp2
   go_roundg (o-(k+1))
   case rel=>exact⟨k+1,M.set p 1,by have:=HK.out;omega,by go_num,HM.out.next hpn HX.out,I.set p 1,b.setCell (Nat.le_refl _) _⟩
   case measure=>have:=HK.out;omega
  ·have hkI: ¬((k:Int)<(o:Int)):=by have:=HK.out;omega
   have hbs:=b.size;clear hlt HK HM I
   go_wp2_with(go_at_call 40;refine(Clone_ok HO.out (h3.below b (.inr (Nat.le_refl _))) hol).mono ?_;rintro r2 w2 ⟨v2,rfl,I2,b2⟩)
   have b02:=b.trans (b2.mono hbs);have I2:=I2.base (B':=w.heap.size) (fun j hj=>by have:=(I2.lt j hj).1;omega);obtain⟨cA,ccap,rfl,hcc,-,-⟩:=I2.val;have hlen0:os.length=o:=HO.out.symm;rw[hlen0]at I2 hcc⊢;clear hlen0 b b2 hkI
   go_loopg [52] o (fun gk iv wr=> ∃(t:Nat) (ys:List Int),t+gk=o∧iv= .int .i64 t∧ys=mrkT l v os t∧Ints wr w.heap.size 3 .i64 (.slice cA o ccap) ys∧Below w.heap.size w wr)
   case atStart=>exact⟨0,os,by omega,rfl,rfl,I2,b02⟩
   case round=>
    clear I2 b02 hbs;obtain⟨t,ys,ht,rfl,hys,I,b⟩:=hrel;obtain⟨W0,rfl⟩: ∃W0,W0=wr:=⟨_,rfl⟩;have HT:=Lib.hid ht;have HY:=Lib.hid hys;clear ht hys;have hbs:=b.size
    by_cases hlt:t<o
    ·obtain⟨e1,hpn⟩:=HGOOD.out.at hlt;have r1:=h.below b (.inr (Nat.le_refl _));have r2:=h2.below b (.inr (Nat.le_refl _));have r3:=h3.below b (.inr (Nat.le_refl _));obtain⟨oa,oo,rfl,_,_,hc⟩:=r3.at_ (i:=t) (by rw[←HO.out];exact hlt);obtain⟨la,lo,rfl,_,_,hlc⟩:=r1.at_ (i:=psO os t) (by have:=HNV.out.1;omega);rw[e1]at hc
     have hN:mrkT l v os (t+1)=if l.getD (psO os t) 0=9 then mrkT l v os t else seg (mrkT l v os t) (frmC l v os t) t:=rfl
     have HN:=Lib.hid hN;clear hN e1
     have htI:(t:Int)≤1048576:=by omega
     by_cases h9:l.getD (psO os t) 0=9
     ·rw[h9]at hlc;have H9:=Lib.hid h9;clear h9;generalize psO os t=p at*
      have hpI:(p:Int)<(n2:Int):=by omega
      go_wp2
      go_roundg (o-(t+1))
      case rel=>exact⟨t+1,ys,by have:=HT.out;omega,by go_num,by rw[HN.out,if_pos H9.out];exact HY.out,I,b⟩
      case measure=>have:=HT.out;omega
     ·have hx9:(l.getD (psO os t) 0==9)=false:=by simpa using h9
      rw[if_neg h9]at HN;clear h9;have hff: ∀f,f<o→os.getD f 0=(psO os f:Int)∧psO os f<n2:=fun f hf=>HGOOD.out.at hf;have hfl: ∀a b,a<n2→b<n2→ ∀nq,Calls Tryz.prog 41 #[.slice (some ⟨la,lo,none⟩) n2 c,.slice V n2 cv,.int .i64 a,.int .i64 b] (W0.drewN nq) fun r w'=>r= .returned (.bool (flwB l v a b))∧ ∃m,w'=(W0.drewN nq).drewN m:=fun a b ha hb nq=>follows_ok HNV.out.1 HNV.out.2 rfl (w:=W0.drewN nq) r1 r2 hcn hl ha hb;have HFF:=Lib.hid hff;have HFL:=Lib.hid hfl;obtain⟨_,_,ec,_,_,hoc⟩:=r3.cells (by rw[←HO.out];omega);cases ec;obtain⟨_,_,ec,_,_,hll⟩:=r1.cells (by have:=HNV.out.1;omega);cases ec;have HOC:=Lib.hid hoc;have HLL:=Lib.hid hll;clear hff hfl hoc hll;generalize l.getD (psO os t) 0=x9 at hlc hx9
      go_upto_block 4 with(fail)
      go_cut [14,52] from 52 to 98 (fun fv tv wx=>fv= .int .i64 (frmC l v os t)∧tv= .int .i64 t∧ ∃nq,wx=W0.drewN nq)
      case first=>
       go_wp2
       go_loopg [14] t (fun gk fv wx=> ∃(f nq:Nat),f=gk∧f≤t∧fv= .int .i64 f∧frmC l v os t=frmC l v os f∧wx=W0.drewN nq)
       case atStart=>exact⟨t,0,rfl,Nat.le_refl _,rfl,rfl,rfl⟩
       case round=>
        obtain⟨f,nq0,hf,hft,rfl,hfr,e⟩:=hrel;have HFR:=Lib.hid hfr;have HFG:=Lib.hid hf
        have q1:RdInts wr B .u8 (some ⟨la,lo,none⟩) l:=by rw[e];exact r1
        have q2:RdInts wr B2 .i8 V v:=by rw[e];exact r2
        have qo: ∀i,i<os.length→wr.cell? ⟨oa,oo+i,none⟩=some (.int .i64 (os.getD i 0)):=by rw[e];exact HOC.out
        have ql: ∀i,i<l.length→wr.cell? ⟨la,lo+i,none⟩=some (.int .u8 (l.getD i 0)):=by rw[e];exact HLL.out
        have HE:=Lib.hid e;clear hfr hf e r1 r2 r3 hc hlc I b hbs
        rcases f with _|g
        ·have h0:decide ((0:Int)<((0:Nat):Int))=false:=by simp
         have h00:decide ((0:Int)<0)=false:=by simp
         go_wp2_with(go_quiet (fail))
         go_meet;exact⟨by rw[HFR.out];rfl,rfl,⟨nq0+nq,by rw[HE.out,World.drewN_drewN]⟩⟩
        ·obtain⟨eg,hgn⟩:=HFF.out g (by omega);obtain⟨ef,hfn⟩:=HFF.out (g+1) (by omega);have cg:=qo g (by rw[←HO.out];omega);have cf:=qo (g+1) (by rw[←HO.out];omega);have cl:=ql (psO os g) (by have:=HNV.out.1;omega);rw[eg]at cg;rw[ef]at cf
         have hfo: ∀n,Calls Tryz.prog 41 #[.slice (some ⟨la,lo,none⟩) n2 c,.slice V n2 cv,.int .i64 (psO os g),.int .i64 (psO os (g+1))] (wr.drewN n) fun r w'=>r= .returned (.bool (flwB l v (psO os g) (psO os (g+1))))∧ ∃m,w'=(wr.drewN n).drewN m:=fun n=>follows_ok HNV.out.1 HNV.out.2 rfl (w:=wr.drewN n) q1 q2 hcn hl hgn hfn
         have hN2:frmC l v os (g+1)=if l.getD (psO os g) 0=9∧flwB l v (psO os g) (psO os (g+1))=true then frmC l v os g else g+1:=rfl
         have HN2:=Lib.hid hN2;clear hN2 qo ql eg ef;generalize l.getD (psO os g) 0=x at*;generalize flwB l v (psO os g) (psO os (g+1))=fb at*;generalize psO os g=pg at*;generalize psO os (g+1)=pf at*
         have hp:((g+1:Nat):Int)=(g:Int)+1:=by omega
         rw[hp];have d0:decide ((0:Int)<(g:Int)+1)=true:=decide_eq_true (by omega)
         have hgo:(g:Int)<(o:Int):=by omega
         have hgo1:(g:Int)+1<(o:Int):=by omega
         have hg0:(0:Int)≤(g:Int)+1:=by omega
         have hgt:((g:Int)+1).toNat=g+1:=by omega
         have hpg:(pg:Int)<(n2:Int):=by omega
         have hpf:(pf:Int)<(n2:Int):=by omega
         have hw1:IntKind.i64.wrap ((g:Int)+1-1)=(g:Int):=by rw[show(g:Int)+1-1=(g:Int) by omega];exact IntWalk.i64_in _ (by omega)
         have hw2:IntKind.i64.wrap (g:Int)=(g:Int):=IntWalk.i64_in _ (by omega);clear hp
         by_cases h9:x=9
         ·have h9b:(x==9)=true:=by simp[h9]
          have H9:=Lib.hid h9;clear h9;cases fb
          ·go_wp2_with(go_quiet ((go_at_call 41;exact Calls.quiet_of (hfo _))))
           go_meet;exact⟨by rw[HFR.out,HN2.out,if_neg (by simp)];rfl,rfl,⟨nq0+nq,by rw[HE.out,World.drewN_drewN]⟩⟩
          ·go_wp2_with(go_quiet ((go_at_call 41;exact Calls.quiet_of (hfo _))))
           go_roundg g
           case rel=>exact⟨g,nq0+nq,rfl,by omega,by go_num,by rw[HFR.out,HN2.out,if_pos ⟨H9.out,trivial⟩],by rw[HE.out,World.drewN_drewN]⟩
           case measure=>have:=HFG.out;omega
         ·have h9b:(x==9)=false:=by simp[h9]
          have H9:=Lib.hid h9;clear h9
          go_wp2_with(go_quiet (fail))
          go_meet;exact⟨by rw[HFR.out,HN2.out,if_neg (fun e=>H9.out e.1)];rfl,rfl,⟨nq0+nq,by rw[HE.out,World.drewN_drewN]⟩⟩
      case rest=>
       obtain⟨rfl,rfl,nq,rfl⟩:=hcut;have hfle:=frmC_le (l:=l) (v:=v) (os:=os) t
       have hylen:ys.length=o:=by rw[HY.out,mrkT_length];exact HO.out.symm
       have HYL:=Lib.hid hylen;clear hylen HFL HFF HOC HLL hc hlc;generalize frmC l v os t=f at*;obtain⟨g,cap',e⟩:=I.form (by rw[HYL.out];omega);have HE:=Lib.hid e;obtain⟨rfl,-,-⟩:=Value.slice.inj e;clear e HE;have hrev:=Reverse_ok (f:=f) (m:=t+1-f) (c:=ccap-f) (Ints.drewN I nq) (by rw[HYL.out];omega) (by omega) (by rw[HYL.out];omega)
       have hf1:(f:Int)≤(t:Int)+1:=by omega
       have hf2:(t:Int)+1≤(ccap:Int):=by omega
       have hf3:((t:Int)+1-(f:Int)).toNat=t+1-f:=by omega
       have hf4:((t:Int)+1).toNat=t+1:=by omega
       have hf5:f≤t+1:=by omega
       have hf6:t+1≤ccap:=by omega
       have hgl:=I.lt g rfl
       go_wp2_with(go_at_call 42;refine hrev.mono ?_;rintro r5 w5 ⟨rfl,⟨zs,I5,hz1,hz2⟩,F5⟩)
       go_roundg (o-(t+1))
       case rel=>
        refine⟨t+1,zs,by have:=HT.out;omega,by go_num,?_,I5,?_⟩
        ·rw[HN.out];refine ints_ext (by rw[hz1,seg_length,HY.out]) (fun k hk=> ?_);rw[seg_length,mrkT_length,←HO.out]at hk;rw[hz2 k (by rw[HYL.out];exact hk),seg_get (by rw[mrkT_length,←HO.out];exact hk),←HY.out];unfold swapAt
         by_cases h1:f≤k∧k≤t
         ·rw[if_pos (by omega),if_pos h1,show f+(t+1-f-1-(k-f))=f+t-k by omega]
         ·rw[if_neg (by omega),if_neg h1]
        ·have b':Below w.heap.size w (W0.drewN nq):=⟨b.os,b.tape,b.output,b.size,b.block⟩;exact b'.trans (F5.below (B:=w.heap.size) b'.size (fun j hj e=>by omega))
       case measure=>have:=HT.out;omega
    ·have htI: ¬((t:Int)<(o:Int)):=by omega
     have hto:t=o:=by have:=HT.out;omega
     subst hto;go_wp2
     go_ret2
     exact⟨_,rfl,by rw[←HY.out];exact I,b⟩
end Go.Proofs.YtplpbmkdfabfpaaGreat
