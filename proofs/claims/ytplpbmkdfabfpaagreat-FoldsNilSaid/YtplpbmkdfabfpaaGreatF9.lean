/- A text that is cut: its clusters and their widths. -/
import Derived.Test.YtplpbmkdfabfpaaGreatF8
import Derived.Deep.CutRange
set_option maxRecDepth 100000
set_option maxHeartbeats 4000000
namespace Go.Proofs.YtplpbmkdfabfpaaGreat
open Go.RowKit
def cwT (l ws:List Int):Nat→List Int
 |0=>[]
 |k+1=>cwT l ws k++[PP l ws (k+1)-PP l ws k]
def cwL (l ws:List Int):List Int:=cwT l ws (clusL l).length
theorem cwT_length (l ws:List Int): ∀k,(cwT l ws k).length=k
 |0=>rfl
 |k+1=>by rw[cwT,List.length_append,cwT_length l ws k];rfl
theorem cwT_get (l ws:List Int): ∀n k,k<n→(cwT l ws n).getD k 0=PP l ws (k+1)-PP l ws k
 |0,k,h=>by omega
 |n+1,k,h=>by
  have hlen:=cwT_length l ws n;rw[cwT,List.getD_eq_getElem?_getD]
  by_cases hk:k<n
  ·rw[List.getElem?_append_left (by omega),←List.getD_eq_getElem?_getD];exact cwT_get l ws n k hk
  ·obtain rfl:k=n:=by omega
   rw[List.getElem?_append_right (by omega),hlen,Nat.sub_self];rfl
theorem psum_bnd {ws:List Int}(h:Fine ws)(hl:ws.length≤1048576){k:Nat}(hk:k≤ws.length):0≤psum ws k∧psum ws k≤1099511627776:=by have:=psum_bound h k;omega
structure Paper (W:World) (p:Nat) (l ws:List Int) (most:Int):Prop where
 ex: ∃A c cA cc wA wc,Blk W p 77 #[.slice A l.length c,.slice cA (clusL l).length cc,.slice wA (clusL l).length wc,.int .i64 most]∧(∃B,RdInts W B .u8 A l)∧RdInts W W.heap.size .i64 cA (clusL l)∧RdInts W W.heap.size .i64 wA (cwL l ws)
theorem Paper.below {W W':World}{p:Nat}{l ws:List Int}{most:Int}(h:Paper W p l ws most)(hb:Below W.heap.size W W'):Paper W' p l ws most:=by obtain⟨A,c,cA,cc,wA,wc,h1,⟨B,h2⟩,h3,h4⟩:=h.ex;exact⟨A,c,cA,cc,wA,wc,h1.below hb h1.lt,⟨B,h2.below hb (.inr (Nat.le_refl _))⟩,(h3.below hb (.inr (Nat.le_refl _))).more hb.size,(h4.below hb (.inr (Nat.le_refl _))).more hb.size⟩
theorem Paper.lt {W:World}{p:Nat}{l ws:List Int}{most:Int}(h:Paper W p l ws most):p<W.heap.size:=by obtain⟨A,c,cA,cc,wA,wc,h1,-⟩:=h.ex;exact h1.lt
theorem open_ok {w:World}{B B2:Nat}{A A2:Option Addr}{n c c2:Nat}{l ws:List Int}{most:Int}(hn:n=l.length)(hw:n=ws.length)(h:RdInts w B .u8 A l)(h2:RdInts w B2 .i64 A2 ws)(hc2:n≤c2)(hl:n≤1048576)(hf:Fine ws)(hm0:0≤most)(hm1:most≤1099511627776):
 Calls Tryz.prog 22 #[.slice A n c,.slice A2 n c2,.int .i64 most] w fun r w'=> ∃p,r= .returned (.tuple #[.pointer (some ⟨p,0,none⟩),.int .i64 0])∧Paper w' p l ws most∧w.heap.size≤p∧Below w.heap.size w w':=by
 subst hn;have HW:=Lib.hid hw;have HF:=Lib.hid hf;have hcl:=clusL_length l;clear hw hf
 go_enter Tryz.func22,Tryz.ntmps22
 go_wp2_with(first
  |(go_at_call 44;refine(contains_bad HW.out h2 hl).mono ?_;rintro r1 w1 ⟨z,rfl,hz,rfl⟩;obtain rfl:=hz.1 HF.out)
  |(go_at_call 10;refine(Clusters_ok h hl).mono ?_;rintro r1 w1 ⟨v1,rfl,I1,b1⟩;obtain⟨cA,cc,rfl,_,_,rd1⟩:=I1.val))
 have hs1:=b1.size;clear I1;have PB:=Blk.new w1 77 #[.slice A l.length c,.slice cA (clusL l).length cc,.slice none 0 0,.int .i64 most];have bb0:Below w.heap.size w (w1.alloc (.cells #[.slice A l.length c,.slice cA (clusL l).length cc,.slice none 0 0,.int .i64 most] 77)):=b1.alloc hs1 _;have bb1:Below w1.heap.size w1 (w1.alloc (.cells #[.slice A l.length c,.slice cA (clusL l).length cc,.slice none 0 0,.int .i64 most] 77)):=(Below.refl _ _).alloc (Nat.le_refl _) _
 have hs2:(w1.alloc (.cells #[.slice A l.length c,.slice cA (clusL l).length cc,.slice none 0 0,.int .i64 most] 77)).heap.size=w1.heap.size+1:=by simp
 generalize hW:w1.alloc (.cells #[.slice A l.length c,.slice cA (clusL l).length cc,.slice none 0 0,.int .i64 most] 77)=W at*;have HS2:=Lib.hid hs2;clear hW hs2;have hpos: ∀j,j<(clusL l).length→(clusL l).getD j 0=(posC l j:Int)∧posC l j<l.length:=fun j hj=>posC_lt hj;have HP:=Lib.hid hpos;clear hpos;generalize hm:(clusL l).length=m at*;have HM:=Lib.hid hm;clear hm
 go_loopg [44] m (fun gk iv wr=> ∃(k:Nat) (vw:Value),k+gk=m∧iv= .int .i64 k∧Blk wr w1.heap.size 77 #[.slice A l.length c,.slice cA m cc,vw,.int .i64 most]∧Ints wr (w1.heap.size+1) 3 .i64 vw (cwT l ws k)∧Below w.heap.size w wr∧Below w1.heap.size w1 wr)
 case atStart=>exact⟨0,_,by omega,rfl,PB,Ints.nil _ _ _ _,bb0,bb1⟩
 case round=>
  clear PB bb0 bb1;obtain⟨k,vw,hk,rfl,PB,I,bb0,bb1⟩:=hrel;have HK:=Lib.hid hk;clear hk;have rdc:=rd1.below bb1 (.inr (Nat.le_refl _));have hbs:=bb1.size
  by_cases hlt:k<m
  ·have hck:=rdc.at_ (i:=k) (by rw[HM.out];exact hlt);obtain⟨ca,co,rfl,hca,hcs,hc0⟩:=hck;obtain⟨hp1,hp2⟩:=HP.out k hlt;rw[hp1]at hc0
   have hto:posC l (k+1)≤l.length:=by
    have:=posC_le (l:=l) (i:=k+1) (j:=(clusL l).length) (by rw[HM.out];omega) (Nat.le_refl _)
    rwa [posC_end]at this
   have hfr:posC l k<posC l (k+1):=posC_mono (by omega) (by rw[HM.out];omega);obtain⟨sA,scap,rfl,-,-,-⟩:=I.val;have hlen:=cwT_length l ws k;have HLEN:=Lib.hid hlen;have hN:cwT l ws (k+1)=cwT l ws k++[PP l ws (k+1)-PP l ws k]:=rfl;have HN:=Lib.hid hN;have hsum:PP l ws (k+1)=psum ws (posC l (k+1))∧PP l ws k=psum ws (posC l k):=⟨rfl,rfl⟩;have HSUM:=Lib.hid hsum;obtain⟨x0,x1,x2,x3,xf,xl⟩:=PB.c4;rw[HLEN.out]at x2 I PB;clear hlen hN hsum hp1
   have hcell1:k+1<m→wr.cell? ⟨ca,co+(k+1),none⟩=some (.int .i64 (posC l (k+1))):=fun hk1=>by obtain⟨b',o',e,_,_,hc⟩:=rdc.cells (by rw[HM.out];omega);cases e;rw[hc (k+1) (by rw[HM.out];exact hk1),(HP.out (k+1) hk1).1]
   have hend: ¬k+1<m→posC l (k+1)=l.length:=fun hk1=>by rw[show k+1=(clusL l).length by rw[HM.out];omega];exact posC_end l
   have HC1:=Lib.hid hcell1;have HE1:=Lib.hid hend;clear hcell1 hend;generalize hp1:posC l (k+1)=p1 at*;generalize hp0:posC l k=p0 at*;have HP0:=Lib.hid (And.intro hp0 hp1);clear hp0 hp1
   go_upto_if 58 with(fail)
   go_cut [11,44,58] from 44 to 90 (fun a b _ wx=>a= .int .i64 p1∧b= .int .i64 k∧wx=wr)
   case first=>
    by_cases hk1:k+1<m
    ·have hc1:=HC1.out hk1
     have hkI:(k:Int)+1<m:=by omega
     have hkI0:(0:Int)≤(k:Int)+1:=by omega
     have hkI2:((k:Int)+1).toNat=k+1:=by omega
     go_wp2;go_meet;exact⟨rfl,rfl,rfl⟩
    ·have hkI: ¬((k:Int)+1<m):=by omega
     have hp:=HE1.out hk1;go_wp2;go_meet;exact⟨by rw[hp],rfl,rfl⟩
   case rest=>
    obtain⟨rfl,rfl,rfl⟩:=hcut;have rdw:=h2.below bb0 (.inr (Nat.le_refl _));obtain⟨wa,wo,rfl,_,hwl,hcw⟩:=rdw.cells (by have:=HW.out;omega);have HCW:=Lib.hid hcw
    have hq1:(p0:Int)≤(p1:Int):=by omega
    have hq2:(p1:Int)≤(c2:Int):=by omega
    have hq3:((p1:Int)-(p0:Int)).toNat=p1-p0:=by omega
    have hq4:p0≤p1:=by omega
    have hq5:p1≤c2:=by omega
    clear hcw hc0;have hsm: ∀i,i<p1-p0→psum ws (p0+(i+1))=psum ws (p0+i)+ws.getD (p0+i) 0:=fun i _=>rfl
    have hbnd: ∀i,i≤p1-p0→psum ws p0≤psum ws (p0+i)∧0≤psum ws p0∧psum ws (p0+i)≤1099511627776:=fun i hi=>by have h1:=psum_le HF.out (show p0≤p0+i by omega);have h2:=psum_bnd HF.out (k:=p0) (by rw[←HW.out];exact hl) (by rw[←HW.out];omega);have h3:=psum_bnd HF.out (k:=p0+i) (by rw[←HW.out];exact hl) (by rw[←HW.out];omega);omega
    have HSM:=Lib.hid hsm;have HBND:=Lib.hid hbnd;clear hsm hbnd;go_wp2
    go_loopg [12,72] (p1-p0) (fun gk sv iv wx=> ∃i:Nat,i+gk=p1-p0∧iv= .int .i64 i∧sv= .int .i64 (psum ws (p0+i)-psum ws p0)∧wx=wc)
    case atStart=>exact⟨0,by omega,rfl,by simp,rfl⟩
    case round=>
     obtain⟨i,hi,rfl,rfl,rfl⟩:=hrel;have HI:=Lib.hid hi;clear hi
     by_cases hil:i<p1-p0
     ·have hcw:=HCW.out (p0+i) (by have:=HW.out;omega);have hsm:=HSM.out i hil;have hb1:=HBND.out i (by omega);have hb2:=HBND.out (i+1) (by omega);rw[hsm]at hb2
      have hadd:wo+(p0+i)=wo+p0+i:=by omega
      rw[hadd]at hcw;have HSM2:=Lib.hid hsm;clear hsm hadd;generalize ws.getD (p0+i) 0=x at*;generalize psum ws (p0+i)=y at*;generalize hz0:psum ws p0=z0 at*
      have hw1: -9223372036854775808≤y-z0+x∧y-z0+x≤9223372036854775807:=by omega
      go_wp2
      go_roundg (p1-p0-(i+1))
      case rel=>exact⟨i+1,by have:=HI.out;omega,by go_num,by rw[HSM2.out];congr 1;omega,rfl⟩
      case measure=>have:=HI.out;omega
     ·have hil:i=p1-p0:=by have:=HI.out;omega
      have hq:psum ws (p0+i)-psum ws p0=PP l ws (k+1)-PP l ws k:=by rw[HSUM.out.1,HSUM.out.2,hil,show p0+(p1-p0)=p1 by omega,←HP0.out.1,←HP0.out.2,HP0.out.1,HP0.out.2]
      have hilI: ¬((i:Int)<((p1-p0:Nat):Int)):=by omega
      rw[hq];clear hq hil;generalize hQ:PP l ws (k+1)-PP l ws k=q at*;have HQ:=Lib.hid hQ;clear hQ;have hpl:=PB.lt
      go_wp2_with(at_builtin;go_must (refine wpList_appI ei24 rfl rfl rfl (I.alloc _) rfl (Blk.at_ (by simp)) ?_ ?_ ?_ ?_))
      ·have:=HLEN.out;unfold maxLen;omega
      ·have:=HLEN.out;omega
      intro g cap2 w2 I2 g2 hg
      have hne:some w1.heap.size≠(Value.slice sA k scap).ownBlock:=fun e=>by have:=(I.lt _ e.symm).1;omega
      have PB2:=(PB.alloc (.cells #[.int .i64 q] 3)).grown g2 hne;obtain⟨y0,y1,y2,y3,yf,yl⟩:=PB2.c4;have hgl:=I2.lt g rfl;have bA:=(bb0.alloc bb0.size (.cells #[.int .i64 q] 3)).grown g2 (by have:=bb0.size;simp;omega) (fun j hj=>by have:=(I.lt j hj).1;omega);have bB:=(bb1.alloc bb1.size (.cells #[.int .i64 q] 3)).grown g2 (by have:=bb1.size;simp;omega) (fun j hj=>by have:=(I.lt j hj).1;omega);clear x0 x1 x2 x3 xf xl;go_wp2;have G:=(Frm.refl (fun j=>j=w1.heap.size) w2).set (j:=2) rfl (.slice (some ⟨g,0,none⟩) ((cwT l ws k).length+1) cap2)
      go_roundg (m-(k+1))
      case rel=>refine⟨k+1,.slice (some ⟨g,0,none⟩) ((cwT l ws k).length+1) cap2,by have:=HK.out;omega,by go_num,PB2.set_ 2 _,?_,bA.trans (G.below bA.size (fun j hj e=>by omega)),bB.trans (G.below bB.size (fun j hj e=>by omega))⟩;rw[HN.out];exact I2.frm G (fun j hj e=>by have:=(I2.lt j hj).1;omega)
      case measure=>have:=HK.out;omega
  ·have hkm:k=m:=by have:=HK.out;omega
   subst hkm;go_wp2
   go_ret2
   obtain⟨sA,scap,rfl,-,-,-⟩:=I.val;rw[cwT_length]at PB;refine⟨_,rfl,⟨A,c,cA,cc,sA,scap,?_,⟨_,h.below bb0 (.inr (Nat.le_refl _))⟩,rdc.more bb1.size,?_⟩,hs1,bb0⟩
   ·rw[HM.out];exact PB
   ·unfold cwL;rw[HM.out];exact I.rd
end Go.Proofs.YtplpbmkdfabfpaaGreat
