/- The reference's Sequences walked. -/
import Derived.Test.YtllolnkkepacjaaGreatSp4
import Derived.Test.YtllolnkkepacjaaGreatH6
import Derived.Test.YtllolnkkepacjaaGreatX5
set_option maxRecDepth 100000
set_option maxHeartbeats 8000000
namespace Go.Proofs.YtllolnkkepacjaaGreat
open Go.RowKit
attribute [local go_sem] Oper.semAt_some
structure SqN (q:Nat) (lv:Int) (W:World) (ps cs:List Int) (pv cv:Value):Prop where
 blk:Blk W q 87 #[pv,cv,.int .i8 lv,.int .u8 0,.int .u8 0]
 I:Ints W (q+1) 3 .i64 pv ps
 J:Ints W (q+1) 22 .u8 cv cs
 ne: ∀j,pv.ownBlock=some j→cv.ownBlock≠some j
theorem SqN.drew {q:Nat}{lv:Int}{W:World}{ps cs:List Int}{pv cv:Value}(h:SqN q lv W ps cs pv cv):SqN q lv W.drew ps cs pv cv:=⟨h.blk,h.I,h.J,h.ne⟩
theorem SqN.drewN {q:Nat}{lv:Int}{W:World}{ps cs:List Int}{pv cv:Value}(h:SqN q lv W ps cs pv cv)(n:Nat):SqN q lv (W.drewN n) ps cs pv cv:=⟨h.blk,h.I,h.J,h.ne⟩
theorem SqN.alloc {q:Nat}{lv:Int}{W:World}{ps cs:List Int}{pv cv:Value}(h:SqN q lv W ps cs pv cv)(o:Obj):SqN q lv (W.alloc o) ps cs pv cv:=⟨h.blk.alloc o,h.I.alloc o,h.J.alloc o,h.ne⟩
theorem SqN.ne1 {q:Nat}{lv:Int}{W:World}{ps cs:List Int}{pv cv:Value}(h:SqN q lv W ps cs pv cv):some q≠pv.ownBlock:=fun e=>by have:=(h.I.lt _ e.symm).1;omega
theorem SqN.ne2 {q:Nat}{lv:Int}{W:World}{ps cs:List Int}{pv cv:Value}(h:SqN q lv W ps cs pv cv):some q≠cv.ownBlock:=fun e=>by have:=(h.J.lt _ e.symm).1;omega
theorem SqN.step1 {q:Nat}{lv:Int}{wr:World}{ps ps' cs:List Int}{pv pv' cv:Value}(h:SqN q lv wr ps cs pv cv){w3:World}(I3:Ints w3 (q+1) 3 .i64 pv' ps')
 (g3:wr.grownBy w3 pv.ownBlock) (hg:pv'.ownBlock=pv.ownBlock∨pv'.ownBlock=some wr.heap.size):SqN q lv (w3.setCell ⟨q,0,none⟩ pv') ps' cs pv' cv:=by
 have hf:=(Frm.refl (fun k=>k=q) w3).set (b:=q) (j:=0) rfl pv';refine⟨by simpa using(h.blk.grown g3 h.ne1).set_ 0 pv',I3.frm hf (fun j e=>by have:=(I3.lt j e).1;omega),(h.J.kept g3 ?_).frm hf (fun j e=>by have:=(h.J.lt j e).1;omega),?_⟩
 ·rcases hc:cv.ownBlock with _|j
  ·exact .inl rfl
  ·right;intro e;exact h.ne j e.symm hc
 ·intro j e e2
  rcases hg with e3|e3
  ·exact h.ne j (e3▸e) e2
  ·rw[e3]at e;have:=(h.J.lt _ e2).2
   have:wr.heap.size=j:=by simpa using e
   omega
theorem SqN.step2 {q:Nat}{lv:Int}{wr:World}{ps cs cs':List Int}{pv cv cv':Value}(h:SqN q lv wr ps cs pv cv){w3:World}(J3:Ints w3 (q+1) 22 .u8 cv' cs')
 (g3:wr.grownBy w3 cv.ownBlock) (hg:cv'.ownBlock=cv.ownBlock∨cv'.ownBlock=some wr.heap.size):SqN q lv (w3.setCell ⟨q,1,none⟩ cv') ps cs' pv cv':=by
 have hf:=(Frm.refl (fun k=>k=q) w3).set (b:=q) (j:=1) rfl cv';refine⟨by simpa using(h.blk.grown g3 h.ne2).set_ 1 cv',(h.I.kept g3 ?_).frm hf (fun j e=>by have:=(h.I.lt j e).1;omega),J3.frm hf (fun j e=>by have:=(J3.lt j e).1;omega),?_⟩
 ·rcases hc:pv.ownBlock with _|j
  ·exact .inl rfl
  ·right;intro e;exact h.ne j hc e.symm
 ·intro j e e2
  rcases hg with e3|e3
  ·exact h.ne j e (e3▸e2)
  ·rw[e3]at e2;have:=(h.I.lt _ e).2
   have:wr.heap.size=j:=by simpa using e2
   omega
theorem r15Match_n {w:World}{B:Nat}{A:Option Addr}{c n:Nat}{l:List Int}(hn:n=l.length)(h:RdInts w B .u8 A l)(hl:n≤8388608):
 Calls Tryz.prog 130 #[.slice A n c] w fun r w'=> ∃g,r= .returned (.slice (some ⟨g,0,none⟩) n n)∧Ints w' w.heap.size 3 .i64 (.slice (some ⟨g,0,none⟩) n n) (matchL l)∧Below w.heap.size w w':=by
 subst hn;exact r15Match_any h.small (Nat.le_refl _) hl
def outK (cl nw lv:List Int)(base:Int)(k:Nat):List Sq:=((List.range k).filter (leadB (rnL lv cl).length (nxQ lv cl))).map (sqL cl nw lv base)
theorem outK_succ (cl nw lv:List Int)(base:Int)(k:Nat):outK cl nw lv base (k+1)=if leadB (rnL lv cl).length (nxQ lv cl) k=true then outK cl nw lv base k++[sqL cl nw lv base k]else outK cl nw lv base k:=by
 unfold outK;rw[List.range_succ,List.filter_append]
 by_cases h:leadB (rnL lv cl).length (nxQ lv cl) k=true
 ·rw[if_pos h,List.filter_cons,if_pos h];simp
 ·rw[if_neg h,List.filter_cons,if_neg h];simp
theorem lnk_lt {cl:List Int}{l:List Int}(h:Lnk (GapR cl) l): ∀k,k<l.length→l.getD 0 0+k≤l.getD k 0
 |0,_=>by simp
 |k+1,hk=>by
  have ih:=lnk_lt h k (by omega);have:=(h k hk).1;omega
theorem plL_length {lv cl:List Int}{i:Nat}(h:i<(rnL lv cl).length):(plL lv cl i).length≤cl.length∧0<(plL lv cl i).length:=by
 obtain⟨t,ht⟩:=plL_ne h
 have hp:0<(plL lv cl i).length:=by rw[ht];simp
 have h1:=lnk_lt (plL_lnk h) ((plL lv cl i).length-1) (by omega);obtain⟨a,ea,la,_⟩:=plL_at h (getD_mem0 (0:Int) hp);obtain⟨b,eb,lb,_⟩:=plL_at h (getD_mem0 (0:Int) (show(plL lv cl i).length-1<(plL lv cl i).length by omega));omega
theorem plL_go {lv cl:List Int}{i:Nat}(h:i<(rnL lv cl).length):(nxQ lv cl i= -1→plL lv cl i=grpAt lv cl i)∧ ∀j:Nat,nxQ lv cl i=j→plL lv cl i=grpAt lv cl i++plL lv cl j:=by
 constructor
 ·intro e;unfold plL;rw[ch_neg nxQ_good h e,List.flatMap_cons,List.flatMap_nil,List.append_nil]
 ·intro j e;unfold plL;rw[ch_go nxQ_good h e,List.flatMap_cons]
theorem clsP_take {nw P:List Int}{i:Nat}(h:i<P.length):clsP nw (P.take (i+1))=clsP nw (P.take i)++[clsC (lvAt nw (P.getD i 0))]:=by rw[List.take_succ_eq_append_getElem h,clsP_snoc,List.getD_eq_getElem?_getD,List.getElem?_eq_getElem h];rfl
theorem r17Seq_ok {w:World}{B0 B1 B2 n c0 c1 c2:Nat}{A0 A1 A2:Option Addr}{cl nw lv:List Int}(base:Int)(hn:n=cl.length)(hn1:n=nw.length)(hn2:n=lv.length)
 (h0:RdInts w B0 .u8 A0 cl) (h1:RdInts w B1 .u8 A1 nw) (h2:RdInts w B2 .i8 A2 lv) (hb:base=0∨base=1) (hl:n≤1048576) (hgood:(keptL cl).any (badK lv nw)=false):
 Calls Tryz.prog 85 #[.slice A0 n c0,.slice A1 n c1,.slice A2 n c2,.int .i8 base] w fun r w'=> ∃ov,r= .returned (.tuple #[ov,.int .i64 0])∧SqsOwn w' w.heap.size ov ((leads (rnL lv cl).length (nxQ lv cl)).map (sqL cl nw lv base))∧Below w.heap.size w w':=by
 have hgood2: ∀a,a<n→remC (cl.getD a 0)=false→0≤lv.getD a 0∧lv.getD a 0≤126∧remC (nw.getD a 0)=false:=fun a ha hr=>by
  have hm:(a:Int)∈keptL cl:=keptL_mem.2 ⟨a,rfl,by omega,hr⟩;have:=List.any_eq_false.1 hgood _ hm;unfold badK lvAt at this;rw[Int.toNat_natCast]at this;simp only[Bool.or_eq_true,decide_eq_true_eq,not_or]at this;refine⟨by omega,by omega,?_⟩
  rcases e:remC (nw.getD a 0)with _|_
  ·rfl
  ·exact absurd e this.2
 have HN:=Lib.hid hn;have HN1:=Lib.hid hn1;have HN2:=Lib.hid hn2;have HGD:=Lib.hid hgood2
 have hm8:(rnL lv cl).length≤n:=by have:=(runs_good lv cl).len;show(runL lv (keptL cl)).length≤_;omega
 have hE:((n:Int) !=(n:Int))=false:=bne_self_eq_false _
 have hb0:(base !=0 && base !=1)=false:=by rcases hb with rfl|rfl<;>rfl
 clear hn hn1 hn2 hgood2 hgood
 go_enter Tryz.func85,Tryz.ntmps85
 go_upto_region 1 with(fail)
 go_cut [43] from 24 to 43 (fun cv wx=>cv= .bool false∧w=wx)
 case first=>
  rcases hb with rfl|rfl
  all_goals
   go_wp2;go_meet;exact⟨rfl,rfl⟩
 case rest=>
  obtain⟨rfl,hw⟩:=hcut;subst hw;clear hE hb0;go_wp2
  go_loopg [10] n (fun gk iv wr=> ∃k:Nat,k+gk=n∧iv= .int .i64 k∧wr=w)
  case atStart=>exact⟨0,by omega,rfl,rfl⟩
  case round=>
   obtain⟨k,hk,rfl,hw⟩:=hrel;subst hw;have HK:=Lib.hid hk;clear hk
   by_cases hlt:k<n
   ·obtain⟨b0,o0,rfl,_,hb0,k0⟩:=h0.at_ (i:=k) (by have:=HN.out;omega);obtain⟨b1,o1,rfl,_,hb1,k1⟩:=h1.at_ (i:=k) (by have:=HN1.out;omega);obtain⟨b2,o2,rfl,_,hb2,k2⟩:=h2.at_ (i:=k) (by have:=HN2.out;omega);have hgk:=HGD.out k hlt;generalize cl.getD k 0=x0 at*;generalize nw.getD k 0=x1 at*;generalize lv.getD k 0=x2 at*
    rcases hr:remC x0 with _|_
    ·obtain⟨g1,g2,g3⟩:=hgk hr
     have hg1: ¬x2<0:=by omega
     have hg2: ¬126<x2:=by omega
     have G1:decide (x2<0)=false:=decide_eq_false hg1;have G2:decide (126<x2)=false:=decide_eq_false hg2;clear hgk hg1 hg2
     go_wp2_with(go_at_call 34;refine(rRemoved_ok _ _).mono ?_;rintro r1 w1 ⟨rfl,rfl⟩)
     go_roundg (n-(k+1))
     case rel=>exact⟨k+1,by have:=HK.out;omega,by go_num,rfl⟩
     case measure=>have:=HK.out;omega
    ·clear hgk
     go_wp2_with(go_at_call 34;refine(rRemoved_ok _ _).mono ?_;rintro r1 w1 ⟨rfl,rfl⟩)
     go_roundg (n-(k+1))
     case rel=>exact⟨k+1,by have:=HK.out;omega,by go_num,rfl⟩
     case measure=>have:=HK.out;omega
   ·have hkn:k=n:=by have:=HK.out;omega
    clear HK hlt;subst hkn;obtain⟨W0,hW0⟩: ∃W0,W0=wr:=⟨_,rfl⟩;subst hW0;obtain⟨n,hnk⟩: ∃n,n=k:=⟨_,rfl⟩;subst hnk;obtain⟨m,hmm⟩: ∃m,(rnL lv cl).length=m:=⟨_,rfl⟩;have HM:=Lib.hid hmm;rw[hmm]at hm8;clear hmm
    go_upto_region 11 with(first
     |(go_at_call 129;refine(rRuns_ok HN.out HN2.out rfl h0 h2 (by omega)).mono ?_;rintro r1 w1 ⟨v,L,rfl,GL,hL,a1⟩
       have hLl:=grL_len hL;rw[HM.out]at hLl;obtain⟨vA,vc,hv⟩:=row_shape GL.row;rw[hLl]at hv;subst hv;have HL:=Lib.hid hL;have HLL:=Lib.hid hLl
       clear hL hLl)
     |(go_at_call 130;refine(r15Match_n HN.out (h0.below a1 (.inr (Nat.le_refl _))) (by omega)).mono ?_;rintro r2 w2 ⟨mg,rfl,IM,a2⟩)
     |(at_make;go_must (refine wpList_mkB w2.heap.size rfl rfl m rfl rfl rfl rfl (by omega) (by unfold maxLen;omega) (Nat.le_refl _) ?_);intro w3 LD g3))
    have b02:Below W0.heap.size W0 w2:=a1.trans (a2.mono a1.size);have G2:GrpAt w2 W0.heap.size (.slice vA m vc) L:=GL.below a2 (Nat.le_refl _);have M2:Ints w2 W0.heap.size 3 .i64 (.slice (some ⟨mg,0,none⟩) n n) (matchL cl):=IM.base (fun j e=>Nat.le_trans a1.size (IM.lt j e).1);have hGr:0<m→ ∃og cap,GrpIs w2 (.slice vA m vc) lv cl og cap:=fun h=>G2.is HL.out (by rw[HM.out];exact h);have b23:Below w2.heap.size w2 w3:=(Below.refl _ w2).grown g3 (Nat.le_refl _) (by simp);have hgl:w2.heap.size<w3.heap.size:=LD.at_.2.1;have HG:=Lib.hid hGr;have H02:=Lib.hid b02;clear GL a1 a2 IM g3 hGr G2 b02;obtain⟨nx,hnx⟩: ∃nx,nxQ lv cl=nx:=⟨_,rfl⟩;have HNX:=Lib.hid hnx;clear hnx
    have hfol: ∀(W:World),Below w2.heap.size w2 W→ ∀i,i<m→Calls Tryz.prog 131 #[.slice vA m vc,.slice (some ⟨mg,0,none⟩) n n,.int .i64 i,.slice A0 n c0] W fun r w'=>r= .returned (.int .i64 (nx i))∧ ∃d,w'=W.drewN d:=fun W hW i hi=>by obtain⟨og,cap,hG⟩:=HG.out (by omega);rw[←HNX.out];exact follows_ok (hG.frm hW) (M2.rd.below hW (.inl (Nat.le_refl _))) (h0.below (H02.out.trans (hW.mono H02.out.size)) (.inr (Nat.le_refl _))) HN.out M2.at_.1 (by omega) (by rw[HM.out];exact hi)
    have NX:NxGood m nx:=by have:=nxQ_good (lv:=lv) (cl:=cl);rw[HM.out,HNX.out]at this;exact this
    have HFO:=Lib.hid hfol;clear hfol;go_wp2
    go_loopg [14] m (fun gk iv wr=> ∃k:Nat,k+gk=m∧iv= .int .i64 k∧Bools wr w2.heap.size (.slice (some ⟨w2.heap.size,0,none⟩) m m) (ledT m nx k)∧Below w2.heap.size w2 wr)
    case atStart=>exact⟨0,by omega,rfl,LD,b23⟩
    case round=>
     clear LD b23 hgl;obtain⟨k,hk,rfl,LD,b⟩:=hrel;have HK:=Lib.hid hk;clear hk
     by_cases hkm:k<m
     ·have hf:=HFO.out wr b k hkm
      have hlds:ledT m nx (k+1)=if 0≤nx k then(ledT m nx k).set (nx k).toNat true else ledT m nx k:=rfl
      rcases NX k hkm with e|⟨j,e,hj1,hj2⟩
      ·rw[e]at hf hlds;rw[if_neg (by omega)]at hlds;have HLD:=Lib.hid hlds;clear hlds e
       go_wp2_with(go_at_call 131;refine hf.mono ?_;rintro r4 w4 ⟨rfl,d,rfl⟩)
       go_roundg (m-(k+1))
       case rel=>exact⟨k+1,by have:=HK.out;omega,by go_num,by rw[HLD.out];exact LD,⟨b.os,b.tape,b.output,b.size,b.block⟩⟩
       case measure=>have:=HK.out;omega
      ·rw[e]at hf hlds;rw[if_pos (by omega)]at hlds;have hjt:((j:Int)).toNat=j:=rfl;rw[hjt]at hlds;have HLD:=Lib.hid hlds;obtain⟨d0,d1,d2,d3⟩:=LD.at_;have d3:=d3 j (by rw[ledT_length];exact hj2);clear hlds e hjt
       go_wp2_with(go_at_call 131;refine hf.mono ?_;rintro r4 w4 ⟨rfl,d,rfl⟩)
       have LD2:=(show Bools (wr.drewN d) _ _ _ from LD).set j true;rw[←HLD.out]at LD2
       go_roundg (m-(k+1))
       case rel=>have bd:Below w2.heap.size w2 (wr.drewN d):=⟨b.os,b.tape,b.output,b.size,b.block⟩;exact⟨k+1,by have:=HK.out;omega,by go_num,LD2,bd.setCell (p:=⟨w2.heap.size,j,none⟩) (Nat.le_refl _) _⟩
       case measure=>have:=HK.out;omega
     ·have hkm2:k=m:=by have:=HK.out;omega
      clear HK hkm;subst hkm2;obtain⟨w3,hw3⟩: ∃w3,w3=wr:=⟨_,rfl⟩;subst hw3;obtain⟨ld,hld⟩: ∃ld,ledT k nx k=ld:=⟨_,rfl⟩;rw[hld]at LD;have HLD:=Lib.hid hld;clear hld;obtain⟨m,hmk⟩: ∃m,m=k:=⟨_,rfl⟩;subst hmk;go_wp2
      go_loopg [16,17] m (fun gk ov iv wr=> ∃(k:Nat) (L2:List (Sq×Value×Value)),k+gk=m∧iv= .int .i64 k∧Below w3.heap.size w3 wr∧L2.map (·.1)=outK cl nw lv base k∧SqsAt wr w3.heap.size ov L2∧L2.length≤k)
      case atStart=>exact⟨0,[],by omega,rfl,Below.refl _ _,rfl,SqsAt.nil _ _,by simp⟩
      case round=>
       obtain⟨k,L2,hk,rfl,bw,hL2,hS,hLn⟩:=hrel;have HK:=Lib.hid hk;clear hk
       by_cases hkm:k<m
       ·have hoK:=outK_succ cl nw lv base k;have LDw:=own_frm LD (Frm.of_below (F:=fun _=>False) bw) (fun _ _ h=>h);obtain⟨-,d1,d2,d3⟩:=(show Bools wr w2.heap.size (.slice (some ⟨w2.heap.size,0,none⟩) m m) ld from LDw).at_;have d3:=d3 k (by rw[←HLD.out,ledT_length];exact hkm)
        have hle:leadB (rnL lv cl).length (nxQ lv cl) k= !ld.getD k false:=by unfold leadB;rw[HM.out,HNX.out,HLD.out]
        rw[hle]at hoK;have HOK:=Lib.hid hoK;have HL2:=Lib.hid hL2;clear hoK hle hL2
        rcases hlk:ld.getD k false with _|_
        ·rw[hlk]at d3;have HLK:=Lib.hid hlk;clear hlk LDw;have hb2w:Below w2.heap.size w2 wr:=b.trans (bw.mono b.size);obtain⟨og,cap,hG⟩:=HG.out (by omega);have hGw:=hG.frm hb2w;have hv:=hGw.val
         injection hv with e1 e2 e3
         subst e1 e3;obtain⟨gb,go,gc,c0,c1,-,-,-⟩:=hGw.each k (by rw[HM.out];exact hkm);obtain⟨l0,hl0⟩: ∃l0,((rnL lv cl).getD k default).v=l0:=⟨_,rfl⟩;rw[hl0]at c1;have hgo:=hGw.lt;have hcap:=hGw.le;have hbig:=hGw.big;rw[HM.out]at hcap;have hPL:=plL_length (lv:=lv) (cl:=cl) (i:=k) (by rw[HM.out];exact hkm);obtain⟨PL,hPLe⟩: ∃PL,plL lv cl k=PL:=⟨_,rfl⟩;rw[hPLe]at hPL;obtain⟨hPL1,hPL2⟩:=hPL
         replace hPL1:PL.length≤n:=by have:=HN.out;omega
         have HPL:=Lib.hid hPLe;have HL0:=Lib.hid hl0;clear hl0 hPLe e2 d1 d2;obtain⟨oA,oc,rfl⟩:=row_shape hS.row;obtain⟨Wr,hWr⟩: ∃Wr,Wr=wr:=⟨_,rfl⟩;subst hWr
         go_upto_region 24 with(fail)
         obtain⟨q,hq⟩: ∃q,Wr.heap.size=q:=⟨_,rfl⟩;obtain⟨W1,hW1⟩: ∃W1,Wr.alloc (.cells #[.slice none 0 0,.slice none 0 0,.int .i8 l0,.int .u8 0,.int .u8 0] 87)=W1:=⟨_,rfl⟩
         have S1:SqN q l0 W1 [] [] (.slice none 0 0) (.slice none 0 0):=by rw[←hW1];exact⟨Blk.at_ hq.symm,Ints.nil _ _ _ _,Ints.nil _ _ _ _,by simp[Value.ownBlock]⟩
         have b1:Below q Wr W1:=by rw[←hW1,←hq];exact(Below.refl _ _).alloc (Nat.le_refl _) _
         have hq1:q<W1.heap.size:=by rw[←hW1,←hq];simp
         rw[hq,hW1];have HQ:=Lib.hid hq;clear hW1 hq c0 c1
         go_loopg [19] (m-k) (fun gk kv wr=> ∃(P:List Int) (pv:Value),SqN q l0 wr P [] pv (.slice none 0 0)∧Below q Wr wr∧((kv= .int .i64 (-1)∧P=PL)∨ ∃j:Nat,kv= .int .i64 j∧j<m∧j+gk=m∧P++plL lv cl j=PL))
         case atStart=>exact⟨[],_,S1,b1,.inr ⟨k,rfl,hkm,by omega,HPL.out⟩⟩
         case round=>
          clear S1 b1 hq1;obtain⟨P,pv,S,bq,hkv⟩:=hrel;obtain⟨q0,q1,q2,q3,q4,qf,ql⟩:=S.blk.c5
          rcases hkv with⟨rfl,hP⟩|⟨j,rfl,hjm,hjg,hP⟩
          ·subst hP;obtain⟨pg,pcap,rfl⟩:=S.I.form hPL2
           have hpat: ∀i,i<P.length→ ∃a:Nat,P.getD i 0=a∧a<n:=fun i hi=>by rw[←HPL.out]at hi⊢;obtain⟨a,ea,la,_⟩:=plL_at (by rw[HM.out];exact hkm) (getD_mem0 (0:Int) hi);exact⟨a,ea,by have:=HN.out;omega⟩
           obtain⟨N,hNN⟩: ∃N,P.length=N:=⟨_,rfl⟩;rw[hNN]at S hPL1 hPL2 hpat q0;have HNN:=Lib.hid hNN;have HPA:=Lib.hid hpat;clear hNN hpat q0 q1 q2 q3 q4 qf ql;go_wp2
           go_loopg [20] N (fun gk iv wr=> ∃(i:Nat) (cv:Value),i+gk=N∧iv= .int .i64 i∧SqN q l0 wr P (clsP nw (P.take i)) (.slice (some ⟨pg,0,none⟩) N pcap) cv∧Below q Wr wr)
           case atStart=>exact⟨0,_,by omega,rfl,S,bq⟩
           case round=>
            clear S bq;obtain⟨i,cv,hi,rfl,S,bq⟩:=hrel;obtain⟨q0,q1,q2,q3,q4,qf,ql⟩:=S.blk.c5;have HI:=Lib.hid hi;clear hi;have b2q:Below w2.heap.size w2 wr:=hb2w.trans (bq.mono (by have:=HQ.out;have:=hb2w.size;omega));have b0q:Below W0.heap.size W0 wr:=H02.out.trans (b2q.mono H02.out.size);obtain⟨pl1,pl2,pl3,_,pl5,pl6,pl7⟩:=S.I.at_;obtain⟨cA,cc,rfl,hcc1,hcc2,-⟩:=S.J.val
            by_cases hiN:i<N
            ·obtain⟨a,ha,han⟩:=HPA.out i hiN;have p7:=pl7 i (by rw[HNN.out];exact hiN);rw[ha]at p7;have hct:=clsP_take (nw:=nw) (P:=P) (i:=i) (by rw[HNN.out];exact hiN);rw[ha]at hct
             have hlva:lvAt nw (a:Int)=nw.getD a 0:=by unfold lvAt;rw[Int.toNat_natCast]
             rw[hlva]at hct;obtain⟨b1,o1,rfl,_,hb1,k1⟩:=(h1.below b0q (.inr (Nat.le_refl _))).at_ (i:=a) (by have:=HN1.out;omega);obtain⟨x,hx⟩: ∃x,nw.getD a 0=x:=⟨_,rfl⟩;rw[hx]at k1 hct
             have hDl:(clsP nw (P.take i)).length=i:=by rw[clsP_length,List.length_take,HNN.out];omega
             obtain⟨D,hD⟩: ∃D,clsP nw (P.take i)=D:=⟨_,rfl⟩;rw[hD]at S hcc1 hct hDl;rw[hD]at q1;rw[hDl]at S hcc1 q1;have HCT:=Lib.hid hct;have HDL:=Lib.hid hDl;have hqs:=bq.size;have hws:q+1≤wr.heap.size:=ql;clear hct hDl hD hx hlva ha pl1 pl7;go_wp2
             go_region_law (first
              |(go_simp;go_at_call 50;refine(rClass_ok _ _).mono ?_;rintro r1 w1 ⟨rfl,rfl⟩)
              |(refine step_appI (v:=.slice cA i cc) ei22 rfl (.tmp 142) (.tmp 152) rfl rfl (S.alloc _).drew.J rfl (Blk.at_ (w:=wr) (by simp)).drew (by rw[HDL.out];unfold maxLen;omega) (by rw[HDL.out];omega) (Nat.le_trans hws (by simp)) ?_
                intro g2 cap2 w5 J5 g5 hg5;have B5:=(S.alloc _).drew.blk.grown g5 S.ne2;have w5f:=B5.frozen 1;have w5c:=B5.cell 1
                rw[HDL.out]at J5⊢))
             all_goals
              have S6:=SqN.step2 (S.alloc _).drew J5 g5 (by rcases hg5 with e|e;exact .inl (by rw[e];rfl);exact .inr (by rw[←e];rfl));have bq6:Below q Wr (w5.setCell ⟨q,1,none⟩ (.slice (some ⟨g2,0,none⟩) (i+1) cap2)):=((bq.alloc (by have:=HQ.out;omega) _).drew.grown g5 (Nat.le_trans (Nat.le_of_lt (Nat.lt_of_succ_le hws)) (by simp)) (fun j e=>by have:=(S.J.lt j e).1;omega)).setCell (p:=⟨q,1,none⟩) (Nat.le_refl _) _;clear B5 w5f w5c J5 g5 hg5 S bq q0 q1 q2 q3 q4 qf ql p7 k1 b2q b0q;go_wp2
              go_roundg (N-(i+1))
              case rel=>exact⟨i+1,_,by have:=HI.out;omega,by go_num,by rw[HCT.out];exact S6,bq6⟩
              case measure=>have:=HI.out;omega
            ·have hiN2:i=N:=by have:=HI.out;omega
             clear hiN;subst hiN2;have htk:P.take i=P:=List.take_of_length_le (by rw[HNN.out];exact Nat.le_refl _);rw[htk]at S q1 hcc1
             have hcl:(clsP nw P).length=i:=by rw[clsP_length,HNN.out]
             obtain⟨a0,ha0,ha0n⟩:=HPA.out 0 hPL2;obtain⟨a1,ha1,ha1n⟩:=HPA.out (i-1) (by omega);have p0:=pl7 0 (by rw[HNN.out];exact hPL2);have p1:=pl7 (i-1) (by rw[HNN.out];omega);rw[ha0]at p0;rw[ha1]at p1
             have hrm: ∀k2,k2<P.length→remC (cl.getD (P.getD k2 0).toNat 0)=false:=fun k2 hk2=>by rw[←HPL.out]at hk2⊢;obtain⟨a,ea,la,ra,_⟩:=plL_at (by rw[HM.out];exact hkm) (getD_mem0 (0:Int) hk2);rw[ea,Int.toNat_natCast];exact ra
             have hr0:=hrm 0 (by rw[HNN.out];exact hPL2);have hr1:=hrm (i-1) (by rw[HNN.out];omega);rw[ha0,Int.toNat_natCast]at hr0;rw[ha1,Int.toNat_natCast]at hr1
             have hval:sqL cl nw lv base k=⟨P,clsP nw P,l0,wayL (max l0 (besB cl lv base a0)),wayL (max l0 (if(begI (cl.getD a1 0) && ((matchL cl).getD a1 0==(n:Int)))=true then base else besF cl lv base (cl.length-(a1+1)) (a1+1)))⟩:=by unfold sqL sqOf;rw[HPL.out,HL0.out,ha0,HNN.out,ha1,lvK_back (by have:=HN.out;omega) hr0];unfold behindL;rw[lvK_next (by have:=HN.out;omega) hr1];show Sq.mk _ _ _ _ (wayL (max l0 (if(begI (lvAt cl (a1:Int)) && (lvAt (matchL cl) (a1:Int)==(cl.length:Int)))=true then base else _)))=_;rw[←HN.out];unfold lvAt;rw[Int.toNat_natCast];rfl
             have hbB: ∀W,Below W0.heap.size W0 W→Calls Tryz.prog 133 #[.slice A0 n c0,.slice A2 n c2,.int .i64 a0,.int .i64 (-1),.int .i8 base] W fun r w'=>r= .returned (.int .i8 (besB cl lv base a0))∧W=w':=fun W hW=>beside_back (h0.below hW (.inr (Nat.le_refl _))) (h2.below hW (.inr (Nat.le_refl _))) HN.out HN2.out rfl (by omega) ha0n base
             have hbF: ∀W,Below W0.heap.size W0 W→Calls Tryz.prog 133 #[.slice A0 n c0,.slice A2 n c2,.int .i64 a1,.int .i64 1,.int .i8 base] W fun r w'=>r= .returned (.int .i8 (besF cl lv base (cl.length-(a1+1)) (a1+1)))∧W=w':=fun W hW=>beside_next (h0.below hW (.inr (Nat.le_refl _))) (h2.below hW (.inr (Nat.le_refl _))) HN.out HN2.out rfl (by omega) ha1n base
             obtain⟨kb,ko,hA0,_,hkb,kcc⟩:=h0.at_ (i:=a1) (by have:=HN.out;omega);replace kcc:wr.cell? ⟨kb,ko+a1,none⟩=some (.int .u8 (cl.getD a1 0)):=(b0q.cell (p:=⟨kb,ko+a1,none⟩) hkb).trans kcc;have hkb2:kb<W0.heap.size:=hkb;replace hkb:kb<wr.heap.size:=Nat.lt_of_lt_of_le hkb b0q.size;have km:=(M2.at_).2.2.2.2.2.2 a1 (by rw[←M2.at_.1];exact ha1n);have hmg:=(M2.lt mg rfl).2;replace km:wr.cell? ⟨mg,a1,none⟩=some (.int .i64 ((matchL cl).getD a1 0)):=(b2q.cell (p:=⟨mg,a1,none⟩) hmg).trans km;obtain⟨v1,hv1⟩: ∃v,besB cl lv base a0=v:=⟨_,rfl⟩;obtain⟨v2,hv2⟩: ∃v,besF cl lv base (cl.length-(a1+1)) (a1+1)=v:=⟨_,rfl⟩;obtain⟨xc,hxc⟩: ∃v,cl.getD a1 0=v:=⟨_,rfl⟩;obtain⟨xm,hxm⟩: ∃v,(matchL cl).getD a1 0=v:=⟨_,rfl⟩;rw[hv1]at hbB hval;rw[hv2]at hbF hval;rw[hxc]at kcc hval;rw[hxm]at km hval;obtain⟨Mx,hM1⟩: ∃M,max l0 v1=M:=⟨_,rfl⟩
             have hM1':(if l0<v1 then v1 else l0)=Mx:=by rw[←hM1];omega
             rw[hM1]at hval;obtain⟨DC,hDC⟩: ∃D,clsP nw P=D:=⟨_,rfl⟩;rw[hDC]at S hcl hcc1 hval;rw[hDC]at q1;rw[hcl]at S q1 hcc1;have HVAL:=Lib.hid hval;have HCL:=Lib.hid hcl;have HBB:=Lib.hid hbB;have HBF:=Lib.hid hbF
             have hw1:IntKind.i64.wrap ((i:Int)-1)=((i-1:Nat):Int):=by rw[IntWalk.i64_in _ (by omega)];omega
             subst hA0
             have hi1:i-1<i:=by omega
             have hpcap:i≤pcap:=by rw[←HNN.out];exact pl2
             clear htk hcl ha0 ha1 hrm hr0 hr1 hval hv1 hv2 hxc hxm hM1 hDC pl1 pl7 hbB hbF pl2
             go_upto_region 31 with(fail)
             go_quiet (fail)
             have bqd:Below q Wr (wr.drewN nq):=⟨bq.os,bq.tape,bq.output,bq.size,bq.block⟩;have b0d: ∀d,Below W0.heap.size W0 (wr.drewN d):=fun d=>⟨b0q.os,b0q.tape,b0q.output,b0q.size,b0q.block⟩;go_wp2
             go_region_held3 (fun W=>W.cell? ⟨q,2,none⟩=some (.int .i8 l0)) (first|exact q2|exact(World.cell?_setCell_other _ _ _ _ (by simp)).trans q2)
              (first
               |(go_at_call 133;refine(HBB.out _ (b0d _)).mono ?_;rintro r1 w1 ⟨rfl,rfl⟩)
               |(go_at_call 132;refine(rWay_ok _ _).mono ?_;rintro r1 w1 ⟨rfl,rfl⟩))
             rename_i hHeld
             clear hHeld;obtain⟨w7,hw7⟩: ∃w7,(wr.drewN (nq+1)).setCell ⟨q,3,none⟩ (.int .u8 (wayL Mx))=w7:=⟨_,rfl⟩
             have F7:Frm (fun j=>j=q) wr w7:=by rw[←hw7];exact((Frm.refl (fun j=>j=q) wr).drewN (nq+1)).set (b:=q) (j:=3) rfl _
             have X7:Blk w7 q 87 #[.slice (some ⟨pg,0,none⟩) i pcap,.slice cA i cc,.int .i8 l0,.int .u8 (wayL Mx),.int .u8 0]:=by rw[←hw7];simpa using(S.blk.drewN (nq+1)).set_ 3 (.int .u8 (wayL Mx))
             have I7:=S.I.frm F7 (fun j e=>by have:=(S.I.lt j e).1;omega);have J7:=S.J.frm F7 (fun j e=>by have:=(S.J.lt j e).1;omega);have hne7:=S.ne
             have hqW:W0.heap.size≤q:=by have:=HQ.out;have:=H02.out.size;have:=hb2w.size;omega
             have hqW2:w2.heap.size≤q:=by have:=HQ.out;have:=hb2w.size;omega
             have b7:Below q Wr w7:=bq.trans (F7.below (by have:=HQ.out;have:=bq.size;omega) (fun j hj e=>by omega));have b27:Below w2.heap.size w2 w7:=hb2w.trans (b7.mono hqW2);have b07:Below W0.heap.size W0 w7:=H02.out.trans (b27.mono H02.out.size);have kcc7:w7.cell? ⟨kb,ko+a1,none⟩=some (.int .u8 xc):=(World.cell?_of_block (F7.block kb hkb (by show kb≠q;omega))).trans kcc;have km7:w7.cell? ⟨mg,a1,none⟩=some (.int .i64 xm):=(World.cell?_of_block (F7.block mg (by have:=b2q.size;omega) (by show mg≠q;omega))).trans km;rw[hw7];clear hw7 F7 S bq bqd b0d q0 q1 q2 q3 q4 qf ql p0 p1 b2q b0q kcc km hM1' hw1
             go_upto_region 34 with(go_at_call 133;refine(HBF.out _ b07).mono ?_;rintro r1 w1 ⟨rfl,rfl⟩)
             go_cut [195] from 182 to 195 (fun zv wx=>zv= .bool (begI xc && (xm==(n:Int)))∧wx=w7)
             case first=>
              rcases hbc:begins xc with _|_
              ·have hbc2:begI xc=false:=hbc
               go_wp2_with(go_at_call 134;refine(rBegins_any _ _).mono ?_;rintro r1 w1 ⟨rfl,rfl⟩)
               go_meet;rw[hbc2];exact⟨rfl,rfl⟩
              ·have hbc2:begI xc=true:=hbc
               go_wp2_with(go_at_call 134;refine(rBegins_any _ _).mono ?_;rintro r1 w1 ⟨rfl,rfl⟩)
               go_meet;rw[hbc2];exact⟨rfl,rfl⟩
             case rest=>
              obtain⟨rfl,hwc⟩:=hcut;subst hwc;obtain⟨bb,hbb⟩: ∃bb,(begI xc && (xm==(n:Int)))=bb:=⟨_,rfl⟩;have HBBB:=Lib.hid hbb;rw[hbb];clear hbb
              apply_assumption
              go_cut [23] from 196 to 196 (fun zv wx=>zv= .int .i8 (if bb=true then base else v2)∧wx=wc)
              case first=>
               rcases bb with _|_
               ·go_wp2_with(fail)
                go_meet;exact⟨rfl,rfl⟩
               ·go_wp2_with(fail)
                go_meet;exact⟨rfl,rfl⟩
              case rest=>
               obtain⟨rfl,hwc⟩:=hcut;subst hwc;obtain⟨Z,hZ⟩: ∃Z,(if bb=true then base else v2)=Z:=⟨_,rfl⟩;have hval:=HVAL.out;rw[HBBB.out,hZ]at hval;rw[hZ];obtain⟨My,hM2⟩: ∃M,max l0 Z=M:=⟨_,rfl⟩
               have hM2':(if l0<Z then Z else l0)=My:=by rw[←hM2];omega
               rw[hM2]at hval;have HV2:=Lib.hid hval;clear hval hM2 hZ HVAL HBB HBF;obtain⟨z0,z1,z2,z3,z4,zf,zl⟩:=X7.c5
               apply_assumption
               go_upto_region 37 with(go_at_call 132;refine(rWay_ok _ _).mono ?_;rintro r1 w1 ⟨rfl,rfl⟩)
               obtain⟨w8,hw8⟩: ∃w8,wc.setCell ⟨q,4,none⟩ (.int .u8 (wayL My))=w8:=⟨_,rfl⟩
               have F8:Frm (fun j=>j=q) wc w8:=by rw[←hw8];exact(Frm.refl (fun j=>j=q) wc).set (b:=q) (j:=4) rfl _
               have X8:Blk w8 q 87 #[.slice (some ⟨pg,0,none⟩) i pcap,.slice cA i cc,.int .i8 l0,.int .u8 (wayL Mx),.int .u8 (wayL My)]:=by rw[←hw8];simpa using X7.set_ 4 (.int .u8 (wayL My))
               have I8:=I7.frm F8 (fun j e=>by have:=(I7.lt j e).1;omega);have J8:=J7.frm F8 (fun j e=>by have:=(J7.lt j e).1;omega)
               have b8:Below Wr.heap.size Wr w8:=by have e:=b7.trans (F8.below (by have:=HQ.out;have:=b7.size;omega) (fun j hj e=>by omega));rw[HQ.out];exact e
               rw[hw8];clear hw8 F8 X7 I7 J7 b7 b27 b07 kcc7 km7 z0 z1 z2 z3 z4 zf zl hM2';obtain⟨z0,z1,z2,z3,z4,zf,zl⟩:=X8.c5;have hS8:=hS.below b8 (Nat.le_refl _);have hbs8:=b8.size;have hws3:=bw.size
               go_wp2_with(at_builtin;go_must (refine wpList_app et54 rfl rfl rfl (World.ownsRow.alloc hS8.row _) rfl (Reads.blk (Blk.at_ (by simp)) rfl) ?_ ?_ ?_ ?_ ?_))
               ·simp[Value.oneCell']
               ·unfold maxLen;omega
               ·omega
               ·simp;omega
               intro v9 w9 O9 g9 hv9;have S9:=SqsAt.push (s:=⟨P,DC,l0,wayL Mx,wayL My⟩) hS bw.size b8 (I8.base (fun j e=>by have:=HQ.out;have:=(I8.lt j e).1;omega)) (J8.base (fun j e=>by have:=HQ.out;have:=(J8.lt j e).1;omega)) hne7 O9 g9 hv9;have b9:Below w3.heap.size w3 w9:=((bw.trans (b8.mono hws3)).alloc (by omega) _).grown g9 (by simp;omega) (fun k e=>(World.ownsRow.lt hS8.row k e).1);clear hS hS8 I8 J8 O9 g9 hv9;go_wp2
               go_roundg (m-(k+1))
               case rel=>refine⟨k+1,L2++[(⟨P,DC,l0,wayL Mx,wayL My⟩,_,_)],by have:=HK.out;omega,by go_num,b9,?_,S9,by simp;omega⟩;rw[HOK.out,HLK.out,List.map_append,HL2.out,HV2.out];rfl
               case measure=>have:=HK.out;omega
          ·have HJ:=Lib.hid hjg;have HP:=Lib.hid hP
           have b3q:Below Wr.heap.size Wr wr:=by rw[HQ.out];exact bq
           have b2q:Below w2.heap.size w2 wr:=hb2w.trans (b3q.mono hb2w.size)
           have hPle:P.length+(plL lv cl j).length=PL.length:=by rw[←hP,List.length_append]
           have hGq:=hG.frm b2q;obtain⟨gb,go,gc,c0,-,rj,hgl,hgp⟩:=hGq.each j (by rw[HM.out];exact hjm);have hgj:=plL_go (lv:=lv) (cl:=cl) (i:=j) (by rw[HM.out];exact hjm);rw[HNX.out]at hgj
           have hgle:(grpAt lv cl j).length≤(plL lv cl j).length:=by
            rcases NX j hjm with e|⟨j2,e,_,_⟩
            ·rw[hgj.1 e];exact Nat.le_refl _
            ·rw[hgj.2 j2 e];simp
           have hfj:Calls Tryz.prog 131 _ _ _:=HFO.out wr b2q j hjm;obtain⟨G,hGe⟩: ∃G,grpAt lv cl j=G:=⟨_,rfl⟩;rw[hGe]at c0 rj hgl hgp hgle hgj;obtain⟨gl,hgll⟩: ∃gl,G.length=gl:=⟨_,rfl⟩;rw[hgll]at c0 hgl hgp hgle;obtain⟨pA,pc,rfl,hpc1,hpc2,-⟩:=S.I.val;obtain⟨pn,hpn⟩: ∃pn,P.length=pn:=⟨_,rfl⟩;rw[hpn]at S q0 hpc1 hPle;have HPN:=Lib.hid hpn;have HGL:=Lib.hid hgll;have HGJ:=Lib.hid hgj;have HPLE:=Lib.hid hPle
           have hplus:pn+gl≤n:=by omega
           have hqs:=bq.size;have hogq:=hGq.lt;clear hP hjg hGe hgll hpn hgj hPle hGq;go_wp2
           go_region_law (first
            |(refine step_appIs (v:=.slice pA pn pc) ei24 rfl (.tmp 126) (.tmp 131) rfl rfl S.drew.I (HGL.out.symm) rfl rj.drew (by rw[HPN.out,HGL.out];unfold maxLen;omega) (by rw[HPN.out,HGL.out];omega) (by show q+1≤wr.heap.size;omega) ?_
              intro v5 w5 I5 g5 hg5
              have e5:(P++G).length=pn+gl:=by rw[List.length_append,HPN.out,HGL.out]
              obtain⟨A5,k5,hv5,-,-,-⟩:=I5.val;rw[e5]at hv5;subst hv5;clear e5;have B5:=S.drew.blk.grown g5 S.ne1;have w5f:=B5.frozen 0
              have w5c:=B5.cell 0))
           all_goals
            have S6:=S.drew.step1 I5 g5 hg5;have bq6:Below q Wr (w5.setCell ⟨q,0,none⟩ (.slice A5 (pn+gl) k5)):=(bq.drew.grown g5 (by have:=HQ.out;show q≤wr.heap.size;omega) (fun i e=>by have:=(S.I.lt i e).1;omega)).setCell (p:=⟨q,0,none⟩) (Nat.le_refl _) _;have b2q6:Below w2.heap.size w2 (w5.setCell ⟨q,0,none⟩ (.slice A5 (pn+gl) k5)):=hb2w.trans (bq6.mono (by have:=HQ.out;have:=hb2w.size;omega));have hf6:=HFO.out _ b2q6 j hjm;clear B5 w5f w5c I5 g5 hg5 S bq q0 q1 q2 q3 q4 qf ql c0 rj b3q b2q hfj;obtain⟨w6,hw6⟩: ∃w6,w5.setCell ⟨q,0,none⟩ (.slice A5 (pn+gl) k5)=w6:=⟨_,rfl⟩;rw[hw6]at S6 bq6 b2q6 hf6⊢;clear hw6
            rcases NX j hjm with e|⟨j2,e,hj1,hj2⟩
            ·rw[e]at hf6
             have hfin:P++G=PL:=by rw[←HP.out,HGJ.out.1 e]
             have HFIN:=Lib.hid hfin;clear e hfin
             go_wp2_with(go_at_call 131;refine hf6.mono ?_;rintro r4 w4 ⟨rfl,d,rfl⟩)
             go_roundg 0
             case rel=>exact⟨_,_,S6.drewN d,⟨bq6.os,bq6.tape,bq6.output,bq6.size,bq6.block⟩,.inl ⟨rfl,HFIN.out⟩⟩
             case measure=>have:=HJ.out;omega
            ·rw[e]at hf6
             have hfin:(P++G)++plL lv cl j2=PL:=by rw[←HP.out,HGJ.out.2 j2 e,List.append_assoc]
             have HFIN:=Lib.hid hfin;clear e hfin
             go_wp2_with(go_at_call 131;refine hf6.mono ?_;rintro r4 w4 ⟨rfl,d,rfl⟩)
             go_roundg (m-j2)
             case rel=>exact⟨_,_,S6.drewN d,⟨bq6.os,bq6.tape,bq6.output,bq6.size,bq6.block⟩,.inr ⟨j2,rfl,hj2,by omega,HFIN.out⟩⟩
             case measure=>have:=HJ.out;omega
        ·rw[hlk]at d3;have HLK:=Lib.hid hlk;clear hlk LDw;obtain⟨oA,oc,rfl⟩:=row_shape hS.row;go_wp2
         go_roundg (m-(k+1))
         case rel=>exact⟨k+1,L2,by have:=HK.out;omega,by go_num,bw,by rw[HOK.out,HLK.out];simpa using HL2.out,hS,by omega⟩
         case measure=>have:=HK.out;omega
       ·have hkm2:k=m:=by have:=HK.out;omega
        obtain⟨oA,oc,rfl⟩:=row_shape hS.row;go_wp2
        go_ret2
        have e:leads (rnL lv cl).length (nxQ lv cl)=(List.range k).filter (leadB (rnL lv cl).length (nxQ lv cl)):=by unfold leads;rw[HM.out,hkm2]
        refine⟨_,rfl,⟨L2,by rw[e];exact hL2,hS.base ?_⟩,?_⟩
        ·have:=H02.out.size;have:=b.size;omega
        ·exact(H02.out.trans (b.mono H02.out.size)).trans (bw.mono (by have:=H02.out.size;have:=b.size;omega))
end Go.Proofs.YtllolnkkepacjaaGreat
