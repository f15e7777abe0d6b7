/- lent and kept walked. -/
import Derived.Test.YtllolnkkepacjaaGreatSm3
import Derived.Test.YtllolnkkepacjaaGreatA1
set_option maxRecDepth 100000
set_option maxHeartbeats 4000000
namespace Go.Proofs.YtllolnkkepacjaaGreat
open Go.RowKit
attribute [local go_sem] Oper.semAt_some
theorem lent_ok {w:World}{n m cc lc:Nat}{cA lA:Option Addr}{b:Int}{cs lv:List Int}(hn:n=cs.length)(hm:m=lv.length)(h1:RdInts w w.heap.size .u8 cA cs)(h2:RdInts w w.heap.size .i8 lA lv)(hl:n≤1048576)(hl2:m≤1048576):
 Calls Tryz.prog 21 #[.agg #[.int .i8 b,.slice cA n cc,.slice lA m lc]] w fun r w'=> ∃g1 g2 c1 c2,r= .returned (.agg #[.int .i8 b,.slice (some ⟨g1,0,none⟩) n c1,.slice (some ⟨g2,0,none⟩) m c2])∧
  Ints w' w.heap.size 22 .u8 (.slice (some ⟨g1,0,none⟩) (n+1) c1) (cs++[77])∧Ints w' w.heap.size 29 .i8 (.slice (some ⟨g2,0,none⟩) (m+1) c2) (lv++[77])∧g1≠g2∧Aft w w':=by
 obtain⟨W1,hW1⟩: ∃W1,(w.alloc (.cells #[.int .i8 b,.slice cA n cc,.slice lA m lc] 33)).alloc (.cells #[.int .i8 0,.slice none 0 0,.slice none 0 0] 33)=W1:=⟨_,rfl⟩
 have X1:Blk W1 w.heap.size 33 #[.int .i8 b,.slice cA n cc,.slice lA m lc]:=by rw[←hW1];exact(Blk.new w 33 _).alloc _
 have X2:Blk W1 (w.heap.size+1) 33 #[.int .i8 0,.slice none 0 0,.slice none 0 0]:=by rw[←hW1];exact Blk.at_ (by simp)
 have a1:Aft w W1:=by rw[←hW1];exact((Aft.refl w).alloc _).alloc _
 have h1':=h1.aft a1;have h2':=h2.aft a1;have HN:=Lib.hid hn;have HM:=Lib.hid hm;have HW:=Lib.hid hW1;clear h1 h2 hn hm hW1
 go_enter Tryz.func21,Tryz.ntmps21
 go_upto_region 1 with(fail)
 rw[HW.out];obtain⟨x0,x1,x2,xf,xl⟩:=X1.c3
 go_upto_region 4 with(first
  |(at_builtin;go_must (refine wpList_appIs ei22 rfl rfl rfl (Ints.nil W1 W1.heap.size 22 .u8) HN.out rfl (h1'.more a1.size) ?_ ?_ ?_ ?_)))
 ·have:=HN.out;simp;unfold maxLen;omega
 ·have:=HN.out;simp;omega
 ·omega
 intro v1 w1 I1 g1 hv1;have I1:Ints w1 W1.heap.size 22 .u8 v1 cs:=I1;have b1:Aft W1 w1:=Aft.of_grown (by simpa[Value.ownBlock]using g1)
 go_upto_region 4 with(at_builtin;go_must (refine wpList_appI ei22 rfl rfl rfl (I1.alloc _) rfl (Blk.at_ (by simp)) ?_ ?_ ?_ ?_))
 ·have:=HN.out;unfold maxLen;omega
 ·have:=HN.out;omega
 ·simp;have:=b1.size;omega
 intro ga capa w2 I2 g2 hg2;have b2:Aft W1 w2:=(b1.alloc _).grown g2 (fun j e=>(I1.lt j e).1);rw[←HN.out]at I2;rw[←HN.out];clear I1 g1 hv1 g2 hg2 b1 x0 x1 x2 xf xl;have X1b:=X1.aft b2;have X2b:=X2.aft b2;obtain⟨x0,x1,x2,xf,xl⟩:=X1b.c3;have hs1:w.heap.size+1<W1.heap.size:=X2.lt
 go_upto_region 5 with(first
  |(at_builtin;go_must (refine wpList_appIs ei35 rfl rfl rfl (Ints.nil w2 w2.heap.size 29 .i8) HM.out rfl ((h2'.aft b2).more (a1.trans b2).size) ?_ ?_ ?_ ?_)))
 ·have:=HM.out;simp;unfold maxLen;omega
 ·have:=HM.out;simp;omega
 ·omega
 intro v3 w3 I3 g3 hv3;have I3:Ints w3 w2.heap.size 29 .i8 v3 lv:=I3;have b3:Aft w2 w3:=Aft.of_grown (by simpa[Value.ownBlock]using g3)
 go_upto_region 5 with(at_builtin;go_must (refine wpList_appI ei35 rfl rfl rfl (I3.alloc _) rfl (Blk.at_ (by simp)) ?_ ?_ ?_ ?_))
 ·have:=HM.out;unfold maxLen;omega
 ·have:=HM.out;omega
 ·simp;have:=b3.size;omega
 intro gb capb w4 I4 g4 hg4;have b4:Aft w2 w4:=(b3.alloc _).grown g4 (fun j e=>(I3.lt j e).1);rw[←HM.out]at I4;rw[←HM.out];clear I3 g3 hv3 g4 hg4 b3 x0 x1 x2 xf xl;have I24:=I2.aft b4;have X1c:=X1b.aft b4;have X2c:=X2b.aft b4
 have hne:ga≠gb:=fun e=>by have p1:=(I2.lt ga rfl).2;have p2:=(I4.lt gb rfl).1;omega
 have hga:=(I2.lt ga rfl).1;have hgb:W1.heap.size≤gb:=Nat.le_trans b2.size (I4.lt gb rfl).1
 have hca:n+1≤capa:=by obtain⟨_,hc,_⟩:=I2.at_;have:=HN.out;simp at hc;omega
 have hcb:m+1≤capb:=by obtain⟨_,hc,_⟩:=I4.at_;have:=HM.out;simp at hc;omega
 have hca0:n≤capa:=by omega
 have hcb0:m≤capb:=by omega
 have a4:Aft w w4:=(a1.trans b2).trans b4;clear X1 X2 X1b X2b b2 b4 I2 a1 h1' h2';obtain⟨x0,x1,x2,xf,xl⟩:=X1c.c3;obtain⟨y0,y1,y2,yf,yl⟩:=X2c.c3;go_wp2;have N:=((((X2c.far (p:=⟨w.heap.size,1,none⟩) (by simp) (.slice (some ⟨ga,0,none⟩) n capa)).far (p:=⟨w.heap.size,2,none⟩) (by simp) (.slice (some ⟨gb,0,none⟩) m capb)).set_ 0 (.int .i8 b)).set_ 1 (.slice (some ⟨ga,0,none⟩) n capa)).set_ 2 (.slice (some ⟨gb,0,none⟩) m capb);simp only[List.setIfInBounds_toArray,List.set_cons_zero,List.set_cons_succ]at N
 have F:Frm (fun j=>j=w.heap.size∨j=w.heap.size+1) w4 (((((w4.setCell ⟨w.heap.size,1,none⟩ (.slice (some ⟨ga,0,none⟩) n capa)).setCell ⟨w.heap.size,2,none⟩ (.slice (some ⟨gb,0,none⟩) m capb)).setCell ⟨w.heap.size+1,0,none⟩ (.int .i8 b)).setCell ⟨w.heap.size+1,1,none⟩ (.slice (some ⟨ga,0,none⟩) n capa)).setCell ⟨w.heap.size+1,2,none⟩ (.slice (some ⟨gb,0,none⟩) m capb)):=(((((Frm.refl _ w4).set (.inl rfl) _).set (.inl rfl) _).set (.inr rfl) _).set (.inr rfl) _).set (.inr rfl) _
 refine bodyPost_ret (results_cell_row rfl _ _ (w.heap.size+1) 33 #[.int .i8 b,.slice (some ⟨ga,0,none⟩) n capa,.slice (some ⟨gb,0,none⟩) m capb] (0,0) _ rfl N Tryz.underlying33 rfl (by kernel_rfl)) rfl ⟨ga,gb,capa,capb,rfl,?_,?_,hne,?_⟩
 ·exact(I24.frm F (fun j e h=>by
   have e:ga=j:=by simpa[Value.ownBlock]using e
   rcases h with h|h<;>omega)).base (fun j e=>by
    have e:ga=j:=by simpa[Value.ownBlock]using e
    omega)
 ·exact(I4.frm F (fun j e h=>by
   have e:gb=j:=by simpa[Value.ownBlock]using e
   rcases h with h|h<;>omega)).base (fun j e=>by
    have e:gb=j:=by simpa[Value.ownBlock]using e
    omega)
 ·exact Below.trans a4 (F.below a4.size (fun j hj h=>by rcases h with h|h<;>omega))
theorem kept_ok {w:World}{B1 B2 B3 B4 n m cc lc g1 g2 c1 c2:Nat}{cA lA:Option Addr}{b:Int}{cs lv:List Int}(hn:n=cs.length)(hm:m=lv.length)
 (I1:Ints w B1 22 .u8 (.slice (some ⟨g1,0,none⟩) (n+1) c1) (cs++[77])) (I2:Ints w B2 29 .i8 (.slice (some ⟨g2,0,none⟩) (m+1) c2) (lv++[77]))
 (h3:RdInts w B3 .u8 cA cs) (h4:RdInts w B4 .i8 lA lv) (hl:n≤1048576) (hl2:m≤1048576):
 Calls Tryz.prog 28 #[.agg #[.int .i8 b,.slice (some ⟨g1,0,none⟩) n c1,.slice (some ⟨g2,0,none⟩) m c2],.agg #[.int .i8 b,.slice cA n cc,.slice lA m lc]] w fun r w'=>r= .returned (.bool true)∧Aft w w':=by
 have R1:RdInts w w.heap.size .u8 (some ⟨g1,0,none⟩) cs:=by have:=I1.rd.take n;rw[List.take_left' hn.symm]at this;exact this.clip
 have R2:RdInts w w.heap.size .i8 (some ⟨g2,0,none⟩) lv:=by have:=I2.rd.take m;rw[List.take_left' hm.symm]at this;exact this.clip
 obtain⟨W1,hW1⟩: ∃W1,(w.alloc (.cells #[.int .i8 b,.slice (some ⟨g1,0,none⟩) n c1,.slice (some ⟨g2,0,none⟩) m c2] 33)).alloc (.cells #[.int .i8 b,.slice cA n cc,.slice lA m lc] 33)=W1:=⟨_,rfl⟩
 have X1:Blk W1 w.heap.size 33 #[.int .i8 b,.slice (some ⟨g1,0,none⟩) n c1,.slice (some ⟨g2,0,none⟩) m c2]:=by rw[←hW1];exact(Blk.new w 33 _).alloc _
 have X2:Blk W1 (w.heap.size+1) 33 #[.int .i8 b,.slice cA n cc,.slice lA m lc]:=by rw[←hW1];exact Blk.at_ (by simp)
 have a1:Aft w W1:=by rw[←hW1];exact((Aft.refl w).alloc _).alloc _
 have CS:=sameR_ok (w:=W1.drew) (b:=b) (b':=b) (cc:=c1) (lc:=c2) (cc':=cc) (lc':=lc) hn hm hn hm (R1.aft a1.drew) (R2.aft a1.drew) (h3.clip.aft a1.drew) (h4.clip.aft a1.drew) (by omega) (by omega);rw[show sameX (b,cs,lv) (b,cs,lv)=true by simp[sameX]]at CS
 have hca:n+1≤c1:=by obtain⟨_,hc,_⟩:=I1.at_;simp at hc;omega
 have hcb:m+1≤c2:=by obtain⟨_,hc,_⟩:=I2.at_;simp at hc;omega
 have e1:(cs++[(77:Int)]).getD n 0=77:=by rw[hn];simp
 have e2:(lv++[(77:Int)]).getD m 0=77:=by rw[hm];simp
 have K1:=Lib.hid (fun(W:World) (hW:Aft w W)=>by
  have h:=(I1.aft hW).at_.2.2.2.2.2.2 n (by simp;omega);rw[e1]at h
  exact h)
 have K2:=Lib.hid (fun(W:World) (hW:Aft w W)=>by
  have h:=(I2.aft hW).at_.2.2.2.2.2.2 m (by simp;omega);rw[e2]at h
  exact h)
 have hc1:n≤c1:=by omega
 have hc2:m≤c2:=by omega
 have hnn:n<n+1:=by omega
 have hmm:m<m+1:=by omega
 have HW:=Lib.hid hW1;clear hW1 hn hm e1 e2 R1 R2 h3 h4 I1 I2
 go_enter Tryz.func28,Tryz.ntmps28
 go_upto_region 1 with(fail)
 rw[HW.out];obtain⟨x0,x1,x2,xf,xl⟩:=X1.c3;obtain⟨y0,y1,y2,yf,yl⟩:=X2.c3;refine wp_region_mid 2 (by kernel_rfl) (by kernel_rfl) rfl ?_;simp only[List.take_succ_cons,List.take_zero]
 repeat(refine still_plain rfl rfl ?_;intro K hK;go_wp2)
 refine wpStill_nil ?_;refine mid_op rfl rfl ?_;intro K hK
 go_wp2_with(go_at_call 38;refine CS.mono ?_;rintro r2 w2 ⟨rfl,b2⟩)
 have b2':Aft W1 w2:=⟨b2.os,b2.tape,b2.output,b2.size,b2.block⟩;have a2:=a1.trans b2';have X12:=X1.aft b2';have X22:=X2.aft b2';have k12:=K1.out _ a2;have k22:=K2.out _ a2;clear X1 X2 b2 b2' x0 x1 x2 xf xl y0 y1 y2 yf yl;obtain⟨x0,x1,x2,xf,xl⟩:=X12.c3;obtain⟨y0,y1,y2,yf,yl⟩:=X22.c3;simp only[List.drop_succ_cons,List.drop_zero]
 repeat(first
  |(refine still_plain rfl rfl ?_;intro K hK;go_wp2)
  |(refine still_guard rfl ?_;intro K hK;rw[if_pos (by rfl)];go_wp2))
 refine wpStill_nil ?_;go_wp2;go_ret;exact⟨rfl,a2⟩
end Go.Proofs.YtllolnkkepacjaaGreat
