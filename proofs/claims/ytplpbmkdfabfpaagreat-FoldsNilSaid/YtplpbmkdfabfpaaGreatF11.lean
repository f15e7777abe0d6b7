/- A fold walked. -/
import Derived.Test.YtplpbmkdfabfpaaGreatF10
set_option maxRecDepth 100000
set_option maxHeartbeats 2000000
namespace Go.Proofs.YtplpbmkdfabfpaaGreat
open Go.RowKit
theorem Paper.at {w:World}{p:Nat}{l ws:List Int}{most:Int}{A cA wA:Option Addr}{c cc wc B:Nat}(h1:Blk w p 77 #[.slice A l.length c,.slice cA (clusL l).length cc,.slice wA (clusL l).length wc,.int .i64 most])
 (h2:RdInts w B .u8 A l) (h3:RdInts w w.heap.size .i64 cA (clusL l)) (h4:RdInts w w.heap.size .i64 wA (cwL l ws)) {k:Nat} (hk:k<(clusL l).length):
 ∃ab ao cb co wb wo,A=some ⟨ab,ao,none⟩∧cA=some ⟨cb,co,none⟩∧wA=some ⟨wb,wo,none⟩∧ab<w.heap.size∧cb<w.heap.size∧wb<w.heap.size∧w.cell? ⟨cb,co+k,none⟩=some (.int .i64 (posC l k))∧
  w.cell? ⟨ab,ao+posC l k,none⟩=some (.int .u8 (l.getD (posC l k) 0))∧w.cell? ⟨wb,wo+k,none⟩=some (.int .i64 (PP l ws (k+1)-PP l ws k)):=by
 obtain⟨e1,e2⟩:=posC_lt hk;obtain⟨ab,ao,rfl,_,hab,hc1⟩:=h2.at_ e2;obtain⟨cb,co,rfl,_,hcb,hc2⟩:=h3.at_ hk;obtain⟨wb,wo,rfl,_,hwb,hc3⟩:=h4.at_ (i:=k) (by unfold cwL;rw[cwT_length];exact hk);rw[e1]at hc2;unfold cwL at hc3;rw[cwT_get l ws _ k hk]at hc3;exact⟨ab,ao,cb,co,wb,wo,rfl,rfl,rfl,hab,hcb,hwb,hc2,hc1,hc3⟩
theorem lone_ok {w:World}{p:Nat}{l ws:List Int}{most:Int}{a:Nat}(hp:Paper w p l ws most)(ha:a<(clusL l).length)(hl:l.length≤1048576):
 Calls Tryz.prog 74 #[.pointer (some ⟨p,0,none⟩),.int .i64 a] w fun r w'=>(∃v:Int,r= .returned (.tuple #[.int .i64 ((a:Int)+1),.int .i64 v]))∧Below w.heap.size w w':=by
 obtain⟨A,c,cA,cc,wA,wc,h1,⟨B,h2⟩,h3,h4⟩:=hp.ex;obtain⟨ab,ao,cb,co,wb,wo,rfl,rfl,rfl,hab,hcb,hwb,hc2,hc1,hc3⟩:=Paper.at h1 h2 h3 h4 ha;obtain⟨x0,x1,x2,x3,xf,xl⟩:=h1.c4;have hcl:=clusL_length l;have hpl:=(posC_lt ha).2
 have haI:(a:Int)≤1048576:=by omega
 have hb: ∀W:World,Calls Tryz.prog 72 #[.int .u8 (l.getD (posC l a) 0)] W fun r w'=>r= .returned (.bool (blkC (l.getD (posC l a) 0)))∧W=w':=fun W=>blankF_ok W _;generalize l.getD (posC l a) 0=x at hc1 hb;generalize posC l a=pa at hc1 hc2 hpl;generalize PP l ws (a+1)-PP l ws a=y at hc3;generalize (clusL l).length=m at*
 go_enter Tryz.func74,Tryz.ntmps74
 go_upto_region 1 with(fail)
 go_quiet ((go_at_call 72;exact Calls.quiet_of_same (same_of (hb _))))
 cases hbx:blkC x
 ·go_wp2_with(go_quiet (fail))
  go_ret2
  exact⟨⟨_,rfl⟩,⟨rfl,rfl,rfl,Nat.le_refl _,fun _ _=>rfl⟩⟩
 ·go_wp2
  go_ret2
  exact⟨⟨_,rfl⟩,⟨rfl,rfl,rfl,Nat.le_refl _,fun _ _=>rfl⟩⟩
end Go.Proofs.YtplpbmkdfabfpaaGreat
