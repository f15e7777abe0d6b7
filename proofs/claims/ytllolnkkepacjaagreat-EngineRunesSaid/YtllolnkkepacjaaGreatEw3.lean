/- The reference's Runes: what the program's answers. -/
import Derived.Test.YtllolnkkepacjaaGreatEw2
import Derived.Test.YtllolnkkepacjaaGreatEr2
import Derived.Test.YtllolnkkepacjaaGreatEr1
set_option maxRecDepth 100000
set_option maxHeartbeats 4000000
namespace Go.Proofs.YtllolnkkepacjaaGreat
open Go.RowKit
attribute [local go_sem] Oper.semAt_some
theorem rERunes_ok {w:World}{Bp Br rn rc:Nat}{pv:Value}{rest:Int}{ch:List Chr}{rA:Option Addr}{rs:List Int}(hP:PropsIs w Bp pv rest ch)(hR:RdInts w Br .i32 rA rs)(hrl:rn=rs.length)(b:Int):
 Calls Tryz.prog 19 #[pv,.slice rA rn rc,.int .i8 b] w fun r w'=> ∃v,r= .returned (.tuple #[v,.int .i64 (runesX rest ch rs b).e])∧ResOwn w' w.heap.size v (runesX rest ch rs b)∧Aft w w':=by
 have hP0:=hP;obtain⟨pA,pc,hpv,-,-⟩:=hP;obtain⟨pn,hpn⟩: ∃pn,ch.length=pn:=⟨_,rfl⟩;rw[hpn]at hpv;subst hpv;obtain⟨X,hX⟩: ∃X,runesX rest ch rs b=X:=⟨_,rfl⟩;rw[hX];have HX:=Lib.hid hX;have HRL:=Lib.hid hrl;obtain⟨W1,hW1⟩: ∃W1,(w.alloc (.cells #[.int .u8 rest,.slice pA pn pc] 25)).alloc (.cells #[.int .i8 0,.slice none 0 0,.slice none 0 0] 33)=W1:=⟨_,rfl⟩
 have X3:Blk W1 w.heap.size 25 #[.int .u8 rest,.slice pA pn pc]:=by rw[←hW1];exact(Blk.new w 25 _).alloc _
 have X6:Blk W1 (w.heap.size+1) 33 #[.int .i8 0,.slice none 0 0,.slice none 0 0]:=by rw[←hW1];exact Blk.at_ (by simp)
 have a1:Aft w W1:=by rw[←hW1];exact((Aft.refl w).alloc _).alloc _
 clear hX hrl hpn
 by_cases hb:okBase b
 ·have hb0:=hb;have HB:=Lib.hid hb;clear hb
  go_enter Tryz.func19,Tryz.ntmps19
  go_upto_region 1 with(fail)
  clear hW1
  go_cut [18] from 9 to 18 (fun cv wx=>cv= .bool false∧wx=W1)
  case first=>
   rcases hb0 with rfl|rfl|rfl
   all_goals
    go_wp2;go_meet;exact⟨rfl,rfl⟩
  case rest=>
   obtain⟨rfl,hwc⟩:=hcut;subst hwc;clear hb0;obtain⟨u0,u1,uf,ul⟩:=X3.c2;obtain⟨z0,z1,z2,zf,zl⟩:=X6.c3
   by_cases hlong:1048576<rn
   ·have hx:X=Res.no 4:=by rw[←HX.out];unfold runesX;rw[if_neg (by simp[HB.out]),if_pos (by rw[←HRL.out];exact hlong)]
    subst hx;have F:=frm_put3 wc (w.heap.size+1) (.int .i8 0) (.slice none 0 0) (.slice none 0 0)
    have hl2:(1048576:Int)<(rn:Int):=by omega
    clear HX;go_wp2;refine bodyPost_ret (results_row1 rfl _ _ (w.heap.size+1) 33 _ _ rfl (blk_put3 _ _ _ X6) Tryz.underlying33 rfl (by kernel_rfl)) rfl ⟨_,rfl,ResOwn.no _ _ _,Below.trans a1 (F.below a1.size (fun j hj e=>by omega))⟩
   ·have hl2: ¬(1048576:Int)<(rn:Int):=by omega
    have hcl:(clsL rest ch rs).length=rn:=by rw[clsL_len];exact HRL.out.symm
    have CC:=rClasses_ok (n:=rn) (c2:=rc) (hP0.below a1 (.inr (Nat.le_refl _))) (hR.aft a1) HRL.out (by omega)
    have hPw: ∀(W:World) (A2:Option Addr) (c2:Nat),Aft w W→RdInts W W.heap.size .u8 A2 (clsL rest ch rs)→Calls Tryz.prog 53 #[.slice rA rn rc,.slice A2 rn c2] W fun r w'=>r= .returned (.bool (paraB (clsL rest ch rs) rs))∧W=w':=fun W A2 c2 hW hr=>para_ok hcl.symm HRL.out hr (hR.aft hW) (by omega) (.inr rfl)
    obtain⟨cl,hcll⟩: ∃cl,clsL rest ch rs=cl:=⟨_,rfl⟩;rw[hcll]at CC hPw hcl;have HCLL:=Lib.hid hcll;have HCL:=Lib.hid hcl;clear hcll hcl
    rcases hpb:paraB cl rs with _|_
    ·have hx:X=Res.no 210:=by rw[←HX.out];unfold runesX;rw[if_neg (by simp[HB.out]),if_neg (by rw[←HRL.out];exact hlong),HCLL.out,if_pos hpb]
     subst hx;rw[hpb]at hPw;clear HX
     go_wp2_with(first
      |(go_at_call 37;refine CC.mono ?_;rintro r3 w3 ⟨v3,rfl,I3,a3⟩;obtain⟨cA,cc,hv3,-,-,r3⟩:=I3.val;rw[HCL.out]at hv3;subst hv3;have X63:=X6.aft a3;have X33:=X3.aft a3;obtain⟨u0,u1,uf,ul⟩:=X33.c2;obtain⟨z0,z1,z2,zf,zl⟩:=X63.c3)
      |(go_at_call 53;refine(hPw _ _ _ (a1.trans a3) r3).mono ?_;rintro r4 w4 ⟨rfl,hw4⟩;subst hw4))
     have F:=frm_put3 w3 (w.heap.size+1) (.int .i8 0) (.slice none 0 0) (.slice none 0 0);have a13:=a1.trans a3;refine bodyPost_ret (results_row1 rfl _ _ (w.heap.size+1) 33 _ _ rfl (blk_put3 _ _ _ X63) Tryz.underlying33 rfl (by kernel_rfl)) rfl ⟨_,rfl,ResOwn.no _ _ _,Below.trans a13 (F.below a13.size (fun j hj e=>by omega))⟩
    ·have hx:X=⟨0,lvlB cl b,cl,levE (stpR ch rs (exC (lvlB cl b) cl)) (lvlB cl b) cl (exL (lvlB cl b) cl)⟩:=by
      rw[←HX.out];unfold runesX;rw[if_neg (by simp[HB.out]),if_neg (by rw[←HRL.out];exact hlong),HCLL.out,if_neg (by rw[hpb];decide)]
     subst hx
     have hll:(levE (stpR ch rs (exC (lvlB cl b) cl)) (lvlB cl b) cl (exL (lvlB cl b) cl)).length=rn:=by rw[levE_len,exL_len];exact HCL.out
     have CV: ∀(W:World) (A2:Option Addr) (c2:Nat),Aft w W→RdInts W W.heap.size .u8 A2 cl→Calls Tryz.prog 54 #[.agg #[.int .u8 rest,.slice pA pn pc],.slice rA rn rc,.slice A2 rn c2,.int .i8 b] W fun r w'=> ∃lA lc,r= .returned (.tuple #[.agg #[.int .i8 (lvlB cl b),.slice A2 rn c2,.slice lA rn lc],.int .i64 0])∧
      Ints w' W.heap.size 29 .i8 (.slice lA rn lc) (levE (stpR ch rs (exC (lvlB cl b) cl)) (lvlB cl b) cl (exL (lvlB cl b) cl))∧Aft W w':=fun W A2 c2 hW hr=>by
      rcases Nat.eq_zero_or_pos rn with h0|h0
      ·have e1:levE (stpR ch rs (exC (lvlB cl b) cl)) (lvlB cl b) cl (exL (lvlB cl b) cl)=[]:=levE_nil _ _ (by rw[exL_len,HCL.out];exact h0);have e2:levE stpC (lvlB cl b) cl (List.replicate cl.length (-1))=[]:=levE_nil _ _ (by rw[List.length_replicate,HCL.out];exact h0);have:=resolveC_ok (rest:=rest) (pA:=pA) (pn:=pn) (pc:=pc) (rA:=rA) (rc:=rc) (c:=c2) HCL.out.symm hr (by omega) HB.out;rw[e2]at this;rw[e1];rw[h0]at this⊢;exact this
      ·have:=resolveR_ok (c:=c2) (rc:=rc) HCL.out.symm hr (by omega) HB.out (hP0.below hW (.inr (Nat.le_refl _))) (hR.aft hW) HRL.out rfl h0;rw[←levE_same (lvlB_two cl b) cl (keeps_R _ _ _)]at this;exact this
     obtain⟨base,hbase⟩: ∃base,lvlB cl b=base:=⟨_,rfl⟩;rw[hpb]at hPw;clear HX hpb
     go_wp2_with(first
      |(go_at_call 37;refine CC.mono ?_;rintro r3 w3 ⟨v3,rfl,I3,a3⟩;obtain⟨cA,cc,hv3,-,-,r3⟩:=I3.val;rw[HCL.out]at hv3;subst hv3;have X63:=X6.aft a3;have X33:=X3.aft a3;obtain⟨u0,u1,uf,ul⟩:=X33.c2;obtain⟨z0,z1,z2,zf,zl⟩:=X63.c3)
      |(go_at_call 53;refine(hPw _ _ _ (a1.trans a3) r3).mono ?_;rintro r4 w4 ⟨rfl,hw4⟩;subst hw4)
      |(go_at_call 54;refine(CV _ _ _ (a1.trans a3) r3).mono ?_;rintro r5 w5 ⟨lA,lc,rfl,IL,a5⟩;have X65:=X63.aft a5;obtain⟨z0,z1,z2,zf,zl⟩:=X65.c3))
     have a35:=(a1.trans a3).trans a5;have hz3:w.heap.size+1<w3.heap.size:=X63.lt;have hz1:w.heap.size+1<wc.heap.size:=X6.lt;have F:=frm_put3 w5 (w.heap.size+1) (.int .i8 base) (.slice cA rn cc) (.slice lA rn lc);have N:=blk_put3 (.int .i8 base) (.slice cA rn cc) (.slice lA rn lc) X65;rw[←hbase]at N F⊢;have IC:Ints w5 wc.heap.size 22 .u8 (.slice cA rn cc) cl:=I3.aft a5;have hcl3:=fun j e=>(I3.lt j e)
     have hne: ∀j,(Value.slice cA rn cc).ownBlock=some j→(Value.slice lA rn lc).ownBlock≠some j:=fun j e e2=>by have:=(hcl3 j e).2;have:=(IL.lt j e2).1;omega
     refine bodyPost_ret (results_row1 rfl _ _ (w.heap.size+1) 33 _ _ rfl N Tryz.underlying33 rfl (by kernel_rfl)) rfl ⟨_,rfl,?_,Below.trans a35 (F.below a35.size (fun j hj e=>by omega))⟩;have IC2:=(IC.frm F (fun j e h=>by have:=(IC.lt j e).1;omega)).base (B':=w.heap.size) (fun j e=>by have:=(IC.lt j e).1;omega);have IL2:=(IL.frm F (fun j e h=>by have:=(IL.lt j e).1;omega)).base (B':=w.heap.size) (fun j e=>by have:=(IL.lt j e).1;omega);refine⟨cA,lA,cc,lc,?_,?_,?_,?_⟩
     ·show _=Value.agg #[.int .i8 (lvlB cl b),.slice cA cl.length cc,.slice lA (levE _ _ cl _).length lc];rw[HCL.out,hll]
     ·show Ints _ _ _ _ (.slice cA cl.length cc) cl;rw[HCL.out];exact IC2
     ·show Ints _ _ _ _ (.slice lA (levE _ _ cl _).length lc) _;rw[hll];exact IL2
     ·show∀j,(Value.slice cA cl.length cc).ownBlock=some j→(Value.slice lA (levE _ _ cl _).length lc).ownBlock≠some j;rw[HCL.out,hll];exact hne
 ·have e1:(b != -1)=true:=bne_iff_ne.2 (fun e=>hb (.inl e));have e2:(b !=0)=true:=bne_iff_ne.2 (fun e=>hb (.inr (.inl e)));have e3:(b !=1)=true:=bne_iff_ne.2 (fun e=>hb (.inr (.inr e)))
  have hx:X=Res.no 2:=by rw[←HX.out];unfold runesX;rw[if_pos hb]
  subst hx;obtain⟨z0,z1,z2,zf,zl⟩:=X6.c3;have F:=frm_put3 W1 (w.heap.size+1) (.int .i8 0) (.slice none 0 0) (.slice none 0 0);clear HX hb
  go_enter Tryz.func19,Tryz.ntmps19
  go_upto_region 1 with(fail)
  clear hW1;go_wp2;refine bodyPost_ret (results_row1 rfl _ _ (w.heap.size+1) 33 _ _ rfl (blk_put3 _ _ _ X6) Tryz.underlying33 rfl (by kernel_rfl)) rfl ⟨_,rfl,ResOwn.no _ _ _,Below.trans a1 (F.below a1.size (fun j hj e=>by omega))⟩
end Go.Proofs.YtllolnkkepacjaaGreat
