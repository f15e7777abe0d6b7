/- Classes by both. -/
import Derived.Test.YtllolnkkepacjaaGreatEw2
import Derived.Test.YtllolnkkepacjaaGreatEr1
set_option maxRecDepth 100000
set_option maxHeartbeats 4000000
namespace Go.Proofs.YtllolnkkepacjaaGreat
open Go.RowKit
attribute [local go_sem] Oper.semAt_some
theorem EClasses_ok {w:World}{B n c:Nat}{A:Option Addr}{l:List Int}(h:RdInts w B .u8 A l)(hn:n=l.length)(b:Int):
 Calls Tryz.prog 29 #[.slice A n c,.int .i8 b] w fun r w'=> ∃v,r= .returned (.tuple #[v,.int .i64 (classesX l b).e])∧ResOwn w' w.heap.size v (classesX l b)∧Aft w w':=by
 obtain⟨X,hX⟩: ∃X,classesX l b=X:=⟨_,rfl⟩;rw[hX];have HX:=Lib.hid hX;have HN:=Lib.hid hn;obtain⟨W1,hW1⟩: ∃W1,w.alloc (.cells #[.int .i8 0,.slice none 0 0,.slice none 0 0] 33)=W1:=⟨_,rfl⟩
 have X4:Blk W1 w.heap.size 33 #[.int .i8 0,.slice none 0 0,.slice none 0 0]:=by rw[←hW1];exact Blk.new w 33 _
 have a1:Aft w W1:=by rw[←hW1];exact(Aft.refl w).alloc _
 have hzW:W1.heap.size≤w.heap.size+1:=by rw[←hW1];simp
 obtain⟨z0,z1,z2,zf,zl⟩:=X4.c3;clear hX hn;have CM:=fun W=>emay_ok W b
 by_cases hb:okBase b
 ·have e1:decide (b= -1∨b=0∨b=1)=true:=decide_eq_true hb;rw[e1]at CM;clear e1
  by_cases hlong:1048576<n
  ·have hx:X=Res.no 4:=by rw[←HX.out];unfold classesX;rw[if_neg (by simp[hb]),if_pos (by rw[←HN.out];exact hlong)]
   subst hx;have F:=frm_put3 W1 w.heap.size (.int .i8 0) (.slice none 0 0) (.slice none 0 0)
   have hl2:(1048576:Int)<(n:Int):=by omega
   clear HX
   go_enter Tryz.func29,Tryz.ntmps29
   go_upto_region 1 with(fail)
   clear hW1
   go_wp2_with(go_at_call 40;refine(CM _).mono ?_;rintro r2 w2 ⟨rfl,hw2⟩;subst hw2)
   refine bodyPost_ret (results_row1 rfl _ _ w.heap.size 33 _ _ rfl (blk_put3 _ _ _ X4) Tryz.underlying33 rfl (by kernel_rfl)) rfl ⟨_,rfl,ResOwn.no _ _ _,Below.trans a1 (F.below a1.size (fun j hj e=>by omega))⟩
  ·have hl2: ¬(1048576:Int)<(n:Int):=by omega
   have hR:=h.clip;have HB:=Lib.hid hb
   go_enter Tryz.func29,Tryz.ntmps29
   go_upto_region 1 with(fail)
   clear hW1 h
   go_wp2_with(go_at_call 40;refine(CM _).mono ?_;rintro r2 w2 ⟨rfl,hw2⟩;subst hw2)
   go_loopg [6,19] n (fun gk ov iv wr=> ∃k:Nat,k+gk=n∧iv= .int .i64 k∧Ints wr (w.heap.size+1) 22 .u8 ov ((l.take k).map clsC)∧Aft W1 wr)
   case atStart=>exact⟨0,by omega,rfl,Ints.nil _ _ _ _,Aft.refl _⟩
   case round=>
    obtain⟨k,hk,rfl,I,b1⟩:=hrel;have HK:=Lib.hid hk;clear hk;have bw:=a1.trans b1
    have hz1:w.heap.size+1≤wr.heap.size:=by have:=X4.lt;have:=b1.le;omega
    by_cases hkn:k<n
    ·obtain⟨q,o,rfl,_,hq,ck⟩:=(hR.aft bw).at_ (i:=k) (by have:=HN.out;omega);have htk:(l.take (k+1)).map clsC=(l.take k).map clsC++[clsC (l.getD k 0)]:=take_map_succ (by have:=HN.out;omega);obtain⟨x,hx⟩: ∃x,l.getD k 0=x:=⟨_,rfl⟩;rw[hx]at ck htk
     have hlen:((l.take k).map clsC).length=k:=by rw[List.length_map,List.length_take];have:=HN.out;omega
     obtain⟨D,hD⟩: ∃D,(l.take k).map clsC=D:=⟨_,rfl⟩;rw[hD]at I htk hlen;have HT:=Lib.hid htk;have HLEN:=Lib.hid hlen;clear htk hx hlen hD
     go_wp2_with(first
      |(go_at_call 55;refine(eknown_ok _ _).mono ?_;rintro r5 w5 ⟨rfl,hw5⟩;subst hw5)
      |(at_builtin;go_must (refine wpList_appI ei22 rfl rfl rfl (I.alloc _) rfl (Blk.at_ (by simp)) ?_ ?_ ?_ ?_)))
     ·rw[HLEN.out];unfold maxLen;omega
     ·rw[HLEN.out];omega
     ·simp;omega
     intro g cap w6 I6 g6 hg6;have a6:Aft W1 w6:=(b1.alloc _).grown g6 (fun j e=>by have:=(I.lt j e).1;omega);go_wp2
     go_roundg (n-(k+1))
     case rel=>exact⟨k+1,by have:=HK.out;omega,by go_num,by rw[HT.out];exact I6,a6⟩
     case measure=>have:=HK.out;omega
    ·have hkn2:k=n:=by have:=HK.out;omega
     have hfull:(l.take k).map clsC=l.map clsC:=by rw[List.take_of_length_le (by have:=HN.out;omega)]
     rw[hfull]at I;clear hfull HK hkn;subst hkn2;obtain⟨n,hnk⟩: ∃n,n=k:=⟨_,rfl⟩;subst hnk;obtain⟨cA,cc,rfl,-,-,rcl⟩:=I.val
     have hcl:(l.map clsC).length=n:=by rw[List.length_map];exact HN.out.symm
     rw[hcl]at I⊢;have X4w:=X4.aft b1;obtain⟨z0,z1,z2,zf,zl⟩:=X4w.c3
     have CW: ∀(A2:Option Addr) (c2:Nat),RdInts wr wr.heap.size .u8 A2 (l.map clsC)→Calls Tryz.prog 42 #[.slice A2 n c2,.slice none 0 0] wr fun r w'=>r= .returned (.bool (paraB (l.map clsC) []))∧wr=w':=fun A2 c2 hr=>whole_ok (n:=n) (m:=0) (B2:=0) hcl.symm rfl hr ⟨by simp,fun h=>absurd h (by simp)⟩ (by omega) (.inl rfl)
     rcases hpb:paraB (l.map clsC) []with _|_
     ·have hx:X=Res.no 210:=by rw[←HX.out];unfold classesX;rw[if_neg (by simp[HB.out]),if_neg (by rw[←HN.out];exact hlong),if_pos hpb]
      subst hx;rw[hpb]at CW;have F:=frm_put3 wr w.heap.size (.int .i8 0) (.slice none 0 0) (.slice none 0 0);clear hpb HX hcl
      go_wp2_with(go_at_call 42;refine(CW _ _ rcl).mono ?_;rintro r4 w4 ⟨rfl,hw4⟩;subst hw4)
      refine bodyPost_ret (results_row1 rfl _ _ w.heap.size 33 _ _ rfl (blk_put3 _ _ _ X4w) Tryz.underlying33 rfl (by kernel_rfl)) rfl ⟨_,rfl,ResOwn.no _ _ _,Below.trans bw (F.below bw.size (fun j hj e=>by omega))⟩
     ·have hx:X=⟨0,lvlB (l.map clsC) b,l.map clsC,levE stpC (lvlB (l.map clsC) b) (l.map clsC) (exL (lvlB (l.map clsC) b) (l.map clsC))⟩:=by
       rw[←HX.out];unfold classesX;rw[if_neg (by simp[HB.out]),if_neg (by rw[←HN.out];exact hlong),if_neg (by rw[hpb];decide)]
      subst hx;rw[hpb]at CW;have CV:Calls Tryz.prog 43 #[.slice cA n cc,.int .i8 b,.func (.func 60) #[] #[]] wr _:=levelsC_ok (c:=cc) hcl.symm rcl (by omega) HB.out
      have hll:(levE stpC (lvlB (l.map clsC) b) (l.map clsC) (exL (lvlB (l.map clsC) b) (l.map clsC))).length=n:=by rw[levE_len,exL_len];exact hcl
      obtain⟨base,hbase⟩: ∃base,lvlB (l.map clsC) b=base:=⟨_,rfl⟩;have HCLL:=Lib.hid hcl;clear hpb HX hcl
      go_wp2_with(first
       |(go_at_call 42;refine(CW _ _ rcl).mono ?_;rintro r4 w4 ⟨rfl,hw4⟩;subst hw4)
       |(go_at_call 43;refine CV.mono ?_;rintro r5 w5 ⟨lA,lc,kA,kc,rfl,IC,IL,hne,a5⟩;have X65:=X4w.aft a5;obtain⟨z0,z1,z2,zf,zl⟩:=X65.c3))
      have a35:=bw.trans a5;have F:=frm_put3 w5 w.heap.size (.int .i8 base) (.slice kA n kc) (.slice lA n lc);have N:=blk_put3 (.int .i8 base) (.slice kA n kc) (.slice lA n lc) X65;rw[←hbase]at N F⊢;refine bodyPost_ret (results_row1 rfl _ _ w.heap.size 33 _ _ rfl N Tryz.underlying33 rfl (by kernel_rfl)) rfl ⟨_,rfl,?_,Below.trans a35 (F.below a35.size (fun j hj e=>by omega))⟩;have IC2:=(IC.frm F (fun j e h=>by have:=(IC.lt j e).1;omega)).base (B':=w.heap.size) (fun j e=>by have:=(IC.lt j e).1;omega);have IL2:=(IL.frm F (fun j e h=>by have:=(IL.lt j e).1;omega)).base (B':=w.heap.size) (fun j e=>by have:=(IL.lt j e).1;omega);refine⟨kA,lA,kc,lc,?_,?_,?_,?_⟩
      ·show _=Value.agg #[.int .i8 (lvlB (l.map clsC) b),.slice kA (l.map clsC).length kc,.slice lA (levE _ _ (l.map clsC) _).length lc];rw[HCLL.out,hll]
      ·show Ints _ _ _ _ (.slice kA (l.map clsC).length kc) (l.map clsC);rw[HCLL.out];exact IC2
      ·show Ints _ _ _ _ (.slice lA (levE _ _ (l.map clsC) _).length lc) _;rw[hll];exact IL2
      ·show∀j,(Value.slice kA (l.map clsC).length kc).ownBlock=some j→(Value.slice lA (levE _ _ (l.map clsC) _).length lc).ownBlock≠some j;rw[HCLL.out,hll];exact hne
 ·have e1:decide (b= -1∨b=0∨b=1)=false:=decide_eq_false hb;rw[e1]at CM
  have hx:X=Res.no 2:=by rw[←HX.out];unfold classesX;rw[if_pos hb]
  subst hx;have F:=frm_put3 W1 w.heap.size (.int .i8 0) (.slice none 0 0) (.slice none 0 0);clear e1 HX
  go_enter Tryz.func29,Tryz.ntmps29
  go_upto_region 1 with(fail)
  clear hW1
  go_wp2_with(go_at_call 40;refine(CM _).mono ?_;rintro r2 w2 ⟨rfl,hw2⟩;subst hw2)
  refine bodyPost_ret (results_row1 rfl _ _ w.heap.size 33 _ _ rfl (blk_put3 _ _ _ X4) Tryz.underlying33 rfl (by kernel_rfl)) rfl ⟨_,rfl,ResOwn.no _ _ _,Below.trans a1 (F.below a1.size (fun j hj e=>by omega))⟩
theorem rEClasses_ok {w:World}{B n c:Nat}{A:Option Addr}{l:List Int}(h:RdInts w B .u8 A l)(hn:n=l.length)(b:Int):
 Calls Tryz.prog 30 #[.slice A n c,.int .i8 b] w fun r w'=> ∃v,r= .returned (.tuple #[v,.int .i64 (classesX l b).e])∧ResOwn w' w.heap.size v (classesX l b)∧Aft w w':=by
 obtain⟨X,hX⟩: ∃X,classesX l b=X:=⟨_,rfl⟩;rw[hX];have HX:=Lib.hid hX;have HN:=Lib.hid hn;obtain⟨W1,hW1⟩: ∃W1,w.alloc (.cells #[.int .i8 0,.slice none 0 0,.slice none 0 0] 33)=W1:=⟨_,rfl⟩
 have X4:Blk W1 w.heap.size 33 #[.int .i8 0,.slice none 0 0,.slice none 0 0]:=by rw[←hW1];exact Blk.new w 33 _
 have a1:Aft w W1:=by rw[←hW1];exact(Aft.refl w).alloc _
 have hzW:W1.heap.size≤w.heap.size+1:=by rw[←hW1];simp
 obtain⟨z0,z1,z2,zf,zl⟩:=X4.c3;clear hX hn
 by_cases hb:okBase b
 ·have hb0:=hb
  by_cases hlong:1048576<n
  ·have hx:X=Res.no 4:=by rw[←HX.out];unfold classesX;rw[if_neg (by simp[hb]),if_pos (by rw[←HN.out];exact hlong)]
   subst hx;have F:=frm_put3 W1 w.heap.size (.int .i8 0) (.slice none 0 0) (.slice none 0 0)
   have hl2:(1048576:Int)<(n:Int):=by omega
   clear HX
   go_enter Tryz.func30,Tryz.ntmps30
   go_upto_region 1 with(fail)
   clear hW1
   go_cut [17] from 8 to 17 (fun cv wx=>cv= .bool false∧wx=W1)
   case first=>
    rcases hb0 with rfl|rfl|rfl
    all_goals
     go_wp2;go_meet;exact⟨rfl,rfl⟩
   case rest=>obtain⟨rfl,hwc⟩:=hcut;subst hwc;go_wp2;refine bodyPost_ret (results_row1 rfl _ _ w.heap.size 33 _ _ rfl (blk_put3 _ _ _ X4) Tryz.underlying33 rfl (by kernel_rfl)) rfl ⟨_,rfl,ResOwn.no _ _ _,Below.trans a1 (F.below a1.size (fun j hj e=>by omega))⟩
  ·have hl2: ¬(1048576:Int)<(n:Int):=by omega
   have hR:=h.clip;have HB:=Lib.hid hb
   go_enter Tryz.func30,Tryz.ntmps30
   go_upto_region 1 with(fail)
   clear hW1 h
   go_cut [17] from 8 to 17 (fun cv wx=>cv= .bool false∧wx=W1)
   case first=>
    rcases hb0 with rfl|rfl|rfl
    all_goals
     go_wp2;go_meet;exact⟨rfl,rfl⟩
   case rest=>
    obtain⟨rfl,hwc⟩:=hcut;subst hwc;go_wp2
    go_loopg [6,7] n (fun gk ov iv wr=> ∃k:Nat,k+gk=n∧iv= .int .i64 k∧Ints wr (w.heap.size+1) 22 .u8 ov ((l.take k).map clsC)∧Aft wc wr)
    case atStart=>exact⟨0,by omega,rfl,Ints.nil _ _ _ _,Aft.refl _⟩
    case round=>
     obtain⟨k,hk,rfl,I,b1⟩:=hrel;have HK:=Lib.hid hk;clear hk;have bw:=a1.trans b1
     have hz1:w.heap.size+1≤wr.heap.size:=by have:=X4.lt;have:=b1.le;omega
     by_cases hkn:k<n
     ·obtain⟨q,o,rfl,_,hq,ck⟩:=(hR.aft bw).at_ (i:=k) (by have:=HN.out;omega);have htk:(l.take (k+1)).map clsC=(l.take k).map clsC++[clsC (l.getD k 0)]:=take_map_succ (by have:=HN.out;omega);obtain⟨x,hx⟩: ∃x,l.getD k 0=x:=⟨_,rfl⟩;rw[hx]at ck htk
      have hlen:((l.take k).map clsC).length=k:=by rw[List.length_map,List.length_take];have:=HN.out;omega
      obtain⟨D,hD⟩: ∃D,(l.take k).map clsC=D:=⟨_,rfl⟩;rw[hD]at I htk hlen;have HT:=Lib.hid htk;have HLEN:=Lib.hid hlen;clear htk hx hlen hD
      go_wp2_with(first
       |(go_at_call 50;refine(rClass_ok _ _).mono ?_;rintro r5 w5 ⟨rfl,hw5⟩;subst hw5)
       |(at_builtin;go_must (refine wpList_appI ei22 rfl rfl rfl (I.alloc _) rfl (Blk.at_ (by simp)) ?_ ?_ ?_ ?_)))
      ·rw[HLEN.out];unfold maxLen;omega
      ·rw[HLEN.out];omega
      ·simp;omega
      intro g cap w6 I6 g6 hg6;have a6:Aft wc w6:=(b1.alloc _).grown g6 (fun j e=>by have:=(I.lt j e).1;omega);go_wp2
      go_roundg (n-(k+1))
      case rel=>exact⟨k+1,by have:=HK.out;omega,by go_num,by rw[HT.out];exact I6,a6⟩
      case measure=>have:=HK.out;omega
     ·have hkn2:k=n:=by have:=HK.out;omega
      have hfull:(l.take k).map clsC=l.map clsC:=by rw[List.take_of_length_le (by have:=HN.out;omega)]
      rw[hfull]at I;clear hfull HK hkn;subst hkn2;obtain⟨n,hnk⟩: ∃n,n=k:=⟨_,rfl⟩;subst hnk;obtain⟨cA,cc,rfl,-,-,rcl⟩:=I.val
      have hcl:(l.map clsC).length=n:=by rw[List.length_map];exact HN.out.symm
      rw[hcl]at I⊢;have X4w:=X4.aft b1;obtain⟨z0,z1,z2,zf,zl⟩:=X4w.c3
      have CW: ∀(A2:Option Addr) (c2:Nat),RdInts wr wr.heap.size .u8 A2 (l.map clsC)→Calls Tryz.prog 53 #[.slice none 0 0,.slice A2 n c2] wr fun r w'=>r= .returned (.bool (paraB (l.map clsC) []))∧wr=w':=fun A2 c2 hr=>para_ok (n:=n) (m:=0) (B2:=0) hcl.symm rfl hr ⟨by simp,fun h=>absurd h (by simp)⟩ (by omega) (.inl rfl)
      rcases hpb:paraB (l.map clsC) []with _|_
      ·have hx:X=Res.no 210:=by rw[←HX.out];unfold classesX;rw[if_neg (by simp[HB.out]),if_neg (by rw[←HN.out];exact hlong),if_pos hpb]
       subst hx;rw[hpb]at CW;have F:=frm_put3 wr w.heap.size (.int .i8 0) (.slice none 0 0) (.slice none 0 0);clear hpb HX hcl
       go_wp2_with(go_at_call 53;refine(CW _ _ rcl).mono ?_;rintro r4 w4 ⟨rfl,hw4⟩;subst hw4)
       refine bodyPost_ret (results_row1 rfl _ _ w.heap.size 33 _ _ rfl (blk_put3 _ _ _ X4w) Tryz.underlying33 rfl (by kernel_rfl)) rfl ⟨_,rfl,ResOwn.no _ _ _,Below.trans bw (F.below bw.size (fun j hj e=>by omega))⟩
      ·have hx:X=⟨0,lvlB (l.map clsC) b,l.map clsC,levE stpC (lvlB (l.map clsC) b) (l.map clsC) (exL (lvlB (l.map clsC) b) (l.map clsC))⟩:=by
        rw[←HX.out];unfold classesX;rw[if_neg (by simp[HB.out]),if_neg (by rw[←HN.out];exact hlong),if_neg (by rw[hpb];decide)]
       subst hx;rw[hpb]at CW;have CV:Calls Tryz.prog 54 #[.agg #[.int .u8 0,.slice none 0 0],.slice none 0 0,.slice cA n cc,.int .i8 b] wr _:=resolveC_ok (c:=cc) hcl.symm rcl (by omega) HB.out
       have hll:(levE stpC (lvlB (l.map clsC) b) (l.map clsC) (exL (lvlB (l.map clsC) b) (l.map clsC))).length=n:=by rw[levE_len,exL_len];exact hcl
       obtain⟨base,hbase⟩: ∃base,lvlB (l.map clsC) b=base:=⟨_,rfl⟩;have HCLL:=Lib.hid hcl;have hsm:=(levE_same (lvlB_two (l.map clsC) b) (l.map clsC) keeps_C).symm;have HSM:=Lib.hid hsm;have hcw:=fun j e=>(I.lt j e);clear hsm;clear hpb HX hcl
       go_wp2_with(first
        |(go_at_call 53;refine(CW _ _ rcl).mono ?_;rintro r4 w4 ⟨rfl,hw4⟩;subst hw4)
        |(go_at_call 54;refine CV.mono ?_;rintro r5 w5 ⟨lA,lc,rfl,IL,a5⟩;rw[HSM.out]at IL;have X65:=X4w.aft a5;obtain⟨z0,z1,z2,zf,zl⟩:=X65.c3))
       have a35:=bw.trans a5;have F:=frm_put3 w5 w.heap.size (.int .i8 base) (.slice cA n cc) (.slice lA n lc);have N:=blk_put3 (.int .i8 base) (.slice cA n cc) (.slice lA n lc) X65;rw[←hbase]at N F⊢;refine bodyPost_ret (results_row1 rfl _ _ w.heap.size 33 _ _ rfl N Tryz.underlying33 rfl (by kernel_rfl)) rfl ⟨_,rfl,?_,Below.trans a35 (F.below a35.size (fun j hj e=>by omega))⟩;have IC:=I.aft a5
       have hne: ∀j,(Value.slice cA n cc).ownBlock=some j→(Value.slice lA n lc).ownBlock≠some j:=fun j e e2=>by have:=(hcw j e).2;have:=(IL.lt j e2).1;omega
       have IC2:=(IC.frm F (fun j e h=>by have:=(IC.lt j e).1;omega)).base (B':=w.heap.size) (fun j e=>by have:=(IC.lt j e).1;omega);have IL2:=(IL.frm F (fun j e h=>by have:=(IL.lt j e).1;omega)).base (B':=w.heap.size) (fun j e=>by have:=(IL.lt j e).1;omega);refine⟨cA,lA,cc,lc,?_,?_,?_,?_⟩
       ·show _=Value.agg #[.int .i8 (lvlB (l.map clsC) b),.slice cA (l.map clsC).length cc,.slice lA (levE _ _ (l.map clsC) _).length lc];rw[HCLL.out,hll]
       ·show Ints _ _ _ _ (.slice cA (l.map clsC).length cc) (l.map clsC);rw[HCLL.out];exact IC2
       ·show Ints _ _ _ _ (.slice lA (levE _ _ (l.map clsC) _).length lc) _;rw[hll];exact IL2
       ·show∀j,(Value.slice cA (l.map clsC).length cc).ownBlock=some j→(Value.slice lA (levE _ _ (l.map clsC) _).length lc).ownBlock≠some j;rw[HCLL.out,hll];exact hne
 ·have e1:(b != -1)=true:=bne_iff_ne.2 (fun e=>hb (.inl e));have e2:(b !=0)=true:=bne_iff_ne.2 (fun e=>hb (.inr (.inl e)));have e3:(b !=1)=true:=bne_iff_ne.2 (fun e=>hb (.inr (.inr e)))
  have hx:X=Res.no 2:=by rw[←HX.out];unfold classesX;rw[if_pos hb]
  subst hx;have F:=frm_put3 W1 w.heap.size (.int .i8 0) (.slice none 0 0) (.slice none 0 0);clear HX hb
  go_enter Tryz.func30,Tryz.ntmps30
  go_upto_region 1 with(fail)
  clear hW1;go_wp2;refine bodyPost_ret (results_row1 rfl _ _ w.heap.size 33 _ _ rfl (blk_put3 _ _ _ X4) Tryz.underlying33 rfl (by kernel_rfl)) rfl ⟨_,rfl,ResOwn.no _ _ _,Below.trans a1 (F.below a1.size (fun j hj e=>by omega))⟩
end Go.Proofs.YtllolnkkepacjaaGreat
