/- engine.Runes and engine.Classes walked, the reference's too: one answer. -/
import Derived.Test.YtllolnkkepacjaaGreatEv1
import Derived.Test.YtllolnkkepacjaaGreatEw1
set_option maxRecDepth 100000
set_option maxHeartbeats 4000000
namespace Go.Proofs.YtllolnkkepacjaaGreat
open Go.RowKit
attribute [local go_sem] Oper.semAt_some
structure Res where
 e:Int
 base:Int
 cs:List Int
 lv:List Int
def Res.no (e:Int):Res:=⟨e,0,[],[]⟩
def okBase (b:Int):Prop:=b= -1∨b=0∨b=1
instance (b:Int):Decidable (okBase b):=by unfold okBase;infer_instance
def runesX (rest:Int)(ch:List Chr)(rs:List Int)(b:Int):Res:=
 if¬okBase b then Res.no 2 else if 1048576<rs.length then Res.no 4 else if paraB (clsL rest ch rs) rs=false then Res.no 210
 else⟨0,lvlB (clsL rest ch rs) b,clsL rest ch rs,levE (stpR ch rs (exC (lvlB (clsL rest ch rs) b) (clsL rest ch rs))) (lvlB (clsL rest ch rs) b) (clsL rest ch rs) (exL (lvlB (clsL rest ch rs) b) (clsL rest ch rs))⟩
def classesX (l:List Int)(b:Int):Res:=
 if¬okBase b then Res.no 2 else if 1048576<l.length then Res.no 4 else if paraB (l.map clsC) []=false then Res.no 210
 else⟨0,lvlB (l.map clsC) b,l.map clsC,levE stpC (lvlB (l.map clsC) b) (l.map clsC) (exL (lvlB (l.map clsC) b) (l.map clsC))⟩
def ResOwn (W:World)(B:Nat)(v:Value)(x:Res):Prop:= ∃(cA lA:Option Addr) (cc lc:Nat),v= .agg #[.int .i8 x.base,.slice cA x.cs.length cc,.slice lA x.lv.length lc]∧Ints W B 22 .u8 (.slice cA x.cs.length cc) x.cs∧Ints W B 29 .i8 (.slice lA x.lv.length lc) x.lv∧
 (∀j,(Value.slice cA x.cs.length cc).ownBlock=some j→(Value.slice lA x.lv.length lc).ownBlock≠some j)
theorem ResOwn.no (W:World)(B:Nat)(e:Int):ResOwn W B (.agg #[.int .i8 0,.slice none 0 0,.slice none 0 0]) (Res.no e):=⟨none,none,0,0,rfl,Ints.nil _ _ _ _,Ints.nil _ _ _ _,by simp[Value.ownBlock]⟩
theorem ResOwn.aft {W W':World}{B:Nat}{v:Value}{x:Res}(h:ResOwn W B v x)(a:Aft W W'):ResOwn W' B v x:=by obtain⟨cA,lA,cc,lc,e,h1,h2,h3⟩:=h;exact⟨cA,lA,cc,lc,e,h1.aft a,h2.aft a,h3⟩
theorem clsL_len (rest:Int)(ch:List Chr)(rs:List Int):(clsL rest ch rs).length=rs.length:=by unfold clsL;simp
theorem levE_nil (f:Sq→Sq)(base:Int){cl init:List Int}(h:init.length=0):levE f base cl init=[]:=by refine List.eq_nil_of_length_eq_zero ?_;rw[levE_len];exact h
theorem ERunes_nil (w:World)(A:Option Addr)(n c:Nat)(b:Int):Calls Tryz.prog 15 #[.nilIface,.slice A n c,.int .i8 b] w fun r w'=>r= .returned (.tuple #[.agg #[.int .i8 0,.slice none 0 0,.slice none 0 0],.int .i64 1])∧Aft w w':=by
 obtain⟨W1,hW1⟩: ∃W1,((w.alloc (.cells #[.nilIface] 79)).alloc (.cells #[.slice A n c] 26)).alloc (.cells #[.int .i8 0,.slice none 0 0,.slice none 0 0] 33)=W1:=⟨_,rfl⟩
 have X3:Blk W1 w.heap.size 79 #[.nilIface]:=by rw[←hW1];exact((Blk.new w 79 _).alloc _).alloc _
 have X6:Blk W1 (w.heap.size+1+1) 33 #[.int .i8 0,.slice none 0 0,.slice none 0 0]:=by rw[←hW1];exact Blk.at_ (by simp)
 have a1:Aft w W1:=by rw[←hW1];exact(((Aft.refl w).alloc _).alloc _).alloc _
 obtain⟨x0,xf,xl⟩:=X3.c1;obtain⟨z0,z1,z2,zf,zl⟩:=X6.c3;have F:=frm_put3 W1 (w.heap.size+1+1) (.int .i8 0) (.slice none 0 0) (.slice none 0 0)
 go_enter Tryz.func15,Tryz.ntmps15
 go_upto_region 1 with(fail)
 clear hW1;go_wp2;refine bodyPost_ret (results_row1 rfl _ _ (w.heap.size+1+1) 33 _ _ rfl (blk_put3 _ _ _ X6) Tryz.underlying33 rfl (by kernel_rfl)) rfl ⟨rfl,Below.trans a1 (F.below a1.size (fun j hj e=>by omega))⟩
theorem ERunes_ok {w:World}{Bp Br rn rc:Nat}{pv:Value}{rest:Int}{ch:List Chr}{rA:Option Addr}{rs:List Int}(hP:PropsIs w Bp pv rest ch)(hR:RdInts w Br .i32 rA rs)(hrl:rn=rs.length)(b:Int):
 Calls Tryz.prog 15 #[.iface 25 pv,.slice rA rn rc,.int .i8 b] w fun r w'=> ∃v,r= .returned (.tuple #[v,.int .i64 (runesX rest ch rs b).e])∧ResOwn w' w.heap.size v (runesX rest ch rs b)∧Aft w w':=by
 obtain⟨X,hX⟩: ∃X,runesX rest ch rs b=X:=⟨_,rfl⟩;rw[hX];have HX:=Lib.hid hX;have HRL:=Lib.hid hrl;obtain⟨W1,hW1⟩: ∃W1,((w.alloc (.cells #[.iface 25 pv] 79)).alloc (.cells #[.slice rA rn rc] 26)).alloc (.cells #[.int .i8 0,.slice none 0 0,.slice none 0 0] 33)=W1:=⟨_,rfl⟩
 have X3:Blk W1 w.heap.size 79 #[.iface 25 pv]:=by rw[←hW1];exact((Blk.new w 79 _).alloc _).alloc _
 have X4:Blk W1 (w.heap.size+1) 26 #[.slice rA rn rc]:=by rw[←hW1];exact(Blk.at_ (by simp)).alloc _
 have X6:Blk W1 (w.heap.size+1+1) 33 #[.int .i8 0,.slice none 0 0,.slice none 0 0]:=by rw[←hW1];exact Blk.at_ (by simp)
 have a1:Aft w W1:=by rw[←hW1];exact(((Aft.refl w).alloc _).alloc _).alloc _
 obtain⟨x0,xf,xl⟩:=X3.c1;obtain⟨u0,uf,ul⟩:=X4.c1;obtain⟨z0,z1,z2,zf,zl⟩:=X6.c3;clear hX hrl;have CM:=fun W=>emay_ok W b
 by_cases hb:okBase b
 ·have e1:decide (b= -1∨b=0∨b=1)=true:=decide_eq_true hb;rw[e1]at CM
  by_cases hlong:1048576<rn
  ·have hx:X=Res.no 4:=by rw[←HX.out];unfold runesX;rw[if_neg (by simp[hb]),if_pos (by rw[←HRL.out];exact hlong)]
   subst hx;have F:=frm_put3 W1 (w.heap.size+1+1) (.int .i8 0) (.slice none 0 0) (.slice none 0 0)
   have hl2:(1048576:Int)<(rn:Int):=by omega
   clear e1 HX
   go_enter Tryz.func15,Tryz.ntmps15
   go_upto_region 1 with(fail)
   clear hW1
   go_wp2_with(go_at_call 40;refine(CM _).mono ?_;rintro r2 w2 ⟨rfl,hw2⟩;subst hw2)
   refine bodyPost_ret (results_row1 rfl _ _ (w.heap.size+1+1) 33 _ _ rfl (blk_put3 _ _ _ X6) Tryz.underlying33 rfl (by kernel_rfl)) rfl ⟨_,rfl,ResOwn.no _ _ _,Below.trans a1 (F.below a1.size (fun j hj e=>by omega))⟩
  ·have hcl:(clsL rest ch rs).length=rn:=by rw[clsL_len];exact HRL.out.symm
   have CC:=fun(W:World) (hW:Aft w W)=>Classes_ok (n:=rn) (c2:=rc) (hP.below hW (.inr (Nat.le_refl _))) (hR.aft hW) HRL.out (by omega)
   have hPw: ∀(W:World) (A2:Option Addr) (c2:Nat),Aft w W→RdInts W W.heap.size .u8 A2 (clsL rest ch rs)→Calls Tryz.prog 42 #[.slice A2 rn c2,.slice rA rn rc] W fun r w'=>r= .returned (.bool (paraB (clsL rest ch rs) rs))∧W=w':=fun W A2 c2 hW hr=>whole_ok hcl.symm HRL.out hr (hR.aft hW) (by omega) (.inr rfl)
   obtain⟨cl,hcll⟩: ∃cl,clsL rest ch rs=cl:=⟨_,rfl⟩;rw[hcll]at CC hPw hcl;have HCLL:=Lib.hid hcll;have HCL:=Lib.hid hcl;have HB:=Lib.hid hb;clear hcll hcl hb
   rcases hpb:paraB cl rs with _|_
   ·have hx:X=Res.no 210:=by rw[←HX.out];unfold runesX;rw[if_neg (by simp[HB.out]),if_neg (by rw[←HRL.out];exact hlong),HCLL.out,if_pos hpb]
    subst hx;rw[hpb]at hPw;clear e1 HX
    go_enter Tryz.func15,Tryz.ntmps15
    go_upto_region 1 with(fail)
    clear hW1
    go_wp2_with(first
     |(go_at_call 40;refine(CM _).mono ?_;rintro r2 w2 ⟨rfl,hw2⟩;subst hw2)
     |(go_at_call 41;refine(CC _ a1).mono ?_;rintro r3 w3 ⟨v3,rfl,I3,a3⟩;obtain⟨cA,cc,hv3,-,-,r3⟩:=I3.val;rw[HCL.out]at hv3;subst hv3;have X63:=X6.aft a3;have X43:=X4.aft a3;obtain⟨u0,uf,ul⟩:=X43.c1;obtain⟨z0,z1,z2,zf,zl⟩:=X63.c3)
     |(go_at_call 42;refine(hPw _ _ _ (a1.trans a3) r3).mono ?_;rintro r4 w4 ⟨rfl,hw4⟩;subst hw4))
    have F:=frm_put3 w3 (w.heap.size+1+1) (.int .i8 0) (.slice none 0 0) (.slice none 0 0);have a13:=a1.trans a3;refine bodyPost_ret (results_row1 rfl _ _ (w.heap.size+1+1) 33 _ _ rfl (blk_put3 _ _ _ X63) Tryz.underlying33 rfl (by kernel_rfl)) rfl ⟨_,rfl,ResOwn.no _ _ _,Below.trans a13 (F.below a13.size (fun j hj e=>by omega))⟩
   ·have hx:X=⟨0,lvlB cl b,cl,levE (stpR ch rs (exC (lvlB cl b) cl)) (lvlB cl b) cl (exL (lvlB cl b) cl)⟩:=by
     rw[←HX.out];unfold runesX;rw[if_neg (by simp[HB.out]),if_neg (by rw[←HRL.out];exact hlong),HCLL.out,if_neg (by rw[hpb];decide)]
    subst hx
    have CV: ∀(W:World) (A2:Option Addr) (c2:Nat),Aft w W→RdInts W W.heap.size .u8 A2 cl→Blk W w.heap.size 79 #[.iface 25 pv]→Blk W (w.heap.size+1) 26 #[.slice rA rn rc]→Calls Tryz.prog 43 #[.slice A2 rn c2,.int .i8 b,.func (.func 44) #[] #[.pointer (some ⟨w.heap.size,0,none⟩),.pointer (some ⟨w.heap.size+1,0,none⟩)]] W _:=fun W A2 c2 hW hr y1 y2=>levelsR_ok (c:=c2) HCL.out.symm hr (by omega) HB.out (hP.below hW (.inr (Nat.le_refl _))) (hR.aft hW) HRL.out rfl y1 y2
    have hll:(levE (stpR ch rs (exC (lvlB cl b) cl)) (lvlB cl b) cl (exL (lvlB cl b) cl)).length=rn:=by rw[levE_len,exL_len];exact HCL.out
    obtain⟨LV,hLV⟩: ∃LV,levE (stpR ch rs (exC (lvlB cl b) cl)) (lvlB cl b) cl (exL (lvlB cl b) cl)=LV:=⟨_,rfl⟩;obtain⟨base,hbase⟩: ∃base,lvlB cl b=base:=⟨_,rfl⟩;rw[hpb]at hPw;clear e1 HX
    go_enter Tryz.func15,Tryz.ntmps15
    go_upto_region 1 with(fail)
    clear hW1
    go_wp2_with(first
     |(go_at_call 40;refine(CM _).mono ?_;rintro r2 w2 ⟨rfl,hw2⟩;subst hw2)
     |(go_at_call 41;refine(CC _ a1).mono ?_;rintro r3 w3 ⟨v3,rfl,I3,a3⟩;obtain⟨cA,cc,hv3,-,-,r3⟩:=I3.val;rw[HCL.out]at hv3;subst hv3;have X63:=X6.aft a3;have X43:=X4.aft a3;have X33:=X3.aft a3;obtain⟨u0,uf,ul⟩:=X43.c1;obtain⟨z0,z1,z2,zf,zl⟩:=X63.c3)
     |(go_at_call 42;refine(hPw _ _ _ (a1.trans a3) r3).mono ?_;rintro r4 w4 ⟨rfl,hw4⟩;subst hw4)
     |(go_at_call 43;refine(CV _ _ _ (a1.trans a3) r3 X33 X43).mono ?_;rintro r5 w5 ⟨lA,lc,kA,kc,rfl,IC,IL,hne,a5⟩;have X65:=X63.aft a5;obtain⟨z0,z1,z2,zf,zl⟩:=X65.c3))
    have a35:=(a1.trans a3).trans a5;have hz3:w.heap.size+1+1<w3.heap.size:=X63.lt;have F:=frm_put3 w5 (w.heap.size+1+1) (.int .i8 base) (.slice kA rn kc) (.slice lA rn lc);have N:=blk_put3 (.int .i8 base) (.slice kA rn kc) (.slice lA rn lc) X65;rw[←hbase]at N F⊢;refine bodyPost_ret (results_row1 rfl _ _ (w.heap.size+1+1) 33 _ _ rfl N Tryz.underlying33 rfl (by kernel_rfl)) rfl ⟨_,rfl,?_,Below.trans a35 (F.below a35.size (fun j hj e=>by omega))⟩;have IC2:=(IC.frm F (fun j e h=>by have:=(IC.lt j e).1;omega)).base (B':=w.heap.size) (fun j e=>by have:=(IC.lt j e).1;omega);have IL2:=(IL.frm F (fun j e h=>by have:=(IL.lt j e).1;omega)).base (B':=w.heap.size) (fun j e=>by have:=(IL.lt j e).1;omega);refine⟨kA,lA,kc,lc,?_,?_,?_,?_⟩
    ·show _=Value.agg #[.int .i8 (lvlB cl b),.slice kA cl.length kc,.slice lA (levE _ _ cl _).length lc];rw[HCL.out,hll]
    ·show Ints _ _ _ _ (.slice kA cl.length kc) cl;rw[HCL.out];exact IC2
    ·show Ints _ _ _ _ (.slice lA (levE _ _ cl _).length lc) _;rw[hll];exact IL2
    ·show∀j,(Value.slice kA cl.length kc).ownBlock=some j→(Value.slice lA (levE _ _ cl _).length lc).ownBlock≠some j;rw[HCL.out,hll];exact hne
 ·have e1:decide (b= -1∨b=0∨b=1)=false:=decide_eq_false hb;rw[e1]at CM
  have hx:X=Res.no 2:=by rw[←HX.out];unfold runesX;rw[if_pos hb]
  subst hx;have F:=frm_put3 W1 (w.heap.size+1+1) (.int .i8 0) (.slice none 0 0) (.slice none 0 0);clear e1 HX
  go_enter Tryz.func15,Tryz.ntmps15
  go_upto_region 1 with(fail)
  clear hW1
  go_wp2_with(go_at_call 40;refine(CM _).mono ?_;rintro r2 w2 ⟨rfl,hw2⟩;subst hw2)
  refine bodyPost_ret (results_row1 rfl _ _ (w.heap.size+1+1) 33 _ _ rfl (blk_put3 _ _ _ X6) Tryz.underlying33 rfl (by kernel_rfl)) rfl ⟨_,rfl,ResOwn.no _ _ _,Below.trans a1 (F.below a1.size (fun j hj e=>by omega))⟩
end Go.Proofs.YtllolnkkepacjaaGreat
