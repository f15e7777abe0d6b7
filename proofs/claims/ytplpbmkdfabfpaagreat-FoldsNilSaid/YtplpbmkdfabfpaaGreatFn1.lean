/- FoldsNil walked: no props. -/
import Derived.Test.YtplpbmkdfabfpaaGreatMk1
import Derived.Test.YtplpbmkdfabfpaaGreatR12
import Derived.Test.YtplpbmkdfabfpaaGreatF5
import Derived.Test.YtplpbmkdfabfpaaGreatF26
set_option maxRecDepth 100000
set_option maxHeartbeats 4000000
namespace Go.Proofs.YtplpbmkdfabfpaaGreat
open Go.RowKit
attribute [local go_sem] Oper.semAt_some
theorem RoundIn.wide {n m l f:Nat}{P:Program}{t:Array Value}{a b:Code}{w:World}{R:Ending→World→Prop}(h:RoundIn Fence.wide n P l f t a b w R):RoundIn Fence.wide m P l f t a b w R:=⟨h.1,fun c cs _=>h.2 c cs (room_wide _)⟩
theorem ERunes_nil0 (w:World)(A:Option Addr)(n c:Nat)(b:Int):Calls Tryz.prog 12 #[.nilIface,.slice A n c,.int .i8 b] w fun r w'=>r= .returned (.tuple #[.agg #[.int .i8 0,.slice none 0 0,.slice none 0 0],.int .i64 1])∧Aft w w':=by
 obtain⟨W1,hW1⟩: ∃W1,((w.alloc (.cells #[.nilIface] 70)).alloc (.cells #[.slice A n c] 28)).alloc (.cells #[.int .i8 0,.slice none 0 0,.slice none 0 0] 48)=W1:=⟨_,rfl⟩
 have X3:Blk W1 w.heap.size 70 #[.nilIface]:=by rw[←hW1];exact((Blk.new w 70 _).alloc _).alloc _
 have X6:Blk W1 (w.heap.size+1+1) 48 #[.int .i8 0,.slice none 0 0,.slice none 0 0]:=by rw[←hW1];exact Blk.at_ (by simp)
 have a1:Aft w W1:=by rw[←hW1];exact(((Aft.refl w).alloc _).alloc _).alloc _
 obtain⟨x0,xf,xl⟩:=X3.c1;obtain⟨z0,z1,z2,zf,zl⟩:=X6.c3;have F:=frm_put3 W1 (w.heap.size+1+1) (.int .i8 0) (.slice none 0 0) (.slice none 0 0)
 go_enter Tryz.func12,Tryz.ntmps12
 go_upto_region 1 with(fail)
 clear hW1;go_wp2;refine bodyPost_ret (results_row1 rfl _ _ (w.heap.size+1+1) 48 _ _ rfl (blk_put3 _ _ _ X6) Tryz.underlying48 rfl (by kernel_rfl)) rfl ⟨rfl,Below.trans a1 (F.below a1.size (fun j hj e=>by omega))⟩
theorem Lines_nil (w:World)(b:Int)(wA tA:Option Addr)(wn wc tn tc:Nat)(most:Int):
 Calls Tryz.prog 8 #[.nilIface,.int .i8 b,.slice wA wn wc,.int .i64 most,.slice tA tn tc] w fun r w'=>r= .returned (.tuple #[.slice none 0 0,.int .i64 1])∧Aft w w':=by
 have CR:=fun(W:World)=>ERunes_nil0 W tA tn tc b
 go_enter Tryz.func8,Tryz.ntmps8
 go_wp2_with(go_at_call 12;refine(CR _).mono ?_;rintro r1 w1 ⟨rfl,a1⟩)
 go_ret2
 exact⟨rfl,a1.alloc _⟩
theorem FEach_ok {w:World}{b:Int}{wA tA:Option Addr}{wn wc tn tc:Nat}{most:Int}:Calls Tryz.prog 13 #[.nilIface,.int .i8 b,.slice wA wn wc,.int .i64 most,.slice tA tn tc] w fun r w'=>r= .returned (.func (.func 37) #[] #[.pointer (some ⟨w.heap.size,0,none⟩),.pointer (some ⟨w.heap.size+1,0,none⟩),.pointer (some ⟨w.heap.size+2,0,none⟩),.pointer (some ⟨w.heap.size+3,0,none⟩),.pointer (some ⟨w.heap.size+4,0,none⟩)])∧
 Blk w' w.heap.size 70 #[.nilIface]∧Blk w' (w.heap.size+1) 27 #[.int .i8 b]∧Blk w' (w.heap.size+2) 29 #[.slice wA wn wc]∧Blk w' (w.heap.size+3) 3 #[.int .i64 most]∧Blk w' (w.heap.size+4) 28 #[.slice tA tn tc]∧Aft w w':=by
 go_enter Tryz.func13,Tryz.ntmps13
 go_wp2;go_ret;exact⟨rfl,((((Blk.new w 70 _).alloc _).alloc _).alloc _).alloc _,(((Blk.at_ (by simp)).alloc _).alloc _).alloc _,((Blk.at_ (by simp)).alloc _).alloc _,(Blk.at_ (by simp)).alloc _,Blk.at_ (by simp),(((((Aft.refl w).alloc _).alloc _).alloc _).alloc _).alloc _⟩
def zF:Value:=.agg #[.int .i64 0,.int .i64 0,.int .i64 0,.slice none 0 0,.slice none 0 0]
theorem feach_nil {W1:World}{p1 p2 p3 p4 p5 yb d:Nat}{b most:Int}{wA tA:Option Addr}{wn wc tn tc:Nat}(h1:Blk W1 p1 70 #[.nilIface])(h2:Blk W1 p2 27 #[.int .i8 b])(h3:Blk W1 p3 29 #[.slice wA wn wc])(h4:Blk W1 p4 3 #[.int .i64 most])(h5:Blk W1 p5 28 #[.slice tA tn tc])(hd:1≤d)
 {J:World→Prop} (hY: ∀W,Aft W1 W→YieldAt Fence.wide 1 Tryz.prog yb #[zF,.int .i64 1] W fun e W'=>e= .returned (.bool true)∧J W'):
 CallsIn Fence.wide d Tryz.prog 37 #[.func (.yield yb) #[] #[],.pointer (some ⟨p1,0,none⟩),.pointer (some ⟨p2,0,none⟩),.pointer (some ⟨p3,0,none⟩),.pointer (some ⟨p4,0,none⟩),.pointer (some ⟨p5,0,none⟩)] W1 fun e W'=>(∃v,e= .returned v)∧J W':=by
 obtain⟨x0,xf,xl⟩:=h1.c1;obtain⟨y0,yf,yl⟩:=h2.c1;obtain⟨z0,zf,zl⟩:=h3.c1;obtain⟨u0,uf,ul⟩:=h4.c1;obtain⟨v0,vf,vl⟩:=h5.c1;clear h1 h2 h3 h4 h5;have CL:=fun(W:World)=>Lines_nil W b wA tA wn wc tn tc most;refine callsIn_of_wp Tryz.func37 rfl trivial ?_ rfl;simp only[Tryz.ntmps37,List.size_toArray,List.length_cons,List.length_nil,Nat.reduceAdd,Nat.reduceSub,Array.replicate_succ,Array.replicate_zero,List.push_toArray,List.append_toArray,List.nil_append,List.cons_append];refine wpIn_wide.2 ?_
 go_upto_region 2 with(go_at_call 8;refine(CL _).mono ?_;rintro r1 w1 ⟨rfl,a1⟩)
 obtain⟨fn,tmps,asg,bd,hy,hR⟩:=hY _ a1;have hy:(Instr.yield yb #[.agg #[.int .i64 0,.int .i64 0,.int .i64 0,.slice none 0 0,.slice none 0 0],.int .i64 1]).run Tryz.prog w1= .ok (.round yb fn tmps asg bd) w1:=hy;clear hY CL;refine(wpIn_wide (n:=d)).1 ?_;gi_wp2;refine(RoundIn.wide hR).mono ?_;rintro e3 W3 ⟨rfl,hJ⟩;gi_wp2;go_wp2;refine bodyPost_ret (results_none (by kernel_rfl) _ _ _) rfl ?_;exact⟨⟨_,rfl⟩,hJ⟩
theorem sameF_zero (w:World):Calls Tryz.prog 14 #[.agg #[.int .i64 0,.int .i64 0,.int .i64 0,.slice none 0 0,.slice none 0 0],.agg #[.int .i64 0,.int .i64 0,.int .i64 0,.slice none 0 0,.slice none 0 0]] w fun r w'=>r= .returned (.bool true)∧Aft w w':=by
 have CN:=fun(W:World)=>numbers_ok (w:=W) (B:=0) (B2:=0) (A:=none) (A2:=none) (n:=0) (n2:=0) (c:=0) (c2:=0) (l:=[]) rfl rfl Reads.none_ Reads.none_ (by simp);have X:Blk ((w.alloc (.cells #[.int .i64 0,.int .i64 0,.int .i64 0,.slice none 0 0,.slice none 0 0] 43)).alloc (.cells #[.int .i64 0,.int .i64 0,.int .i64 0,.slice none 0 0,.slice none 0 0] 43)) w.heap.size 43 #[.int .i64 0,.int .i64 0,.int .i64 0,.slice none 0 0,.slice none 0 0]:=(Blk.new w 43 _).alloc _;have Y:Blk ((w.alloc (.cells #[.int .i64 0,.int .i64 0,.int .i64 0,.slice none 0 0,.slice none 0 0] 43)).alloc (.cells #[.int .i64 0,.int .i64 0,.int .i64 0,.slice none 0 0,.slice none 0 0] 43)) (w.heap.size+1) 43 #[.int .i64 0,.int .i64 0,.int .i64 0,.slice none 0 0,.slice none 0 0]:=Blk.at_ (by simp);have a1:=((Aft.refl w).alloc (.cells #[.int .i64 0,.int .i64 0,.int .i64 0,.slice none 0 0,.slice none 0 0] 43)).alloc (.cells #[.int .i64 0,.int .i64 0,.int .i64 0,.slice none 0 0,.slice none 0 0] 43)
 go_enter Tryz.func14,Tryz.ntmps14
 go_upto_region 1 with(fail)
 generalize (w.alloc (.cells #[.int .i64 0,.int .i64 0,.int .i64 0,.slice none 0 0,.slice none 0 0] 43)).alloc (.cells #[.int .i64 0,.int .i64 0,.int .i64 0,.slice none 0 0,.slice none 0 0] 43)=W1 at X Y a1⊢;obtain⟨x0,x1,x2,x3,x4,xf,xl⟩:=X.c5;obtain⟨y0,y1,y2,y3,y4,yf,yl⟩:=Y.c5
 go_wp2_with(go_at_call 38;refine(CN _).mono ?_;rintro r1 w1 ⟨rfl,a2⟩)
 obtain⟨x0,x1,x2,x3,x4,xf,xl⟩:=(X.aft a2).c5
 go_loopg [5] 0 (fun gk iv wr=>gk=0∧iv= .int .i64 0∧wr=w1)
 case atStart=>exact⟨rfl,rfl,rfl⟩
 case round=>obtain⟨hk,rfl,rfl⟩:=hrel;go_wp2;go_ret;exact⟨rfl,a1.trans a2⟩
structure KI (Wb:World) (kb k:Nat) (W:World):Prop where
 x:Blk W kb 3 #[.int .i64 k]
 f:Frm (fun j=>j=kb) Wb W
theorem KI.frm {Wb W W':World}{kb k:Nat}{F:Nat→Prop}(h:KI Wb kb k W)(hF:Frm F W W')(hn: ∀j,F j→j<W.heap.size→Wb.heap.size≤j∧j≠kb):KI Wb kb k W':=⟨h.x.frm hF (fun e=>(hn _ e h.x.lt).2 rfl),h.f.trans hF (fun j hj e=>by have:=h.f.size;have:=(hn j e (by omega)).1;omega)⟩
@[go_sem] theorem eql54_nil (w:World) (f:FuncId) (a b:Array Value):(binOp .eql 54 (.func (.func f) a b) .nilFunc).run Tryz.prog w= .ok (.bool false) w:=by kernel_rfl
theorem nil_ok (w:World)(b:Int)(wA tA:Option Addr)(wn wc tn tc:Nat):
 Calls Tryz.prog 5 #[.int .i8 b,.slice wA wn wc,.slice tA tn tc] w fun r w'=>r= .returned (.bool true)∧Aft w w':=by
 have X6:Blk (w.alloc (.cells #[.bool false] 4)) w.heap.size 4 #[.bool false]:=Blk.new w 4 _;have a0:Aft w (w.alloc (.cells #[.bool false] 4)):=(Aft.refl w).alloc _;obtain⟨rb,hrb⟩: ∃rb,w.heap.size=rb:=⟨_,rfl⟩
 have fin: ∀(W:World),Aft w W→Blk W rb 4 #[.bool true]→ ∀W',Frm (fun k=>w.heap.size≤k∧k≠rb) W W'→W'.cell? ⟨rb,0,none⟩=some (.bool true)∧Aft w W':=fun W hW hB W' hF=>⟨(hB.frm hF (fun e=>e.2 rfl)).c1.1,Below.trans hW (hF.below hW.size (fun k hk e=>by omega))⟩
 have hw0:w.heap.size≤rb:=Nat.le_of_eq hrb;rw[hrb]at X6;have HRB:=Lib.hid hrb;clear hrb;refine(callsIn_wide (n:=7)).1 ?_;refine callsIn_of_wp_marks Tryz.func5 rfl trivial ?_ rfl;simp only[Tryz.ntmps5,List.size_toArray,List.length_cons,List.length_nil,Nat.reduceAdd,Nat.reduceSub,Array.replicate_succ,Array.replicate_zero,List.push_toArray,List.append_toArray,List.nil_append,List.cons_append];refine wpIn_wide.2 ?_
 go_upto_region 1 with(fail)
 rw[HRB.out];generalize w.alloc (.cells #[.bool false] 4)=W0 at X6 a0⊢
 go_upto_region 3 with(go_at_call 7;refine(awake_ok _).mono ?_;rintro r1 w1 ⟨rfl,b1⟩)
 go_upto_region 4 with(go_at_call 8;refine(Lines_nil _ _ _ _ _ _ _ _ _).mono ?_;rintro r2 w2 ⟨rfl,b2⟩)
 obtain⟨kb,hkb⟩: ∃kb,w2.heap.size=kb:=⟨_,rfl⟩
 have XK:Blk (w2.alloc (.cells #[.int .i64 0] 3)) kb 3 #[.int .i64 0]:=by rw[←hkb];exact Blk.new w2 3 _
 have b3:Aft w2 (w2.alloc (.cells #[.int .i64 0] 3)):=(Aft.refl w2).alloc _;have a2:=(a0.trans b1).trans b2;have X62:=(X6.aft b1).aft b2
 have hrk:rb<kb:=by rw[←hkb];exact X62.lt
 go_upto_region 5 with(fail)
 try rw[hkb]
 generalize w2.alloc (.cells #[.int .i64 0] 3)=w3 at XK b3⊢;clear hkb
 go_wp2_with(first
  |(have t:=b4;go_at_call 13;refine FEach_ok.mono ?_;rintro r5 w5 ⟨rfl,E1,E2,E3,E4,E5,b5⟩)
  |(go_at_call 13;refine FEach_ok.mono ?_;rintro r4 w4 ⟨rfl,-,-,-,-,-,b4⟩))
 obtain⟨q,hq⟩: ∃q,w5.heap.size=q:=⟨_,rfl⟩;have b35:=b4.trans b5;have XK5:=XK.aft b35;have X65:=(X62.aft b3).aft b35;have a5:=(a2.trans b3).trans b35
 have hkq:kb<q:=by rw[←hq];exact XK5.lt
 refine wpIn_wide.1 (wpIn_rangeFunc_round (n:=7) (F:=Fence.wide) rfl (by omega) (gf:=37) (lb:=#[.pointer (some ⟨w4.heap.size,0,none⟩),.pointer (some ⟨w4.heap.size+1,0,none⟩),.pointer (some ⟨w4.heap.size+2,0,none⟩),.pointer (some ⟨w4.heap.size+3,0,none⟩),.pointer (some ⟨w4.heap.size+4,0,none⟩)]) rfl trivial (enters_of Tryz.func37 (by kernel_rfl) rfl)
  (encs:=fun _:Unit=>#[zF,.int .i64 1]) (fun _=>rfl)
  (fun _ W=>KI w5 kb 0 W) (fun _ _ W'=>KI w5 kb 1 W') (fun W=>KI w5 kb 1 W)
  ?round ?stay ?call ?fin ?done)
 case stay=>rw[hq];exact fun x W Wa Wb g hF=>g.frm hF (fun j e h=>by omega)
 case fin=>rw[hq];exact fun Wa Wb g hF=>g.frm hF (fun j e h=>by omega)
 case call=>intro Wc hF1 hW1 Rdy hsz hst hR1 hY';rw[hq]at hW1 hsz hst hY'⊢;refine(feach_nil (d:=7-1) (J:=fun W=>KI w5 kb 1 W∧Rdy W) (E1.frm hF1 id) (E2.frm hF1 id) (E3.frm hF1 id) (E4.frm hF1 id) (E5.frm hF1 id) (by omega) (fun W hA=> ?_)).mono (fun e W h=>h);have hr:Rdy W:=hst _ _ hR1 (Two.of_frm (Frm.of_below hA (F:=fun _=>False)) hW1 id id);obtain⟨fn,tmps,asg,bd,hy,hRo⟩:=hY' () W ⟨(XK5.frm hF1 id).aft hA,(hF1.trans (Frm.of_below hA (F:=fun _=>False)) (fun _ _ h=>h)).mono (fun _ _ h=>h.elim)⟩ hr;exact⟨fn,tmps,asg,bd,hy,RoundIn.wide (hRo.mono fun e w' h=>h)⟩
 case round=>
  rw[hq];rintro x W K hW g hK;simp only[zF,List.zip_toArray,List.zip_cons_cons,List.zip_nil_right,List.foldl_toArray,List.foldl_cons,List.foldl_nil,List.setIfInBounds_toArray,List.set_cons_zero,List.set_cons_succ];gi_wp2;have FA:=(Frm.refl (fun _=>False) W).alloc (.cells #[.int .i64 0,.int .i64 0,.int .i64 0,.slice none 0 0,.slice none 0 0] 43);refine hK _ _ (Two.of_frm FA hW id id) ?_;intro W2x hF2;have FW:Frm (fun j=>j=q+1) W W2x:=(FA.mono (fun _ _ h=>h.elim)).trans hF2 (fun _ _ h=>h);have g2:=g.frm FW (fun j e h=>by omega);have P10:=(Blk.new W 43 #[.int .i64 0,.int .i64 0,.int .i64 0,.slice none 0 0,.slice none 0 0]).frm hF2 (by omega);have hz:=g2.x.lt;have hzW:=FW.size;obtain⟨y0,y1,y2,y3,y4,yf,yl⟩:=P10.c5;clear hK FA hF2 g;gi_wp2;refine⟨trivial,CallsIn.inRound (q+1) (callsIn_wide.2 ((sameF_zero _).mono ?_))⟩;rintro r8 w8 ⟨rfl,a8⟩;obtain⟨x0,xf,xl⟩:=(g2.x.aft a8).c1;gi_wp2
  have K9:Blk (w8.setCell ⟨kb,0,none⟩ (.int .i64 1)) kb 3 #[.int .i64 ((1:Nat):Int)]:=by have:=(g2.x.aft a8).set_ 0 (.int .i64 1);simpa using this
  have F28:Frm (fun j=>j=kb) W2x (w8.setCell ⟨kb,0,none⟩ (.int .i64 1)):=(Frm.of_below a8).trans ((Frm.refl (fun j=>j=kb) w8).set (b:=kb) (j:=0) rfl (.int .i64 1)) (fun _ _ e=>e);exact⟨Two.of_frm F28 (by omega) (by omega) (by omega),⟨K9,g2.f.trans F28 (fun _ _ e=>e)⟩⟩
 case done=>
  rw[hq];rintro W ⟨x,f⟩ hK2;have hfz:=f.size;obtain⟨x0,xf,xl⟩:=x.c1;have X6F:=X65.frm f (by omega);have aF:Aft w W:=Below.trans a5 (f.below a5.size (fun j hj e=>by have:=X6.lt;have:=HRB.out;omega));obtain⟨z0,zf,zl⟩:=X6F.c1
  go_wp2_with(go_at_call 7;refine(awake_ok _).mono ?_;rintro r9 w9 ⟨rfl,b9⟩;obtain⟨z0,zf,zl⟩:=(X6F.aft b9).c1)
  have hKq:w9.heap[q]?=some (.deferred (some [])):=(Below.block b9 q (Array.getElem?_eq_some_iff.1 hK2).1).trans hK2;have F9:=(Frm.refl (fun k=>k=rb) w9).set (b:=rb) (j:=0) rfl (.bool true)
  have B9:Blk (w9.setCell ⟨rb,0,none⟩ (.bool true)) rb 4 #[.bool true]:=by simpa using(X6F.aft b9).set_ 0 (.bool true)
  have a9:Aft w (w9.setCell ⟨rb,0,none⟩ (.bool true)):=(aF.trans b9).set hw0 _
  have hM:Marks 0 [q] (w9.setCell ⟨rb,0,none⟩ (.bool true)):=by
   refine⟨by simp,fun x hx=>⟨Nat.zero_le _,?_⟩⟩
   obtain rfl:x=q:=by simpa using hx
   exact(F9.block _ (Array.getElem?_eq_some_iff.1 hKq).1 (by omega)).trans hKq
  refine leaves_marks (D:=0) [q] _ hM (fun W' hF=>⟨_,results_cellb rfl _ _ rb (.bool true) rfl ?_,rfl,?_⟩)
  ·refine(fin _ a9 B9 W' (hF.mono (fun k _ h=> ?_))).1
   have h':k=q:=by simpa using h
   omega
  ·refine(fin _ a9 B9 W' (hF.mono (fun k _ h=> ?_))).2
   have h':k=q:=by simpa using h
   omega
end Go.Proofs.YtplpbmkdfabfpaaGreat
