/- known walked; what awake asks, reckoned. awake walked. -/
import Derived.Test.YtllolnkkepacjaaGreatSm3
set_option maxRecDepth 100000
set_option maxHeartbeats 4000000
namespace Go.Proofs.YtllolnkkepacjaaGreat
open Go.RowKit
section
attribute [local go_sem] Oper.semAt_some
def knP:List Chr:=[⟨97,1,0,0,0,0,false⟩,⟨1488,2,0,0,0,0,false⟩,⟨49,4,0,0,0,0,false⟩,⟨32,13,0,0,0,0,false⟩,⟨10,11,0,0,0,0,false⟩,⟨13,11,0,0,0,0,false⟩,⟨40,14,41,1,0,0,false⟩,⟨41,14,40,2,0,0,false⟩]
theorem res4 {x:Res}{e b:Int}{c l:List Int}(h1:x.e=e)(h2:x.base=b)(h3:x.cs=c)(h4:x.lv=l):x=⟨e,b,c,l⟩:=by obtain⟨_,_,_,_⟩:=x;simp only at h1 h2 h3 h4;subst h1 h2 h3 h4;rfl
theorem aw1:runesX 14 knP [97,32,40,1488,41,32,49] 0=⟨0,0,[1,13,14,2,14,13,4],[0,0,0,1,0,0,2]⟩:=res4 (by decide+kernel) (by decide+kernel) (by decide+kernel) (by decide+kernel)
theorem aw2:runesX 14 knP [10,97] 0=Res.no 210:=res4 (by decide+kernel) (by decide+kernel) (by decide+kernel) (by decide+kernel)
theorem aw3:lineX 0 [1,13,14,2,14,13,4] [0,0,0,1,0,0,2] 0 4=(0,[0,0,0,1]):=by decide+kernel
theorem knownP_ok (w:World):Calls Tryz.prog 33 #[] w fun r w'=> ∃pv,r= .returned pv∧PropsIs w' w'.heap.size pv 14 knP∧Aft w w':=by
 go_enter Tryz.func33,Tryz.ntmps33
 go_upto_region 1 with(fail)
 obtain⟨B,hB⟩: ∃B,w.heap.size=B:=⟨_,rfl⟩;obtain⟨WA,hWA⟩: ∃x,w.alloc (.cells #[.int .u8 0,.slice none 0 0] 25)=x:=⟨_,rfl⟩
 have X0:Blk WA B 25 #[.int .u8 0,.slice none 0 0]:=by rw[←hWA,←hB];exact Blk.new w 25 _
 have zA:WA.heap.size=B+1:=by rw[←hWA,World.size_alloc,hB]
 have aA:Aft w WA:=by rw[←hWA];exact(Aft.refl w).alloc _
 rw[hWA,hB];clear hWA;obtain⟨x0,x1,xf,xl⟩:=X0.c2;have HB:=Lib.hid hB;have HZ:=Lib.hid zA;clear hB zA;go_wp2;obtain⟨cs,hcs⟩: ∃cs:Array Value,(knP.flatMap chC).toArray=cs:=⟨_,rfl⟩;have hcs2:=hcs;simp only[knP,chC,List.flatMap_cons,List.flatMap_nil,List.cons_append,List.nil_append]at hcs2;rw[hcs2];have N:=(blk_put2 (.int .u8 14) (.slice (some ⟨WA.heap.size,0,none⟩) 8 8) X0).alloc (.cells cs 94);have M:Blk (((WA.setCell ⟨B,0,none⟩ (.int .u8 14)).setCell ⟨B,1,none⟩ (.slice (some ⟨WA.heap.size,0,none⟩) 8 8)).alloc (.cells cs 94)) WA.heap.size 94 cs:=Blk.at_ (by simp);have F:=((frm_put2 WA B (.int .u8 14) (.slice (some ⟨WA.heap.size,0,none⟩) 8 8)).alloc (.cells cs 94));have a9:Aft w (((WA.setCell ⟨B,0,none⟩ (.int .u8 14)).setCell ⟨B,1,none⟩ (.slice (some ⟨WA.heap.size,0,none⟩) 8 8)).alloc (.cells cs 94)):=Below.trans aA (F.below aA.size (fun j hj e=>by have:=HB.out;have e:j=B:=e;omega));have R:=Reads.blk (n:=8) (size:=7) M (by rw[←hcs];rfl);rw[show cs.toList=knP.flatMap chC by rw[←hcs]]at R;generalize hV:((WA.setCell ⟨B,0,none⟩ (.int .u8 14)).setCell ⟨B,1,none⟩ (.slice (some ⟨WA.heap.size,0,none⟩) 8 8)).alloc (.cells cs 94)=V at N M F a9 R⊢;refine bodyPost_ret (results_cell_row rfl _ _ B 25 #[.int .u8 14,.slice (some ⟨WA.heap.size,0,none⟩) 8 8] (0,0) _ rfl N Tryz.underlying25 rfl (by kernel_rfl)) rfl ⟨_,rfl,⟨some ⟨WA.heap.size,0,none⟩,8,rfl,?_,by decide⟩,a9⟩;unfold RdR;exact R
end
section
attribute [local go_sem] Oper.semAt_some
theorem rd_blk {w:World}{g:Nat}{t:TypeId}{k:IntKind}{l:List Int}{cs:Array Value}(h:Blk w g t cs)(e:cs=(l.map (.int k)).toArray):RdInts w w.heap.size k (some ⟨g,0,none⟩) l:=by subst e;exact rd_lit h
theorem aw_run (W W1:World)(pv:Value)(tt:TypeId)(hP:PropsIs W W.heap.size pv 14 knP)(e:W.alloc (.cells #[.int .i32 97,.int .i32 32,.int .i32 40,.int .i32 1488,.int .i32 41,.int .i32 32,.int .i32 49] tt)=W1):
 Calls Tryz.prog 15 #[.iface 25 pv,.slice (some ⟨W.heap.size,0,none⟩) 7 7,.int .i8 0] W1 fun r w'=> ∃cA lA cc lc,r= .returned (.tuple #[.agg #[.int .i8 0,.slice cA 7 cc,.slice lA 7 lc],.int .i64 0])∧Ints w' W1.heap.size 22 .u8 (.slice cA 7 cc) [1,13,14,2,14,13,4]∧Ints w' W1.heap.size 29 .i8 (.slice lA 7 lc) [0,0,0,1,0,0,2]∧7≤lc∧Aft W w':=by
 have a1:Aft W W1:=by rw[←e];exact(Aft.refl W).alloc _
 have hB:Blk W1 W.heap.size tt #[.int .i32 97,.int .i32 32,.int .i32 40,.int .i32 1488,.int .i32 41,.int .i32 32,.int .i32 49]:=by rw[←e];exact Blk.new W tt _
 have:=ERunes_ok (w:=W1) (rn:=7) (rc:=7) (pv:=pv) (rest:=14) (ch:=knP) (rs:=[97,32,40,1488,41,32,49]) (hP.below a1 (.inr (Nat.le_refl _))) (rd_blk hB rfl) rfl 0;rw[aw1]at this;refine this.mono ?_;rintro r w' ⟨v,rfl,⟨cA,lA,cc,lc,rfl,h1,h2,_⟩,a2⟩;refine⟨cA,lA,cc,lc,rfl,h1,h2,?_,a1.trans a2⟩;obtain⟨A,cap,e,h,_,_⟩:=h2.val
 injection e with _ _ e
 rw[e];exact h
theorem aw_no (W W1:World)(pv:Value)(tt:TypeId)(hP:PropsIs W W.heap.size pv 14 knP)(e:W.alloc (.cells #[.int .i32 10,.int .i32 97] tt)=W1):
 Calls Tryz.prog 15 #[.iface 25 pv,.slice (some ⟨W.heap.size,0,none⟩) 2 2,.int .i8 0] W1 fun r w'=> ∃cA lA cc lc,r= .returned (.tuple #[.agg #[.int .i8 0,.slice cA 0 cc,.slice lA 0 lc],.int .i64 210])∧Aft W w':=by
 have a1:Aft W W1:=by rw[←e];exact(Aft.refl W).alloc _
 have hB:Blk W1 W.heap.size tt #[.int .i32 10,.int .i32 97]:=by rw[←e];exact Blk.new W tt _
 have:=ERunes_ok (w:=W1) (rn:=2) (rc:=2) (pv:=pv) (rest:=14) (ch:=knP) (rs:=[10,97]) (hP.below a1 (.inr (Nat.le_refl _))) (rd_blk hB rfl) rfl 0;rw[aw2]at this;refine this.mono ?_;rintro r w' ⟨v,rfl,⟨cA,lA,cc,lc,rfl,_,_,_⟩,a2⟩;exact⟨cA,lA,cc,lc,rfl,a1.trans a2⟩
theorem same_lit {W W1:World}{B n c:Nat}{A:Option Addr}{l:List Int}{tt:TypeId}{cs:Array Value}(hn:n=l.length)(h:RdInts W B .i8 A l)(hcs:cs=(l.map (.int .i8)).toArray)(e:W.alloc (.cells cs tt)=W1)(hl:n≤1000):
 Calls Tryz.prog 27 #[.slice A n c,.slice (some ⟨W.heap.size,0,none⟩) n n] W1 fun r w'=>r= .returned (.bool true)∧Aft W w':=by
 have a1:Aft W W1:=by rw[←e];exact(Aft.refl W).alloc _
 have hB:Blk W1 W.heap.size tt cs:=by rw[←e];exact Blk.new W tt _
 refine(sameLv_ok (c:=c) (c2:=n) hn hn (h.clip.aft a1) (rd_blk hB hcs) (by omega)).mono ?_;rintro r w' ⟨rfl,d,rfl⟩;exact⟨by rw[decide_eq_true rfl],⟨a1.os,a1.tape,a1.output,a1.size,a1.block⟩⟩
theorem awake_ok (w:World):Calls Tryz.prog 18 #[] w fun r w'=>r= .returned (.bool true)∧Aft w w':=by
 have CK:=fun W=>knownP_ok W
 go_enter Tryz.func18,Tryz.ntmps18
 go_upto_region 2 with(first
  |(go_at_call 33;refine(CK _).mono ?_;rintro r1 w1 ⟨pv,rfl,P1,a1⟩)
  |(go_at_call 15;refine(aw_run _ _ _ _ P1 rfl).mono ?_;rintro r2 w2 ⟨cA,lA,cc,lc,rfl,IC,IL,hlc,a2⟩))
 have X:=Blk.new w2 33 #[.int .i8 0,.slice cA 7 cc,.slice lA 7 lc];have a3:Aft w2 (w2.alloc (.cells #[.int .i8 0,.slice cA 7 cc,.slice lA 7 lc] 33)):=(Aft.refl w2).alloc _;generalize w2.alloc (.cells #[.int .i8 0,.slice cA 7 cc,.slice lA 7 lc] 33)=W3 at X a3⊢;have a13:Aft w W3:=(a1.trans a2).trans a3;have RC:=IC.rd.clip.aft a3;have RL:=IL.rd.clip.aft a3;have hX:=X.lt;obtain⟨x0,x1,x2,xf,xl⟩:=X.c3;clear IC IL a1 a2 a3 P1
 go_upto_region 4 with(go_at_call 27;refine(same_lit (l:=[0,0,0,1,0,0,2]) rfl RL rfl rfl (by decide)).mono ?_;rintro r3 w3 ⟨rfl,a4⟩)
 have X4:=X.aft a4;obtain⟨x0,x1,x2,xf,xl⟩:=X4.c3;have RC4:=RC.aft a4;have RL4:=RL.aft a4;have LN:=ELine_ok (w:=w3) (n:=7) (m:=7) (cc:=cc) (lc:=lc) (base:=0) 0 4 rfl rfl RC4 RL4 (by decide) hlc;rw[aw3]at LN;have a14:=a13.trans a4;clear X RC RL RC4 RL4 a4 a13
 go_upto_region 5 with(go_at_call 24;refine LN.mono ?_;rintro r4 w4 ⟨v4,rfl,I4,a5⟩;obtain⟨vA,vc,rfl,-,-,R4⟩:=I4.val)
 have a15:=a14.trans a5;clear LN X4 x0 x1 x2 xf xl I4
 go_upto_region 6 with(first
  |(go_at_call 33;refine(CK _).mono ?_;rintro r5 w5 ⟨pv5,rfl,P5,a6⟩)
  |(go_at_call 15;refine(aw_no _ _ _ _ P5 rfl).mono ?_;rintro r6 w6 ⟨cA6,lA6,cc6,lc6,rfl,a7⟩))
 have a8:Aft w6 (w6.alloc (.cells #[.int .i8 0,.slice cA6 0 cc6,.slice lA6 0 lc6] 33)):=(Aft.refl w6).alloc _;generalize w6.alloc (.cells #[.int .i8 0,.slice cA6 0 cc6,.slice lA6 0 lc6] 33)=W7 at a8⊢;have a48:=(a6.trans a7).trans a8;have R7:=R4.aft a48;have a18:=a15.trans a48;clear R4 a15 a6 a7 a8 P5
 go_wp2_with(go_at_call 27;refine(same_lit (l:=[0,0,0,1]) rfl R7 rfl rfl (by decide)).mono ?_;rintro r7 w7 ⟨rfl,a9⟩)
 go_ret;exact⟨rfl,a18.trans a9⟩
theorem own_apartW {w1 w2:World}{B:Nat}{cA lA cB:Option Addr}{n m k cc lc kc:Nat}{x y z:List Int}{e:TypeId}{kd:IntKind}
 (h1:Ints w1 B 22 .u8 (.slice cA n cc) x) (h2:Ints w1 B 29 .i8 (.slice lA m lc) y) (h3:Ints w2 w1.heap.size e kd (.slice cB k kc) z) {j:Nat} (hj:Own2 cA lA j):cB.map (fun a=>a.block)≠some j:=by
 intro e2;have h:=(h3.lt j (by rw[own_slice];exact e2)).1
 rcases hj with q|q
 ·have:=(h1.lt j (by rw[own_slice];exact q)).2;omega
 ·have:=(h2.lt j (by rw[own_slice];exact q)).2;omega
end
end Go.Proofs.YtllolnkkepacjaaGreat
