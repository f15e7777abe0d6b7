/- The iterator of steps, walked. Explicit walked. Explicit's refusals. Explicit, as the laws call it; the reference's refusals. Explicit, the program's and the reference's: one answer for every base and every list. -/
import Derived.Test.YtllolnkkepacjaaGreatE1
import Derived.Test.YtllolnkkepacjaaGreatRm4
import Derived.Test.YtllolnkkepacjaaGreatS12
import Derived.Test.YtllolnkkepacjaaGreatRng3
import Derived.RangeFuncLeaves
import Derived.TacticsInMore
import Derived.LoopNIn
import Derived.LoopIn
import Derived.Shelf.Abstract
set_option maxRecDepth 100000
set_option maxHeartbeats 2000000
namespace Go.Proofs.YtllolnkkepacjaaGreat
open Go.RowKit
section
attribute [local go_sem] Oper.semAt_some
structure Rd where
 i:Nat
 lv:Int
 cl:Int
 lvs:List Int
 cls:List Int
 lvv:Value
 clv:Value
def Rd.encs (x:Rd):Array Value:=#[.int .i64 x.i,.agg #[.int .i8 x.lv,.int .u8 x.cl]]
structure XIs (D bx:Nat) (mv lvv clv:Value) (lvs cls:List Int) (W:World):Prop where
 blk:Blk W bx 111 #[lvv,clv,mv]
 lv:Ints W (D+2) 29 .i8 lvv lvs
 cl:Ints W (D+2) 22 .u8 clv cls
 ne: ∀j,lvv.ownBlock=some j→clv.ownBlock≠some j
theorem XIs.frm {D bx:Nat}{mv lvv clv:Value}{lvs cls:List Int}{W W':World}{F:Nat→Prop}(h:XIs D bx mv lvv clv lvs cls W)(hf:Frm F W W')(hb: ¬F bx)
 (h1: ∀j,lvv.ownBlock=some j→ ¬F j) (h2: ∀j,clv.ownBlock=some j→ ¬F j):XIs D bx mv lvv clv lvs cls W':=
 ⟨h.blk.frm hf hb,h.lv.frm hf h1,h.cl.frm hf h2,h.ne⟩
def Grew (D bx:Nat)(mv:Value)(x:Rd)(W W':World):Prop:=
 ∃lvv' clv',XIs D bx mv lvv' clv' (x.lvs++[x.lv]) (x.cls++[x.cl]) W'∧(∀j,lvv'.ownBlock=some j→x.lvv.ownBlock=some j∨W.heap.size≤j)∧(∀j,clv'.ownBlock=some j→x.clv.ownBlock=some j∨W.heap.size≤j)∧
  Frm (fun k=>k=bx∨k=D+1∨x.lvv.ownBlock=some k∨x.clv.ownBlock=some k) W W'
structure Env (w:World) (b g0 bx bs bl ba ag acap c:Nat) (A:Option Addr) (B:Nat) (l:List Int):Prop where
 box_s:Blk w bs 155 #[.pointer (some ⟨b,0,none⟩)]
 box_l:Blk w bl 30 #[.slice A l.length c]
 box_a:Blk w ba 31 #[.slice (some ⟨ag,0,none⟩) (l.length+1) acap]
 rd:RdInts w B .u8 A l
 hB:B≤bx
 au:Ints w 0 29 .i8 (.slice (some ⟨ag,0,none⟩) (l.length+1) acap) (autosL l (matchL l))
 ns:bs≠bx∧bs≠b∧bs≠g0
 nl:bl≠bx∧bl≠b∧bl≠g0
 na:ba≠bx∧ba≠b∧ba≠g0
 ng:ag≠bx∧ag≠b∧ag≠g0
 nx:bx≠b∧bx≠g0
 low:B≤b∧B≤g0
 hb:b<w.heap.size
 hg:g0<w.heap.size
 hx:bx<w.heap.size
def Inv (w:World)(base:Int)(b g0 bx:Nat)(mv:Value)(l:List Int)(k:Nat)(wr:World):Prop:=
 ∃g lvv clv,StackIs wr b g (runS base l (auP l) k).1∧(g=g0∨w.heap.size+2≤g)∧XIs w.heap.size bx mv lvv clv (runS base l (auP l) k).2.1 (runS base l (auP l) k).2.2 wr∧
  lvv.ownBlock≠some g∧clv.ownBlock≠some g∧Frm (fun j=>j=bx∨j=b∨j=g0) w wr
theorem iter_any {w W1:World}{b g0 bx bs bl ba ag acap c B:Nat}{A:Option Addr}{l:List Int}{base:Int}(hbase:base=0∨base=1)(hl:l.length≤1048576){mv:Value}(E:Env w b g0 bx bs bl ba ag acap c A B l)
 (h0:Inv w base b g0 bx mv l 0 W1) {Rdy:World→Prop} (hsz: ∀A,Rdy A→w.heap.size+1<A.heap.size) (hst: ∀A B,Rdy A→Two w.heap.size A B→Rdy B) (hr1:Rdy W1) {n:Nat} (hn:1≤n)
 (hY: ∀(x:Rd) W,XIs w.heap.size bx mv x.lvv x.clv x.lvs x.cls W∧x.lvs.length<l.length∧x.cls.length<l.length→Rdy W→YieldAt Fence.wide (n-1) Tryz.prog (w.heap.size+1) x.encs W fun e W'=>(e= .returned (.bool true)∧Grew w.heap.size bx mv x W W'∧Rdy W')):
 CallsIn Fence.wide n Tryz.prog 143 #[.func (.yield (w.heap.size+1)) #[] #[],.pointer (some ⟨bl,0,none⟩),.pointer (some ⟨bs,0,none⟩),.pointer (some ⟨ba,0,none⟩)] W1 fun e W'=>(∃v,e= .returned v)∧Inv w base b g0 bx mv l l.length W'∧Rdy W':=by
 refine callsIn_of_wp Tryz.func143 rfl trivial ?_ rfl;simp only[Tryz.ntmps143,List.size_toArray,List.length_cons,List.length_nil,Nat.reduceAdd,Nat.reduceSub,Array.replicate_succ,Array.replicate_zero,List.push_toArray,List.append_toArray,List.nil_append,List.cons_append];obtain⟨c1,_,_⟩:=(E.box_l.frm (h0.choose_spec.choose_spec.choose_spec.2.2.2.2.2) (by have:=E.nl;omega)).c1;gi_wp2
 gi_loopw [12] (fun iv wr=> ∃k:Nat,iv= .int .i64 k∧k≤l.length∧Inv w base b g0 bx mv l k wr∧Rdy wr) (fun iv _=>l.length-(intOf iv).toNat)
 case atStart=>exact⟨0,rfl,Nat.zero_le _,h0,hr1⟩
 case round=>
  obtain⟨k,rfl,hk,hI,hr⟩:=hrel
  by_cases hlt:k<l.length
  ·clear c1 h0 hr1;have hkl:=hk;obtain⟨g,lvv,clv,S,hg,X,hlg,hcg,F0⟩:=hI;have c1:=(E.box_l.frm F0 (by have:=E.nl;omega)).c1;have c2:=(E.box_s.frm F0 (by have:=E.ns;omega)).c1;have c3:=(E.box_a.frm F0 (by have:=E.na;omega)).c1
   have hbw:B≤w.heap.size:=by have:=E.hb;have:=E.low;omega
   have rd:=E.rd.below (F0.below hbw (fun j hj=>by have:=E.hB;have:=E.low;omega)) (.inl (Nat.le_refl _));obtain⟨ab,off,rfl,_,_,hc⟩:=rd.at_ hlt;obtain⟨-,_,_,_,hags,_,hac⟩:=(E.au.frm F0 (fun j hj=>by have:=E.ng;simp[Value.ownBlock]at hj;omega)).at_;have c4:=hac (k+1) (by unfold autosL;rw[autoSuf_length];omega);clear hac rd;have ha:(autosL l (matchL l)).getD (k+1) 0=auP l k:=rfl;rw[ha]at c4;clear ha;obtain⟨c1,_,_⟩:=c1;obtain⟨c2,_,_⟩:=c2;obtain⟨c3,_,_⟩:=c3;obtain⟨W0,hi0,hm0⟩:=runS_wf hbase l (auP l) k;have hlen:=runS_len base l (auP l) k
   have hnx:runS base l (auP l) (k+1)=((stepS base (runS base l (auP l) k).1 (l.getD k 0) (auP l k)).s,(runS base l (auP l) k).2.1++[(stepS base (runS base l (auP l) k).1 (l.getD k 0) (auP l k)).lv],
    (runS base l (auP l) k).2.2++[(stepS base (runS base l (auP l) k).1 (l.getD k 0) (auP l k)).cl]):=rfl
   generalize l.getD k 0=cc at hc hnx;generalize auP l k=au at c4 hnx;generalize runS base l (auP l) k=st at S X hnx W0 hi0 hm0 hlen;obtain⟨ss,lvs,cls⟩:=st;simp only at S X hnx W0 hi0 hm0 hlen;have HN:=Lib.hid hnx;have HL:=Lib.hid hlen;have HG:=Lib.hid hg;clear hnx hlen hg;gi_wp2;refine wpIn_wide.2 ?_;refine wp_region_mid 7 (by kernel_rfl) (by kernel_rfl) rfl ?_;simp only[List.take_succ_cons,List.take_zero]
   repeat(refine still_plain rfl rfl ?_;intro K hK;go_wp2)
   refine wpStill_nil ?_;refine mid_op rfl rfl ?_;intro K hK
   go_wp2_with(go_at_call 144;refine(Step_any (base:=base) cc au (s:=ss) (b:=b) (g:=g) (w:=wr.drew) (IsStack.drew S) W0 (by omega) (by omega)).mono ?_;rintro r1 w1 ⟨rfl,g',hg',S',F1⟩)
   simp only[List.drop_succ_cons,List.drop_zero]
   repeat(refine still_plain rfl rfl ?_;intro K hK;go_wp2)
   refine wpStill_nil ?_;have F2:Frm (fun k=>k=b∨k=g) wr w1:=⟨F1.os,F1.tape,F1.output,F1.size,F1.block⟩;clear F1 hc c1 c2 c3 c4
   have hgl:g<wr.heap.size:=by obtain⟨cap,_,h⟩:=S.parts;obtain⟨_,_,h,_⟩:=own_blk h;exact h.lt
   have hgl':g'<w1.heap.size:=by obtain⟨cap,_,h⟩:=S'.parts;obtain⟨_,_,h,_⟩:=own_blk h;exact h.lt
   have hwr:=hsz _ hr;have hs2:=F2.size;have hg':g'=g∨wr.heap.size≤g':=hg';have hlo:=X.lv.lt;have hco:=X.cl.lt;have hEb:=E.hb;have hEg:=E.hg;have hEx:=E.hx;obtain⟨hx1,hx2⟩:=E.nx
   have hbxg:bx≠g:=by rcases HG.out with e|e<;>omega
   have X1:XIs w.heap.size bx mv lvv clv lvs cls w1:=X.frm F2 (by omega) (fun j hj e=>by
    have:=hlo j hj
    rcases e with e|e
    ·omega
    ·subst e;exact hlg hj) (fun j hj e=>by
    have:=hco j hj
    rcases e with e|e
    ·omega
    ·subst e;exact hcg hj)
   have hr1:=hst _ _ hr (Two.of_frm F2 hwr (by rcases HG.out with e|e<;>omega) (by rcases HG.out with e|e<;>omega));obtain⟨fn,tmps,assign,body,hy,hR⟩:=hY ⟨k,(stepS base ss cc au).lv,(stepS base ss cc au).cl,lvs,cls,lvv,clv⟩ w1 ⟨X1,by simp only;have:=HL.out;omega,by simp only;have:=HL.out;omega⟩ hr1;dsimp only[Rd.encs]at hy;generalize stepS base ss cc au=o at*;obtain⟨os,olv,ocl,ok⟩:=o;simp only at S' hy hR⊢;have HG':=Lib.hid hg';clear hg';gi_wp2;refine hR.mono ?_;rintro e W3 ⟨rfl,G,hr3⟩;gi_wp2
   go_roundw
   case rel=>
    obtain⟨lvv',clv',X3,hl3,hc3,F3⟩:=G;simp only at X3 hl3 hc3 F3
    have hn3: ∀j,j=b∨j=g'→ ¬(j=bx∨j=w.heap.size+1∨lvv.ownBlock=some j∨clv.ownBlock=some j):=by
     intro j hj e
     rcases e with e|e|e|e
     ·have:=HG.out;have:=HG'.out;omega
     ·have:=HG.out;have:=HG'.out;omega
     ·have:=hlo j e
      have h5:j≠g:=by rintro rfl;exact hlg e
      have:=HG'.out;omega
     ·have:=hco j e
      have h5:j≠g:=by rintro rfl;exact hcg e
      have:=HG'.out;omega
    refine⟨k+1,by go_num,by omega,⟨g',lvv',clv',?_,?_,?_,?_,?_,?_⟩,hr3⟩
    ·rw[HN.out];exact IsStack.frm S' F3 (hn3 b (.inl rfl)) (hn3 g' (.inr rfl))
    ·have:=HG.out;have:=HG'.out;omega
    ·rw[HN.out];exact X3
    ·intro e
     rcases hl3 g' e with h|h
     ·exact hn3 g' (.inr rfl) (.inr (.inr (.inl h)))
     ·omega
    ·intro e
     rcases hc3 g' e with h|h
     ·exact hn3 g' (.inr rfl) (.inr (.inr (.inr h)))
     ·omega
    ·refine(F0.trans F2 (fun j hj e=> ?_)).trans F3 (fun j hj e=> ?_)
     ·have:=HG.out;omega
     ·rcases e with e|e|e|e
      ·exact .inl e
      ·omega
      ·have:=hlo j e;omega
      ·have:=hco j e;omega
   case measure=>simp only[intOf];omega
  ·have hkn:k=l.length:=by omega
   subst hkn;gi_wp2
   go_end0
   exact⟨⟨_,rfl⟩,hI,hr⟩
end
section
open Go.RowKit Go.Shelf
attribute [local go_sem] Oper.semAt_some
theorem own_apart {u v:Value}(h: ∀j,u.ownBlock=some j→v.ownBlock≠some j):v.ownBlock=none∨v.ownBlock≠u.ownBlock:=by
 cases hv:v.ownBlock with
 |none=>exact .inl rfl
 |some j=>exact .inr fun e=>h j e.symm hv
theorem Explicit_ok {w:World}{B:Nat}{A:Option Addr}{c:Nat}{l:List Int}(base:Int)(hbase:base=0∨base=1)(h:RdInts w B .u8 A l)(hB:B≤w.heap.size)(hl:l.length≤1048576):
 Calls Tryz.prog 69 #[.int .i8 base,.slice A l.length c] w fun r w'=> ∃lvv clv mg,r= .returned (.tuple #[.agg #[lvv,clv,.slice (some ⟨mg,0,none⟩) l.length l.length],.int .i64 0])∧Ints w' w.heap.size 29 .i8 lvv (runS base l (auP l) l.length).2.1∧
  Ints w' w.heap.size 22 .u8 clv (runS base l (auP l) l.length).2.2∧Ints w' w.heap.size 3 .i64 (.slice (some ⟨mg,0,none⟩) l.length l.length) (matchL l)∧(∀j,lvv.ownBlock=some j→clv.ownBlock≠some j∧j≠mg)∧clv.ownBlock≠some mg∧Below w.heap.size w w':=by
 refine(callsIn_wide (n:=5)).1 ?_;refine callsIn_of_wp_marks Tryz.func69 rfl trivial ?_ rfl;simp only[Tryz.ntmps69,List.size_toArray,List.length_cons,List.length_nil,Nat.reduceAdd,Nat.reduceSub,Array.replicate_succ,Array.replicate_zero,List.push_toArray,List.append_toArray,List.nil_append,List.cons_append];refine wpIn_wide.2 ?_
 go_wp2_with(first
  |(go_at_call 96;refine(New_ok _ base hbase).mono ?_;rintro r1 w1 ⟨rfl,S1,b1⟩)
  |(go_at_call 97;refine(Match_any (l:=l) (B:=B) (h.below (((Below.refl _ w).alloc (Nat.le_refl _) _).trans (b1.mono (by simp))) (.inl hB)) (by have:=b1.size;simp at this;omega) (by omega)).mono ?_;rintro r2 w2 ⟨mg,rfl,J1,b2⟩)
  |(go_at_call 99
    have b12:=((Below.refl _ w).alloc (Nat.le_refl _) (.cells #[.slice none 0 0,.slice none 0 0,.slice none 0 0] 111)).trans (b1.mono (by simp));have b02:=b12.trans (b2.mono b12.size)
    refine(autos_any (l:=l) (B:=B) (B2:=w2.heap.size) ((h.below b02 (.inl hB)).alloc _) ((J1.rd.alloc _)) (by have:=b02.size;simp;omega) (by simp) hl).mono ?_;rintro r3 w3 ⟨ag,acap,rfl,U1,b3⟩)
  |(go_at_call 98;refine(steps_any _ _ _ _ _ _ _ _).mono ?_;rintro r4 w4 ⟨rfl,hw4⟩))
 rw[←hw4];obtain⟨_,_,cap1,hb1,hg1⟩:=S1;obtain⟨_,_,hg1',_⟩:=own_blk hg1;have hlt1:=hb1.lt;simp only[World.size_alloc]at*;have S1:StackIs w1 (w.heap.size+1+1) (w.heap.size+1) ⟨[⟨base,0,false⟩],0,0,0⟩:=⟨by omega,by simp,cap1,hb1,hg1⟩
 have b34:Below w3.heap.size w3 w4:=by rw[hw4];exact((((Below.refl _ w3).alloc (Nat.le_refl _) _).alloc (by simp) _).alloc (by simp;omega) _)
 have b24:Below (w2.heap.size+1) (w2.alloc (.cells #[.slice none 0 0,.slice none 0 0,.slice (some ⟨mg,0,none⟩) l.length l.length] 111)) w4:=b3.trans (b34.mono (by have:=b3.size;simp at this;omega));have b24':Below w2.heap.size w2 w4:=((Below.refl _ w2).alloc (Nat.le_refl _) _).trans (b24.mono (by omega));have b14:Below w1.heap.size w1 w4:=b2.trans (b24'.mono b2.size);have b04:Below w.heap.size w w4:=b12.trans (b14.mono b12.size);have S4:=IsStack.below S1 b14;have J4:=J1.below b24' (Nat.le_refl _);have X4:=(Blk.new w2 111 #[.slice none 0 0,.slice none 0 0,.slice (some ⟨mg,0,none⟩) l.length l.length]).below b24 (by omega);have U4:=U1.below b34 (Nat.le_refl _);have R4:=((Blk.new w 111 #[.slice none 0 0,.slice none 0 0,.slice none 0 0]).below b1 (by omega)).below b14 (by have:=b1.size;simp at this;omega);have hmg:=J1.lt mg rfl;have hag:=U1.lt ag rfl
 have hs4:w4.heap.size=w3.heap.size+3:=by rw[hw4];simp
 have hs3:=b3.size;have hs2:=b2.size;simp only[World.size_alloc]at hs3
 have B3:Blk w4 w3.heap.size 155 #[.pointer (some ⟨w.heap.size+1+1,0,none⟩)]:=by rw[hw4];exact((Blk.new w3 155 _).alloc _).alloc _
 have B4:Blk w4 (w3.heap.size+1) 30 #[.slice A l.length c]:=by
  rw[hw4];have:=(Blk.new (w3.alloc (.cells #[.pointer (some ⟨w.heap.size+1+1,0,none⟩)] 155)) 30 #[.slice A l.length c]).alloc (.cells #[.slice (some ⟨ag,0,none⟩) (l.length+1) acap] 31)
  rwa [World.size_alloc]at this
 have B5:Blk w4 (w3.heap.size+2) 31 #[.slice (some ⟨ag,0,none⟩) (l.length+1) acap]:=by
  rw[hw4];have:=Blk.new ((w3.alloc (.cells #[.pointer (some ⟨w.heap.size+1+1,0,none⟩)] 155)).alloc (.cells #[.slice A l.length c] 30)) 31 #[.slice (some ⟨ag,0,none⟩) (l.length+1) acap]
  simpa using this
 have E:Env w4 (w.heap.size+1+1) (w.heap.size+1) w2.heap.size w3.heap.size (w3.heap.size+1) (w3.heap.size+2) ag acap c A B l:=⟨B3,B4,B5,h.below b04 (.inl hB),by omega,U4.base (fun _ _=>Nat.zero_le _),by omega,by omega,by omega,by omega,by omega,by omega,by omega,by omega,by omega⟩
 have hb4:w.heap.size+1+1<w4.heap.size:=by omega
 have hx4:w2.heap.size<w4.heap.size:=by omega
 have HS4:=Lib.hid hs4;clear hs4;have HW:=Lib.hid hw4;clear hw4 S1 J1 U1 hb1 hg1 hg1' B3 B4 B5 U4 b3 b34 b24 b24' b2 b1 b12 b02 b14
 refine wpIn_wide.1 (wpIn_rangeFunc_joint (n:=5) (F:=Fence.wide) rfl (by omega) (gf:=143) (lb:=#[.pointer (some ⟨w3.heap.size+1,0,none⟩),.pointer (some ⟨w3.heap.size,0,none⟩),.pointer (some ⟨w3.heap.size+2,0,none⟩)]) rfl trivial (enters_of Tryz.func143 (by kernel_rfl) rfl)
  (encs:=Rd.encs) (fun _=>rfl)
  (fun x W=>XIs w4.heap.size w2.heap.size (.slice (some ⟨mg,0,none⟩) l.length l.length) x.lvv x.clv x.lvs x.cls W∧x.lvs.length<l.length∧x.cls.length<l.length)
  (fun x W a' W'=>XIs w4.heap.size w2.heap.size (.slice (some ⟨mg,0,none⟩) l.length l.length) x.lvv x.clv x.lvs x.cls W'∧x.lvs.length<l.length∧x.cls.length<l.length∧Frm (fun k=>k=w4.heap.size+1) W W'∧(∀j,x.lvv.ownBlock=some j→j<W.heap.size)∧(∀j,x.clv.ownBlock=some j→j<W.heap.size)∧
   ∃st,Blk W' st 164 #[.int .i8 x.lv,.int .u8 x.cl]∧w4.heap.size+1<st∧W.heap.size≤st∧
    a'={tmps:=#[.int .i8 base,.slice A l.length c,undef,undef,.pointer (some ⟨w.heap.size,0,none⟩),.int .i64 0,.pointer (some ⟨w.heap.size+1+1,0,none⟩),.int .i64 0,.pointer (some ⟨w2.heap.size,0,none⟩),undef,.pointer (some ⟨st,0,none⟩),
     .tuple #[.pointer (some ⟨w.heap.size+1+1,0,none⟩),.int .i64 0],.int .i8 base,.tuple #[.pointer (some ⟨w.heap.size+1+1,0,none⟩),.int .i64 0],.pointer (some ⟨w.heap.size+1+1,0,none⟩),.int .i64 0,
     .int .i64 0,.bool false,undef,undef,.slice A l.length c,.int .i64 l.length,.bool (decide (1048576<(l.length:Int))),undef,.slice A l.length c,.slice (some ⟨mg,0,none⟩) l.length l.length,
     .agg #[.slice none 0 0,.slice none 0 0,.slice (some ⟨mg,0,none⟩) l.length l.length],.pointer (some ⟨w.heap.size+1+1,0,none⟩),.slice A l.length c,.slice A l.length c,.pointer (some ⟨w2.heap.size,2,none⟩),
     .slice (some ⟨mg,0,none⟩) l.length l.length,.slice (some ⟨ag,0,none⟩) (l.length+1) acap,
     .func (.func 143) #[] #[.pointer (some ⟨w3.heap.size+1,0,none⟩),.pointer (some ⟨w3.heap.size,0,none⟩),.pointer (some ⟨w3.heap.size+2,0,none⟩)],
     .int .i64 x.i,.agg #[.int .i8 x.lv,.int .u8 x.cl],undef,undef,undef,undef,undef,undef,undef,undef,undef,undef,undef,undef,undef,undef,undef],defers:=[]})
  (Grew w4.heap.size w2.heap.size (.slice (some ⟨mg,0,none⟩) l.length l.length)) (fun _ _ _ _=>False)
  (Inv w4 base (w.heap.size+1+1) (w.heap.size+1) w2.heap.size (.slice (some ⟨mg,0,none⟩) l.length l.length) l l.length) (fun _ _=>False)
  ?assign ?mid ?body ?gr (fun _ _ _ _ _ h _=>h) ?call ?fin (fun _ _ _ h _=>h) ?done (fun _ _ h _=>h.elim))
 case assign=>rintro x W K hW ⟨X,hx1,hx2⟩ hK;simp only[Rd.encs,List.zip_toArray,List.zip_cons_cons,List.zip_nil_right,List.foldl_toArray,List.foldl_cons,List.foldl_nil,List.setIfInBounds_toArray,List.set_cons_zero,List.set_cons_succ];gi_wp2;have F:=(Frm.refl (fun _=>False) W).alloc (.cells #[.int .i8 x.lv,.int .u8 x.cl] 164);exact hK _ _ (Two.of_frm F hW id id) ⟨X.frm F id (fun _ _=>id) (fun _ _=>id),hx1,hx2,F.mono (fun _ _ e=>e.elim),fun j hj=>(X.lv.lt j hj).2,fun j hj=>(X.cl.lt j hj).2,_,Blk.new _ _ _,hW,Nat.le_refl _,rfl⟩
 case mid=>
  rintro x W a' Wa Wb ⟨X,h1,h2,hf,ho1,ho2,st,hb,hs1,hs2,he⟩ hF;refine⟨X.frm hF (by omega) (fun j hj=> ?_) (fun j hj=> ?_),h1,h2,hf.trans hF (fun _ _ e=>e),ho1,ho2,st,hb.frm hF (by omega),hs1,hs2,he⟩
  ·have:=X.lv.lt j hj;omega
  ·have:=X.cl.lt j hj;omega
 case gr=>
  rintro x W Wa Wb ⟨lvv',clv',X,hl,hc,F⟩ hF;refine⟨lvv',clv',X.frm hF (by omega) (fun j hj=> ?_) (fun j hj=> ?_),hl,hc,F.trans hF (fun _ _ e=>.inr (.inl e))⟩
  ·have:=X.lv.lt j hj;omega
  ·have:=X.cl.lt j hj;omega
 case fin=>
  rintro Wa Wb ⟨g,lvv,clv,S,hg,X,h1,h2,F⟩ hF;refine⟨g,lvv,clv,IsStack.frm S hF (by omega) (by omega),hg,X.frm hF (by omega) (fun j hj=> ?_) (fun j hj=> ?_),h1,h2,F.trans hF (fun _ _ e=>by omega)⟩
  ·have:=X.lv.lt j hj;omega
  ·have:=X.cl.lt j hj;omega
 case call=>
  intro W1 hF1 hW1 Rdy Dn hsz hst _ hR1 hY
  refine(iter_any hbase hl E (mv:=.slice (some ⟨mg,0,none⟩) l.length l.length) (n:=5-1)
   ⟨_,.slice none 0 0,.slice none 0 0,IsStack.frm S4 hF1 id id,.inl rfl,⟨X4.frm hF1 id,Ints.nil _ _ _ _,Ints.nil _ _ _ _,by simp[Value.ownBlock]⟩,by simp[Value.ownBlock],by simp[Value.ownBlock],hF1.mono (fun _ _ e=>e.elim)⟩ hsz hst hR1 (by omega) (fun x W hp hr=> ?_)).mono ?_
  ·obtain⟨fn,tmps,assign,body,hy,hR⟩:=hY x W hp hr;refine⟨fn,tmps,assign,body,hy,hR.mono fun e w' h=> ?_⟩
   rcases h with h|⟨c,_,hf,_⟩
   ·exact h
   ·exact hf.elim
  ·rintro e W2 ⟨hv,hI,hr⟩;exact⟨hv,.inl ⟨hI,hr⟩⟩
 case body=>
  rintro⟨i,lv,cl,lvs,cls,lvv,clv⟩ W a' W' hW' ⟨X,h1,h2,hf,ho1,ho2,st,hb,hs1,hs2,rfl⟩;simp only at X h1 h2 ho1 ho2 hb⊢;clear E HW R4 S4 X4 J4 b04 h hB;obtain⟨x1,x2,x3,x4,x5⟩:=X.blk.c3;obtain⟨y1,y2,_,_⟩:=hb.c2;have XL:=X.lv;have hlo:=X.lv.lt;have hco:=X.cl.lt;have hne:=X.ne;have XC:=X.cl;have XB:=X.blk;clear X;obtain⟨lA,lcap,rfl,_,_,_⟩:=XL.val;obtain⟨cA,ccap,rfl,_,_,_⟩:=XC.val
  have h1c:(1:Nat)≤5-1-1:=by omega
  gi_wp2_with (gi_at_builtin;go_must (refine wpListIn_appI Tryz.ei26 rfl rfl rfl (XL.alloc _) rfl (Blk.at_ (by simp)) ?_ ?_ ?_ ?_))
  ·unfold maxLen;omega
  ·omega
  ·simp;omega
  intro g1 cap1 w5 I5 hg5 hgg5
  have hbx1:some w2.heap.size≠(Value.slice lA lvs.length lcap).ownBlock:=fun e=>by have:=hlo _ e.symm;omega
  have hbx2:some w2.heap.size≠(Value.slice cA cls.length ccap).ownBlock:=fun e=>by have:=hco _ e.symm;omega
  have hB5:=(XB.alloc (.cells #[.int .i8 lv] 29)).grown hg5 hbx1;obtain⟨x1,x2,x3,x4,x5⟩:=hB5.c3;have hY5:=(hb.alloc (.cells #[.int .i8 lv] 29)).grown hg5 (fun e=>by have:=ho1 _ e.symm;omega);obtain⟨y1,y2,_,_⟩:=hY5.c2;have C5:=(XC.alloc (.cells #[.int .i8 lv] 29)).kept hg5 (own_apart hne);have hlv5:(Value.slice (some ⟨g1,0,none⟩) (lvs.length+1) cap1).ownBlock=some g1:=rfl;have hg1:w4.heap.size+2≤g1∧g1<w5.heap.size:=I5.lt g1 rfl
  have hgc:(Value.slice cA cls.length ccap).ownBlock≠some g1:=by
   rcases hgg5 with e|e
   ·exact hne g1 e
   ·intro e2;have:=hco g1 e2;first|omega|(simp at e;omega)
  have sz5:=hg5.size;simp only[World.size_alloc]at sz5;have F5:=((Frm.refl (fun k=>k=w2.heap.size∨(Value.slice lA lvs.length lcap).ownBlock=some k∨(Value.slice cA cls.length ccap).ownBlock=some k) W').alloc (.cells #[.int .i8 lv] 29)).grown hg5 (fun k e _=>.inr (.inl e));clear XL XC XB hb;have G6:=(Frm.refl (fun k=>k=w2.heap.size) w5).set (j:=0) rfl (.slice (some ⟨g1,0,none⟩) (lvs.length+1) cap1);have C6:=C5.frm G6 (fun j hj e=>hbx2 (by rw[hj,e]));have I6:=I5.frm G6 (fun j hj e=>by simp[Value.ownBlock]at hj;omega);have B6:=hB5.set_ 0 (.slice (some ⟨g1,0,none⟩) (lvs.length+1) cap1);have F6:=F5.set (j:=0) (b:=w2.heap.size) (.inl rfl) (.slice (some ⟨g1,0,none⟩) (lvs.length+1) cap1)
  have sz6:(w5.setCell ⟨w2.heap.size,0,none⟩ (.slice (some ⟨g1,0,none⟩) (lvs.length+1) cap1)).heap.size=w5.heap.size:=by simp
  clear C5 F5 G6
  gi_wp2_with (gi_at_builtin;go_must (refine wpListIn_appI Tryz.ei24 rfl rfl rfl (C6.alloc _) rfl (Blk.at_ (by simp)) ?_ ?_ ?_ ?_))
  ·unfold maxLen;omega
  ·omega
  ·simp;omega
  intro g2 cap2 w7 I7 hg7 hgg7;have hg2:w4.heap.size+2≤g2∧g2<w7.heap.size:=I7.lt g2 rfl;have sz7:=hg7.size;simp only[World.size_alloc]at sz7;have hB7:=(B6.alloc (.cells #[.int .u8 cl] 22)).grown hg7 hbx2;have I8:=(I6.alloc (.cells #[.int .u8 cl] 22)).kept hg7 (.inr (fun e=>hgc (by rw[←e];rfl)));have F7:=(F6.alloc (.cells #[.int .u8 cl] 22)).grown hg7 (fun k e _=>.inr (.inr e));have hB7':Blk w7 w2.heap.size 111 #[.slice (some ⟨g1,0,none⟩) (lvs.length+1) cap1,.slice cA cls.length ccap,.slice (some ⟨mg,0,none⟩) l.length l.length]:=hB7;obtain⟨z1,z2,z3,z4,z5⟩:=hB7'.c3;gi_wp2;have G8:=(Frm.refl (fun k=>k=w2.heap.size) w7).set (j:=1) rfl (.slice (some ⟨g2,0,none⟩) (cls.length+1) cap2);have F8:=F7.set (j:=1) (b:=w2.heap.size) (.inl rfl) (.slice (some ⟨g2,0,none⟩) (cls.length+1) cap2)
  have hgg:g1≠g2:=by
   rcases hgg7 with e|e
   ·rintro rfl;exact hgc e
   ·first|omega|(simp at e;omega)
  refine⟨Two.of_frm F8 hW' (fun e=> ?_) (fun e=> ?_),?_⟩
  ·rcases e with e|e|e
   ·omega
   ·have:=hlo _ e;omega
   ·have:=hco _ e;omega
  ·rcases e with e|e|e
   ·omega
   ·have:=hlo _ e;omega
   ·have:=hco _ e;omega
  refine⟨.slice (some ⟨g1,0,none⟩) (lvs.length+1) cap1,.slice (some ⟨g2,0,none⟩) (cls.length+1) cap2,⟨hB7'.set_ 1 _,I8.frm G8 (fun j hj e=> ?_),I7.frm G8 (fun j hj e=> ?_),?_⟩,?_,?_,(hf.mono (fun _ _ e=>.inr (.inl e))).trans F8 ?_⟩
  ·have:g1=j:=by simpa[Value.ownBlock]using hj
   omega
  ·have:g2=j:=by simpa[Value.ownBlock]using hj
   omega
  ·intro j hj e
   have h1:g1=j:=by simpa[Value.ownBlock]using hj
   have h2:g2=j:=by simpa[Value.ownBlock]using e
   omega
  ·intro j hj
   have:g1=j:=by simpa[Value.ownBlock]using hj
   subst this
   rcases hgg5 with e|e
   ·exact .inl e
   ·right;have:=hf.size;first|omega|(simp at e;omega)
  ·intro j hj
   have:g2=j:=by simpa[Value.ownBlock]using hj
   subst this
   rcases hgg7 with e|e
   ·exact .inl e
   ·right;have:=hf.size;first|omega|(simp at e;omega)
  ·intro k _ e
   rcases e with e|e|e
   ·exact .inl e
   ·exact .inr (.inr (.inl e))
   ·exact .inr (.inr (.inr e))
 case done=>
  rintro W ⟨g,lvv,clv,S,hg,X,h1,h2,F⟩ hK;have R5:=R4.frm F (by omega)
  have J5:=J4.frm F (fun j hj=>by have:mg=j:=by simpa[Value.ownBlock]using hj
                                  omega)
  have b5:=b04.trans (F.below b04.size (fun k hk=>by omega));obtain⟨x1,x2,x3,x4,x5⟩:=X.blk.c3;obtain⟨y1,y2,y3,y4,y5⟩:=R5.c3;have XL:=X.lv;have XC:=X.cl;have hne:=X.ne;obtain⟨lA,lcap,rfl,_,_,_⟩:=XL.val;obtain⟨cA,ccap,rfl,_,_,_⟩:=XC.val;clear X S4 J4 X4 R4 E HW S F h1 h2 b04;go_wp2;have hD:w4.heap.size<W.heap.size:=(Array.getElem?_eq_some_iff.1 hK).1;have F9:=frm_put3 W w.heap.size (.slice lA (runS base l (auP l) l.length).2.1.length lcap) (.slice cA (runS base l (auP l) l.length).2.2.length ccap) (.slice (some ⟨mg,0,none⟩) l.length l.length);have hK9:=(F9.block w4.heap.size hD (by omega)).trans hK;have FF:=(F9.mono (F':=fun k=>k=w.heap.size∨k=w4.heap.size) (fun _ _ e=>.inl e)).put (k:=w4.heap.size) (.inr rfl) (.deferred none);have RF:=(blk_put3 (.slice lA (runS base l (auP l) l.length).2.1.length lcap) (.slice cA (runS base l (auP l) l.length).2.2.length ccap) (.slice (some ⟨mg,0,none⟩) l.length l.length) R5).frm ((Frm.refl (fun k=>k=w4.heap.size) _).put (k:=w4.heap.size) rfl (.deferred none)) (by omega);refine⟨by simp,.inl ⟨_,_,rfl,run_takeDeferred hK9,?_⟩⟩;refine⟨_,results_row1 rfl _ _ _ _ _ _ rfl RF Tryz.underlying111 rfl (by kernel_rfl),_,_,mg,rfl,?_,?_,?_,?_,?_,?_⟩
  ·exact(XL.frm FF (fun j hj e=>by have:=XL.lt j hj;omega)).base (fun j hj=>by have:=XL.lt j hj;omega)
  ·exact(XC.frm FF (fun j hj e=>by have:=XC.lt j hj;omega)).base (fun j hj=>by have:=XC.lt j hj;omega)
  ·exact(J5.frm FF (fun j hj e=>by simp[Value.ownBlock]at hj;omega)).base (fun j hj=>by simp[Value.ownBlock]at hj;omega)
  ·intro j hj;have:=XL.lt j hj;exact⟨hne j hj,by omega⟩
  ·intro e;have:=XC.lt mg e;omega
  ·exact b5.trans (FF.below b5.size (fun k hk e=>by omega))
end
section
theorem Explicit_n {w:World}{B n:Nat}{A:Option Addr}{c:Nat}{l:List Int}(base:Int)(hn:l.length=n)(hbase:base=0∨base=1)(h:RdInts w B .u8 A l)(hB:B≤w.heap.size)(hl:n≤1048576):
 Calls Tryz.prog 69 #[.int .i8 base,.slice A n c] w fun r w'=> ∃lA lc cA cc mg,r= .returned (.tuple #[.agg #[.slice lA n lc,.slice cA n cc,.slice (some ⟨mg,0,none⟩) n n],.int .i64 0])∧
  Ints w' w.heap.size 29 .i8 (.slice lA n lc) (runS base l (auP l) n).2.1∧Ints w' w.heap.size 22 .u8 (.slice cA n cc) (runS base l (auP l) n).2.2∧Ints w' w.heap.size 3 .i64 (.slice (some ⟨mg,0,none⟩) n n) (matchL l)∧
  (∀j,(Value.slice lA n lc).ownBlock=some j→(Value.slice cA n cc).ownBlock≠some j∧j≠mg)∧(Value.slice cA n cc).ownBlock≠some mg∧Below w.heap.size w w':=by
 subst hn;refine(Explicit_ok base hbase h hB hl).mono ?_;rintro r w' ⟨lvv,clv,mg,rfl,L,C,M,h1,h2,b⟩;obtain⟨e1,e2⟩:=runS_len base l (auP l) l.length;obtain⟨lA,lc,rfl,_⟩:=L.val;obtain⟨cA,cc,rfl,_⟩:=C.val;rw[e1]at L h1⊢;rw[e2]at C h1 h2⊢;exact⟨lA,lc,cA,cc,mg,rfl,L,C,M,h1,h2,b⟩
structure Exp where
 L:List Int
 C:List Int
 M:List Int
 e:Int
structure ExpIs (w:World) (B:Nat) (x:Exp) (lA cA mA:Option Addr) (lc cc mc:Nat):Prop where
 l:Ints w B 29 .i8 (.slice lA x.L.length lc) x.L
 c:Ints w B 22 .u8 (.slice cA x.C.length cc) x.C
 m:Ints w B 3 .i64 (.slice mA x.M.length mc) x.M
theorem ExpIs.frm {w w':World}{B:Nat}{x:Exp}{lA cA mA:Option Addr}{lc cc mc:Nat}{F:Nat→Prop}(h:ExpIs w B x lA cA mA lc cc mc)(hf:Frm F w w')(hF: ∀k,B≤k→k<w.heap.size→ ¬F k):ExpIs w' B x lA cA mA lc cc mc:=⟨h.l.frm hf (fun j hj=>hF j (h.l.lt j hj).1 (h.l.lt j hj).2),h.c.frm hf (fun j hj=>hF j (h.c.lt j hj).1 (h.c.lt j hj).2),h.m.frm hf (fun j hj=>hF j (h.m.lt j hj).1 (h.m.lt j hj).2)⟩
theorem ExpIs.below {w w':World}{B:Nat}{x:Exp}{lA cA mA:Option Addr}{lc cc mc:Nat}(h:ExpIs w B x lA cA mA lc cc mc)(hb:Below w.heap.size w w'):ExpIs w' B x lA cA mA lc cc mc:=h.frm (Frm.of_below (F:=fun _=>False) hb) (fun _ _ _ e=>e)
theorem ExpIs.alloc {w:World}{B:Nat}{x:Exp}{lA cA mA:Option Addr}{lc cc mc:Nat}(h:ExpIs w B x lA cA mA lc cc mc)(o:Obj):ExpIs (w.alloc o) B x lA cA mA lc cc mc:=⟨h.l.alloc o,h.c.alloc o,h.m.alloc o⟩
theorem own_slice (A:Option Addr)(n c:Nat):(Value.slice A n c).ownBlock=A.map (fun a=>a.block):=by cases A<;>rfl
end
end Go.Proofs.YtllolnkkepacjaaGreat
