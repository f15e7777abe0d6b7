/- EngineBytes walked. -/
import Derived.Test.YtllolnkkepacjaaGreatTx4
import Derived.Test.YtllolnkkepacjaaGreatKn2
import Derived.Test.YtllolnkkepacjaaGreatSm3
import Derived.Test.YtllolnkkepacjaaGreatY5
set_option maxRecDepth 100000
set_option maxHeartbeats 4000000
namespace Go.Proofs.YtllolnkkepacjaaGreat
open Go.RowKit
attribute [local go_sem] Oper.semAt_some
structure RV where
 b:Int
 cA:Option Addr
 cn:Nat
 cc:Nat
 lA:Option Addr
 ln:Nat
 lc:Nat
def rvC (x:RV):List Value:=[.int .i8 x.b,.slice x.cA x.cn x.cc,.slice x.lA x.ln x.lc]
theorem encV:Enc rvC 3:=⟨fun _=>rfl,fun x u hu=>by simp[rvC]at hu;rcases hu with rfl|rfl|rfl<;>rfl⟩
theorem et76:ElemT Tryz.prog 76 33 3 56:=ElemT.mk' (.agg #[.int .i8 0,.slice none 0 0,.slice none 0 0]) Tryz.underlying76 (by kernel_rfl) rfl (by omega)
def RV.owns (x:RV)(j:Nat):Prop:=(Value.slice x.cA x.cn x.cc).ownBlock=some j∨(Value.slice x.lA x.ln x.lc).ownBlock=some j
structure RvIs (W:World) (B:Nat) (x:RV) (X:Res):Prop where
 b:x.b=X.base
 cn:x.cn=X.cs.length
 ln:x.ln=X.lv.length
 c:Ints W B 22 .u8 (.slice x.cA x.cn x.cc) X.cs
 l:Ints W B 29 .i8 (.slice x.lA x.ln x.lc) X.lv
theorem RvIs.frm {W W':World}{B:Nat}{x:RV}{X:Res}{F:Nat→Prop}(h:RvIs W B x X)(hF:Frm F W W')(hn: ∀j,x.owns j→ ¬F j):RvIs W' B x X:=⟨h.b,h.cn,h.ln,h.c.frm hF (fun j e=>hn j (.inl e)),h.l.frm hF (fun j e=>hn j (.inr e))⟩
theorem RvIs.lt {W:World}{B:Nat}{x:RV}{X:Res}(h:RvIs W B x X): ∀j,x.owns j→B≤j∧j<W.heap.size:=fun j e=>e.elim (h.c.lt j) (h.l.lt j)
structure AllAt (W:World) (B:Nat) (v:Value) (Xs:List Res) (L:List RV):Prop where
 row:Rw rvC 3 W B 33 v L
 len:L.length=Xs.length
 is: ∀(k:Nat) (x:RV) (X:Res),L[k]?=some x→Xs[k]?=some X→RvIs W B x X
 ne: ∀x∈L,∀j,x.owns j→v.ownBlock≠some j
def rowB (v:Value)(L:List RV)(j:Nat):Prop:=v.ownBlock=some j∨ ∃x∈L,x.owns j
theorem AllAt.frm {W W':World}{B:Nat}{v:Value}{Xs:List Res}{L:List RV}{F:Nat→Prop}(h:AllAt W B v Xs L)(hF:Frm F W W')(hn: ∀j,rowB v L j→ ¬F j):AllAt W' B v Xs L:=⟨h.row.frm hF (fun j e=>hn j (.inl e)),h.len,fun k x X h1 h2=>(h.is k x X h1 h2).frm hF (fun j e=>hn j (.inr ⟨x,List.mem_of_getElem? h1,e⟩)),h.ne⟩
theorem AllAt.lt {W:World}{B:Nat}{v:Value}{Xs:List Res}{L:List RV}(h:AllAt W B v Xs L): ∀j,rowB v L j→B≤j∧j<W.heap.size:=fun j e=>by
 rcases e with e|⟨x,hx,e⟩
 ·exact h.row.lt j e
 ·obtain⟨k,hk⟩:=List.mem_iff_getElem?.1 hx
  have hkl:k<Xs.length:=by rw[←h.len];exact(List.getElem?_eq_some_iff.1 hk).1
  exact(h.is k x _ hk (List.getElem?_eq_getElem hkl)).lt j e
theorem AllAt.nil (W:World)(B:Nat):AllAt W B (.slice none 0 0) [] []:=⟨Rw.nil _ _ _,rfl,fun k x X h=>by simp at h,fun x h=>by cases h⟩
structure GaI (Wa:World) (ab:Nat) (Xs:List Res) (k:Nat) (S:Nat→Prop) (W:World) (av:Value) (L:List RV):Prop where
 s: ∀j,S j↔j=ab∨rowB av L j
 x:Blk W ab 76 #[av]
 a:AllAt W (Wa.heap.size+2) av (Xs.take k) L
 f:Frm (fun j=>j=ab) Wa W
theorem GaI.frm {Wa W W':World}{ab:Nat}{Xs:List Res}{k:Nat}{S:Nat→Prop}{av:Value}{L:List RV}{F:Nat→Prop}(h:GaI Wa ab Xs k S W av L)(hF:Frm F W W')(hn: ∀j,F j→j<W.heap.size→Wa.heap.size≤j∧ ¬S j)(hab:ab<Wa.heap.size):GaI Wa ab Xs k S W' av L:=
 have _:=hab
 ⟨h.s,h.x.frm hF (fun e=>by have:=h.x.lt;exact(hn _ e this).2 ((h.s _).2 (.inl rfl))),h.a.frm hF (fun j e f=>(hn j f (h.a.lt j e).2).2 ((h.s j).2 (.inr e))),
  h.f.trans hF (fun j hj e=>by have:=h.f.size;have:=(hn j e (by omega)).1;omega)⟩
theorem GaI.lt {Wa W:World}{ab:Nat}{Xs:List Res}{k:Nat}{S:Nat→Prop}{av:Value}{L:List RV}(h:GaI Wa ab Xs k S W av L): ∀j,S j→j<W.heap.size:=fun j e=>by
 rcases(h.s j).1 e with rfl|e
 ·exact h.x.lt
 ·exact(h.a.lt j e).2
theorem conv_str {W:World}{B n c:Nat}{A:Option Addr}{l:List Int}(h:RdInts W B .i32 A l)(hn:n=l.length):(convert 26 9 (.slice A n c)).run Tryz.prog W= .ok (.string (runesBytes l)) W:=by
 subst hn
 rcases Nat.eq_zero_or_pos l.length with h0|hpos
 ·have:l=[]:=List.eq_nil_of_length_eq_zero h0;subst this
  rcases A with _|a
  ·exact run_convert_runes_nil W 26 9 21 _ _ (by kernel_rfl) (by kernel_rfl) (by kernel_rfl)
  ·have:=run_convert_runes (P:=Tryz.prog) W 26 9 21 a 0 c [] (Nat.le_refl _) (by kernel_rfl) (by kernel_rfl) (by kernel_rfl) (fun j hj=>by simp at hj);exact this
 ·obtain⟨b,o,rfl,-,-,hc⟩:=h.cells hpos
  have:=run_convert_runes (P:=Tryz.prog) W 26 9 21 ⟨b,o,none⟩ l.length c l (Nat.le_refl _) (by kernel_rfl) (by kernel_rfl) (by kernel_rfl) (fun j hj=>by
   have:=hc j hj
   by_cases h0:j=0
   ·subst h0;simpa[Addr.add]using this
   ·simpa[Addr.add,h0]using this)
  rw[List.take_length]at this;exact this
@[go_sem] theorem eql68_nil (w:World) (f:FuncId) (a b:Array Value):(binOp .eql 68 (.func (.func f) a b) .nilFunc).run Tryz.prog w= .ok (.bool false) w:=by kernel_rfl
theorem txR_len (rest:Int)(ch:List Chr)(s:ByteArray)(b:Int)(x:Nat×Nat):(txR rest ch s b x).cs.length≤1048577∧(txR rest ch s b x).lv.length≤1048577:=by
 unfold txR runesX;generalize ((rneL s).take x.2).drop x.1=rs
 split
 ·simp[Res.no]
 ·split
  ·simp[Res.no]
  ·split
   ·simp[Res.no]
   ·simp only[clsL_len,levE_len,exL_len];omega
structure KI (Wb:World) (kb k:Nat) (W:World):Prop where
 x:Blk W kb 3 #[.int .i64 k]
 f:Frm (fun j=>j=kb) Wb W
theorem KI.frm {Wb W W':World}{kb k:Nat}{F:Nat→Prop}(h:KI Wb kb k W)(hF:Frm F W W')(hn: ∀j,F j→j<W.heap.size→Wb.heap.size≤j∧j≠kb)(hk:kb<Wb.heap.size):KI Wb kb k W':=
 have _:=hk
 ⟨h.x.frm hF (fun e=>(hn _ e h.x.lt).2 rfl),h.f.trans hF (fun j hj e=>by have:=h.f.size;have:=(hn j e (by omega)).1;omega)⟩
structure GaX where
 k:Nat
 S:Nat→Prop
 av:Value
 L:List RV
 W0:World
 v:Value
theorem AllAt.snoc {W w3:World}{B n:Nat}{av av':Value}{Xs:List Res}{L:List RV}{x:RV}{X:Res}{k:Nat}{F:Nat→Prop}(h:AllAt W B av (Xs.take k) L)(hk:k<Xs.length)(hX:Xs.getD k (Res.no 0)=X)(hx:RvIs w3 B x X)(hF:Frm F W w3)(hn: ∀j,(∃y∈L,y.owns j)→ ¬F j)
 (hr:w3.ownsRow B 33 3 av' n (L.flatMap rvC++rvC x)) (hn2:n=L.length+1) (h1: ∀j,av'.ownBlock=some j→av.ownBlock=some j∨W.heap.size≤j) (h2: ∀j,x.owns j→av'.ownBlock≠some j):AllAt w3 B av' (Xs.take (k+1)) (L++[x]):=by
 have hkl:L.length=k:=by rw[h.len,List.length_take];omega
 subst hn2;refine⟨?_,?_,fun i y Y hy hY=> ?_,fun y hy j e=> ?_⟩
 ·show w3.ownsRow B 33 3 av' (L++[x]).length ((L++[x]).flatMap rvC);rw[List.length_append,List.length_singleton,List.flatMap_append,List.flatMap_singleton];exact hr
 ·rw[List.length_append,List.length_singleton,hkl,List.length_take];omega
 ·by_cases hi:i<L.length
  ·rw[List.getElem?_append_left hi]at hy;refine(h.is i y Y hy ?_).frm hF (fun j e=>hn j ⟨y,List.mem_of_getElem? hy,e⟩);rw[List.getElem?_take_of_lt (by omega)]at hY⊢;exact hY
  ·rw[List.getElem?_append_right (by omega)]at hy
   have hi2:i=L.length:=by
    by_cases h0:i=L.length
    ·exact h0
    ·rw[List.getElem?_eq_none (by simp;omega)]at hy;cases hy
   subst hi2;rw[Nat.sub_self]at hy
   obtain rfl:x=y:=by simpa using hy
   rw[List.getElem?_take_of_lt (by omega),hkl]at hY;rw[List.getD_eq_getElem?_getD,hY]at hX;have:Y=X:=hX;rw[this];exact hx
 ·rcases List.mem_append.1 hy with hy|hy
  ·intro h0
   rcases h1 j h0 with h3|h3
   ·exact h.ne y hy j e h3
   ·have:=(h.lt j (.inr ⟨y,hy,e⟩)).2;omega
  ·obtain rfl:y=x:=by simpa using hy
   exact h2 j e
theorem bytes_ok {w:World}{pv:Value}{rest:Int}{ch:List Chr}(hP:PropsIs w w.heap.size pv rest ch){s:ByteArray}(hs:s.size≤1048576)(b:Int):
 Calls Tryz.prog 14 #[pv,.string s,.int .i8 b] w fun r w'=>r= .returned (.bool true)∧Aft w w':=by
 obtain⟨mp,hmp⟩: ∃z,mayP rest ch=z:=⟨_,rfl⟩
 have CM: ∀W,Aft w W→Calls Tryz.prog 16 #[pv] W fun r w'=>r= .returned (.bool mp)∧Aft W w':=fun W hW=>by rw[←hmp];exact May_ok (hP.below hW (.inl (Nat.le_refl _)))
 have HP:=Lib.hid hP;obtain⟨pA,pc,epv,-,-⟩:=hP;obtain⟨pn,hpn⟩: ∃pn,ch.length=pn:=⟨_,rfl⟩;rw[hpn]at epv;clear hpn hmp;subst epv;obtain⟨W0,hW0⟩: ∃W0,(w.alloc (.cells #[.int .u8 rest,.slice pA pn pc] 25)).alloc (.cells #[.bool false] 4)=W0:=⟨_,rfl⟩
 have X3:Blk W0 w.heap.size 25 #[.int .u8 rest,.slice pA pn pc]:=by rw[←hW0];exact(Blk.new w 25 _).alloc _
 have X6:Blk W0 (w.heap.size+1) 4 #[.bool false]:=by rw[←hW0];exact Blk.at_ (by simp)
 have a0:Aft w W0:=by rw[←hW0];exact((Aft.refl w).alloc _).alloc _
 obtain⟨rb,hrb⟩: ∃rb,w.heap.size+1=rb:=⟨_,rfl⟩;rw[hrb]at X6;have HRB:=Lib.hid hrb
 have fin: ∀(W:World),Aft w W→Blk W rb 4 #[.bool true]→ ∀W',Frm (fun k=>w.heap.size<k∧k≠rb) W W'→W'.cell? ⟨rb,0,none⟩=some (.bool true)∧Aft w W':=fun W hW hB W' hF=>⟨(hB.frm hF (fun e=>e.2 rfl)).c1.1,Below.trans hW (hF.below hW.size (fun k hk e=>by omega))⟩
 refine(callsIn_wide (n:=7)).1 ?_;refine callsIn_of_wp_marks Tryz.func14 rfl trivial ?_ rfl;simp only[Tryz.ntmps14,List.size_toArray,List.length_cons,List.length_nil,Nat.reduceAdd,Nat.reduceSub,Array.replicate_succ,Array.replicate_zero,List.push_toArray,List.append_toArray,List.nil_append,List.cons_append];refine wpIn_wide.2 ?_
 go_upto_region 1 with(fail)
 clear hW0 hrb
 go_upto_region 3 with(go_at_call 18;refine(awake_ok _).mono ?_;rintro r1 w1 ⟨rfl,b1⟩)
 have X31:=X3.aft b1;have X61:=X6.aft b1;have a1:=a0.trans b1;obtain⟨x0,x1,xf,xl⟩:=X31.c2
 rcases mp with _|_
 ·go_upto_region 4 with(go_at_call 16;refine(CM _ a1).mono ?_;rintro r2 w2 ⟨rfl,b2⟩)
  have X62:=X61.aft b2;have a2:=a1.trans b2;obtain⟨y0,yf,yl⟩:=X62.c1;go_wp2;have F9:=(Frm.refl (fun k=>k=rb) w2).set (b:=rb) (j:=0) rfl (.bool true)
  have B9:Blk (w2.setCell ⟨rb,0,none⟩ (.bool true)) rb 4 #[.bool true]:=by simpa using X62.set_ 0 (.bool true)
  have a9:Aft w (w2.setCell ⟨rb,0,none⟩ (.bool true)):=a2.set (by have:=HRB.out;omega) _;refine leaves_marks (D:=0) [] _ ⟨by simp,by simp⟩ (fun W' hF=>⟨_,results_cellb rfl _ _ rb (.bool true) rfl ?_,rfl,?_⟩)
  ·exact(fin _ a9 B9 W' (hF.mono (fun k _ h=>by cases h))).1
  ·exact(fin _ a9 B9 W' (hF.mono (fun k _ h=>by cases h))).2
 ·go_upto_region 5 with(go_at_call 16;refine(CM _ a1).mono ?_;rintro r2 w2 ⟨rfl,b2⟩)
  have a2:=a1.trans b2;obtain⟨W5,hW5⟩: ∃W5,w2.alloc (.cells #[.slice none 0 0] 76)=W5:=⟨_,rfl⟩;obtain⟨ab,hab⟩: ∃ab,w2.heap.size=ab:=⟨_,rfl⟩
  have XA:Blk W5 ab 76 #[.slice none 0 0]:=by rw[←hW5,←hab];exact Blk.new w2 76 _
  have b5:Aft w2 W5:=by rw[←hW5];exact(Aft.refl w2).alloc _
  have a5:=a2.trans b5;have X35:=(X31.aft b2).aft b5;have X65:=(X61.aft b2).aft b5;have hz2:=a2.size;have hrz:rb<w2.heap.size:=(X61.aft b2).lt;rw[hab]at hz2 hrz;obtain⟨x0,x1,xf,xl⟩:=X35.c2
  go_upto_region 6 with(fail)
  try rw[hW5]
  try rw[hab]
  clear hW5 hab
  go_wp2_with(first
   |(have t:=a3;go_at_call 35;refine Text_ok.mono ?_;rintro r4 w4 ⟨rfl,E1,E3,E2,a4⟩)
   |(go_at_call 35;refine Text_ok.mono ?_;rintro r3 w3 ⟨rfl,-,-,-,a3⟩;obtain⟨x0,x1,xf,xl⟩:=(X35.aft a3).c2))
  obtain⟨ps,hps⟩: ∃ps,txL rest ch s b=ps:=⟨_,rfl⟩;obtain⟨Xs,hXs⟩: ∃Xs,ps.map (txR rest ch s b)=Xs:=⟨_,rfl⟩
  have hXl:Xs.length=ps.length:=by rw[←hXs,List.length_map]
  have hXk: ∀k (hk:k<ps.length),Xs.getD k (Res.no 0)=txR rest ch s b ps[k]:=fun k hk=>by rw[←hXs,List.getD_eq_getElem?_getD,List.getElem?_map,List.getElem?_eq_getElem hk];rfl
  have hnl:ps.length≤1048577:=by
   rw[←hps];unfold txL
   split
   ·have h1:=(spT_le (rneL s) (clsL rest ch (rneL s)) (clsL rest ch (rneL s)).length).2.1;have h2:=chs_len s;have h3:(clsL rest ch (rneL s)).length=(rneL s).length:=clsL_len ..;rw[rneL_len]at h3;unfold splitL
    split
    ·rw[List.length_append,List.length_singleton];omega
    ·omega
   ·simp
  obtain⟨q,hq⟩: ∃q,w4.heap.size=q:=⟨_,rfl⟩;have hz3:=a3.size;have hz5:=b5.size;have hzA:=XA.lt
  have hzE:w3.heap.size+2<q:=by rw[←hq];exact E2.lt
  have XA4:Blk w4 ab 76 #[.slice none 0 0]:=(XA.aft a3).aft a4;have hP4:PropsIs w4 w.heap.size (.agg #[.int .u8 rest,.slice pA pn pc]) rest ch:=HP.out.below ((a5.trans a3).trans a4) (.inl (Nat.le_refl _))
  have G0: ∀W,Frm (fun _=>False) w4 W→GaI w4 ab Xs 0 (fun j=>j=ab∨rowB (.slice none 0 0) [] j) W (.slice none 0 0) []:=fun W hF=>⟨fun _=>Iff.rfl,XA4.frm hF id,by rw[List.take_zero];exact AllAt.nil _ _,hF.mono (fun _ _ h=>h.elim)⟩
  clear x0 x1 xf xl
  refine wpIn_wide.1 (wpIn_rangeFunc_round (n:=7) (F:=Fence.wide) rfl (by omega) (gf:=61) (lb:=#[.pointer (some ⟨w3.heap.size,0,none⟩),.pointer (some ⟨w3.heap.size+2,0,none⟩),.pointer (some ⟨w3.heap.size+1,0,none⟩)]) rfl trivial (enters_of Tryz.func61 (by kernel_rfl) rfl)
   (encs:=fun x:GaX=>#[.agg #[.int .i64 (ps.getD x.k (0,0)).1,.int .i64 (ps.getD x.k (0,0)).2],x.v]) (fun _=>rfl)
   (fun x W=>GaI w4 ab Xs x.k x.S x.W0 x.av x.L∧q+1<x.W0.heap.size∧Aft x.W0 W∧ResOwn W x.W0.heap.size x.v (Xs.getD x.k (Res.no 0))∧x.k<ps.length)
   (fun x W W'=> ∃S' av' L',GaI w4 ab Xs (x.k+1) S' W' av' L'∧Frm (fun j=>x.S j∨j=q+1∨x.W0.heap.size≤j) W W'∧ ∀j,S' j→x.S j∨x.W0.heap.size≤j)
   (fun W=> ∃S av L,GaI w4 ab Xs ps.length S W av L)
   ?round ?stay ?call ?fin ?done)
  case stay=>
   rw[hq];rintro x W Wa Wb ⟨S',av',L',g1,g2,g3⟩ hF;refine⟨S',av',L',g1.frm hF (fun j e h=>⟨by omega,fun h'=> ?_⟩) (by omega),g2.trans hF (fun j hj e=>.inr (.inl e)),g3⟩
   rcases(g1.s j).1 h' with h'|h'
   ·omega
   ·have:=(g1.a.lt j h').1;omega
  case fin=>
   rw[hq];rintro Wa Wb ⟨S',av',L',g1⟩ hF;refine⟨S',av',L',g1.frm hF (fun j e h=>⟨by omega,fun h'=> ?_⟩) (by omega)⟩
   rcases(g1.s j).1 h' with h'|h'
   ·omega
   ·have:=(g1.a.lt j h').1;omega
  case call=>
   intro Wc hF1 hW1 Rdy hsz hst hR1 hY';rw[hq]at hW1 hsz hst hY'⊢
   have hwz:w.heap.size<ab:=by have:=HRB.out;omega
   have hIt:=text_iter (W1:=Wc) (yb:=q+1) (Bp:=w.heap.size) (E1.frm hF1 id) (E2.frm hF1 id) (E3.frm hF1 id) (hP4.frm hF1) (by omega) (by omega) hps
    (J:=fun k S W=> ∃S1 av L,(∀j,S j↔S1 j∨j=q+1)∧GaI w4 ab Xs k S1 W av L∧q+1<W.heap.size∧Rdy W)
    ⟨fun k S W ⟨S1,av,L,h1,g,hz,r⟩ j hj=>by
     rcases(h1 j).1 hj with h|h
     ·exact g.lt j h
     ·omega,
     fun k S W W' F ⟨S1,av,L,h1,g,hz,r⟩ hF hf=>⟨S1,av,L,h1,g.frm hF (fun j h h'=>⟨by have:=(hf j h h').1;omega,fun h2=>(hf j h h').2 ((h1 j).2 (.inl h2))⟩) (by omega),Nat.lt_of_lt_of_le hz hF.size,
      hst _ _ r (Two.of_frm hF hz (fun h=>by have:=(hf _ h (by omega)).1;omega) (fun h=>by have:=(hf _ h hz).1;omega))⟩⟩
    (Jx:=fun _ _=>False) ⟨fun _ _ _ h=>h.elim,fun _ _ _ _ _ h=>h.elim⟩ ⟨_,_,_,fun _=>Iff.rfl,G0 Wc hF1,hW1,hR1⟩ (by
     rintro j ((h|h)|h)
     ·omega
     ·rcases h with h|⟨x,hx,-⟩
      ·simp[Value.ownBlock]at h
      ·cases hx
     ·omega) (d:=7-1) (by omega) (fun k S W0 W v hk ⟨S1,av,L,h1,g,hz,r⟩ hA hR=>by
     have e1:(ps.getD k (0,0))=ps[k]:=by rw[List.getD_eq_getElem?_getD,List.getElem?_eq_getElem hk];rfl
     have hr:Rdy W:=hst _ _ r (Two.of_frm (Frm.of_below hA (F:=fun _=>False)) hz id id);rw[←e1];obtain⟨fn,tmps,asg,bd,hy,hRo⟩:=hY' ⟨k,S1,av,L,W0,v⟩ W ⟨g,hz,hA,by rw[hXk k hk];exact hR,hk⟩ hr;refine⟨fn,tmps,asg,bd,hy,RoundIn.wide (hRo.mono fun e w' h=> ?_)⟩;obtain⟨h2,⟨S1',av',L',g2,g3,g4⟩,h5⟩:=h;refine .inl ⟨h2,fun j=>S1' j∨j=q+1,⟨S1',av',L',fun _=>Iff.rfl,g2,hsz _ h5,h5⟩,g3.mono (fun j _ e=> ?_),fun j hj=> ?_⟩
     ·rcases e with e|e|e
      ·exact .inl ((h1 j).2 (.inl e))
      ·exact .inl ((h1 j).2 (.inr e))
      ·exact .inr e
     ·rcases hj with hj|hj
      ·rcases g4 j hj with h|h
       ·exact .inl ((h1 j).2 (.inl h))
       ·exact .inr h
      ·exact .inl ((h1 j).2 (.inr hj)))
   refine hIt.mono ?_;rintro e W ⟨hv,(⟨S,S1,av,L,-,g,-,r⟩|⟨S,h⟩)⟩
   ·exact⟨hv,⟨S1,av,L,g⟩,r⟩
   ·exact h.elim
  case round=>
   rw[hq];rintro⟨k,S,av,L,W0,v⟩ W K hW ⟨g,hz0,hA,R0,hk⟩ hK;simp only at g hz0 hA R0 hk hK⊢;obtain⟨X,hX⟩: ∃X,Xs.getD k (Res.no 0)=X:=⟨_,rfl⟩;rw[hX]at R0;obtain⟨cA,lA,cc,lc,rfl,IC,IL,hne⟩:=R0;have ICl:=IC.lt;have ILl:=IL.lt;have hgs: ∀j,S j→j<W0.heap.size:=g.lt
   have hgn: ∀j,S j→j=ab∨q+2≤j:=fun j h=>by
    rcases(g.s j).1 h with h|h
    ·exact .inl h
    ·right;have:=(g.a.lt j h).1;omega
   have gW:=g.frm (Frm.of_below hA (F:=fun _=>False)) (fun _ h=>h.elim) (by omega);have hA0:=hA.size;obtain⟨cn,hcn⟩: ∃cn,X.cs.length=cn:=⟨_,rfl⟩;obtain⟨ln,hln⟩: ∃ln,X.lv.length=ln:=⟨_,rfl⟩;rw[hcn]at IC ICl;rw[hln]at IL ILl;rw[hcn,hln];clear hne;simp only[List.zip_toArray,List.zip_cons_cons,List.zip_nil_right,List.foldl_toArray,List.foldl_cons,List.foldl_nil,List.setIfInBounds_toArray,List.set_cons_zero,List.set_cons_succ];have HCN:=Lib.hid hcn;have HLN:=Lib.hid hln;have HX:=Lib.hid hX;clear hcn hln hX;gi_wp2;have FA:=(Frm.refl (fun _=>False) W).alloc (.cells #[.int .i8 X.base,.slice cA cn cc,.slice lA ln lc] 33);refine hK _ _ (Two.of_frm FA hW id id) ?_;intro W2x hF2;have FW:Frm (fun j=>j=q+1) W W2x:=(FA.mono (fun _ _ h=>h.elim)).trans hF2 (fun _ _ h=>h);have g2:=gW.frm FW (fun j e h=>⟨by omega,fun h'=>by have:=hgn j h';omega⟩) (by omega);have P9:=(Blk.new W 33 #[.int .i8 X.base,.slice cA cn cc,.slice lA ln lc]).frm hF2 (by omega);have IC2:=IC.frm FW (fun j e h=>by have:=ICl j e;omega);have IL2:=IL.frm FW (fun j e h=>by have:=ILl j e;omega);have hzW:=FW.size;clear hK FA hF2 gW IC IL;obtain⟨A,c0,hav⟩:=row_shape g2.a.row
   have hml:L.length≤ps.length:=by rw[g2.a.len,List.length_take];omega
   obtain⟨m,hm⟩: ∃m,L.length=m:=⟨_,rfl⟩;rw[hm]at hav hml;subst hav
   have O2:W2x.ownsRow (w4.heap.size+2) 33 3 (.slice A m c0) m (L.flatMap rvC):=by have:=g2.a.row;unfold Rw at this;rw[hm]at this;exact this
   have hrow:=World.ownsRow.lt O2;rw[hq]at hrow;have hown: ∀j,(Value.slice A m c0).ownBlock=some j→S j:=fun j e=>(g2.s j).2 (.inr (.inl e));obtain⟨x0,xf,xl⟩:=g2.x.c1;obtain⟨z0,z1,z2,zf,zl⟩:=P9.c3;have G2:=Lib.hid g2;have G1:=Lib.hid g;have HM:=Lib.hid hm;clear g g2 hm
   gi_wp2_with (gi_at_builtin;go_must (refine wpListIn_app et76 rfl rfl rfl (World.ownsRow.alloc O2 _) rfl (Reads.blk (Blk.at_ (by simp)) rfl) ?_ ?_ ?_ ?_ ?_))
   ·simp[Value.oneCell']
   ·unfold maxLen;omega
   ·omega
   ·simp;omega
   intro v3 w6 O3 g3 hv3;obtain⟨gn,cap,rfl,hg1,hg2⟩:=World.ownsRow.form O3 (by omega)
   have hgn':(Value.slice A m c0).ownBlock=some gn∨W2x.heap.size≤gn:=by
    rcases hv3 with e|e
    ·exact .inl e.symm
    ·right
     have:gn=(W2x.alloc (.cells #[.int .i8 X.base,.slice cA cn cc,.slice lA ln lc] 33)).heap.size:=by simpa[Value.ownBlock]using e
     rw[World.size_alloc]at this;omega
   have B3:Blk w6 ab 76 #[.slice A m c0]:=(G2.out.x.alloc (.cells #[.int .i8 X.base,.slice cA cn cc,.slice lA ln lc] 33)).grown g3 (fun e=>by have:=hrow _ e.symm;omega);obtain⟨x0,xf,xl⟩:=B3.c1;have F3:=((Frm.refl (fun k=>(Value.slice A m c0).ownBlock=some k) W2x).alloc (.cells #[.int .i8 X.base,.slice cA cn cc,.slice lA ln lc] 33)).grown g3 (fun k e _=>e);have hz6:=F3.size;gi_wp2;have g2:=G2.out;have F4:=(Frm.refl (fun k=>k=ab) w6).set (b:=ab) (j:=0) rfl (.slice (some ⟨gn,0,none⟩) (m+1) cap);have F34:=(F3.mono (F':=fun k=>(Value.slice A m c0).ownBlock=some k∨k=ab) (fun _ _ e=>.inl e)).trans F4 (fun k _ e=>.inr e);have hS0: ∀j,(Value.slice A m c0).ownBlock=some j→j<W0.heap.size∧q+2≤j:=fun j e=>⟨hgs j (hown j e),(hrow j e).1⟩;have hxo: ∀j,(RV.mk X.base cA cn cc lA ln lc).owns j→W0.heap.size≤j∧j<W.heap.size:=fun j e=>e.elim (ICl j) (ILl j)
   have hXI:RvIs w6 (w4.heap.size+2) (RV.mk X.base cA cn cc lA ln lc) X:=by
    refine⟨rfl,HCN.out.symm,HLN.out.symm,(IC2.frm F3 (fun j e h=> ?_)).base (fun j e=> ?_),(IL2.frm F3 (fun j e h=> ?_)).base (fun j e=> ?_)⟩
    ·have:=hS0 j h;have:=ICl j e;omega
    ·have:=ICl j e;omega
    ·have:=hS0 j h;have:=ILl j e;omega
    ·have:=ILl j e;omega
   rw[←hq]at O3
   have hA3:=AllAt.snoc (x:=RV.mk X.base cA cn cc lA ln lc) g2.a (by rw[hXl];exact hk) HX.out hXI F3 (fun j ⟨y,hy,e⟩=>g2.a.ne y hy j e) O3 (by rw[HM.out])
    (fun j e=>by
     have:gn=j:=by simpa[Value.ownBlock]using e
     subst this
     exact hgn') (fun j e h=>by
     have:gn=j:=by simpa[Value.ownBlock]using h
     subst this;have:=hxo _ e
     rcases hgn' with h|h
     ·have:=hS0 _ h;omega
     ·omega)
   refine⟨Two.of_frm F34 (by omega) (fun h=> ?_) (fun h=> ?_),fun j=>j=ab∨rowB (.slice (some ⟨gn,0,none⟩) (m+1) cap) (L++[RV.mk X.base cA cn cc lA ln lc]) j,.slice (some ⟨gn,0,none⟩) (m+1) cap,L++[RV.mk X.base cA cn cc lA ln lc],
    ⟨fun _=>Iff.rfl,by simpa using B3.set_ 0 (.slice (some ⟨gn,0,none⟩) (m+1) cap),hA3.frm F4 (fun j e h=>by have:=(hA3.lt j e).1;omega),g2.f.trans F34 (fun j hj e=> ?_)⟩,?_,?_⟩
   ·rcases h with h|h
    ·have:=hS0 _ h;omega
    ·omega
   ·rcases h with h|h
    ·have:=hS0 _ h;omega
    ·omega
   ·rcases e with e|e
    ·have:=hS0 _ e;omega
    ·exact e
   ·refine(FW.mono (F':=fun j=>S j∨j=q+1∨W0.heap.size≤j) (fun j _ e=>.inr (.inl e))).trans F34 (fun j _ e=> ?_)
    rcases e with e|e
    ·exact .inl (hown j e)
    ·exact .inl ((g2.s j).2 (.inl e))
   ·rintro j (h|h|⟨y,hy,h⟩)
    ·exact .inl ((g2.s j).2 (.inl h))
    ·have:gn=j:=by simpa[Value.ownBlock]using h
     subst this
     rcases hgn' with h|h
     ·exact .inl (hown _ h)
     ·right;omega
    ·rcases List.mem_append.1 hy with hy|hy
     ·exact .inl ((g2.s j).2 (.inr (.inr ⟨y,hy,h⟩)))
     ·obtain rfl:y=_:=by simpa using hy
      exact .inr (hxo j h).1
  case done=>
   rw[hq];rintro W ⟨S,av,L,g⟩ hK
   have AA:AllAt W (q+2) av Xs L:=by have:=g.a;rw[List.take_of_length_le (by omega),hq]at this;exact this
   have AAl:=AA.lt
   have hwab:w.heap.size<ab:=by have:=HRB.out;omega
   have X3W:Blk W w.heap.size 25 #[.int .u8 rest,.slice pA pn pc]:=((X35.aft a3).aft a4).frm g.f (by omega);have X6W:Blk W rb 4 #[.bool false]:=((X65.aft a3).aft a4).frm g.f (by omega);have XAW:=g.x;have hzW:=g.f.size;have aw4:=(a5.trans a3).trans a4;have aW:Aft w W:=Below.trans aw4 (g.f.below (by have:=aw4.size;exact this) (fun j hj e=>by omega));obtain⟨A,c0,hav⟩:=row_shape AA.row;obtain⟨m,hm⟩: ∃m,L.length=m:=⟨_,rfl⟩
   have hmn:m=ps.length:=by rw[←hm,AA.len,hXl]
   rw[hm]at hav;subst hav;have HM:=Lib.hid hm;have HMN:=Lib.hid hmn;clear hm hmn g E1 E2 E3 X35 X65 XA XA4 hP4 G0
   go_upto_region 12 with(fail)
   obtain⟨W6,hW6⟩: ∃W6,W.alloc (.cells #[.int .i64 0] 3)=W6:=⟨_,rfl⟩;obtain⟨kb,hkb⟩: ∃kb,W.heap.size=kb:=⟨_,rfl⟩
   have XK:Blk W6 kb 3 #[.int .i64 0]:=by rw[←hW6,←hkb];exact Blk.new W 3 _
   have b6:Aft W W6:=by rw[←hW6];exact(Aft.refl W).alloc _
   rw[hW6,hkb];have hz6:=XK.lt;rw[hkb]at AAl
   have hKl:q<kb:=by rw[←hkb];exact(Array.getElem?_eq_some_iff.1 hK).1
   have hrneL:=rneL_again s
   have hchs:(rneL s).length≤1048576:=by rw[rneL_len];have:=chs_len s;omega
   obtain⟨s2,hs2⟩: ∃s2,runesBytes (rneL s)=s2:=⟨_,rfl⟩
   have hs2z:s2.size≤4194304:=by rw[←hs2];have:=runesBytes_size_le (rneL s);omega
   rw[hs2]at hrneL
   have hps2:txL rest ch s2 b=ps:=by rw[←hps];unfold txL;rw[hrneL]
   have htx2: ∀x,txR rest ch s2 b x=txR rest ch s b x:=fun x=>by unfold txR;rw[hrneL]
   obtain⟨x0,x1,xf,xl⟩:=(X3W.aft b6).c2;obtain⟨cap7,W7,h7,I7,b7⟩:=conv_runes W6 (s:=s) (by omega);have h7':=conv_str (c:=cap7) I7.rd rfl;rw[hs2]at h7';obtain⟨rn,hrn⟩: ∃rn,(rneL s).length=rn:=⟨_,rfl⟩;rw[hrn]at h7 h7';clear hW6 hkb
   go_upto_region 14 with(go_at_call 35;refine Text_ok.mono ?_;rintro r8 w8 ⟨rfl,-,-,-,b8⟩)
   have b68:=(b6.trans b7).trans b8;obtain⟨x0,x1,xf,xl⟩:=(X3W.aft b68).c2;obtain⟨cap9,W9,h9,I9,b9⟩:=conv_runes w8 (s:=s) (by omega);have h9':=conv_str (c:=cap9) I9.rd rfl;rw[hs2]at h9';rw[hrn]at h9 h9';clear I7 I9
   go_wp2_with(go_at_call 35;refine Text_ok.mono ?_;rintro r10 w10 ⟨rfl,E1,E3,E2,b10⟩)
   obtain⟨q2,hq2⟩: ∃q2,w10.heap.size=q2:=⟨_,rfl⟩;have b610:=(b7.trans b8).trans (b9.trans b10);have bW10:=b6.trans b610;have XK10:=XK.aft b610;have XA10:=XAW.aft bW10;have X610:=X6W.aft bW10;have AA10:=AA.frm (Frm.of_below bW10 (F:=fun _=>False)) (fun _ _ h=>h);have hP10:PropsIs w10 w.heap.size (.agg #[.int .u8 rest,.slice pA pn pc]) rest ch:=HP.out.below (aW.trans bW10) (.inl (Nat.le_refl _));have hK10:w10.heap[q]?=some (.deferred (some [])):=(bW10.block q (by have:=AAl;exact(Array.getElem?_eq_some_iff.1 hK).1)).trans hK;have hzkb:kb<w10.heap.size:=XK10.lt
   have hzE2:W9.heap.size+2<q2:=by rw[←hq2];exact E2.lt
   have hzr:=b610.size;have hz9:=((b7.trans b8).trans b9).size;have aw10:=aW.trans bW10;clear x0 x1 xf xl h7 h7' h9 h9' AA XAW X6W X3W b6 b7 b8 b9 b10 b610 bW10 b68 XK
   refine wpIn_wide.1 (wpIn_rangeFunc_round (n:=7) (F:=Fence.wide) rfl (by omega) (gf:=61) (lb:=#[.pointer (some ⟨W9.heap.size,0,none⟩),.pointer (some ⟨W9.heap.size+2,0,none⟩),.pointer (some ⟨W9.heap.size+1,0,none⟩)]) rfl trivial (enters_of Tryz.func61 (by kernel_rfl) rfl)
    (encs:=fun x:Nat×World×Value=>#[.agg #[.int .i64 (ps.getD x.1 (0,0)).1,.int .i64 (ps.getD x.1 (0,0)).2],x.2.2]) (fun _=>rfl)
    (fun x W=>KI w10 kb x.1 x.2.1∧q2+1<x.2.1.heap.size∧Aft x.2.1 W∧ResOwn W x.2.1.heap.size x.2.2 (Xs.getD x.1 (Res.no 0))∧x.1<ps.length)
    (fun x W W'=>KI w10 kb (x.1+1) W'∧Frm (fun j=>j=kb∨j=q2+1) W W')
    (fun W=>KI w10 kb ps.length W)
    ?round ?stay ?call ?fin ?done)
   case stay=>rw[hq2];rintro x W Wa Wb ⟨g1,g2⟩ hF;exact⟨g1.frm hF (fun j e h=>by omega) (by omega),g2.trans hF (fun j hj e=>.inr e)⟩
   case fin=>rw[hq2];rintro Wa Wb g1 hF;exact g1.frm hF (fun j e h=>by omega) (by omega)
   case call=>
    intro Wc hF1 hW1 Rdy hsz hst hR1 hY';rw[hq2]at hW1 hsz hst hY'⊢
    have hIt:=text_iter (W1:=Wc) (yb:=q2+1) (Bp:=w.heap.size) (E1.frm hF1 id) (E2.frm hF1 id) (E3.frm hF1 id) (hP10.frm hF1) (by omega) (by omega) hps2
     (J:=fun k S W=>(∀j,S j↔j=kb∨j=q2+1)∧KI w10 kb k W∧q2+1<W.heap.size∧Rdy W)
     ⟨fun k S W ⟨h1,g,hz,r⟩ j hj=>by
      rcases(h1 j).1 hj with h|h
      ·have:=g.x.lt;omega
      ·omega,
      fun k S W W' F ⟨h1,g,hz,r⟩ hF hf=>⟨h1,g.frm hF (fun j h h'=>⟨by have:=(hf j h h').1;omega,fun h2=>(hf j h h').2 ((h1 j).2 (.inl h2))⟩) (by omega),Nat.lt_of_lt_of_le hz hF.size,
       hst _ _ r (Two.of_frm hF hz (fun h=>by have:=(hf _ h (by omega)).1;omega) (fun h=>by have:=(hf _ h hz).1;omega))⟩⟩
     (Jx:=fun _ _=>False) ⟨fun _ _ _ h=>h.elim,fun _ _ _ _ _ h=>h.elim⟩ ⟨fun _=>Iff.rfl,⟨XK10.frm hF1 id,hF1.mono (fun _ _ h=>h.elim)⟩,hW1,hR1⟩ (by
      rintro j (h|h)
      ·omega
      ·omega) (d:=7-1) (by omega) (fun k S W0 W v hk ⟨h1,g,hz,r⟩ hA hR=>by
      have e1:(ps.getD k (0,0))=ps[k]:=by rw[List.getD_eq_getElem?_getD,List.getElem?_eq_getElem hk];rfl
      have hr:Rdy W:=hst _ _ r (Two.of_frm (Frm.of_below hA (F:=fun _=>False)) hz id id);rw[←e1];obtain⟨fn,tmps,asg,bd,hy,hRo⟩:=hY' ⟨k,W0,v⟩ W ⟨g,hz,hA,by rw[hXk k hk];rw[htx2]at hR;exact hR,hk⟩ hr;refine⟨fn,tmps,asg,bd,hy,RoundIn.wide (hRo.mono fun e w' h=> ?_)⟩;obtain⟨h2,⟨g2,g3⟩,h5⟩:=h
      exact .inl ⟨h2,S,⟨h1,g2,hsz _ h5,h5⟩,g3.mono (fun j _ e=>.inl ((h1 j).2 e)),fun j hj=>.inl hj⟩)
    refine hIt.mono ?_;rintro e W ⟨hv,(⟨S,-,g,-,r⟩|⟨S,h⟩)⟩
    ·exact⟨hv,g,r⟩
    ·exact h.elim
   case round=>
    rw[hq2];rintro⟨k,W0,v⟩ W K hW ⟨g,hz0,hA,R0,hk⟩ hK;simp only at g hz0 hA R0 hk hK⊢;obtain⟨X,hX⟩: ∃X,Xs.getD k (Res.no 0)=X:=⟨_,rfl⟩;rw[hX]at R0;obtain⟨cA,lA,cc,lc,rfl,IC,IL,-⟩:=R0;have ICl:=IC.lt;have ILl:=IL.lt;have hgz:=g.x.lt;have hA0:=hA.size;have gW:=g.frm (Frm.of_below hA (F:=fun _=>False)) (fun _ h=>h.elim) (by omega);obtain⟨cn,hcn⟩: ∃cn,X.cs.length=cn:=⟨_,rfl⟩;obtain⟨ln,hln⟩: ∃ln,X.lv.length=ln:=⟨_,rfl⟩;rw[hcn]at IC ICl;rw[hln]at IL ILl;rw[hcn,hln]
    have hXi:Xs[k]?=some X:=by rw[List.getD_eq_getElem?_getD,List.getElem?_eq_getElem (by omega)]at hX;rw[List.getElem?_eq_getElem (by omega),←hX];rfl
    have hXz:cn≤1048577∧ln≤1048577:=by
     have e:X=txR rest ch s b ps[k]:=by rw[←hX,hXk k hk]
     rw[←hcn,←hln,e];exact txR_len rest ch s b _
    simp only[List.zip_toArray,List.zip_cons_cons,List.zip_nil_right,List.foldl_toArray,List.foldl_cons,List.foldl_nil,List.setIfInBounds_toArray,List.set_cons_zero,List.set_cons_succ];have HCN:=Lib.hid hcn;have HLN:=Lib.hid hln;clear hcn hln hX;gi_wp2;have FA:=(Frm.refl (fun _=>False) W).alloc (.cells #[.int .i8 X.base,.slice cA cn cc,.slice lA ln lc] 33);refine hK _ _ (Two.of_frm FA hW id id) ?_;intro W2x hF2;have FW:Frm (fun j=>j=q2+1) W W2x:=(FA.mono (fun _ _ h=>h.elim)).trans hF2 (fun _ _ h=>h);have g2:=gW.frm FW (fun j e h=>by omega) (by omega);have P12:=(Blk.new W 33 #[.int .i8 X.base,.slice cA cn cc,.slice lA ln lc]).frm hF2 (by omega);have IC2:=(IC.frm FW (fun j e h=>by have:=ICl j e;omega)).rd;have IL2:=(IL.frm FW (fun j e h=>by have:=ILl j e;omega)).rd;have hzW:=FW.size
    have hzW2:q2+1<W2x.heap.size:=by omega
    clear hK FA hF2 gW IC IL;have AA2:=AA10.frm g2.f (fun j e h=>by have:=AAl j e;omega)
    have hkL:k<L.length:=by have h1:=HM.out;have h2:=HMN.out;omega
    obtain⟨⟨yb,yA,yn,yc,yL,yln,ylc⟩,hy⟩: ∃y,L[k]?=some y:=⟨_,List.getElem?_eq_getElem hkL⟩;obtain⟨e1,e2,e3,JC,JL⟩:=AA2.is k _ X hy hXi;simp only at e1 e2 e3 JC JL;rw[HCN.out]at e2;rw[HLN.out]at e3;subst e1 e2 e3;obtain⟨pb,po,rfl,-,-,hc⟩:=RdR.at_ encV AA2.row.rd hy (by omega);have d0:=hc 0 _ rfl;have d1:=hc 1 _ rfl;have d2:=hc 2 _ rfl;rw[Nat.add_zero]at d0;rw[←Nat.add_assoc]at d1 d2;simp only at d0 d1 d2;have C38:=fun(W':World) (hW':Aft W2x W')=>sameR_ok (w:=W') (cc:=yc) (lc:=ylc) (cc':=cc) (lc':=lc) (b:=X.base) (b':=X.base) HCN.out.symm HLN.out.symm HCN.out.symm HLN.out.symm (JC.aft hW').rd (JL.aft hW').rd (IC2.aft hW') (IL2.aft hW') (by omega) (by omega)
    have hsm:sameX (X.base,X.cs,X.lv) (X.base,X.cs,X.lv)=true:=by unfold sameX;simp
    rw[hsm]at C38
    have hkm:(k:Int)<(m:Int):=by have:=HMN.out;omega
    have hkm2: ¬((m:Int)≤(k:Int)):=by omega
    have hw1:IntKind.i64.wrap ((k:Int)+1)=(k:Int)+1:=IntWalk.i64_in _ (by omega);have XA2:=XA10.frm g2.f (by omega);have cellA: ∀(W':World) (a:Addr) (u:Value),Aft W2x W'→W2x.cell? a=some u→W'.cell? a=some u:=fun W' a u hW' h=>(World.cell?_of_block (hW'.block _ (World.block_lt_of_cell? W2x a h))).trans h
    have HS: ∀W',Aft W2x W'→Aft W2x W'∧W'.cell? ⟨kb,0,none⟩=some (.int .i64 k)∧W'.cell? ⟨ab,0,none⟩=some (.slice (some ⟨pb,po,none⟩) m c0)∧W'.cell? ⟨pb,po+k*3,none⟩=some (.int .i8 X.base)∧W'.cell? ⟨pb,po+k*3+1,none⟩=some (.slice yA yn yc)∧W'.cell? ⟨pb,po+k*3+2,none⟩=some (.slice yL yln ylc)∧
     W'.cell? ⟨W.heap.size,0,none⟩=some (.int .i8 X.base)∧W'.cell? ⟨W.heap.size,1,none⟩=some (.slice cA yn cc)∧W'.cell? ⟨W.heap.size,2,none⟩=some (.slice lA yln lc):=fun W' hW'=>
     ⟨hW',cellA _ _ _ hW' g2.x.c1.1,cellA _ _ _ hW' XA2.c1.1,cellA _ _ _ hW' d0,cellA _ _ _ hW' d1,cellA _ _ _ hW' d2,cellA _ _ _ hW' P12.c3.1,cellA _ _ _ hW' P12.c3.2.1,cellA _ _ _ hW' P12.c3.2.2.1⟩
    clear hc hy hXi JC JL IC2 IL2 AA2
    gi_upto_region 16 with(fail)
    refine wpIn_region_heldR (S:=fun W'=>Aft W2x W'∧W'.cell? ⟨kb,0,none⟩=some (.int .i64 k)∧W'.cell? ⟨ab,0,none⟩=some (.slice (some ⟨pb,po,none⟩) m c0)∧W'.cell? ⟨pb,po+k*3,none⟩=some (.int .i8 X.base)∧W'.cell? ⟨pb,po+k*3+1,none⟩=some (.slice yA yn yc)∧W'.cell? ⟨pb,po+k*3+2,none⟩=some (.slice yL yln ylc)∧
     W'.cell? ⟨W.heap.size,0,none⟩=some (.int .i8 X.base)∧W'.cell? ⟨W.heap.size,1,none⟩=some (.slice cA yn cc)∧W'.cell? ⟨W.heap.size,2,none⟩=some (.slice lA yln lc)) (by kernel_rfl) (by kernel_rfl) (by rintro⟨_,_,h⟩;exact h) (HS _ (Aft.refl _).drew) (fun hH0=> ?_)
    refine wpAnyH_take (i:=0) (oi:=⟨some 52,.load 3 (.tmp 10),3,"outright.go:182",#[],none⟩) (v:= ?_) rfl (by kernel_rfl) (by kernel_rfl) (by kernel_rfl) (fun _ _ _ h=>h) (Or.inl ⟨by rfl,?_⟩) (by assumption) ?_
    rotate_left
    ·(intro w hSw;(try dsimp only at hSw);go_simp;first|done|with_reducible rfl)
    try simp only[Act.put,List.setIfInBounds_toArray,List.set_cons_zero,List.set_cons_succ]
    refine wpAnyH_take (i:=1) (oi:=⟨some 53,.load 76 (.tmp 7),76,"outright.go:182",#[],none⟩) (v:= ?_) rfl (by kernel_rfl) (by kernel_rfl) (by kernel_rfl) (fun _ _ _ h=>h) (Or.inl ⟨by rfl,?_⟩) (by assumption) ?_
    rotate_left
    ·(intro w hSw;(try dsimp only at hSw);go_simp;first|done|with_reducible rfl)
    try simp only[Act.put,List.setIfInBounds_toArray,List.set_cons_zero,List.set_cons_succ]
    refine wpAnyH_take (i:=2) (oi:=⟨some 54,.call {callee:=.builtin .len,args:=#[.tmp 53],argTypes:=#[76]},3,"outright.go:182",#[⟨1,.data⟩],none⟩) (v:= ?_) rfl (by kernel_rfl) (by kernel_rfl) (by kernel_rfl) (fun _ _ _ h=>h) (Or.inl ⟨by rfl,?_⟩) (by assumption) ?_
    rotate_left
    ·(intro w hSw;(try dsimp only at hSw);go_simp;first|done|with_reducible rfl)
    try simp only[Act.put,List.setIfInBounds_toArray,List.set_cons_zero,List.set_cons_succ]
    refine wpAnyH_take (i:=3) (oi:=⟨some 55,.binOp .geq 3 (.tmp 52) (.tmp 54) 3,4,"outright.go:182",#[⟨0,.data⟩,⟨2,.data⟩],none⟩) (v:= ?_) rfl (by kernel_rfl) (by kernel_rfl) (by kernel_rfl) (fun _ _ _ h=>h) (Or.inl ⟨by rfl,?_⟩) (by assumption) ?_
    rotate_left
    ·(intro w hSw;(try dsimp only at hSw);go_simp;first|done|with_reducible rfl)
    try simp only[Act.put,List.setIfInBounds_toArray,List.set_cons_zero,List.set_cons_succ]
    refine wpAnyH_take (i:=4) (oi:=⟨some 56,.move (.tmp 55),4,"outright.go:182",#[⟨3,.data⟩],none⟩) (v:= ?_) rfl (by kernel_rfl) (by kernel_rfl) (by kernel_rfl) (fun _ _ _ h=>h) (Or.inl ⟨by rfl,?_⟩) (by assumption) ?_
    rotate_left
    ·(intro w hSw;(try dsimp only at hSw);go_simp;first|done|with_reducible rfl)
    try simp only[Act.put,List.setIfInBounds_toArray,List.set_cons_zero,List.set_cons_succ]
    refine wpAnyH_take (i:=5) (oi:=⟨some 57,.load 76 (.tmp 7),76,"outright.go:182",#[⟨4,.guard⟩],some (4,false)⟩) (v:= ?_) rfl (by kernel_rfl) (by kernel_rfl) (by kernel_rfl) (fun _ _ _ h=>h) (Or.inl ⟨by rfl,?_⟩) (by assumption) ?_
    rotate_left
    ·(intro w hSw;(try dsimp only at hSw);go_simp;first|done|with_reducible rfl)
    try simp only[Act.put,List.setIfInBounds_toArray,List.set_cons_zero,List.set_cons_succ]
    refine wpAnyH_take (i:=6) (oi:=⟨some 58,.load 3 (.tmp 10),3,"outright.go:182",#[⟨4,.guard⟩],some (4,false)⟩) (v:= ?_) rfl (by kernel_rfl) (by kernel_rfl) (by kernel_rfl) (fun _ _ _ h=>h) (Or.inl ⟨by rfl,?_⟩) (by assumption) ?_
    rotate_left
    ·(intro w hSw;(try dsimp only at hSw);go_simp;first|done|with_reducible rfl)
    try simp only[Act.put,List.setIfInBounds_toArray,List.set_cons_zero,List.set_cons_succ]
    refine wpAnyH_take (i:=7) (oi:=⟨some 59,.indexAddr 76 (.tmp 57) (.tmp 58),0,"outright.go:182",#[⟨5,.data⟩,⟨6,.data⟩,⟨4,.guard⟩],some (4,false)⟩) (v:= ?_) rfl (by kernel_rfl) (by kernel_rfl) (by kernel_rfl) (fun _ _ _ h=>h) (Or.inl ⟨by rfl,?_⟩) (by assumption) ?_
    rotate_left
    ·(intro w hSw;(try dsimp only at hSw);go_simp;first|done|with_reducible rfl)
    try simp only[Act.put,List.setIfInBounds_toArray,List.set_cons_zero,List.set_cons_succ]
    refine wpAnyH_take (i:=8) (oi:=⟨some 60,.load 33 (.tmp 59),33,"outright.go:182",#[⟨7,.data⟩,⟨4,.guard⟩],some (4,false)⟩) (v:= ?_) rfl (by kernel_rfl) (by kernel_rfl) (by kernel_rfl) (fun _ _ _ h=>h) (Or.inl ⟨by rfl,?_⟩) (by assumption) ?_
    rotate_left
    ·(intro w hSw;(try dsimp only at hSw);go_simp;first|done|with_reducible rfl)
    try simp only[Act.put,List.setIfInBounds_toArray,List.set_cons_zero,List.set_cons_succ]
    refine wpAnyH_take (i:=9) (oi:=⟨some 61,.load 33 (.tmp 12),33,"outright.go:182",#[⟨4,.guard⟩],some (4,false)⟩) (v:= ?_) rfl (by kernel_rfl) (by kernel_rfl) (by kernel_rfl) (fun _ _ _ h=>h) (Or.inl ⟨by rfl,?_⟩) (by assumption) ?_
    rotate_left
    ·(intro w hSw;(try dsimp only at hSw);go_simp;first|done|with_reducible rfl)
    try simp only[Act.put,List.setIfInBounds_toArray,List.set_cons_zero,List.set_cons_succ]
    refine wpAnyH_ready (rs:=[10]) (by kernel_rfl) (by simp) ?_;refine AllReadyH.cons rfl (fun K hK=> ?_) ?_
    ·(go_simp;(go_at_call 38;refine(C38 _ hH0.1).mono ?_;rintro r8 w8 ⟨rfl,a8⟩);try go_wp2_with(fail))
     refine hK.out _ _ (HS _ (hH0.1.trans a8)) (fun hH1=> ?_);clear hK K
     try simp only[Act.put,List.setIfInBounds_toArray,List.set_cons_zero,List.set_cons_succ]
     refine wpAnyH_take (i:=11) (oi:=⟨some 63,.unOp .not 4 (.tmp 62),4,"outright.go:182",#[⟨10,.data⟩,⟨4,.guard⟩],some (4,false)⟩) (v:= ?_) rfl (by kernel_rfl) (by kernel_rfl) (by kernel_rfl) (fun _ _ _ h=>h) (Or.inl ⟨by rfl,?_⟩) (by assumption) ?_
     rotate_left
     ·(intro w hSw;(try dsimp only at hSw);go_simp;first|done|with_reducible rfl)
     try simp only[Act.put,List.setIfInBounds_toArray,List.set_cons_zero,List.set_cons_succ]
     refine wpAnyH_take (i:=12) (oi:=⟨some 64,.pick (.tmp 56) (.const (.bool true)) (.tmp 63),4,"outright.go:182",#[⟨4,.data⟩,⟨11,.data⟩],none⟩) (v:= ?_) rfl (by kernel_rfl) (by kernel_rfl) (by kernel_rfl) (fun _ _ _ h=>h) (Or.inl ⟨by rfl,?_⟩) (by assumption) ?_
     rotate_left
     ·(intro w hSw;(try dsimp only at hSw);go_simp;first|done|with_reducible rfl)
     try simp only[Act.put,List.setIfInBounds_toArray,List.set_cons_zero,List.set_cons_succ]
     refine wpAnyH_done (by kernel_rfl) ?_ _;have a18:Aft W2x w8:=hH1.1;have K8:=g2.x.aft a18;obtain⟨x0,xf,xl⟩:=K8.c1;clear HS C38;gi_wp2;have F8:=(Frm.refl (fun j=>j=kb) w8).set (b:=kb) (j:=0) rfl (.int .i64 ((k:Int)+1));have F28:Frm (fun j=>j=kb) W2x (w8.setCell ⟨kb,0,none⟩ (.int .i64 ((k:Int)+1))):=(Frm.of_below a18).trans F8 (fun _ _ e=>e)
     have K9:Blk (w8.setCell ⟨kb,0,none⟩ (.int .i64 ((k:Int)+1))) kb 3 #[.int .i64 ((k+1:Nat):Int)]:=by have:=K8.set_ 0 (.int .i64 ((k:Int)+1));simpa using this
     exact⟨Two.of_frm F28 (by omega) (by omega) (by omega),⟨K9,g2.f.trans F28 (fun _ _ e=>e)⟩,(FW.mono (fun j _ e=>.inr e)).trans F28 (fun j _ e=>.inl e)⟩
    exact AllReadyH.nil
   case done=>
    rw[hq2];rintro W ⟨x,f⟩ hK2;have hfz:=f.size;obtain⟨x0,xf,xl⟩:=x.c1;obtain⟨y0,yf,yl⟩:=(XA10.frm f (by omega)).c1;have X6F:=X610.frm f (by omega);obtain⟨z0,zf,zl⟩:=X6F.c1
    have hmE:((ps.length:Int)==(m:Int))=true:=by rw[HMN.out];exact beq_self_eq_true _
    have hKq:W.heap[q]?=some (.deferred (some [])):=(f.block q (Array.getElem?_eq_some_iff.1 hK10).1 (by omega)).trans hK10;have aF:Aft w W:=Below.trans aw10 (f.below aw10.size (fun j hj e=>by omega));go_wp2;have F9:=(Frm.refl (fun k=>k=rb) W).set (b:=rb) (j:=0) rfl (.bool true)
    have B9:Blk (W.setCell ⟨rb,0,none⟩ (.bool true)) rb 4 #[.bool true]:=by simpa using X6F.set_ 0 (.bool true)
    have a9:Aft w (W.setCell ⟨rb,0,none⟩ (.bool true)):=aF.set (by have:=HRB.out;omega) _
    have hM:Marks 0 [q2,q] (W.setCell ⟨rb,0,none⟩ (.bool true)):=by
     refine⟨by simp;omega,fun x hx=>⟨Nat.zero_le _,?_⟩⟩
     rcases List.mem_cons.1 hx with rfl|hx
     ·exact(F9.block _ (Array.getElem?_eq_some_iff.1 hK2).1 (by omega)).trans hK2
     ·obtain rfl:x=q:=by simpa using hx
      exact(F9.block _ (Array.getElem?_eq_some_iff.1 hKq).1 (by omega)).trans hKq
    refine leaves_marks (D:=0) [q2,q] _ hM (fun W' hF=>⟨_,results_cellb rfl _ _ rb (.bool true) rfl ?_,rfl,?_⟩)
    ·refine(fin _ a9 B9 W' (hF.mono (fun k _ h=> ?_))).1
     have h':k=q2∨k=q:=by simpa using h
     omega
    ·refine(fin _ a9 B9 W' (hF.mono (fun k _ h=> ?_))).2
     have h':k=q2∨k=q:=by simpa using h
     omega
end Go.Proofs.YtllolnkkepacjaaGreat
