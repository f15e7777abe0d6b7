/- The reference's Explicit walked. The reference's Explicit, as its resolve calls it. -/
import Derived.Test.YtllolnkkepacjaaGreatE7
import Derived.Test.YtllolnkkepacjaaGreatRf8
import Derived.Test.YtllolnkkepacjaaGreatRm4
import Derived.Deep.RegionWith
import Derived.Deep.CutRange
import Derived.Test.YtllolnkkepacjaaGreatEn2
set_option maxRecDepth 100000
set_option maxHeartbeats 16000000
namespace Go.Proofs.YtllolnkkepacjaaGreat
open Go.RowKit
section
theorem RefIs.alloc {w:World}{base:Int}{A:Option Addr}{n c:Nat}{s:SS}(h:RefIs w base A n c s)(o:Obj):RefIs (w.alloc o) base A n c s:=⟨h.1,(h.2.1.alloc o).more (by simp),h.2.2⟩
theorem RefIs.below {w w':World}{base:Int}{A:Option Addr}{n c:Nat}{s:SS}(h:RefIs w base A n c s)(hb:Below w.heap.size w w'):RefIs w' base A n c s:=⟨h.1,(h.2.1.below hb (.inl (Nat.le_refl _))).more hb.size,h.2.2⟩
theorem RefIs.ne {w:World}{base:Int}{A:Option Addr}{n c:Nat}{s:SS}(h:RefIs w base A n c s)(hl:s.l≠[]){q:Nat}{a i m v:Int}{B:Option Addr}{n' c':Nat}
 (hq:Blk w q 200 #[.int .i8 a,.slice B n' c',.int .i64 i,.int .i64 m,.int .i64 v]): ∀b off,A=some ⟨b,off,none⟩→b≠q:=by
 rintro b off rfl rfl;obtain⟨h1,h2,h3⟩:=h
 have hp:0<n:=by rw[h1];exact List.length_pos_iff.2 hl
 obtain⟨b',off',e,_,_,hc⟩:=h2.2 hp;simp only[Option.some.injEq,Addr.mk.injEq]at e;obtain⟨rfl,rfl,_⟩:=e
 cases hs:s.l with
 |nil=>exact hl hs
 |cons e l=>
  rw[hs]at hc;have h4:=hc (l.length*3+1) (.int .u8 e.ov) (by rw[entCells_cons,List.getElem?_append_right (by rw[entCells_length];omega),entCells_length];simp[Ent.cells]);rw[hq.cell]at h4;generalize off+(l.length*3+1)=j at h4
  rcases j with _|_|_|_|_|j<;>simp at h4
theorem RefIs.frm {w w':World}{base:Int}{A:Option Addr}{n c:Nat}{s:SS}{F:Nat→Prop}(h:RefIs w base A n c s)(hf:Frm F w w')(hF: ∀b off,A=some ⟨b,off,none⟩→ ¬F b):RefIs w' base A n c s:=⟨h.1,(h.2.1.frmA hf hF).more hf.size,h.2.2⟩
def RInv (w0:World)(base:Int)(sb bx:Nat)(mv:Value)(l:List Int)(k:Nat)(wr:World):Prop:=
 ∃A n c lvv clv,Blk wr sb 200 #[.int .i8 base,.slice A n c,.int .i64 (runS base l (auR l) k).1.i,.int .i64 (runS base l (auR l) k).1.m,.int .i64 (runS base l (auR l) k).1.v]∧RefIs wr base A n c (runS base l (auR l) k).1∧
  XIs (bx-1) bx mv lvv clv (runS base l (auR l) k).2.1 (runS base l (auR l) k).2.2 wr∧(∀b off,A=some ⟨b,off,none⟩→lvv.ownBlock≠some b∧clv.ownBlock≠some b∧b≠bx)∧Frm (fun j=>j=bx∨j=sb) w0 wr
theorem rExplicit_ok {w:World}{B:Nat}{A:Option Addr}{c:Nat}{l:List Int}(base:Int)(hbase:base=0∨base=1)(h:RdInts w B .u8 A l)(hB:B≤w.heap.size)(hl:l.length≤1048576):
 Calls Tryz.prog 84 #[.int .i8 base,.slice A l.length c] w fun r w'=> ∃lvv clv mv,r= .returned (.tuple #[.agg #[lvv,clv,mv],.int .i64 0])∧Ints w' w.heap.size 29 .i8 lvv (runS base l (auR l) l.length).2.1∧
  Ints w' w.heap.size 22 .u8 clv (runS base l (auR l) l.length).2.2∧Ints w' w.heap.size 3 .i64 mv (matchL l)∧Below w.heap.size w w':=by
 go_enter Tryz.func84,Tryz.ntmps84
 go_wp2_with(first
  |(go_at_call 125;refine(rNew_ok _ base hbase).mono ?_;rintro r1 w1 ⟨g0,rfl,S1,hg1,hg2,b1⟩)
  |(go_at_call 126
    have b12:=((Below.refl _ w).alloc (Nat.le_refl _) (.cells #[.slice none 0 0,.slice none 0 0,.slice none 0 0] 111)).trans (b1.mono (by simp));have b13:=b12.trans (((Below.refl _ w1).alloc (Nat.le_refl _) (.cells #[.int .i8 base,.slice (some ⟨g0,0,none⟩) 1 1,.int .i64 0,.int .i64 0,.int .i64 0] 200)).mono b12.size)
    refine(rMatch_any (l:=l) (B:=B) (h.below b13 (.inl hB)) (by have:=b13.size;omega) hl).mono ?_;rintro r2 w2 ⟨mv,rfl,J1,b2⟩;obtain⟨mA,mcap,rfl,_,_,_⟩:=J1.val;rw[(matchL_inv l).len]at J1⊢))
 have hs2:=b2.size;simp only[World.size_alloc]at*;have bW:Below w.heap.size w (w2.alloc (.cells #[.slice none 0 0,.slice none 0 0,.slice mA l.length mcap] 111)):=(b13.trans (b2.mono (by have:=b12.size;omega))).trans ((Below.refl _ _).alloc (by have:=b13.size;simp at this;omega) _);have SB:=((Blk.new w1 200 #[.int .i8 base,.slice (some ⟨g0,0,none⟩) 1 1,.int .i64 0,.int .i64 0,.int .i64 0]).below b2 (by omega)).alloc (.cells #[.slice none 0 0,.slice none 0 0,.slice mA l.length mcap] 111);have XB:=Blk.new w2 111 #[.slice none 0 0,.slice none 0 0,.slice mA l.length mcap];have JB:=J1.alloc (.cells #[.slice none 0 0,.slice none 0 0,.slice mA l.length mcap] 111);have hJ:=J1.lt;have RB:=(((Blk.new w 111 #[.slice none 0 0,.slice none 0 0,.slice none 0 0]).below b1 (by omega)).alloc (.cells #[.int .i8 base,.slice (some ⟨g0,0,none⟩) 1 1,.int .i64 0,.int .i64 0,.int .i64 0] 200)).below b2 (by have:=b12.size;omega);have R1:RefIs w1 base (some ⟨g0,0,none⟩) 1 1 ⟨[⟨base,0,false⟩],0,0,0⟩:=⟨rfl,S1,Nat.le_refl _⟩;have R2:=R1.alloc (.cells #[.int .i8 base,.slice (some ⟨g0,0,none⟩) 1 1,.int .i64 0,.int .i64 0,.int .i64 0] 200);have R3:=R2.below (w':=w2) (by rw[World.size_alloc];exact b2);have S2:=R3.alloc (.cells #[.slice none 0 0,.slice none 0 0,.slice mA l.length mcap] 111);have RB:=RB.alloc (.cells #[.slice none 0 0,.slice none 0 0,.slice mA l.length mcap] 111)
 have hw2:(w2.alloc (.cells #[.slice none 0 0,.slice none 0 0,.slice mA l.length mcap] 111)).heap.size=w2.heap.size+1:=by simp
 have hw12:w.heap.size<w1.heap.size:=by have:=b1.size;simp at this;omega
 clear S1 b1 b12 b13 b2 R1 R2 R3;generalize hW0:w2.alloc (.cells #[.slice none 0 0,.slice none 0 0,.slice mA l.length mcap] 111)=W0 at*;have HW:=Lib.hid hw2;clear hW0 hw2
 go_loopg [9] l.length (fun gk iv wr=> ∃k:Nat,k+gk=l.length∧iv= .int .i64 k∧RInv W0 base w1.heap.size w2.heap.size (.slice mA l.length mcap) l k wr)
 case atStart=>exact⟨0,by simp,rfl,some ⟨g0,0,none⟩,1,1,.slice none 0 0,.slice none 0 0,SB,S2,⟨XB,Ints.nil _ _ _ _,Ints.nil _ _ _ _,by simp[Value.ownBlock]⟩,fun b off e=>by cases e;exact⟨by simp[Value.ownBlock],by simp[Value.ownBlock],by omega⟩,Frm.refl _ _⟩
 case round=>
  obtain⟨k,hk,rfl,sA,sn,sc,lvv,clv,hS,hR,X,hE,F⟩:=hrel;have HK:=Lib.hid hk;clear hk
  by_cases hlt:k<l.length
  ·have b0:=bW.trans (F.below (B:=w.heap.size) bW.size (fun j hj=>by have:=HW.out;omega));have rd:=h.below b0 (.inl hB);obtain⟨ab,off,rfl,_,_,hc⟩:=rd.at_ hlt;have J:=(JB.frm F (fun j hj=>by have:=hJ j hj;omega)).rd;have hm:=(X.blk.c3).2.2.1
   have hcc:l.getD k 0=22→auR l k=autoRef l (matchL l) k:=fun e=>by unfold auR;rw[if_pos e]
   have hcn:l.getD k 0≠22→auR l k=0:=fun e=>by unfold auR;rw[if_neg e]
   obtain⟨W1,hi0,hm0⟩:=runS_wf hbase l (auR l) k;have hlen:=runS_len base l (auR l) k
   have hnx:runS base l (auR l) (k+1)=((stepS base (runS base l (auR l) k).1 (l.getD k 0) (auR l k)).s,(runS base l (auR l) k).2.1++[(stepS base (runS base l (auR l) k).1 (l.getD k 0) (auR l k)).lv],
    (runS base l (auR l) k).2.2++[(stepS base (runS base l (auR l) k).1 (l.getD k 0) (auR l k)).cl]):=rfl
   have hrA:=rAuto_any (w:=wr) (B:=B) (B2:=wr.heap.size) (c:=c) (c2:=mcap) (n:=l.length) (n2:=l.length) (l:=l) k hlt rfl rfl rd J hl;generalize l.getD k 0=cc at hc hnx hcc hcn;generalize autoRef l (matchL l) k=ar at hcc hrA;generalize auR l k=au at hnx hcc hcn;generalize runS base l (auR l) k=st at hS hR X hnx W1 hi0 hm0 hlen;obtain⟨ss,lvs,cls⟩:=st;simp only at hS hR X hnx W1 hi0 hm0 hlen;have HN:=Lib.hid hnx;have HL:=Lib.hid hlen;clear hnx hlen JB hJ RB bW SB XB S2 J1
   go_upto_if 41 with(fail)
   go_cut [10] from 31 to 71 (fun v wx=>v= .int .i8 au∧wx=wr)
   case first=>
    by_cases h22:cc=22
    ·have hb22:(cc==22)=true:=by simp[h22]
     have hau:=hcc h22
     go_wp2_with(go_at_call 127;refine hrA.mono ?_;rintro r3 w3 ⟨rfl,rfl⟩)
     go_meet;exact⟨by rw[hau],rfl⟩
    ·have hb22:(cc==22)=false:=by simp[h22]
     have hau:=hcn h22;go_wp2;go_meet;exact⟨by rw[hau],rfl⟩
   case rest=>
    obtain⟨rfl,rfl⟩:=hcut;clear hrA hcc hcn hm J;have hR':RefIs wc.drew base sA sn sc ss:=hR;have hS':Blk wc.drew w1.heap.size 200 #[.int .i8 base,.slice sA sn sc,.int .i64 ss.i,.int .i64 ss.m,.int .i64 ss.v]:=hS;have r1:=RStep_any (base:=base) (w:=wc.drew) (A:=sA) (n:=sn) (c0:=sc) (s:=ss) cc au hR' W1 (by omega) (by omega);have r2:=RStep_any (base:=base) (w:=wc.drew.alloc (.cells #[.int .i8 0,.slice none 0 0,.int .i64 0,.int .i64 0,.int .i64 0] 200)) (A:=sA) (n:=sn) (c0:=sc) (s:=ss) cc au (hR'.alloc _) W1 (by omega) (by omega)
    have hol:(stepS base ss cc au).s.l≠[]:=by obtain⟨e,l',h⟩:=(W1.step cc au).1.ents.ne;rw[h];simp
    generalize stepS base ss cc au=o at r1 r2 HN hol;obtain⟨⟨ol,oi,om,ov⟩,olv,ocl,ok⟩:=o
    go_upto_region 13 with(fail)
    go_cut [11,12,13,14] from 31 to 71 (fun p a b _ wx=> ∃q A' n' c',p= .pointer (some ⟨q,0,none⟩)∧a= .int .i8 olv∧b= .int .u8 ocl∧wc.heap.size≤q∧
     Blk wx q 200 #[.int .i8 base,.slice A' n' c',.int .i64 oi,.int .i64 om,.int .i64 ov]∧RefIs wx base A' n' c' ⟨ol,oi,om,ov⟩∧Below wc.heap.size wc wx∧ ∀b off,A'=some ⟨b,off,none⟩→lvv.ownBlock≠some b∧clv.ownBlock≠some b∧b≠w2.heap.size)
    case first=>
     obtain⟨y1,y2,y3,y4,y5,_,_⟩:=hS.c5
     have key: ∀A',(A'=sA∨ ∃g,A'=some ⟨g,0,none⟩∧wc.heap.size≤g)→ ∀b off,A'=some ⟨b,off,none⟩→lvv.ownBlock≠some b∧clv.ownBlock≠some b∧b≠w2.heap.size:=by
      rintro A1 (rfl|⟨g,rfl,hg⟩) b off e
      ·exact hE b off e
      ·cases e;exact⟨fun e=>by have:=(X.lv.lt _ e).2;omega,fun e=>by have:=(X.cl.lt _ e).2;omega,by have:=X.blk.lt;omega⟩
     go_region_with (go_at_call 128;first
      |(refine r1.mono ?_;rintro r3 w3 ⟨A',n',c',hr3,hR3,b3,hAA⟩;simp only[refOf,refV]at hr3;subst hr3;have h5:=key _ hAA;have b4:Below wc.heap.size wc w3:=⟨b3.os,b3.tape,b3.output,b3.size,b3.block⟩)
      |(refine r2.mono ?_;rintro r3 w3 ⟨A',n',c',hr3,hR3,b3,hAA⟩;simp only[refOf,refV]at hr3;subst hr3;have h5:=key _ (hAA.imp id (fun⟨g,e,h⟩=>⟨g,e,by simp at h;omega⟩));have hz:Blk w3 wc.heap.size 200 #[.int .i8 0,.slice none 0 0,.int .i64 0,.int .i64 0,.int .i64 0]:=(Blk.new wc.drew 200 _).below b3 (by simp);have bA:Below wc.heap.size wc w3:=⟨b3.os,b3.tape,b3.output,(by have:=b3.size;simp at this;omega),fun k hk=>(b3.block k (by simp;omega)).trans (Below.heap_alloc wc.drew _ k hk)⟩;obtain⟨_,_,_,_,_,zf,zl⟩:=hz.c5))
     all_goals (go_wp2;go_meet)
     all_goals first
      |(have hz2:=hz;exact⟨_,A',n',c',rfl,rfl,rfl,Nat.le_refl _,blk_put5 _ _ _ _ _ hz2,hR3.frm (frm_put5 _ _ _ _ _ _ _) (fun b off e=>hR3.ne hol hz2 b off e),(bA.trans ((frm_put5 _ _ _ _ _ _ _).below bA.size (fun k hk=>by omega))),h5⟩)
      |exact⟨_,A',n',c',rfl,rfl,rfl,b3.size,Blk.new _ _ _,hR3.alloc _,Below.alloc b4 b4.size _,h5⟩
    case rest=>
     obtain⟨q,A',n',c',rfl,rfl,rfl,hq,hQ,hRq,b4,hE'⟩:=hcut;have F4:=F.trans (Frm.of_below (F:=fun _=>False) b4) (fun _ _ e=>e.elim);have X4:=X.frm (Frm.of_below (F:=fun _=>False) b4) id (fun _ _=>id) (fun _ _=>id);have S4:=hS.below b4 hS.lt
     have hqne:q≠w1.heap.size:=by have:=hS.lt;omega
     have hol':0<n':=by rw[hRq.1];exact List.length_pos_iff.2 hol
     clear r1 r2 hR hS hR' hS' X F rd hc h b0 b4;obtain⟨y1,y2,y3,y4,y5,_,_⟩:=hQ.c5;obtain⟨v1,v2,v3,v4,v5,vf,vl⟩:=S4.c5;have G5:=frm_put5 wc w1.heap.size (.int .i8 base) (.slice A' n' c') (.int .i64 oi) (.int .i64 om) (.int .i64 ov);have S5:=blk_put5 (.int .i8 base) (.slice A' n' c') (.int .i64 oi) (.int .i64 om) (.int .i64 ov) S4;have R5:=hRq.frm G5 (fun b off e=>hRq.ne hol S4 b off e);have hlo:=X4.lv.lt;have hco:=X4.cl.lt;have X5:=X4.frm G5 (by omega) (fun j hj=>by have:=hlo j hj;omega) (fun j hj=>by have:=hco j hj;omega);have F5:=(F4.mono (F':=fun k=>k=w2.heap.size∨k=w1.heap.size∨lvv.ownBlock=some k∨clv.ownBlock=some k) (fun _ _ e=>e.elim .inl (fun e=>.inr (.inl e)))).trans G5 (fun _ _ e=>.inr (.inl e));have hF4:=F4.size;have hL12:=HL.out;have HL1:=Lib.hid hL12.1;have HL2:=Lib.hid hL12.2;have hne:=X5.ne;have XL:=X5.lv;have XC:=X5.cl;have XB:=X5.blk;have x0:=XB.c3;clear X4 F4 G5 X5 HL hL12;obtain⟨lA,lcap,rfl,_,_,_⟩:=XL.val;obtain⟨cA,ccap,rfl,_,_,_⟩:=XC.val;obtain⟨x1,x2,x3,xf,xl⟩:=x0
     go_upto_region 15 with(fail)
     generalize hW5:((((wc.setCell ⟨w1.heap.size,0,none⟩ (.int .i8 base)).setCell ⟨w1.heap.size,1,none⟩ (.slice A' n' c')).setCell ⟨w1.heap.size,2,none⟩ (.int .i64 oi)).setCell ⟨w1.heap.size,3,none⟩ (.int .i64 om)).setCell ⟨w1.heap.size,4,none⟩ (.int .i64 ov)=W5 at*
     have hs5:W5.heap.size=wc.heap.size:=by rw[←hW5];simp
     have HS5:=Lib.hid hs5;clear hW5 hs5 y1 y2 y3 y4 y5 v1 v2 v3 v4 v5 vf hQ hRq S4;obtain⟨eb,eo,rfl,_,heb,_⟩:=R5.2.1.2 hol';obtain⟨hE1,hE2,hE3⟩:=hE' eb eo rfl;clear hE'
     go_wp2_with(at_builtin;go_must (refine wpList_appI Tryz.ei26 rfl rfl rfl (XL.alloc _) rfl (Blk.at_ (by simp)) ?_ ?_ ?_ ?_))
     ·have:=HL1.out;have:=HK.out;unfold maxLen;omega
     ·have:=HL1.out;have:=HK.out;omega
     ·have:=HW.out;have:=HS5.out;first|omega|(simp;omega)
     intro g1 cap1 w5 I5 hg5 hgg5
     have hbx1:some w2.heap.size≠(Value.slice lA lvs.length lcap).ownBlock:=fun e=>by have:=hlo _ e.symm;omega
     have hbx2:some w2.heap.size≠(Value.slice cA cls.length ccap).ownBlock:=fun e=>by have:=hco _ e.symm;omega
     have hsb1:some w1.heap.size≠(Value.slice lA lvs.length lcap).ownBlock:=fun e=>by have:=hlo _ e.symm;omega
     have hsb2:some w1.heap.size≠(Value.slice cA cls.length ccap).ownBlock:=fun e=>by have:=hco _ e.symm;omega
     have S6:=(S5.alloc (.cells #[.int .i8 olv] 29)).grown hg5 hsb1;have R6:RefIs w5 base (some ⟨eb,eo,none⟩) n' c' ⟨ol,oi,om,ov⟩:=(R5.alloc (.cells #[.int .i8 olv] 29)).frm (F:=fun k=>(Value.slice lA lvs.length lcap).ownBlock=some k) ((Frm.refl _ _).grown hg5 (fun k e _=>e)) (fun b off e=>by cases e;exact hE1);have hB5:=(XB.alloc (.cells #[.int .i8 olv] 29)).grown hg5 hbx1;clear x1 x2 x3 xf;obtain⟨x1,x2,x3,xf,xl2⟩:=hB5.c3;have C5:=(XC.alloc (.cells #[.int .i8 olv] 29)).kept hg5 (own_apart hne);have hg1:w2.heap.size-1+2≤g1∧g1<w5.heap.size:=I5.lt g1 rfl
     have hgc:(Value.slice cA cls.length ccap).ownBlock≠some g1:=by
      rcases hgg5 with e|e
      ·exact hne g1 e
      ·intro e2;have:=hco g1 e2;have:=HS5.out;first|omega|(simp at e;omega)
     have hEg1:g1≠eb:=by
      rcases hgg5 with e|e
      ·rintro rfl;exact hE1 e
      ·first|omega|(simp at e;omega)
     have sz5:=hg5.size;simp only[World.size_alloc]at sz5;have F6:=(F5.alloc (.cells #[.int .i8 olv] 29)).grown hg5 (fun k e _=>.inr (.inr (.inl e)));clear XL XC XB S5 R5 F5;have G6:=(Frm.refl (fun k=>k=w2.heap.size) w5).set (j:=0) rfl (.slice (some ⟨g1,0,none⟩) (lvs.length+1) cap1);have C6:=C5.frm G6 (fun j hj e=>hbx2 (by rw[hj,e]));have I6:=I5.frm G6 (fun j hj e=>by simp[Value.ownBlock]at hj;omega);have B6:=hB5.set_ 0 (.slice (some ⟨g1,0,none⟩) (lvs.length+1) cap1);have S7:=S6.frm G6 (by omega);have R7:=R6.frm G6 (fun b off e=>by cases e;exact hE3);have F7:=F6.set (j:=0) (b:=w2.heap.size) (.inl rfl) (.slice (some ⟨g1,0,none⟩) (lvs.length+1) cap1)
     have sz6:(w5.setCell ⟨w2.heap.size,0,none⟩ (.slice (some ⟨g1,0,none⟩) (lvs.length+1) cap1)).heap.size=w5.heap.size:=by simp
     have SZ6:=Lib.hid sz6;clear C5 F6 G6 S6 R6 sz6
     go_wp2_with(at_builtin;go_must (refine wpList_appI Tryz.ei24 rfl rfl rfl (C6.alloc _) rfl (Blk.at_ (by simp)) ?_ ?_ ?_ ?_))
     ·have:=HL2.out;have:=HK.out;unfold maxLen;omega
     ·have:=HL2.out;have:=HK.out;omega
     ·have:=HW.out;have:=HS5.out;first|omega|(simp;omega)
     intro g2 cap2 w7 I7 hg7 hgg7;have hg2:w2.heap.size-1+2≤g2∧g2<w7.heap.size:=I7.lt g2 rfl;have sz7:=hg7.size;simp only[World.size_alloc,SZ6.out]at sz7;have hB7:Blk w7 w2.heap.size 111 #[.slice (some ⟨g1,0,none⟩) (lvs.length+1) cap1,.slice cA cls.length ccap,.slice mA l.length mcap]:=(B6.alloc (.cells #[.int .u8 ocl] 22)).grown hg7 hbx2;have I8:=(I6.alloc (.cells #[.int .u8 ocl] 22)).kept hg7 (.inr (fun e=>hgc (by rw[←e];rfl)));have S8:=(S7.alloc (.cells #[.int .u8 ocl] 22)).grown hg7 hsb2;have R8:RefIs w7 base (some ⟨eb,eo,none⟩) n' c' ⟨ol,oi,om,ov⟩:=(R7.alloc (.cells #[.int .u8 ocl] 22)).frm (F:=fun k=>(Value.slice cA cls.length ccap).ownBlock=some k) ((Frm.refl _ _).grown hg7 (fun k e _=>e)) (fun b off e=>by cases e;exact hE2);have F8:=(F7.alloc (.cells #[.int .u8 ocl] 22)).grown hg7 (fun k e _=>.inr (.inr (.inr e)))
     have hgg:g1≠g2:=by
      rcases hgg7 with e|e
      ·rintro rfl;exact hgc e
      ·first|omega|(simp at e;omega)
     have hEg2:g2≠eb:=by
      rcases hgg7 with e|e
      ·rintro rfl;exact hE2 e
      ·have:=HS5.out;first|omega|(simp at e;omega)
     clear x1 x2 x3 xf S7 R7 F7 B6 hB5;obtain⟨z1,z2,z3,zf,zl⟩:=hB7.c3;go_wp2;have G8:=(Frm.refl (fun k=>k=w2.heap.size) w7).set (j:=1) rfl (.slice (some ⟨g2,0,none⟩) (cls.length+1) cap2);have F9:=F8.set (j:=1) (b:=w2.heap.size) (.inl rfl) (.slice (some ⟨g2,0,none⟩) (cls.length+1) cap2);have S9:=S8.frm G8 (by omega);have R9:=R8.frm G8 (fun b off e=>by cases e;exact hE3)
     go_roundg (l.length-(k+1))
     case rel=>
      refine⟨k+1,by have:=HK.out;omega,by go_num,?_⟩;unfold RInv;rw[HN.out];refine⟨some ⟨eb,eo,none⟩,n',c',.slice (some ⟨g1,0,none⟩) (lvs.length+1) cap1,.slice (some ⟨g2,0,none⟩) (cls.length+1) cap2,S9,R9,⟨hB7.set_ 1 _,I8.frm G8 (fun j hj e=> ?_),I7.frm G8 (fun j hj e=> ?_),?_⟩,?_,F9.mono ?_⟩
      ·have:g1=j:=by simpa[Value.ownBlock]using hj
       omega
      ·have:g2=j:=by simpa[Value.ownBlock]using hj
       omega
      ·intro j hj e
       have h1:g1=j:=by simpa[Value.ownBlock]using hj
       have h2:g2=j:=by simpa[Value.ownBlock]using e
       omega
      ·intro b off e;cases e;exact⟨by simpa[Value.ownBlock]using hEg1,by simpa[Value.ownBlock]using hEg2,hE3⟩
      ·intro j hj e;have:=HW.out
       rcases e with e|e|e|e
       ·exact .inl e
       ·exact .inr e
       ·have:=hlo _ e;omega
       ·have:=hco _ e;omega
     case measure=>have:=HK.out;omega
  ·have hkn:k=l.length:=by have:=HK.out;omega
   subst hkn;have RB2:=RB.frm F (by omega);have J:=JB.frm F (fun j hj=>by have:=hJ j hj;omega);have b0:=bW.trans (F.below (B:=w.heap.size) bW.size (fun j hj=>by have:=HW.out;omega));have hne:=X.ne;have XL:=X.lv;have XC:=X.cl;have x0:=X.blk.c3;clear X JB RB F SB XB S2 hS hR J1 bW;obtain⟨lA,lcap,rfl,_,_,_⟩:=XL.val;obtain⟨cA,ccap,rfl,_,_,_⟩:=XC.val;obtain⟨x1,x2,x3,xf,xl⟩:=x0;obtain⟨y1,y2,y3,yf,yl⟩:=RB2.c3;go_wp2;have FF:=frm_put3 wr w.heap.size (.slice lA (runS base l (auR l) l.length).2.1.length lcap) (.slice cA (runS base l (auR l) l.length).2.2.length ccap) (.slice mA l.length mcap);have RF:=blk_put3 (.slice lA (runS base l (auR l) l.length).2.1.length lcap) (.slice cA (runS base l (auR l) l.length).2.2.length ccap) (.slice mA l.length mcap) RB2;refine bodyPost_ret (results_row1 rfl _ _ _ _ _ _ rfl RF Tryz.underlying111 rfl (by kernel_rfl)) rfl ⟨_,_,_,rfl,?_,?_,?_,?_⟩
   ·exact(XL.frm FF (fun j hj e=>by have:=XL.lt j hj;omega)).base (fun j hj=>by have:=XL.lt j hj;omega)
   ·exact(XC.frm FF (fun j hj e=>by have:=XC.lt j hj;omega)).base (fun j hj=>by have:=XC.lt j hj;omega)
   ·exact(J.frm FF (fun j hj e=>by have:=hJ j hj;omega)).base (fun j hj=>by have:=hJ j hj;omega)
   ·exact b0.trans (FF.below b0.size (fun k hk e=>by omega))
end
section
theorem rEx_ok {w:World}{B n c:Nat}{A:Option Addr}{l:List Int}(base:Int)(hn:n=l.length)(hbase:base=0∨base=1)(h:RdInts w B .u8 A l)(hl:n≤1048576):
 Calls Tryz.prog 84 #[.int .i8 base,.slice A n c] w fun r w'=> ∃lA lc cA cc mA mc,r= .returned (.tuple #[.agg #[.slice lA n lc,.slice cA n cc,.slice mA n mc],.int .i64 0])∧
  Ints w' w.heap.size 29 .i8 (.slice lA n lc) (exL base l)∧Ints w' w.heap.size 22 .u8 (.slice cA n cc) (exC base l)∧Below w.heap.size w w':=by
 subst hn;refine(rExplicit_ok base hbase h.clip (Nat.le_refl _) hl).mono ?_;rintro r w' ⟨lvv,clv,mv,rfl,L,C,M,b⟩;rw[←au_same]at L C;have h1:=exL_len base l;have h2:=exC_len base l;have L':Ints w' w.heap.size 29 .i8 lvv (exL base l):=L;have C':Ints w' w.heap.size 22 .u8 clv (exC base l):=C;obtain⟨lA,lc,e1,-,-,-⟩:=L'.val;obtain⟨cA,cc,e2,-,-,-⟩:=C'.val;obtain⟨mA,mc,e3,-,-,-⟩:=M.val;rw[h1]at e1;rw[h2]at e2;rw[(matchL_inv l).len]at e3;subst e1 e2 e3;exact⟨lA,lc,cA,cc,mA,mc,rfl,L',C',b⟩
end
end Go.Proofs.YtllolnkkepacjaaGreat
