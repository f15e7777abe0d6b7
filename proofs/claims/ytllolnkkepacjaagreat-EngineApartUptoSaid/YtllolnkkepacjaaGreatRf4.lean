/- The reference's stack: Last, Next, room, plain. The reference's stack: with, New. The reference's stack: New, and what a step hands back. The reference's stack: Step. -/
import Derived.Test.YtllolnkkepacjaaGreatS3
set_option maxRecDepth 100000
set_option maxHeartbeats 1000000
namespace Go.Proofs.YtllolnkkepacjaaGreat
open Go.RowKit
section
@[go_sem] theorem fld88_0 (a b c:Value) (w:World):(Instr.field 243 (.agg #[a,b,c]) 0).run Tryz.prog w= .ok a w:=by kernel_rfl
@[go_sem] theorem fld88_1 (a b c:Value) (w:World):(Instr.field 243 (.agg #[a,b,c]) 1).run Tryz.prog w= .ok b w:=by kernel_rfl
@[go_sem] theorem fld88_2 (a b c:Value) (w:World):(Instr.field 243 (.agg #[a,b,c]) 2).run Tryz.prog w= .ok c w:=by kernel_rfl
theorem Tryz.el57:ElemT Tryz.prog 198 243 3 3:=ElemT.mk' (.agg #[.int .i8 0,.int .u8 0,.bool false]) Tryz.underlying198 (by kernel_rfl) rfl (by omega)
abbrev refV (base:Int) (A:Option Addr) (n c:Nat) (i m v:Int):Value:=.agg #[.int .i8 base,.slice A n c,.int .i64 i,.int .i64 m,.int .i64 v]
theorem ref_top {w:World}{B:Nat}{A:Option Addr}{e:Ent}{l:List Ent}(h:Reads w B 3 A (l.length+1) (entCells (e::l))):
 ∃b off,A=some ⟨b,off,none⟩∧b<B∧b<w.heap.size∧w.cell? ⟨b,off+l.length*3,none⟩=some (.int .i8 e.lv)∧w.cell? ⟨b,off+l.length*3+1,none⟩=some (.int .u8 e.ov)∧
  w.cell? ⟨b,off+l.length*3+2,none⟩=some (.bool e.iso):=by
 obtain⟨b,off,rfl,hb,hs,hc⟩:=h.2 (by omega);refine⟨b,off,rfl,hb,hs,hc _ _ ?_,?_,?_⟩
 ·rw[entCells_cons,List.getElem?_append_right (by rw[entCells_length];omega),entCells_length];simp[Ent.cells]
 ·rw[Nat.add_assoc];refine hc _ _ ?_;rw[entCells_cons,List.getElem?_append_right (by rw[entCells_length];omega),entCells_length];simp[Ent.cells]
 ·rw[Nat.add_assoc];refine hc _ _ ?_;rw[entCells_cons,List.getElem?_append_right (by rw[entCells_length];omega),entCells_length];simp[Ent.cells]
theorem rLast_any {w:World}{B:Nat}{A:Option Addr}{e:Ent}{l:List Ent}{c:Nat}{base i m v:Int}(h:Reads w B 3 A (l.length+1) (entCells (e::l)))(hs:l.length+1≤126):
 Calls Tryz.prog 162 #[refV base A (l.length+1) c i m v] w fun r w'=>r= .returned (.agg #[.int .i8 e.lv,.int .u8 e.ov,.bool e.iso])∧Below w.heap.size w w':=by
 obtain⟨b,off,rfl,hb,hbs,c0,c1,c2⟩:=ref_top h
 go_enter Tryz.func162,Tryz.ntmps162
 go_wp2;exact bodyPost_ret (v:=.agg #[.int .i8 e.lv,.int .u8 e.ov,.bool e.iso]) (by simp[results,Tryz.results162,go_sem]) rfl ⟨rfl,((Below.refl _ _).alloc (Nat.le_refl _) _).alloc (by simp) _⟩
theorem rNext_any {w:World}{B:Nat}{A:Option Addr}{e:Ent}{l:List Ent}{c:Nat}{base i m v:Int}(odd:Bool)(h:Reads w B 3 A (l.length+1) (entCells (e::l)))(hs:l.length+1≤126)(h0:0≤e.lv)(h1:e.lv≤125):
 Calls Tryz.prog 158 #[refV base A (l.length+1) c i m v,.bool odd] w fun r w'=>r= .returned (.int .i64 (nextLv odd e.lv))∧Below w.heap.size w w':=by
 unfold nextLv;have hL: ∀w1:World,Below w.heap.size w w1→Reads w1 B 3 A (l.length+1) (entCells (e::l)):=fun w1 hb=>h.below hb (.inr (Nat.le_refl _));cases odd
 ·by_cases hp:e.lv % 2=0
  ·rw[if_neg (by simp[hp])];have hp2:((e.lv+1) % 2==1)=true:=beq_iff_eq.2 (by omega);clear hp
   go_enter Tryz.func158,Tryz.ntmps158
   go_wp2_with(go_at_call 162;refine(rLast_any (h.alloc _) hs).mono ?_;rintro r w1 ⟨rfl,hb1⟩)
   go_ret;exact⟨rfl,((Below.refl _ _).alloc (Nat.le_refl _) _).trans (hb1.mono (by simp))⟩
  ·rw[if_pos (by simp[hp])];have hp2:((e.lv+1) % 2==1)=false:=beq_eq_false_iff_ne.2 (by omega);clear hp
   go_enter Tryz.func158,Tryz.ntmps158
   go_wp2_with(go_at_call 162;refine(rLast_any (h.alloc _) hs).mono ?_;rintro r w1 ⟨rfl,hb1⟩)
   go_ret;exact⟨rfl,((Below.refl _ _).alloc (Nat.le_refl _) _).trans (hb1.mono (by simp))⟩
 ·by_cases hp:e.lv % 2=0
  ·rw[if_pos (by simp[hp])];have hp2:((e.lv+1) % 2==1)=true:=beq_iff_eq.2 (by omega);clear hp
   go_enter Tryz.func158,Tryz.ntmps158
   go_wp2_with(go_at_call 162;refine(rLast_any (h.alloc _) hs).mono ?_;rintro r w1 ⟨rfl,hb1⟩)
   go_ret;exact⟨rfl,((Below.refl _ _).alloc (Nat.le_refl _) _).trans (hb1.mono (by simp))⟩
  ·rw[if_neg (by simp[hp])];have hp2:((e.lv+1) % 2==1)=false:=beq_eq_false_iff_ne.2 (by omega);clear hp
   go_enter Tryz.func158,Tryz.ntmps158
   go_wp2_with(go_at_call 162;refine(rLast_any (h.alloc _) hs).mono ?_;rintro r w1 ⟨rfl,hb1⟩)
   go_ret;exact⟨rfl,((Below.refl _ _).alloc (Nat.le_refl _) _).trans (hb1.mono (by simp))⟩
theorem rRoom_yes {w:World}{A:Option Addr}{k c:Nat}{base i m v:Int}(n:Int)(hn:n≤125)(hi:i=0)(hm:m=0):
 Calls Tryz.prog 159 #[refV base A k c i m v,.int .i64 n] w fun r w'=>r= .returned (.bool true)∧Below w.heap.size w w':=by
 subst hi hm
 go_enter Tryz.func159,Tryz.ntmps159
 go_wp2;go_ret;exact⟨rfl,((Below.refl _ _).alloc (Nat.le_refl _) _)⟩
theorem rRoom_no {w:World}{A:Option Addr}{k c:Nat}{base i m v:Int}(n:Int)(h:125<n∨i≠0∨m≠0):
 Calls Tryz.prog 159 #[refV base A k c i m v,.int .i64 n] w fun r w'=>r= .returned (.bool false)∧Below w.heap.size w w':=by
 by_cases hn:125<n
 ·clear h
  go_enter Tryz.func159,Tryz.ntmps159
  go_wp2;go_ret;exact⟨rfl,((Below.refl _ _).alloc (Nat.le_refl _) _)⟩
 ·have hn:n≤125:=by omega
  by_cases hi:i=0
  ·subst hi;have hm:(m==0)=false:=beq_eq_false_iff_ne.2 (by omega);clear h
   go_enter Tryz.func159,Tryz.ntmps159
   go_wp2;go_ret;exact⟨rfl,((Below.refl _ _).alloc (Nat.le_refl _) _)⟩
  ·have hi:(i==0)=false:=beq_eq_false_iff_ne.2 hi;clear h
   go_enter Tryz.func159,Tryz.ntmps159
   go_wp2;go_ret;exact⟨rfl,((Below.refl _ _).alloc (Nat.le_refl _) _)⟩
theorem rPlain_any {w:World}{B:Nat}{A:Option Addr}{e:Ent}{l:List Ent}{c:Nat}{base i m v:Int}(cl:Int)(h:Reads w B 3 A (l.length+1) (entCells (e::l)))(hs:l.length+1≤126):
 Calls Tryz.prog 161 #[refV base A (l.length+1) c i m v,.int .u8 cl] w fun r w'=>r= .returned (.tuple #[.int .i8 e.lv,.int .u8 (plainCls cl e.ov)])∧Below w.heap.size w w':=by
 unfold plainCls
 by_cases ho:e.ov=0
 ·rw[if_neg (by simp[ho])]
  have ho':(e.ov !=0)=false:=by simp[ho]
  go_enter Tryz.func161,Tryz.ntmps161
  go_wp2_with(go_at_call 162;refine(rLast_any (h.alloc _) hs).mono ?_;rintro r w1 ⟨rfl,hb1⟩)
  all_goals (go_ret2;exact⟨rfl,((((Below.refl _ _).alloc (Nat.le_refl _) _).trans (hb1.mono (by simp))).alloc (by have:=hb1.size;simp at this;omega) _)⟩)
 ·rw[if_pos ho]
  have ho':(e.ov !=0)=true:=by simp[ho]
  go_enter Tryz.func161,Tryz.ntmps161
  go_wp2_with(go_at_call 162;refine(rLast_any (h.alloc _) hs).mono ?_;rintro r w1 ⟨rfl,hb1⟩)
  refine wp_region_reads (by kernel_rfl) (by kernel_rfl) ?_
  repeat(refine still_plain rfl rfl ?_;intro K hK;go_wp2)
  refine wpStill_nil ?_;go_wp2
  go_ret2
  exact⟨rfl,((((Below.refl _ _).alloc (Nat.le_refl _) _).trans (hb1.mono (by simp))).alloc (by have:=hb1.size;simp at this;omega) _).drew⟩
end
section
theorem rWith_any {w:World}{B:Nat}{A:Option Addr}{e:Ent}{l:List Ent}{n c:Nat}{base i m v:Int}(_hn:n=l.length)(h:Reads w B 3 A n (entCells l))(hs:n≤126):
 Calls Tryz.prog 160 #[refV base A n c i m v,.agg #[.int .i8 e.lv,.int .u8 e.ov,.bool e.iso]] w fun r w'=> ∃g cap,r= .returned (refV base (some ⟨g,0,none⟩) (n+1) cap i m v)∧
  Reads w' w'.heap.size 3 (some ⟨g,0,none⟩) (n+1) (entCells (e::l))∧n+1≤cap∧w.heap.size≤g∧Below w.heap.size w w':=by
 clear _hn;have h2:Reads (((w.alloc (.cells #[.int .i8 base,.slice A n c,.int .i64 i,.int .i64 m,.int .i64 v] 200)).alloc (.cells #[.int .i8 e.lv,.int .u8 e.ov,.bool e.iso] 243)).alloc (.cells #[.int .i8 0,.slice none 0 0,.int .i64 0,.int .i64 0,.int .i64 0] 200)) B 3 A n (entCells l):=((h.alloc _).alloc _).alloc _;have q0:=((Blk.new w 200 #[.int .i8 base,.slice A n c,.int .i64 i,.int .i64 m,.int .i64 v]).alloc (.cells #[.int .i8 e.lv,.int .u8 e.ov,.bool e.iso] 243)).alloc (.cells #[.int .i8 0,.slice none 0 0,.int .i64 0,.int .i64 0,.int .i64 0] 200);have q1:=(Blk.new (w.alloc (.cells #[.int .i8 base,.slice A n c,.int .i64 i,.int .i64 m,.int .i64 v] 200)) 243 #[.int .i8 e.lv,.int .u8 e.ov,.bool e.iso]).alloc (.cells #[.int .i8 0,.slice none 0 0,.int .i64 0,.int .i64 0,.int .i64 0] 200);have q2:=Blk.new ((w.alloc (.cells #[.int .i8 base,.slice A n c,.int .i64 i,.int .i64 m,.int .i64 v] 200)).alloc (.cells #[.int .i8 e.lv,.int .u8 e.ov,.bool e.iso] 243)) 200 #[.int .i8 0,.slice none 0 0,.int .i64 0,.int .i64 0,.int .i64 0];simp only[World.size_alloc]at q1 q2
 go_enter Tryz.func160,Tryz.ntmps160
 go_wp2_with(at_builtin;go_must (refine wpList_app Tryz.el57 rfl rfl rfl (World.ownsRow_nil _ _ _ _) rfl h2 (ent_one l) ?_ ?_ (Nat.le_refl _) ?_))
 ·unfold maxLen;omega
 ·omega
 ·intro v1 w1 ho1 hg1 hv1;have hb1:=(Below.refl _ _).grown hg1 (Nat.le_refl _) (by simp[Value.ownBlock]);simp only[World.size_alloc]at hb1;have r1:=(q1.below hb1 (by omega)).c3;have hz:=hb1.size;simp only[World.size_alloc]at hz;obtain⟨r10,r11,r12,r13,-⟩:=r1
  go_wp2_with(at_builtin;go_must (refine wpList_app1 Tryz.el57 rfl rfl rfl (ho1.alloc _) rfl (Blk.new _ _ _) rfl ?_ ?_ ?_ ?_ ?_))
  ·simp[Value.oneCell']
  ·unfold maxLen;omega
  ·omega
  ·simp only[World.size_alloc];omega
  ·intro g cap w2 ho2 hg2 hg';have hb3:=(hb1.alloc hz (.cells #[.int .i8 e.lv,.int .u8 e.ov,.bool e.iso] 243)).grown hg2 (by simp only[World.size_alloc];omega) (fun k hk=>(ho1.lt k hk).1);clear r10 r11 r12 r13
   have g1:g≠w.heap.size:=by
    rcases hg' with h|h
    ·have:=(ho1.lt _ h).1;omega
    ·omega
   have Q0:=q0.below hb3 (by omega);have Q2:=q2.below hb3 (by omega);obtain⟨c0,c1,c2,c3,c4,c5,c6⟩:=Q0.c5;obtain⟨d0,d1,d2,d3,d4,d5,d6⟩:=Q2.c5;go_wp2;have hlt:=(ho2.lt g rfl).2;have Q2':=blk_put5 (.int .i8 base) (.slice (some ⟨g,0,none⟩) (n+1) cap) (.int .i64 i) (.int .i64 m) (.int .i64 v) (Q2.far (p:=⟨w.heap.size,1,none⟩) (by simp;omega) (.slice (some ⟨g,0,none⟩) (n+1) cap));have hgb:w.heap.size+1+1+1≤g:=(ho2.lt g rfl).1;have F2:=((Frm.refl (fun k=>k=w.heap.size∨k=w.heap.size+1+1) w2).set (j:=1) (.inl rfl) (.slice (some ⟨g,0,none⟩) (n+1) cap)).trans (frm_put5 _ (w.heap.size+1+1) (.int .i8 base) (.slice (some ⟨g,0,none⟩) (n+1) cap) (.int .i64 i) (.int .i64 m) (.int .i64 v)) (fun k _ h=>.inr h);have ho3:=own_frm ho2 F2 (fun k hk=>by simp[Value.ownBlock]at hk;subst hk;intro h;omega);obtain⟨cur,_,_,hcap,_⟩:=own_blk ho3;refine bodyPost_ret (v:=refV base (some ⟨g,0,none⟩) (n+1) cap i m v) (results_cell_row rfl _ _ _ _ _ _ _ rfl Q2' Tryz.underlying200 rfl (by kernel_rfl)) rfl ⟨g,cap,rfl,?_,hcap,by omega,?_⟩
   ·rw[entCells_cons];exact Reads.of_own ho3
   ·have hb0:Below w.heap.size w _:=(((Below.refl w.heap.size w).alloc (Nat.le_refl _) (.cells #[.int .i8 base,.slice A n c,.int .i64 i,.int .i64 m,.int .i64 v] 200)).alloc (by simp) (.cells #[.int .i8 e.lv,.int .u8 e.ov,.bool e.iso] 243)).alloc (by simp;omega) (.cells #[.int .i8 0,.slice none 0 0,.int .i64 0,.int .i64 0,.int .i64 0] 200);refine(hb0.trans (hb3.mono (by omega))).trans (F2.below ?_ (fun k hk=>by omega));have:=hb3.size;simp only[World.size_alloc]at this;omega
end
section
theorem blk_ent (W:World)(base:Int){g:Nat}(hg:g=W.heap.size):Reads (W.alloc (.cells #[.int .i8 base,.int .u8 0,.bool false] 243)) (W.alloc (.cells #[.int .i8 base,.int .u8 0,.bool false] 243)).heap.size 3 (some ⟨g,0,none⟩) 1 (entCells [⟨base,0,false⟩]):=by subst hg;exact Reads.blk (n:=1) (size:=3) (Blk.new W 243 #[.int .i8 base,.int .u8 0,.bool false]) rfl
theorem rNew_ok (w:World)(base:Int)(hb:base=0∨base=1):
 Calls Tryz.prog 125 #[.int .i8 base] w fun r w'=> ∃g,r= .returned (.tuple #[refV base (some ⟨g,0,none⟩) 1 1 0 0 0,.int .i64 0])∧Reads w' w'.heap.size 3 (some ⟨g,0,none⟩) 1 (entCells [⟨base,0,false⟩])∧w.heap.size<g∧g<w'.heap.size∧Below w.heap.size w w':=by
 rcases hb with rfl|rfl
 all_goals
  go_enter Tryz.func125,Tryz.ntmps125
  go_wp2;refine bodyPost_ret (results_row1 rfl _ _ _ _ _ _ rfl ((Blk.new w _ _).alloc _) Tryz.underlying200 rfl (by kernel_rfl)) rfl ⟨w.heap.size+1,rfl,?_,by omega,by simp,((Below.refl _ _).alloc (Nat.le_refl _) _).alloc (by simp) _⟩;exact blk_ent _ _ (by simp)
end
section
def RefOut (w:World)(A0:Option Addr)(base:Int)(l:List Ent)(i m v lv cl:Int)(k:Bool)(r:Ending)(w':World):Prop:= ∃A c,r= .returned (.tuple #[refV base A l.length c i m v,.int .i8 lv,.int .u8 cl,.bool k])∧Reads w' w'.heap.size 3 A l.length (entCells l)∧l.length≤c∧Below w.heap.size w w'∧(A=A0∨ ∃g,A=some ⟨g,0,none⟩∧w.heap.size≤g)
abbrev rW (w:World) (base:Int) (A:Option Addr) (n c:Nat) (i m v:Int):World:=(w.alloc (.cells #[.int .i8 base,.slice A n c,.int .i64 i,.int .i64 m,.int .i64 v] 200)).alloc (.cells #[.int .i8 0,.slice none 0 0,.int .i64 0,.int .i64 0,.int .i64 0] 200)
theorem rW_facts (w:World)(base:Int)(A:Option Addr)(n c:Nat)(i m v:Int):Below w.heap.size w (rW w base A n c i m v)∧Blk (rW w base A n c i m v) w.heap.size 200 #[.int .i8 base,.slice A n c,.int .i64 i,.int .i64 m,.int .i64 v]∧
 Blk (rW w base A n c i m v) (w.heap.size+1) 200 #[.int .i8 0,.slice none 0 0,.int .i64 0,.int .i64 0,.int .i64 0]:=by
 refine⟨((Below.refl _ _).alloc (Nat.le_refl _) _).alloc (by simp) _,(Blk.new _ _ _).alloc _,?_⟩;have:=Blk.new (w.alloc (.cells #[.int .i8 base,.slice A n c,.int .i64 i,.int .i64 m,.int .i64 v] 200)) 200 #[.int .i8 0,.slice none 0 0,.int .i64 0,.int .i64 0,.int .i64 0]
 simpa using this
theorem rfin {w w3:World}{A0:Option Addr}{base:Int}{A:Option Addr}{l:List Ent}{c:Nat}{i m v:Int}{a0 a1 a2 a3 a4:Value}(Q6:Blk w3 (w.heap.size+1) 200 #[a0,a1,a2,a3,a4])(hb:Below w.heap.size w w3)(hr:Reads w3 w3.heap.size 3 A l.length (entCells l))
 (hA: ∀b off,A=some ⟨b,off,none⟩→b≠w.heap.size+1) (hc:l.length≤c) (hAA:A=A0∨ ∃g,A=some ⟨g,0,none⟩∧w.heap.size≤g):
 ∃W,W=(((((w3.setCell ⟨w.heap.size+1,0,none⟩ (.int .i8 base)).setCell ⟨w.heap.size+1,1,none⟩ (.slice A l.length c)).setCell ⟨w.heap.size+1,2,none⟩ (.int .i64 i)).setCell ⟨w.heap.size+1,3,none⟩ (.int .i64 m)).setCell ⟨w.heap.size+1,4,none⟩ (.int .i64 v))∧
  Blk W (w.heap.size+1) 200 #[.int .i8 base,.slice A l.length c,.int .i64 i,.int .i64 m,.int .i64 v]∧ ∀lv cl k,RefOut w A0 base l i m v lv cl k (.returned (.tuple #[refV base A l.length c i m v,.int .i8 lv,.int .u8 cl,.bool k])) W:=by
 have F:=frm_put5 w3 (w.heap.size+1) (.int .i8 base) (.slice A l.length c) (.int .i64 i) (.int .i64 m) (.int .i64 v);refine⟨_,rfl,blk_put5 _ _ _ _ _ Q6,fun lv cl k=>⟨A,c,rfl,?_,hc,hb.trans (F.below hb.size (fun k hk h=>by omega)),hAA⟩⟩;have h:=hr.frmA F hA
 simpa using h
theorem rStep17_yes {w:World}{A:Option Addr}{e:Ent}{l:List Ent}{n c:Nat}{base i m v:Int}(auto:Int)(hn:n=l.length+1)(h:Reads w w.heap.size 3 A n (entCells (e::l)))
 (hl:l.length+1≤125) (h0:0≤e.lv) (h1:e.lv≤125) (hx:nextLv true e.lv≤125) (hi:i=0) (hm:m=0):
 Calls Tryz.prog 128 #[refV base A n c i m v,.int .u8 17,.int .i8 auto] w (RefOut w A base (⟨nextLv true e.lv,0,false⟩::e::l) i m v (-1) 17 false):=by
 subst hn;obtain⟨F0,P3,P6⟩:=rW_facts w base A (l.length+1) c i m v
 have hx0:0≤nextLv true e.lv:=by unfold nextLv;split<;>omega
 have hI:=Lib.hid hi;have hM:=Lib.hid hm;clear hi hm;generalize hnx:nextLv true e.lv=nx at hx hx0⊢;have HX:=Lib.hid hnx;clear hnx
 go_enter Tryz.func128,Tryz.ntmps128
 go_wp2_with(first
  |(go_at_call 158;refine(rNext_any true ((h.alloc _).alloc _) (by omega) h0 h1).mono ?_;rintro r w1 ⟨rfl,hb1⟩;rw[HX.out];have Q3:=P3.below hb1 P3.lt;have Q6:=P6.below hb1 P6.lt;have H1:=F0.trans (hb1.mono F0.size);obtain⟨c0,c1,c2,c3,c4,c5,c6⟩:=Q3.c5)
  |(go_at_call 159;refine(rRoom_yes _ hx hI.out hM.out).mono ?_;rintro r w2 ⟨rfl,hb2⟩;clear c0 c1 c2 c3 c4 c5 c6;have Q3':=Q3.below hb2 Q3.lt;have Q6':=Q6.below hb2 Q6.lt;have H2:=H1.trans (hb2.mono H1.size);obtain⟨c0,c1,c2,c3,c4,c5,c6⟩:=Q3'.c5)
  |(go_at_call 160;refine(rWith_any (e:=⟨nx,0,false⟩) (l:=e::l) rfl ((h.below H2 (.inr (Nat.le_refl _))).alloc _) (by simp;omega)).mono ?_;rintro r w3 ⟨g,cap,rfl,hr3,hc3,hg3,hb3⟩;have Q6b:=(Q6'.alloc (.cells #[.int .i8 nx,.int .u8 0,.bool false] 243)).below hb3 (by have:=Q6'.lt;simp;omega);have H3:=(H2.alloc H2.size (.cells #[.int .i8 nx,.int .u8 0,.bool false] 243)).trans (hb3.mono (by have:=H2.size;simp;omega));obtain⟨d0,d1,d2,d3,d4,d5,d6⟩:=Q6b.c5))
 obtain⟨W,rfl,QW,hout⟩:=rfin (A0:=A) (base:=base) (i:=i) (m:=m) (v:=v) (l:=⟨nx,0,false⟩::e::l) Q6b H3 hr3 (fun b off hA=>by have h6:=Q6'.lt;injection hA with hA;injection hA with hA;simp at hg3;omega) hc3 (.inr ⟨g,rfl,by have hz2:=H2.size;simp at hg3;omega⟩);exact bodyPost_ret (results_row3 rfl _ _ _ _ _ _ rfl QW Tryz.underlying200 rfl (by kernel_rfl)) rfl (hout _ _ _)
theorem rStep17_no {w:World}{A:Option Addr}{e:Ent}{l:List Ent}{n c:Nat}{base i m v:Int}(auto:Int)(hn:n=l.length+1)(h:Reads w w.heap.size 3 A n (entCells (e::l)))(hc:n≤c)
 (hl:l.length+1≤126) (h0:0≤e.lv) (h1:e.lv≤125) (hx:125<nextLv true e.lv∨i≠0∨m≠0) (hm0:0≤m) (hm2:m≤1152921504606846976):
 Calls Tryz.prog 128 #[refV base A n c i m v,.int .u8 17,.int .i8 auto] w (RefOut w A base (e::l) i (if i=0 then m+1 else m) v (-1) 17 false):=by
 subst hn;obtain⟨F0,P3,P6⟩:=rW_facts w base A (l.length+1) c i m v
 have hx0:0≤nextLv true e.lv:=by unfold nextLv;split<;>omega
 generalize hnx:nextLv true e.lv=nx at hx hx0⊢;have HX:=Lib.hid hnx;clear hnx;have HXX:=Lib.hid hx;clear hx
 by_cases hi:i=0
 ·subst hi;rw[if_pos rfl]
  go_enter Tryz.func128,Tryz.ntmps128
  go_wp2_with(first
   |(go_at_call 158;refine(rNext_any true ((h.alloc _).alloc _) (by omega) h0 h1).mono ?_;rintro r w1 ⟨rfl,hb1⟩;rw[HX.out];have Q3:=P3.below hb1 P3.lt;have Q6:=P6.below hb1 P6.lt;have H1:=F0.trans (hb1.mono F0.size);obtain⟨c0,c1,c2,c3,c4,c5,c6⟩:=Q3.c5)
   |(go_at_call 159;refine(rRoom_no _ HXX.out).mono ?_;rintro r w2 ⟨rfl,hb2⟩;clear c0 c1 c2 c3 c4 c5 c6;have Q3':=Q3.below hb2 Q3.lt;have Q6':=Q6.below hb2 Q6.lt;have H2:=H1.trans (hb2.mono H1.size);obtain⟨c0,c1,c2,c3,c4,c5,c6⟩:=Q3'.c5;obtain⟨d0,d1,d2,d3,d4,d5,d6⟩:=Q6'.c5))
  have F5:=(Frm.refl (fun k=>k=w.heap.size) w2).set (j:=3) rfl (.int .i64 (m+1))
  obtain⟨W,rfl,QW,hout⟩:=rfin (A0:=A) (base:=base) (A:=A) (c:=c) (i:=0) (m:=m+1) (v:=v) (l:=e::l) (Q6'.far (p:=⟨w.heap.size,3,none⟩) (by simp) (.int .i64 (m+1))) (H2.trans (F5.below H2.size (fun k hk h=>by omega)))
   (by have:=((h.below H2 (.inr (Nat.le_refl _))).frm F5 (fun k hk _ h=>by omega)).more (B':=w2.heap.size) H2.size;simpa using this) (fun b off hA=>by obtain⟨b',off',h1,h2,_⟩:=h.2 (by omega);rw[hA]at h1;injection h1 with h1;injection h1 with h1;omega) (by simpa using hc) (.inl rfl)
  exact bodyPost_ret (results_row3 rfl _ _ _ _ _ _ rfl QW Tryz.underlying200 rfl (by kernel_rfl)) rfl (hout _ _ _)
 ·rw[if_neg hi];have hi':(i==0)=false:=beq_eq_false_iff_ne.2 hi;clear hi
  go_enter Tryz.func128,Tryz.ntmps128
  go_wp2_with(first
   |(go_at_call 158;refine(rNext_any true ((h.alloc _).alloc _) (by omega) h0 h1).mono ?_;rintro r w1 ⟨rfl,hb1⟩;rw[HX.out];have Q3:=P3.below hb1 P3.lt;have Q6:=P6.below hb1 P6.lt;have H1:=F0.trans (hb1.mono F0.size);obtain⟨c0,c1,c2,c3,c4,c5,c6⟩:=Q3.c5)
   |(go_at_call 159;refine(rRoom_no _ HXX.out).mono ?_;rintro r w2 ⟨rfl,hb2⟩;clear c0 c1 c2 c3 c4 c5 c6;have Q3':=Q3.below hb2 Q3.lt;have Q6':=Q6.below hb2 Q6.lt;have H2:=H1.trans (hb2.mono H1.size);obtain⟨c0,c1,c2,c3,c4,c5,c6⟩:=Q3'.c5;obtain⟨d0,d1,d2,d3,d4,d5,d6⟩:=Q6'.c5))
  obtain⟨W,rfl,QW,hout⟩:=rfin (A0:=A) (base:=base) (A:=A) (c:=c) (i:=i) (m:=m) (v:=v) (l:=e::l) Q6' H2
   (by have:=(h.below H2 (.inr (Nat.le_refl _))).more (B':=w2.heap.size) H2.size;simpa using this) (fun b off hA=>by obtain⟨b',off',h1,h2,_⟩:=h.2 (by omega);rw[hA]at h1;injection h1 with h1;injection h1 with h1;omega) (by simpa using hc) (.inl rfl)
  exact bodyPost_ret (results_row3 rfl _ _ _ _ _ _ rfl QW Tryz.underlying200 rfl (by kernel_rfl)) rfl (hout _ _ _)
theorem rStep18_yes {w:World}{A:Option Addr}{e:Ent}{l:List Ent}{n c:Nat}{base i m v:Int}(auto:Int)(hn:n=l.length+1)(h:Reads w w.heap.size 3 A n (entCells (e::l)))
 (hl:l.length+1≤125) (h0:0≤e.lv) (h1:e.lv≤125) (hx:nextLv true e.lv≤125) (hi:i=0) (hm:m=0):
 Calls Tryz.prog 128 #[refV base A n c i m v,.int .u8 18,.int .i8 auto] w (RefOut w A base (⟨nextLv true e.lv,2,false⟩::e::l) i m v (-1) 18 false):=by
 subst hn;obtain⟨F0,P3,P6⟩:=rW_facts w base A (l.length+1) c i m v
 have hx0:0≤nextLv true e.lv:=by unfold nextLv;split<;>omega
 have hI:=Lib.hid hi;have hM:=Lib.hid hm;clear hi hm;generalize hnx:nextLv true e.lv=nx at hx hx0⊢;have HX:=Lib.hid hnx;clear hnx
 go_enter Tryz.func128,Tryz.ntmps128
 go_wp2_with(first
  |(go_at_call 158;refine(rNext_any true ((h.alloc _).alloc _) (by omega) h0 h1).mono ?_;rintro r w1 ⟨rfl,hb1⟩;rw[HX.out];have Q3:=P3.below hb1 P3.lt;have Q6:=P6.below hb1 P6.lt;have H1:=F0.trans (hb1.mono F0.size);obtain⟨c0,c1,c2,c3,c4,c5,c6⟩:=Q3.c5)
  |(go_at_call 159;refine(rRoom_yes _ hx hI.out hM.out).mono ?_;rintro r w2 ⟨rfl,hb2⟩;clear c0 c1 c2 c3 c4 c5 c6;have Q3':=Q3.below hb2 Q3.lt;have Q6':=Q6.below hb2 Q6.lt;have H2:=H1.trans (hb2.mono H1.size);obtain⟨c0,c1,c2,c3,c4,c5,c6⟩:=Q3'.c5)
  |(go_at_call 160;refine(rWith_any (e:=⟨nx,2,false⟩) (l:=e::l) rfl ((h.below H2 (.inr (Nat.le_refl _))).alloc _) (by simp;omega)).mono ?_;rintro r w3 ⟨g,cap,rfl,hr3,hc3,hg3,hb3⟩;have Q6b:=(Q6'.alloc (.cells #[.int .i8 nx,.int .u8 2,.bool false] 243)).below hb3 (by have:=Q6'.lt;simp;omega);have H3:=(H2.alloc H2.size (.cells #[.int .i8 nx,.int .u8 2,.bool false] 243)).trans (hb3.mono (by have:=H2.size;simp;omega));obtain⟨d0,d1,d2,d3,d4,d5,d6⟩:=Q6b.c5))
 obtain⟨W,rfl,QW,hout⟩:=rfin (A0:=A) (base:=base) (i:=i) (m:=m) (v:=v) (l:=⟨nx,2,false⟩::e::l) Q6b H3 hr3 (fun b off hA=>by have h6:=Q6'.lt;injection hA with hA;injection hA with hA;simp at hg3;omega) hc3 (.inr ⟨g,rfl,by have hz2:=H2.size;simp at hg3;omega⟩);exact bodyPost_ret (results_row3 rfl _ _ _ _ _ _ rfl QW Tryz.underlying200 rfl (by kernel_rfl)) rfl (hout _ _ _)
theorem rStep18_no {w:World}{A:Option Addr}{e:Ent}{l:List Ent}{n c:Nat}{base i m v:Int}(auto:Int)(hn:n=l.length+1)(h:Reads w w.heap.size 3 A n (entCells (e::l)))(hc:n≤c)
 (hl:l.length+1≤126) (h0:0≤e.lv) (h1:e.lv≤125) (hx:125<nextLv true e.lv∨i≠0∨m≠0) (hm0:0≤m) (hm2:m≤1152921504606846976):
 Calls Tryz.prog 128 #[refV base A n c i m v,.int .u8 18,.int .i8 auto] w (RefOut w A base (e::l) i (if i=0 then m+1 else m) v (-1) 18 false):=by
 subst hn;obtain⟨F0,P3,P6⟩:=rW_facts w base A (l.length+1) c i m v
 have hx0:0≤nextLv true e.lv:=by unfold nextLv;split<;>omega
 generalize hnx:nextLv true e.lv=nx at hx hx0⊢;have HX:=Lib.hid hnx;clear hnx;have HXX:=Lib.hid hx;clear hx
 by_cases hi:i=0
 ·subst hi;rw[if_pos rfl]
  go_enter Tryz.func128,Tryz.ntmps128
  go_wp2_with(first
   |(go_at_call 158;refine(rNext_any true ((h.alloc _).alloc _) (by omega) h0 h1).mono ?_;rintro r w1 ⟨rfl,hb1⟩;rw[HX.out];have Q3:=P3.below hb1 P3.lt;have Q6:=P6.below hb1 P6.lt;have H1:=F0.trans (hb1.mono F0.size);obtain⟨c0,c1,c2,c3,c4,c5,c6⟩:=Q3.c5)
   |(go_at_call 159;refine(rRoom_no _ HXX.out).mono ?_;rintro r w2 ⟨rfl,hb2⟩;clear c0 c1 c2 c3 c4 c5 c6;have Q3':=Q3.below hb2 Q3.lt;have Q6':=Q6.below hb2 Q6.lt;have H2:=H1.trans (hb2.mono H1.size);obtain⟨c0,c1,c2,c3,c4,c5,c6⟩:=Q3'.c5;obtain⟨d0,d1,d2,d3,d4,d5,d6⟩:=Q6'.c5))
  have F5:=(Frm.refl (fun k=>k=w.heap.size) w2).set (j:=3) rfl (.int .i64 (m+1))
  obtain⟨W,rfl,QW,hout⟩:=rfin (A0:=A) (base:=base) (A:=A) (c:=c) (i:=0) (m:=m+1) (v:=v) (l:=e::l) (Q6'.far (p:=⟨w.heap.size,3,none⟩) (by simp) (.int .i64 (m+1))) (H2.trans (F5.below H2.size (fun k hk h=>by omega)))
   (by have:=((h.below H2 (.inr (Nat.le_refl _))).frm F5 (fun k hk _ h=>by omega)).more (B':=w2.heap.size) H2.size;simpa using this) (fun b off hA=>by obtain⟨b',off',h1,h2,_⟩:=h.2 (by omega);rw[hA]at h1;injection h1 with h1;injection h1 with h1;omega) (by simpa using hc) (.inl rfl)
  exact bodyPost_ret (results_row3 rfl _ _ _ _ _ _ rfl QW Tryz.underlying200 rfl (by kernel_rfl)) rfl (hout _ _ _)
 ·rw[if_neg hi];have hi':(i==0)=false:=beq_eq_false_iff_ne.2 hi;clear hi
  go_enter Tryz.func128,Tryz.ntmps128
  go_wp2_with(first
   |(go_at_call 158;refine(rNext_any true ((h.alloc _).alloc _) (by omega) h0 h1).mono ?_;rintro r w1 ⟨rfl,hb1⟩;rw[HX.out];have Q3:=P3.below hb1 P3.lt;have Q6:=P6.below hb1 P6.lt;have H1:=F0.trans (hb1.mono F0.size);obtain⟨c0,c1,c2,c3,c4,c5,c6⟩:=Q3.c5)
   |(go_at_call 159;refine(rRoom_no _ HXX.out).mono ?_;rintro r w2 ⟨rfl,hb2⟩;clear c0 c1 c2 c3 c4 c5 c6;have Q3':=Q3.below hb2 Q3.lt;have Q6':=Q6.below hb2 Q6.lt;have H2:=H1.trans (hb2.mono H1.size);obtain⟨c0,c1,c2,c3,c4,c5,c6⟩:=Q3'.c5;obtain⟨d0,d1,d2,d3,d4,d5,d6⟩:=Q6'.c5))
  obtain⟨W,rfl,QW,hout⟩:=rfin (A0:=A) (base:=base) (A:=A) (c:=c) (i:=i) (m:=m) (v:=v) (l:=e::l) Q6' H2
   (by have:=(h.below H2 (.inr (Nat.le_refl _))).more (B':=w2.heap.size) H2.size;simpa using this) (fun b off hA=>by obtain⟨b',off',h1,h2,_⟩:=h.2 (by omega);rw[hA]at h1;injection h1 with h1;injection h1 with h1;omega) (by simpa using hc) (.inl rfl)
  exact bodyPost_ret (results_row3 rfl _ _ _ _ _ _ rfl QW Tryz.underlying200 rfl (by kernel_rfl)) rfl (hout _ _ _)
theorem rStep15_yes {w:World}{A:Option Addr}{e:Ent}{l:List Ent}{n c:Nat}{base i m v:Int}(auto:Int)(hn:n=l.length+1)(h:Reads w w.heap.size 3 A n (entCells (e::l)))
 (hl:l.length+1≤125) (h0:0≤e.lv) (h1:e.lv≤125) (hx:nextLv false e.lv≤125) (hi:i=0) (hm:m=0):
 Calls Tryz.prog 128 #[refV base A n c i m v,.int .u8 15,.int .i8 auto] w (RefOut w A base (⟨nextLv false e.lv,0,false⟩::e::l) i m v (-1) 15 false):=by
 subst hn;obtain⟨F0,P3,P6⟩:=rW_facts w base A (l.length+1) c i m v
 have hx0:0≤nextLv false e.lv:=by unfold nextLv;split<;>omega
 have hI:=Lib.hid hi;have hM:=Lib.hid hm;clear hi hm;generalize hnx:nextLv false e.lv=nx at hx hx0⊢;have HX:=Lib.hid hnx;clear hnx
 go_enter Tryz.func128,Tryz.ntmps128
 go_wp2_with(first
  |(go_at_call 158;refine(rNext_any false ((h.alloc _).alloc _) (by omega) h0 h1).mono ?_;rintro r w1 ⟨rfl,hb1⟩;rw[HX.out];have Q3:=P3.below hb1 P3.lt;have Q6:=P6.below hb1 P6.lt;have H1:=F0.trans (hb1.mono F0.size);obtain⟨c0,c1,c2,c3,c4,c5,c6⟩:=Q3.c5)
  |(go_at_call 159;refine(rRoom_yes _ hx hI.out hM.out).mono ?_;rintro r w2 ⟨rfl,hb2⟩;clear c0 c1 c2 c3 c4 c5 c6;have Q3':=Q3.below hb2 Q3.lt;have Q6':=Q6.below hb2 Q6.lt;have H2:=H1.trans (hb2.mono H1.size);obtain⟨c0,c1,c2,c3,c4,c5,c6⟩:=Q3'.c5)
  |(go_at_call 160;refine(rWith_any (e:=⟨nx,0,false⟩) (l:=e::l) rfl ((h.below H2 (.inr (Nat.le_refl _))).alloc _) (by simp;omega)).mono ?_;rintro r w3 ⟨g,cap,rfl,hr3,hc3,hg3,hb3⟩;have Q6b:=(Q6'.alloc (.cells #[.int .i8 nx,.int .u8 0,.bool false] 243)).below hb3 (by have:=Q6'.lt;simp;omega);have H3:=(H2.alloc H2.size (.cells #[.int .i8 nx,.int .u8 0,.bool false] 243)).trans (hb3.mono (by have:=H2.size;simp;omega));obtain⟨d0,d1,d2,d3,d4,d5,d6⟩:=Q6b.c5))
 obtain⟨W,rfl,QW,hout⟩:=rfin (A0:=A) (base:=base) (i:=i) (m:=m) (v:=v) (l:=⟨nx,0,false⟩::e::l) Q6b H3 hr3 (fun b off hA=>by have h6:=Q6'.lt;injection hA with hA;injection hA with hA;simp at hg3;omega) hc3 (.inr ⟨g,rfl,by have hz2:=H2.size;simp at hg3;omega⟩);exact bodyPost_ret (results_row3 rfl _ _ _ _ _ _ rfl QW Tryz.underlying200 rfl (by kernel_rfl)) rfl (hout _ _ _)
theorem rStep15_no {w:World}{A:Option Addr}{e:Ent}{l:List Ent}{n c:Nat}{base i m v:Int}(auto:Int)(hn:n=l.length+1)(h:Reads w w.heap.size 3 A n (entCells (e::l)))(hc:n≤c)
 (hl:l.length+1≤126) (h0:0≤e.lv) (h1:e.lv≤125) (hx:125<nextLv false e.lv∨i≠0∨m≠0) (hm0:0≤m) (hm2:m≤1152921504606846976):
 Calls Tryz.prog 128 #[refV base A n c i m v,.int .u8 15,.int .i8 auto] w (RefOut w A base (e::l) i (if i=0 then m+1 else m) v (-1) 15 false):=by
 subst hn;obtain⟨F0,P3,P6⟩:=rW_facts w base A (l.length+1) c i m v
 have hx0:0≤nextLv false e.lv:=by unfold nextLv;split<;>omega
 generalize hnx:nextLv false e.lv=nx at hx hx0⊢;have HX:=Lib.hid hnx;clear hnx;have HXX:=Lib.hid hx;clear hx
 by_cases hi:i=0
 ·subst hi;rw[if_pos rfl]
  go_enter Tryz.func128,Tryz.ntmps128
  go_wp2_with(first
   |(go_at_call 158;refine(rNext_any false ((h.alloc _).alloc _) (by omega) h0 h1).mono ?_;rintro r w1 ⟨rfl,hb1⟩;rw[HX.out];have Q3:=P3.below hb1 P3.lt;have Q6:=P6.below hb1 P6.lt;have H1:=F0.trans (hb1.mono F0.size);obtain⟨c0,c1,c2,c3,c4,c5,c6⟩:=Q3.c5)
   |(go_at_call 159;refine(rRoom_no _ HXX.out).mono ?_;rintro r w2 ⟨rfl,hb2⟩;clear c0 c1 c2 c3 c4 c5 c6;have Q3':=Q3.below hb2 Q3.lt;have Q6':=Q6.below hb2 Q6.lt;have H2:=H1.trans (hb2.mono H1.size);obtain⟨c0,c1,c2,c3,c4,c5,c6⟩:=Q3'.c5;obtain⟨d0,d1,d2,d3,d4,d5,d6⟩:=Q6'.c5))
  have F5:=(Frm.refl (fun k=>k=w.heap.size) w2).set (j:=3) rfl (.int .i64 (m+1))
  obtain⟨W,rfl,QW,hout⟩:=rfin (A0:=A) (base:=base) (A:=A) (c:=c) (i:=0) (m:=m+1) (v:=v) (l:=e::l) (Q6'.far (p:=⟨w.heap.size,3,none⟩) (by simp) (.int .i64 (m+1))) (H2.trans (F5.below H2.size (fun k hk h=>by omega)))
   (by have:=((h.below H2 (.inr (Nat.le_refl _))).frm F5 (fun k hk _ h=>by omega)).more (B':=w2.heap.size) H2.size;simpa using this) (fun b off hA=>by obtain⟨b',off',h1,h2,_⟩:=h.2 (by omega);rw[hA]at h1;injection h1 with h1;injection h1 with h1;omega) (by simpa using hc) (.inl rfl)
  exact bodyPost_ret (results_row3 rfl _ _ _ _ _ _ rfl QW Tryz.underlying200 rfl (by kernel_rfl)) rfl (hout _ _ _)
 ·rw[if_neg hi];have hi':(i==0)=false:=beq_eq_false_iff_ne.2 hi;clear hi
  go_enter Tryz.func128,Tryz.ntmps128
  go_wp2_with(first
   |(go_at_call 158;refine(rNext_any false ((h.alloc _).alloc _) (by omega) h0 h1).mono ?_;rintro r w1 ⟨rfl,hb1⟩;rw[HX.out];have Q3:=P3.below hb1 P3.lt;have Q6:=P6.below hb1 P6.lt;have H1:=F0.trans (hb1.mono F0.size);obtain⟨c0,c1,c2,c3,c4,c5,c6⟩:=Q3.c5)
   |(go_at_call 159;refine(rRoom_no _ HXX.out).mono ?_;rintro r w2 ⟨rfl,hb2⟩;clear c0 c1 c2 c3 c4 c5 c6;have Q3':=Q3.below hb2 Q3.lt;have Q6':=Q6.below hb2 Q6.lt;have H2:=H1.trans (hb2.mono H1.size);obtain⟨c0,c1,c2,c3,c4,c5,c6⟩:=Q3'.c5;obtain⟨d0,d1,d2,d3,d4,d5,d6⟩:=Q6'.c5))
  obtain⟨W,rfl,QW,hout⟩:=rfin (A0:=A) (base:=base) (A:=A) (c:=c) (i:=i) (m:=m) (v:=v) (l:=e::l) Q6' H2
   (by have:=(h.below H2 (.inr (Nat.le_refl _))).more (B':=w2.heap.size) H2.size;simpa using this) (fun b off hA=>by obtain⟨b',off',h1,h2,_⟩:=h.2 (by omega);rw[hA]at h1;injection h1 with h1;injection h1 with h1;omega) (by simpa using hc) (.inl rfl)
  exact bodyPost_ret (results_row3 rfl _ _ _ _ _ _ rfl QW Tryz.underlying200 rfl (by kernel_rfl)) rfl (hout _ _ _)
theorem rStep16_yes {w:World}{A:Option Addr}{e:Ent}{l:List Ent}{n c:Nat}{base i m v:Int}(auto:Int)(hn:n=l.length+1)(h:Reads w w.heap.size 3 A n (entCells (e::l)))
 (hl:l.length+1≤125) (h0:0≤e.lv) (h1:e.lv≤125) (hx:nextLv false e.lv≤125) (hi:i=0) (hm:m=0):
 Calls Tryz.prog 128 #[refV base A n c i m v,.int .u8 16,.int .i8 auto] w (RefOut w A base (⟨nextLv false e.lv,1,false⟩::e::l) i m v (-1) 16 false):=by
 subst hn;obtain⟨F0,P3,P6⟩:=rW_facts w base A (l.length+1) c i m v
 have hx0:0≤nextLv false e.lv:=by unfold nextLv;split<;>omega
 have hI:=Lib.hid hi;have hM:=Lib.hid hm;clear hi hm;generalize hnx:nextLv false e.lv=nx at hx hx0⊢;have HX:=Lib.hid hnx;clear hnx
 go_enter Tryz.func128,Tryz.ntmps128
 go_wp2_with(first
  |(go_at_call 158;refine(rNext_any false ((h.alloc _).alloc _) (by omega) h0 h1).mono ?_;rintro r w1 ⟨rfl,hb1⟩;rw[HX.out];have Q3:=P3.below hb1 P3.lt;have Q6:=P6.below hb1 P6.lt;have H1:=F0.trans (hb1.mono F0.size);obtain⟨c0,c1,c2,c3,c4,c5,c6⟩:=Q3.c5)
  |(go_at_call 159;refine(rRoom_yes _ hx hI.out hM.out).mono ?_;rintro r w2 ⟨rfl,hb2⟩;clear c0 c1 c2 c3 c4 c5 c6;have Q3':=Q3.below hb2 Q3.lt;have Q6':=Q6.below hb2 Q6.lt;have H2:=H1.trans (hb2.mono H1.size);obtain⟨c0,c1,c2,c3,c4,c5,c6⟩:=Q3'.c5)
  |(go_at_call 160;refine(rWith_any (e:=⟨nx,1,false⟩) (l:=e::l) rfl ((h.below H2 (.inr (Nat.le_refl _))).alloc _) (by simp;omega)).mono ?_;rintro r w3 ⟨g,cap,rfl,hr3,hc3,hg3,hb3⟩;have Q6b:=(Q6'.alloc (.cells #[.int .i8 nx,.int .u8 1,.bool false] 243)).below hb3 (by have:=Q6'.lt;simp;omega);have H3:=(H2.alloc H2.size (.cells #[.int .i8 nx,.int .u8 1,.bool false] 243)).trans (hb3.mono (by have:=H2.size;simp;omega));obtain⟨d0,d1,d2,d3,d4,d5,d6⟩:=Q6b.c5))
 obtain⟨W,rfl,QW,hout⟩:=rfin (A0:=A) (base:=base) (i:=i) (m:=m) (v:=v) (l:=⟨nx,1,false⟩::e::l) Q6b H3 hr3 (fun b off hA=>by have h6:=Q6'.lt;injection hA with hA;injection hA with hA;simp at hg3;omega) hc3 (.inr ⟨g,rfl,by have hz2:=H2.size;simp at hg3;omega⟩);exact bodyPost_ret (results_row3 rfl _ _ _ _ _ _ rfl QW Tryz.underlying200 rfl (by kernel_rfl)) rfl (hout _ _ _)
theorem rStep16_no {w:World}{A:Option Addr}{e:Ent}{l:List Ent}{n c:Nat}{base i m v:Int}(auto:Int)(hn:n=l.length+1)(h:Reads w w.heap.size 3 A n (entCells (e::l)))(hc:n≤c)
 (hl:l.length+1≤126) (h0:0≤e.lv) (h1:e.lv≤125) (hx:125<nextLv false e.lv∨i≠0∨m≠0) (hm0:0≤m) (hm2:m≤1152921504606846976):
 Calls Tryz.prog 128 #[refV base A n c i m v,.int .u8 16,.int .i8 auto] w (RefOut w A base (e::l) i (if i=0 then m+1 else m) v (-1) 16 false):=by
 subst hn;obtain⟨F0,P3,P6⟩:=rW_facts w base A (l.length+1) c i m v
 have hx0:0≤nextLv false e.lv:=by unfold nextLv;split<;>omega
 generalize hnx:nextLv false e.lv=nx at hx hx0⊢;have HX:=Lib.hid hnx;clear hnx;have HXX:=Lib.hid hx;clear hx
 by_cases hi:i=0
 ·subst hi;rw[if_pos rfl]
  go_enter Tryz.func128,Tryz.ntmps128
  go_wp2_with(first
   |(go_at_call 158;refine(rNext_any false ((h.alloc _).alloc _) (by omega) h0 h1).mono ?_;rintro r w1 ⟨rfl,hb1⟩;rw[HX.out];have Q3:=P3.below hb1 P3.lt;have Q6:=P6.below hb1 P6.lt;have H1:=F0.trans (hb1.mono F0.size);obtain⟨c0,c1,c2,c3,c4,c5,c6⟩:=Q3.c5)
   |(go_at_call 159;refine(rRoom_no _ HXX.out).mono ?_;rintro r w2 ⟨rfl,hb2⟩;clear c0 c1 c2 c3 c4 c5 c6;have Q3':=Q3.below hb2 Q3.lt;have Q6':=Q6.below hb2 Q6.lt;have H2:=H1.trans (hb2.mono H1.size);obtain⟨c0,c1,c2,c3,c4,c5,c6⟩:=Q3'.c5;obtain⟨d0,d1,d2,d3,d4,d5,d6⟩:=Q6'.c5))
  have F5:=(Frm.refl (fun k=>k=w.heap.size) w2).set (j:=3) rfl (.int .i64 (m+1))
  obtain⟨W,rfl,QW,hout⟩:=rfin (A0:=A) (base:=base) (A:=A) (c:=c) (i:=0) (m:=m+1) (v:=v) (l:=e::l) (Q6'.far (p:=⟨w.heap.size,3,none⟩) (by simp) (.int .i64 (m+1))) (H2.trans (F5.below H2.size (fun k hk h=>by omega)))
   (by have:=((h.below H2 (.inr (Nat.le_refl _))).frm F5 (fun k hk _ h=>by omega)).more (B':=w2.heap.size) H2.size;simpa using this) (fun b off hA=>by obtain⟨b',off',h1,h2,_⟩:=h.2 (by omega);rw[hA]at h1;injection h1 with h1;injection h1 with h1;omega) (by simpa using hc) (.inl rfl)
  exact bodyPost_ret (results_row3 rfl _ _ _ _ _ _ rfl QW Tryz.underlying200 rfl (by kernel_rfl)) rfl (hout _ _ _)
 ·rw[if_neg hi];have hi':(i==0)=false:=beq_eq_false_iff_ne.2 hi;clear hi
  go_enter Tryz.func128,Tryz.ntmps128
  go_wp2_with(first
   |(go_at_call 158;refine(rNext_any false ((h.alloc _).alloc _) (by omega) h0 h1).mono ?_;rintro r w1 ⟨rfl,hb1⟩;rw[HX.out];have Q3:=P3.below hb1 P3.lt;have Q6:=P6.below hb1 P6.lt;have H1:=F0.trans (hb1.mono F0.size);obtain⟨c0,c1,c2,c3,c4,c5,c6⟩:=Q3.c5)
   |(go_at_call 159;refine(rRoom_no _ HXX.out).mono ?_;rintro r w2 ⟨rfl,hb2⟩;clear c0 c1 c2 c3 c4 c5 c6;have Q3':=Q3.below hb2 Q3.lt;have Q6':=Q6.below hb2 Q6.lt;have H2:=H1.trans (hb2.mono H1.size);obtain⟨c0,c1,c2,c3,c4,c5,c6⟩:=Q3'.c5;obtain⟨d0,d1,d2,d3,d4,d5,d6⟩:=Q6'.c5))
  obtain⟨W,rfl,QW,hout⟩:=rfin (A0:=A) (base:=base) (A:=A) (c:=c) (i:=i) (m:=m) (v:=v) (l:=e::l) Q6' H2
   (by have:=(h.below H2 (.inr (Nat.le_refl _))).more (B':=w2.heap.size) H2.size;simpa using this) (fun b off hA=>by obtain⟨b',off',h1,h2,_⟩:=h.2 (by omega);rw[hA]at h1;injection h1 with h1;injection h1 with h1;omega) (by simpa using hc) (.inl rfl)
  exact bodyPost_ret (results_row3 rfl _ _ _ _ _ _ rfl QW Tryz.underlying200 rfl (by kernel_rfl)) rfl (hout _ _ _)
end
end Go.Proofs.YtllolnkkepacjaaGreat
