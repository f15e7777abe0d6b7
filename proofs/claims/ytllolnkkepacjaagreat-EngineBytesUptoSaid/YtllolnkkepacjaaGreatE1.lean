/- Stack walks, first trial. Stack walks: none, plain, put. Stack walks: put. Stack walks: pop. Stack walks: Step. Stack walks: Step, isolates. Stack walks: Step, the rest. Step, whole: what it does is 'stepS'. New; steps. -/
import Derived.Test.YtllolnkkepacjaaGreatS3
import Derived.Test.YtllolnkkepacjaaGreatS12
import Derived.Test.YtllolnkkepacjaaGreatKit3
set_option maxRecDepth 100000
set_option maxHeartbeats 1000000
namespace Go.Proofs.YtllolnkkepacjaaGreat
open Go.RowKit
section
structure IsStack (w:World) (b g:Nat) (l:List Ent) (i m v:Int):Prop where
 ne:b≠g
 small:l.length≤126
 parts: ∃cap,Blk w b 221 #[.slice (some ⟨g,0,none⟩) l.length cap,.int .i64 i,.int .i64 m,.int .i64 v]∧w.ownsRow 0 218 3 (.slice (some ⟨g,0,none⟩) l.length cap) l.length (entCells l)
theorem IsStack.below {w w':World}{b g l i m v}(h:IsStack w b g l i m v)(hb:Below w.heap.size w w'):IsStack w' b g l i m v:=by obtain⟨cap,h1,h2⟩:=h.parts;obtain⟨cur,_,h3,_⟩:=own_blk h2;exact⟨h.ne,h.small,cap,h1.below hb h1.lt,h2.kept (row:=none) ⟨hb.os,hb.tape,hb.output,hb.size,fun k hk _=>hb.block k hk⟩ (.inr (by simp[Value.ownBlock]))⟩
theorem IsStack.frm {w w':World}{b g l i m v}{F:Nat→Prop}(h:IsStack w b g l i m v)(hf:Frm F w w')(hb: ¬F b)(hg: ¬F g):IsStack w' b g l i m v:=by obtain⟨cap,h1,h2⟩:=h.parts;obtain⟨cur,h0,h3,h4,h5,h6,h7⟩:=own_blk h2;exact⟨h.ne,h.small,cap,h1.frm hf hb,h2.1,.inr ⟨g,cap,cur,rfl,h0,h3.frm hf hg,h4,h5,h6,h7⟩⟩
theorem top_cells {w:World}{b g:Nat}{e:Ent}{l:List Ent}{i m v:Int}(h:IsStack w b g (e::l) i m v):
 ∃cap,b<w.heap.size∧g<w.heap.size∧w.cell? ⟨b,0,none⟩=some (.slice (some ⟨g,0,none⟩) (l.length+1) cap)∧w.cell? ⟨g,l.length*3,none⟩=some (.int .i8 e.lv)∧
  w.cell? ⟨g,l.length*3+1,none⟩=some (.int .u8 e.ov)∧w.cell? ⟨g,l.length*3+2,none⟩=some (.bool e.iso):=by
 obtain⟨cap,h1,h0⟩:=h.parts;obtain⟨cur,_,h2,_⟩:=own_blk h0
 have key: ∀j u,(entCells (e::l))[j]?=some u→w.cell? ⟨g,j,none⟩=some u:=by
  intro j u hu;have h3:=h0.cells (g:=g) rfl j u hu
  have:(⟨g,0,none⟩:Addr).add j=⟨g,j,none⟩:=by unfold Addr.add;split<;>simp_all
  rwa [this]at h3
 refine⟨cap,h1.lt,h2.lt,by rw[h1.cell];rfl,key _ _ ?_,key _ _ ?_,key _ _ ?_⟩<;>
  (rw[entCells_cons,List.getElem?_append_right (by rw[entCells_length];omega),entCells_length];simp[Ent.cells])
theorem last_any {w:World}{b g:Nat}{e:Ent}{l:List Ent}{i m v:Int}(h:IsStack w b g (e::l) i m v):
 Calls Tryz.prog 176 #[.pointer (some ⟨b,0,none⟩)] w fun r w'=>r= .returned (.agg #[.int .i8 e.lv,.int .u8 e.ov,.bool e.iso])∧Below w.heap.size w w':=by
 obtain⟨cap,hb,hg,h0,h1,h2,h3⟩:=top_cells h;have hn:=h.small;simp only[List.length_cons]at hn
 have b0:(w.alloc (Obj.cells #[Value.int IntKind.i8 0,Value.int IntKind.u8 0,Value.bool false] 218)).cell? ⟨b,0,none⟩=some (.slice (some ⟨g,0,none⟩) (l.length+1) cap):=by rw[World.cell?_alloc_past _ _ _ hb];exact h0
 clear h
 go_enter Tryz.func176,Tryz.ntmps176
 go_wp2;refine wp_region_tail 12 (by kernel_rfl) (by kernel_rfl) ?_;simp only[List.take_succ_cons,List.take_zero,List.drop_succ_cons,List.drop_zero]
 repeat(refine still_plain rfl rfl ?_;intro K hK;go_wp2)
 refine wpStill_nil ?_;go_wp2;refine bodyPost_ret (v:=.agg #[.int .i8 e.lv,.int .u8 e.ov,.bool e.iso]) (by simp[results,Tryz.results176,go_sem]) rfl ⟨rfl,?_⟩;exact((Below.refl _ _).alloc (Nat.le_refl _) _).drew
theorem turned_any (c:Int)(w:World):
 Calls Tryz.prog 173 #[.int .u8 c] w fun e w'=>e= .returned (.int .u8 (if c=18 then 2 else if c=16 then 1 else 0))∧w=w':=by
 by_cases h1:c=18
 ·subst h1
  go_enter Tryz.func173,Tryz.ntmps173
  go_wp2;go_ret;exact⟨rfl,rfl⟩
 ·by_cases h2:c=16
  ·subst h2
   go_enter Tryz.func173,Tryz.ntmps173
   go_wp2;go_ret;exact⟨rfl,rfl⟩
  ·rw[if_neg h1,if_neg h2]
   go_enter Tryz.func173,Tryz.ntmps173
   go_wp2;go_ret;exact⟨rfl,rfl⟩
@[go_sem] theorem fld79_0 (a b c:Value) (w:World):(Instr.field 218 (.agg #[a,b,c]) 0).run Tryz.prog w= .ok a w:=by kernel_rfl
@[go_sem] theorem fld79_1 (a b c:Value) (w:World):(Instr.field 218 (.agg #[a,b,c]) 1).run Tryz.prog w= .ok b w:=by kernel_rfl
@[go_sem] theorem fld79_2 (a b c:Value) (w:World):(Instr.field 218 (.agg #[a,b,c]) 2).run Tryz.prog w= .ok c w:=by kernel_rfl
theorem Tryz.el80:ElemT Tryz.prog 219 218 3 3:=ElemT.mk' (.agg #[.int .i8 0,.int .u8 0,.bool false]) Tryz.underlying219 (by kernel_rfl) rfl (by omega)
theorem head_cells {w:World}{b g:Nat}{l:List Ent}{i m v:Int}(h:IsStack w b g l i m v):
 ∃cap,b<w.heap.size∧g<w.heap.size∧l.length≤cap∧cap≤maxLen∧w.cell? ⟨b,0,none⟩=some (.slice (some ⟨g,0,none⟩) l.length cap)∧w.cell? ⟨b,1,none⟩=some (.int .i64 i)∧
  w.cell? ⟨b,2,none⟩=some (.int .i64 m)∧w.cell? ⟨b,3,none⟩=some (.int .i64 v)∧(∀j,w.frozen? ⟨b,j,none⟩=false)∧(∀j,w.frozen? ⟨g,j,none⟩=false)∧
  Blk w b 221 #[.slice (some ⟨g,0,none⟩) l.length cap,.int .i64 i,.int .i64 m,.int .i64 v]∧w.ownsRow 0 218 3 (.slice (some ⟨g,0,none⟩) l.length cap) l.length (entCells l):=by
 obtain⟨cap,h1,h0⟩:=h.parts;obtain⟨cur,_,h2,h3,h4,h5,h6⟩:=own_blk h0;exact⟨cap,h1.lt,h2.lt,h3,h4,by rw[h1.cell];rfl,by rw[h1.cell];rfl,by rw[h1.cell];rfl,by rw[h1.cell];rfl,h1.frozen,h2.frozen,h1,h0⟩
theorem none_some {w:World}{b g:Nat}{l:List Ent}{i m v:Int}(h:IsStack w b g l i m v)(hl:0<l.length):
 Calls Tryz.prog 171 #[.pointer (some ⟨b,0,none⟩)] w fun r w'=>r= .returned (.bool false)∧w=w':=by
 obtain⟨cap,hb,hg,_,_,h0,-⟩:=head_cells h;have hs:=h.small;clear h;have h00:((l.length:Int)==0)=false:=beq_eq_false_iff_ne.2 (by omega)
 go_enter Tryz.func171,Tryz.ntmps171
 go_wp2;go_ret;exact⟨rfl,rfl⟩
theorem plain_any {w:World}{b g:Nat}{e:Ent}{l:List Ent}{i m v:Int}(c:Int)(h:IsStack w b g (e::l) i m v):
 Calls Tryz.prog 174 #[.pointer (some ⟨b,0,none⟩),.int .u8 c] w fun r w'=>r= .returned (.tuple #[.int .i8 e.lv,.int .u8 (plainCls c e.ov),.bool true])∧Below w.heap.size w w':=by
 unfold plainCls
 by_cases ho:e.ov=0
 ·rw[if_neg (by simp[ho])]
  have ho':(e.ov !=0)=false:=by simp[ho]
  by_cases hc:c<1
  ·rw[if_pos (.inl hc)]
   go_enter Tryz.func174,Tryz.ntmps174
   go_wp2_with(go_at_call 176;refine(last_any h).mono ?_;rintro r w1 ⟨rfl,hb1⟩)
   go_ret3
   exact⟨rfl,hb1.alloc hb1.size _⟩
  ·by_cases hc2:23<c
   ·rw[if_pos (.inr hc2)]
    go_enter Tryz.func174,Tryz.ntmps174
    go_wp2_with(go_at_call 176;refine(last_any h).mono ?_;rintro r w1 ⟨rfl,hb1⟩)
    go_ret3
    exact⟨rfl,hb1.alloc hb1.size _⟩
   ·rw[if_neg (by omega)]
    go_enter Tryz.func174,Tryz.ntmps174
    go_wp2_with(go_at_call 176;refine(last_any h).mono ?_;rintro r w1 ⟨rfl,hb1⟩)
    go_ret3
    exact⟨rfl,hb1.alloc hb1.size _⟩
 ·rw[if_pos ho]
  have ho':(e.ov !=0)=true:=by simp[ho]
  go_enter Tryz.func174,Tryz.ntmps174
  go_wp2_with(go_at_call 176;refine(last_any h).mono ?_;rintro r w1 ⟨rfl,hb1⟩)
  go_ret3
  exact⟨rfl,hb1.alloc hb1.size _⟩
theorem own_setCell_far {w:World}{base e size n cap g xs}(h:w.ownsRow base e size (.slice (some ⟨g,0,none⟩) n cap) n xs){p:Addr}(hp:g≠p.block)(u:Value):
 (w.setCell p u).ownsRow base e size (.slice (some ⟨g,0,none⟩) n cap) n xs:=by
 obtain⟨cur,h0,h1,h2⟩:=own_blk h;exact⟨h.1,.inr ⟨g,cap,cur,rfl,h0,h1.far hp u,h2⟩⟩
theorem put_end {w w1 w2:World}{b g:Nat}{e:Ent}{l:List Ent}{i m v:Int}{cap g' cap':Nat}(lv ov:Int)(iso:Bool)(h:IsStack w b g (e::l) i m v)(hl:l.length≤124)(hb1:Below w.heap.size w w1)
 (p1:Blk w1 b 221 #[.slice (some ⟨g,0,none⟩) (e::l).length cap,.int .i64 i,.int .i64 m,.int .i64 v])
 (ho2:w2.ownsRow 0 218 3 (.slice (some ⟨g',0,none⟩) (l.length+1+1) cap') (l.length+1+1) (entCells (e::l)++[.int .i8 lv,.int .u8 ov,.bool iso]))
 (hg2:(w1.alloc (.cells #[.int .i8 lv,.int .u8 ov,.bool iso] 218)).grownBy w2 (Value.slice (some ⟨g,0,none⟩) (l.length+1) cap).ownBlock)
 (hg':(Value.slice (some ⟨g,0,none⟩) (l.length+1) cap).ownBlock=some g'∨g'=w1.heap.size+1):
 w2.cell? ⟨b,0,none⟩=some (.slice (some ⟨g,0,none⟩) (e::l).length cap)∧w2.frozen? ⟨b,0,none⟩=false∧
  ((g'=g∨w.heap.size≤g')∧IsStack (w2.setCell ⟨b,0,none⟩ (.slice (some ⟨g',0,none⟩) (l.length+1+1) cap')) b g' (⟨lv,ov,iso⟩::e::l) i m v∧
    Frm (fun k=>k=b∨k=g) w (w2.setCell ⟨b,0,none⟩ (.slice (some ⟨g',0,none⟩) (l.length+1+1) cap'))):=by
 have hne:=h.ne
 have hg'':g'=g∨g'=w1.heap.size+1:=by
  rcases hg' with h1|h1
  ·left;simp[Value.ownBlock]at h1;exact h1.symm
  ·exact .inr h1
 have pb:=(p1.alloc (.cells #[.int .i8 lv,.int .u8 ov,.bool iso] 218)).grown hg2 (by simp[Value.ownBlock];omega);have hbl:=p1.lt;have hs:=hb1.size
 have hbg:b≠g':=by omega
 have pb':=pb.set_ 0 (.slice (some ⟨g',0,none⟩) (l.length+1+1) cap');refine⟨by rw[pb.cell];rfl,pb.frozen 0,by omega,⟨hbg,by simp;omega,cap',by simpa using pb',?_⟩,?_⟩
 ·rw[entCells_cons];exact own_setCell_far ho2 (by simpa using hbg.symm) _
 ·have f1:Frm (fun k=>k=b∨k=g) w w1:=.of_below hb1;refine((f1.alloc _).grown hg2 ?_).setCell (p:=⟨b,0,none⟩) (fun _=>.inl rfl) _;intro k hk _;simp[Value.ownBlock]at hk;exact .inr hk.symm
theorem put_yes {w:World}{b g:Nat}{e:Ent}{l:List Ent}{i m v:Int}(odd:Bool)(ov:Int)(iso:Bool)(h:IsStack w b g (e::l) i m v)
 (hl:l.length≤124) (h0:0≤e.lv) (h1:e.lv≤125) (hn:nextLv odd e.lv≤125) (hi:i≤0) (hm:m≤0):
  Calls Tryz.prog 172 #[.pointer (some ⟨b,0,none⟩),.bool odd,.int .u8 ov,.bool iso] w fun r w'=>r= .returned (.bool true)∧
   ∃g',(g'=g∨w.heap.size≤g')∧IsStack w' b g' (⟨nextLv odd e.lv,ov,iso⟩::e::l) i m v∧Frm (fun k=>k=b∨k=g) w w':=by
 unfold nextLv at hn⊢;cases odd
 ·by_cases hp:e.lv % 2=0
  ·rw[if_neg (by simp[hp])]at hn⊢
   have hp2:(e.lv+1) % 2=1:=by omega
   clear hp
   go_enter Tryz.func172,Tryz.ntmps172
   go_wp2_with fail
   refine(last_any h).mono ?_;rintro r w1 ⟨rfl,hb1⟩;obtain⟨cap,hb,hg,hlc,hcm,c0,c1,c2,c3,f1,f2,p1,p2⟩:=head_cells (h.below hb1);simp only[List.length_cons]at p2 hlc c0
   go_wp2_with(at_builtin;go_must (refine wpList_app1 Tryz.el80 rfl rfl rfl (p2.alloc _) rfl (Blk.new _ _ _) rfl ?_ ?_ ?_ (Nat.zero_le _) ?_))
   ·simp[Value.oneCell']
   ·unfold maxLen;omega
   ·omega
   ·intro g' cap' w2 ho2 hg2 hg';obtain⟨d0,d1,hres⟩:=put_end _ ov iso h hl hb1 p1 ho2 hg2 hg';go_wp2;go_ret;exact⟨rfl,g',hres⟩
  ·rw[if_pos (by simp[hp])]at hn⊢
   have hp2:(e.lv+1) % 2=0:=by omega
   clear hp
   go_enter Tryz.func172,Tryz.ntmps172
   go_wp2_with fail
   refine(last_any h).mono ?_;rintro r w1 ⟨rfl,hb1⟩;obtain⟨cap,hb,hg,hlc,hcm,c0,c1,c2,c3,f1,f2,p1,p2⟩:=head_cells (h.below hb1);simp only[List.length_cons]at p2 hlc c0
   go_wp2_with(at_builtin;go_must (refine wpList_app1 Tryz.el80 rfl rfl rfl (p2.alloc _) rfl (Blk.new _ _ _) rfl ?_ ?_ ?_ (Nat.zero_le _) ?_))
   ·simp[Value.oneCell']
   ·unfold maxLen;omega
   ·omega
   ·intro g' cap' w2 ho2 hg2 hg';obtain⟨d0,d1,hres⟩:=put_end _ ov iso h hl hb1 p1 ho2 hg2 hg';go_wp2;go_ret;exact⟨rfl,g',hres⟩
 ·by_cases hp:e.lv % 2=0
  ·rw[if_pos (by simp[hp])]at hn⊢
   have hp2:(e.lv+1) % 2=1:=by omega
   clear hp
   go_enter Tryz.func172,Tryz.ntmps172
   go_wp2_with fail
   refine(last_any h).mono ?_;rintro r w1 ⟨rfl,hb1⟩;obtain⟨cap,hb,hg,hlc,hcm,c0,c1,c2,c3,f1,f2,p1,p2⟩:=head_cells (h.below hb1);simp only[List.length_cons]at p2 hlc c0
   go_wp2_with(at_builtin;go_must (refine wpList_app1 Tryz.el80 rfl rfl rfl (p2.alloc _) rfl (Blk.new _ _ _) rfl ?_ ?_ ?_ (Nat.zero_le _) ?_))
   ·simp[Value.oneCell']
   ·unfold maxLen;omega
   ·omega
   ·intro g' cap' w2 ho2 hg2 hg';obtain⟨d0,d1,hres⟩:=put_end _ ov iso h hl hb1 p1 ho2 hg2 hg';go_wp2;go_ret;exact⟨rfl,g',hres⟩
  ·rw[if_neg (by simp[hp])]at hn⊢
   have hp2:(e.lv+1) % 2=0:=by omega
   clear hp
   go_enter Tryz.func172,Tryz.ntmps172
   go_wp2_with fail
   refine(last_any h).mono ?_;rintro r w1 ⟨rfl,hb1⟩;obtain⟨cap,hb,hg,hlc,hcm,c0,c1,c2,c3,f1,f2,p1,p2⟩:=head_cells (h.below hb1);simp only[List.length_cons]at p2 hlc c0
   go_wp2_with(at_builtin;go_must (refine wpList_app1 Tryz.el80 rfl rfl rfl (p2.alloc _) rfl (Blk.new _ _ _) rfl ?_ ?_ ?_ (Nat.zero_le _) ?_))
   ·simp[Value.oneCell']
   ·unfold maxLen;omega
   ·omega
   ·intro g' cap' w2 ho2 hg2 hg';obtain⟨d0,d1,hres⟩:=put_end _ ov iso h hl hb1 p1 ho2 hg2 hg';go_wp2;go_ret;exact⟨rfl,g',hres⟩
theorem put_no {w:World}{b g:Nat}{e:Ent}{l:List Ent}{i m v:Int}(odd:Bool)(ov:Int)(iso:Bool)(h:IsStack w b g (e::l) i m v)
 (h0:0≤e.lv) (h1:e.lv≤125) (hn:125<nextLv odd e.lv∨0<i∨0<m):Calls Tryz.prog 172 #[.pointer (some ⟨b,0,none⟩),.bool odd,.int .u8 ov,.bool iso] w fun r w'=>r= .returned (.bool false)∧Below w.heap.size w w':=by
 unfold nextLv at hn;cases odd
 ·by_cases hp:e.lv % 2=0
  ·rw[if_neg (by simp[hp])]at hn
   have hp2:(e.lv+1) % 2=1:=by omega
   clear hp
   go_enter Tryz.func172,Tryz.ntmps172
   go_wp2_with fail
   refine(last_any h).mono ?_;rintro r w1 ⟨rfl,hb1⟩;obtain⟨cap,hb,hg,hlc,hcm,c0,c1,c2,c3,f1,f2,-⟩:=head_cells (h.below hb1)
   go_wp2_with fail
   all_goals (go_ret;exact⟨rfl,hb1⟩)
  ·rw[if_pos (by simp[hp])]at hn
   have hp2:(e.lv+1) % 2=0:=by omega
   clear hp
   go_enter Tryz.func172,Tryz.ntmps172
   go_wp2_with fail
   refine(last_any h).mono ?_;rintro r w1 ⟨rfl,hb1⟩;obtain⟨cap,hb,hg,hlc,hcm,c0,c1,c2,c3,f1,f2,-⟩:=head_cells (h.below hb1)
   go_wp2_with fail
   all_goals (go_ret;exact⟨rfl,hb1⟩)
 ·by_cases hp:e.lv % 2=0
  ·rw[if_pos (by simp[hp])]at hn
   have hp2:(e.lv+1) % 2=1:=by omega
   clear hp
   go_enter Tryz.func172,Tryz.ntmps172
   go_wp2_with fail
   refine(last_any h).mono ?_;rintro r w1 ⟨rfl,hb1⟩;obtain⟨cap,hb,hg,hlc,hcm,c0,c1,c2,c3,f1,f2,-⟩:=head_cells (h.below hb1)
   go_wp2_with fail
   all_goals (go_ret;exact⟨rfl,hb1⟩)
  ·rw[if_neg (by simp[hp])]at hn
   have hp2:(e.lv+1) % 2=0:=by omega
   clear hp
   go_enter Tryz.func172,Tryz.ntmps172
   go_wp2_with fail
   refine(last_any h).mono ?_;rintro r w1 ⟨rfl,hb1⟩;obtain⟨cap,hb,hg,hlc,hcm,c0,c1,c2,c3,f1,f2,-⟩:=head_cells (h.below hb1)
   go_wp2_with fail
   all_goals (go_ret;exact⟨rfl,hb1⟩)
theorem own_cut {w:World}{base e size n cap g xs ys}(h:w.ownsRow base e size (.slice (some ⟨g,0,none⟩) n cap) n (xs++ys)){k:Nat}(hk:xs.length=k*size)(hkn:k≤n):
 w.ownsRow base e size (.slice (some ⟨g,0,none⟩) k cap) k xs:=by
 obtain⟨cur,h0,h1,h2,h3,h4,h5⟩:=own_blk h;refine⟨hk,.inr ⟨g,cap,cur,rfl,h0,h1,by omega,h3,h4,?_⟩⟩;have:=congrArg (List.take (k*size)) h5;rw[List.take_take,←hk,List.take_left,hk]at this;rw[←this,Nat.min_eq_left (Nat.mul_le_mul_right _ hkn)]
theorem stack_off {w:World}{b g cap:Nat}{e:Ent}{l:List Ent}{i m v:Int}(h:IsStack w b g (e::l) i m v)
 (p1:Blk w b 221 #[.slice (some ⟨g,0,none⟩) (e::l).length cap,.int .i64 i,.int .i64 m,.int .i64 v]) (p2:w.ownsRow 0 218 3 (.slice (some ⟨g,0,none⟩) (e::l).length cap) (e::l).length (entCells (e::l))):IsStack (w.setCell ⟨b,0,none⟩ (.slice (some ⟨g,0,none⟩) l.length cap)) b g l i m v:=by
 have hs:=h.small;have hne:=h.ne;refine⟨hne,by simp at hs;omega,cap,by simpa using p1.set_ 0 (.slice (some ⟨g,0,none⟩) l.length cap),?_⟩;refine own_setCell_far ?_ (by simpa using hne.symm) _;rw[entCells_cons]at p2;exact own_cut p2 (entCells_length l) (by simp)
theorem stack_set1 {w:World}{b g:Nat}{l:List Ent}{i m v:Int}(h:IsStack w b g l i m v)(i':Int):IsStack (w.setCell ⟨b,1,none⟩ (.int .i64 i')) b g l i' m v:=by obtain⟨cap,p1,p2⟩:=h.parts;exact⟨h.ne,h.small,cap,by simpa using p1.set_ 1 (.int .i64 i'),own_setCell_far p2 (by simpa using h.ne.symm) _⟩
theorem stack_set2 {w:World}{b g:Nat}{l:List Ent}{i m v:Int}(h:IsStack w b g l i m v)(m':Int):IsStack (w.setCell ⟨b,2,none⟩ (.int .i64 m')) b g l i m' v:=by obtain⟨cap,p1,p2⟩:=h.parts;exact⟨h.ne,h.small,cap,by simpa using p1.set_ 2 (.int .i64 m'),own_setCell_far p2 (by simpa using h.ne.symm) _⟩
theorem stack_set3 {w:World}{b g:Nat}{l:List Ent}{i m v:Int}(h:IsStack w b g l i m v)(v':Int):IsStack (w.setCell ⟨b,3,none⟩ (.int .i64 v')) b g l i m v':=by obtain⟨cap,p1,p2⟩:=h.parts;exact⟨h.ne,h.small,cap,by simpa using p1.set_ 3 (.int .i64 v'),own_setCell_far p2 (by simpa using h.ne.symm) _⟩
theorem IsStack.drew {w:World}{b g l i m v}(h:IsStack w b g l i m v):IsStack w.drew b g l i m v:=⟨h.ne,h.small,h.parts⟩
theorem pop_iso {w:World}{b g:Nat}{l:List Ent}{i m v:Int}(h:IsStack w b g l i m v)(hi:0<i)(hb:i≤1152921504606846976):
 Calls Tryz.prog 175 #[.pointer (some ⟨b,0,none⟩)] w fun r w'=>r= .returned (.tuple #[])∧IsStack w' b g l (i-1) m v∧Frm (fun k=>k=b) w w':=by
 obtain⟨cap,hb,hg,hlc,hcm,c0,c1,c2,c3,f1,f2,p1,p2⟩:=head_cells h
 go_enter Tryz.func175,Tryz.ntmps175
 go_wp2
 go_end0
 exact⟨rfl,stack_set1 h _,(Frm.refl (fun k=>k=b) w).set rfl _⟩
theorem pop_not {w:World}{b g:Nat}{l:List Ent}{i m v:Int}(h:IsStack w b g l i m v)(hi:i≤0)(hv:v≤0):
 Calls Tryz.prog 175 #[.pointer (some ⟨b,0,none⟩)] w fun r w'=>r= .returned (.tuple #[])∧w=w':=by
 obtain⟨cap,hb,hg,hlc,hcm,c0,c1,c2,c3,f1,f2,p1,p2⟩:=head_cells h
 go_enter Tryz.func175,Tryz.ntmps175
 go_wp2
 go_end0
 exact⟨rfl,rfl⟩
theorem pop_val {w:World}{b g:Nat}{l:List Ent}{i m v:Int}(h:IsStack w b g l i m v)(hi:i≤0)(hv:0<v)(hv2:v≤1152921504606846976)(hl: ∃e∈l,e.iso=true):
 Calls Tryz.prog 175 #[.pointer (some ⟨b,0,none⟩)] w fun r w'=>r= .returned (.tuple #[])∧IsStack w' b g (popTo l) i 0 (v-1)∧Frm (fun k=>k=b) w w':=by
 obtain⟨cap,hb,hg,hlc,hcm,c0,c1,c2,c3,f1,f2,p1,p2⟩:=head_cells h
 go_enter Tryz.func175,Tryz.ntmps175
 go_wp2_with fail
 go_loopg [] l.length (fun n wr=> ∃l',popTo l'=popTo l∧(∃e∈l',e.iso=true)∧l'.length=n∧IsStack wr b g l' i 0 v∧Frm (fun k=>k=b) w wr)
 case atStart=>exact⟨l,rfl,hl,rfl,stack_set2 h 0,(Frm.refl (fun k=>k=b) w).set rfl _⟩
 case round=>
  obtain⟨l',e1,e2,e3,h',hf⟩:=hrel;have e1:=Lib.hid e1;have e3:=Lib.hid e3
  match l',e2,h',e1,e3 with
  |e::l',e2,h',e1,e3=>
   have hsm:=h'.small;simp only[List.length_cons]at hsm
   by_cases he:e.iso=true
   ·have h1:popTo l=l':=by rw[←e1.out];simp[popTo,he]
    have h1:=Lib.hid h1
    go_wp2_with fail
    refine(last_any h').mono ?_;rintro r w1 ⟨rfl,hb1⟩;obtain⟨cap,hb,hg,hlc,hcm,c0,c1,c2,c3,f1,f2,p1,p2⟩:=head_cells (h'.below hb1);simp only[List.length_cons]at c0 hlc;go_wp2;refine wp_region_tail 14 (by kernel_rfl) (by kernel_rfl) ?_;simp only[List.take_succ_cons,List.take_zero,List.drop_succ_cons,List.drop_zero]
    repeat(refine still_plain rfl rfl ?_;intro K hK;go_wp2)
    refine wpStill_nil ?_;go_wp2
    go_end0
    rw[h1.out];refine⟨rfl,?_,?_⟩
    ·exact(stack_set3 (stack_off (h'.below hb1) p1 p2) _).drew
    ·exact(((hf.trans (Frm.of_below (F:=fun _=>False) hb1) (fun _ _ h=>h.elim)).set rfl _).set rfl _).drew
   ·have he:e.iso=false:=by simpa using he
    have h1:popTo l=popTo l':=by rw[←e1.out];simp[popTo,he]
    have h1:=Lib.hid h1
    have e2': ∃e∈l',e.iso=true:=by
     obtain⟨x,hx,hi⟩:=e2
     rcases List.mem_cons.1 hx with rfl|hx
     ·rw[he]at hi;cases hi
     ·exact⟨x,hx,hi⟩
    go_wp2_with fail
    refine(last_any h').mono ?_;rintro r w1 ⟨rfl,hb1⟩;obtain⟨cap,hb,hg,hlc,hcm,c0,c1,c2,c3,f1,f2,p1,p2⟩:=head_cells (h'.below hb1);simp only[List.length_cons]at c0 hlc;go_wp2;refine wp_region_tail 14 (by kernel_rfl) (by kernel_rfl) ?_;simp only[List.take_succ_cons,List.take_zero,List.drop_succ_cons,List.drop_zero]
    repeat(refine still_plain rfl rfl ?_;intro K hK;go_wp2)
    refine wpStill_nil ?_;go_wp2
    go_roundg l'.length
    case rel=>exact⟨l',h1.out.symm,e2',rfl,(stack_off (h'.below hb1) p1 p2).drew,((hf.trans (Frm.of_below (F:=fun _=>False) hb1) (fun _ _ h=>h.elim)).set rfl _).drew⟩
    case measure=>rw[←e3.out];simp
theorem step_emb17_yes {w:World}{b g:Nat}{e:Ent}{l:List Ent}{i m v:Int}(auto:Int)(h:IsStack w b g (e::l) i m v)
 (hl:l.length≤124) (h0:0≤e.lv) (h1:e.lv≤125) (hn:nextLv true e.lv≤125) (hi:i≤0) (hm:m≤0):
  Calls Tryz.prog 144 #[.pointer (some ⟨b,0,none⟩),.int .u8 17,.int .i8 auto] w fun r w'=>r= .returned (.tuple #[.int .i8 (-1),.int .u8 17,.bool false])∧
   ∃g',(g'=g∨w.heap.size≤g')∧IsStack w' b g' (⟨nextLv true e.lv,0,false⟩::e::l) i m v∧Frm (fun k=>k=b∨k=g) w w':=by
 go_enter Tryz.func144,Tryz.ntmps144
 go_wp2_with(first
  |(go_at_call 171;refine(none_some h (by simp)).mono ?_;rintro r w' ⟨rfl,rfl⟩)
  |(go_at_call 173;refine(turned_any _ _).mono ?_;rintro r w' ⟨rfl,rfl⟩)
  |(go_at_call 172;refine(put_yes _ _ _ h hl h0 h1 hn hi hm).mono ?_;rintro r w1 ⟨rfl,g',hg',h2,hf⟩))
 go_ret3
 exact⟨rfl,g',hg',h2,hf⟩
theorem step_emb17_no {w:World}{b g:Nat}{e:Ent}{l:List Ent}{i m v:Int}(auto:Int)(h:IsStack w b g (e::l) i m v)
 (h0:0≤e.lv) (h1:e.lv≤125) (hn:125<nextLv true e.lv∨0<i∨0<m) (hi:0≤i) (hm:0≤m) (hm2:m≤1152921504606846976):
  Calls Tryz.prog 144 #[.pointer (some ⟨b,0,none⟩),.int .u8 17,.int .i8 auto] w fun r w'=>r= .returned (.tuple #[.int .i8 (-1),.int .u8 17,.bool false])∧
   IsStack w' b g (e::l) i (if i=0 then m+1 else m) v∧Frm (fun k=>k=b∨k=g) w w':=by
 by_cases hi0:i=0
 ·subst hi0;rw[if_pos rfl]
  go_enter Tryz.func144,Tryz.ntmps144
  go_wp2_with(first
   |(go_at_call 171;refine(none_some h (by simp)).mono ?_;rintro r w' ⟨rfl,rfl⟩)
   |(go_at_call 173;refine(turned_any _ _).mono ?_;rintro r w' ⟨rfl,rfl⟩)
   |(go_at_call 172;refine(put_no _ _ _ h h0 h1 hn).mono ?_;rintro r w1 ⟨rfl,hb1⟩;obtain⟨cap,hb,hg,hlc,hcm,c0,c1,c2,c3,f1,f2,p1,p2⟩:=head_cells (h.below hb1)))
  go_ret3
  exact⟨rfl,stack_set2 (h.below hb1) _,(Frm.of_below (F:=fun k=>k=b∨k=g) hb1).set (.inl rfl) _⟩
 ·rw[if_neg hi0];have hi1:(i==0)=false:=beq_eq_false_iff_ne.2 hi0
  go_enter Tryz.func144,Tryz.ntmps144
  go_wp2_with(first
   |(go_at_call 171;refine(none_some h (by simp)).mono ?_;rintro r w' ⟨rfl,rfl⟩)
   |(go_at_call 173;refine(turned_any _ _).mono ?_;rintro r w' ⟨rfl,rfl⟩)
   |(go_at_call 172;refine(put_no _ _ _ h h0 h1 hn).mono ?_;rintro r w1 ⟨rfl,hb1⟩;obtain⟨cap,hb,hg,hlc,hcm,c0,c1,c2,c3,f1,f2,p1,p2⟩:=head_cells (h.below hb1)))
  go_ret3
  exact⟨rfl,h.below hb1,Frm.of_below hb1⟩
theorem step_emb18_yes {w:World}{b g:Nat}{e:Ent}{l:List Ent}{i m v:Int}(auto:Int)(h:IsStack w b g (e::l) i m v)
 (hl:l.length≤124) (h0:0≤e.lv) (h1:e.lv≤125) (hn:nextLv true e.lv≤125) (hi:i≤0) (hm:m≤0):
  Calls Tryz.prog 144 #[.pointer (some ⟨b,0,none⟩),.int .u8 18,.int .i8 auto] w fun r w'=>r= .returned (.tuple #[.int .i8 (-1),.int .u8 18,.bool false])∧
   ∃g',(g'=g∨w.heap.size≤g')∧IsStack w' b g' (⟨nextLv true e.lv,2,false⟩::e::l) i m v∧Frm (fun k=>k=b∨k=g) w w':=by
 go_enter Tryz.func144,Tryz.ntmps144
 go_wp2_with(first
  |(go_at_call 171;refine(none_some h (by simp)).mono ?_;rintro r w' ⟨rfl,rfl⟩)
  |(go_at_call 173;refine(turned_any _ _).mono ?_;rintro r w' ⟨rfl,rfl⟩)
  |(go_at_call 172;refine(put_yes _ _ _ h hl h0 h1 hn hi hm).mono ?_;rintro r w1 ⟨rfl,g',hg',h2,hf⟩))
 go_ret3
 exact⟨rfl,g',hg',h2,hf⟩
theorem step_emb18_no {w:World}{b g:Nat}{e:Ent}{l:List Ent}{i m v:Int}(auto:Int)(h:IsStack w b g (e::l) i m v)
 (h0:0≤e.lv) (h1:e.lv≤125) (hn:125<nextLv true e.lv∨0<i∨0<m) (hi:0≤i) (hm:0≤m) (hm2:m≤1152921504606846976):
  Calls Tryz.prog 144 #[.pointer (some ⟨b,0,none⟩),.int .u8 18,.int .i8 auto] w fun r w'=>r= .returned (.tuple #[.int .i8 (-1),.int .u8 18,.bool false])∧
   IsStack w' b g (e::l) i (if i=0 then m+1 else m) v∧Frm (fun k=>k=b∨k=g) w w':=by
 by_cases hi0:i=0
 ·subst hi0;rw[if_pos rfl]
  go_enter Tryz.func144,Tryz.ntmps144
  go_wp2_with(first
   |(go_at_call 171;refine(none_some h (by simp)).mono ?_;rintro r w' ⟨rfl,rfl⟩)
   |(go_at_call 173;refine(turned_any _ _).mono ?_;rintro r w' ⟨rfl,rfl⟩)
   |(go_at_call 172;refine(put_no _ _ _ h h0 h1 hn).mono ?_;rintro r w1 ⟨rfl,hb1⟩;obtain⟨cap,hb,hg,hlc,hcm,c0,c1,c2,c3,f1,f2,p1,p2⟩:=head_cells (h.below hb1)))
  go_ret3
  exact⟨rfl,stack_set2 (h.below hb1) _,(Frm.of_below (F:=fun k=>k=b∨k=g) hb1).set (.inl rfl) _⟩
 ·rw[if_neg hi0];have hi1:(i==0)=false:=beq_eq_false_iff_ne.2 hi0
  go_enter Tryz.func144,Tryz.ntmps144
  go_wp2_with(first
   |(go_at_call 171;refine(none_some h (by simp)).mono ?_;rintro r w' ⟨rfl,rfl⟩)
   |(go_at_call 173;refine(turned_any _ _).mono ?_;rintro r w' ⟨rfl,rfl⟩)
   |(go_at_call 172;refine(put_no _ _ _ h h0 h1 hn).mono ?_;rintro r w1 ⟨rfl,hb1⟩;obtain⟨cap,hb,hg,hlc,hcm,c0,c1,c2,c3,f1,f2,p1,p2⟩:=head_cells (h.below hb1)))
  go_ret3
  exact⟨rfl,h.below hb1,Frm.of_below hb1⟩
theorem step_emb15_yes {w:World}{b g:Nat}{e:Ent}{l:List Ent}{i m v:Int}(auto:Int)(h:IsStack w b g (e::l) i m v)
 (hl:l.length≤124) (h0:0≤e.lv) (h1:e.lv≤125) (hn:nextLv false e.lv≤125) (hi:i≤0) (hm:m≤0):
  Calls Tryz.prog 144 #[.pointer (some ⟨b,0,none⟩),.int .u8 15,.int .i8 auto] w fun r w'=>r= .returned (.tuple #[.int .i8 (-1),.int .u8 15,.bool false])∧
   ∃g',(g'=g∨w.heap.size≤g')∧IsStack w' b g' (⟨nextLv false e.lv,0,false⟩::e::l) i m v∧Frm (fun k=>k=b∨k=g) w w':=by
 go_enter Tryz.func144,Tryz.ntmps144
 go_wp2_with(first
  |(go_at_call 171;refine(none_some h (by simp)).mono ?_;rintro r w' ⟨rfl,rfl⟩)
  |(go_at_call 173;refine(turned_any _ _).mono ?_;rintro r w' ⟨rfl,rfl⟩)
  |(go_at_call 172;refine(put_yes _ _ _ h hl h0 h1 hn hi hm).mono ?_;rintro r w1 ⟨rfl,g',hg',h2,hf⟩))
 go_ret3
 exact⟨rfl,g',hg',h2,hf⟩
theorem step_emb15_no {w:World}{b g:Nat}{e:Ent}{l:List Ent}{i m v:Int}(auto:Int)(h:IsStack w b g (e::l) i m v)
 (h0:0≤e.lv) (h1:e.lv≤125) (hn:125<nextLv false e.lv∨0<i∨0<m) (hi:0≤i) (hm:0≤m) (hm2:m≤1152921504606846976):
  Calls Tryz.prog 144 #[.pointer (some ⟨b,0,none⟩),.int .u8 15,.int .i8 auto] w fun r w'=>r= .returned (.tuple #[.int .i8 (-1),.int .u8 15,.bool false])∧
   IsStack w' b g (e::l) i (if i=0 then m+1 else m) v∧Frm (fun k=>k=b∨k=g) w w':=by
 by_cases hi0:i=0
 ·subst hi0;rw[if_pos rfl]
  go_enter Tryz.func144,Tryz.ntmps144
  go_wp2_with(first
   |(go_at_call 171;refine(none_some h (by simp)).mono ?_;rintro r w' ⟨rfl,rfl⟩)
   |(go_at_call 173;refine(turned_any _ _).mono ?_;rintro r w' ⟨rfl,rfl⟩)
   |(go_at_call 172;refine(put_no _ _ _ h h0 h1 hn).mono ?_;rintro r w1 ⟨rfl,hb1⟩;obtain⟨cap,hb,hg,hlc,hcm,c0,c1,c2,c3,f1,f2,p1,p2⟩:=head_cells (h.below hb1)))
  go_ret3
  exact⟨rfl,stack_set2 (h.below hb1) _,(Frm.of_below (F:=fun k=>k=b∨k=g) hb1).set (.inl rfl) _⟩
 ·rw[if_neg hi0];have hi1:(i==0)=false:=beq_eq_false_iff_ne.2 hi0
  go_enter Tryz.func144,Tryz.ntmps144
  go_wp2_with(first
   |(go_at_call 171;refine(none_some h (by simp)).mono ?_;rintro r w' ⟨rfl,rfl⟩)
   |(go_at_call 173;refine(turned_any _ _).mono ?_;rintro r w' ⟨rfl,rfl⟩)
   |(go_at_call 172;refine(put_no _ _ _ h h0 h1 hn).mono ?_;rintro r w1 ⟨rfl,hb1⟩;obtain⟨cap,hb,hg,hlc,hcm,c0,c1,c2,c3,f1,f2,p1,p2⟩:=head_cells (h.below hb1)))
  go_ret3
  exact⟨rfl,h.below hb1,Frm.of_below hb1⟩
theorem step_emb16_yes {w:World}{b g:Nat}{e:Ent}{l:List Ent}{i m v:Int}(auto:Int)(h:IsStack w b g (e::l) i m v)
 (hl:l.length≤124) (h0:0≤e.lv) (h1:e.lv≤125) (hn:nextLv false e.lv≤125) (hi:i≤0) (hm:m≤0):
  Calls Tryz.prog 144 #[.pointer (some ⟨b,0,none⟩),.int .u8 16,.int .i8 auto] w fun r w'=>r= .returned (.tuple #[.int .i8 (-1),.int .u8 16,.bool false])∧
   ∃g',(g'=g∨w.heap.size≤g')∧IsStack w' b g' (⟨nextLv false e.lv,1,false⟩::e::l) i m v∧Frm (fun k=>k=b∨k=g) w w':=by
 go_enter Tryz.func144,Tryz.ntmps144
 go_wp2_with(first
  |(go_at_call 171;refine(none_some h (by simp)).mono ?_;rintro r w' ⟨rfl,rfl⟩)
  |(go_at_call 173;refine(turned_any _ _).mono ?_;rintro r w' ⟨rfl,rfl⟩)
  |(go_at_call 172;refine(put_yes _ _ _ h hl h0 h1 hn hi hm).mono ?_;rintro r w1 ⟨rfl,g',hg',h2,hf⟩))
 go_ret3
 exact⟨rfl,g',hg',h2,hf⟩
theorem step_emb16_no {w:World}{b g:Nat}{e:Ent}{l:List Ent}{i m v:Int}(auto:Int)(h:IsStack w b g (e::l) i m v)
 (h0:0≤e.lv) (h1:e.lv≤125) (hn:125<nextLv false e.lv∨0<i∨0<m) (hi:0≤i) (hm:0≤m) (hm2:m≤1152921504606846976):
  Calls Tryz.prog 144 #[.pointer (some ⟨b,0,none⟩),.int .u8 16,.int .i8 auto] w fun r w'=>r= .returned (.tuple #[.int .i8 (-1),.int .u8 16,.bool false])∧
   IsStack w' b g (e::l) i (if i=0 then m+1 else m) v∧Frm (fun k=>k=b∨k=g) w w':=by
 by_cases hi0:i=0
 ·subst hi0;rw[if_pos rfl]
  go_enter Tryz.func144,Tryz.ntmps144
  go_wp2_with(first
   |(go_at_call 171;refine(none_some h (by simp)).mono ?_;rintro r w' ⟨rfl,rfl⟩)
   |(go_at_call 173;refine(turned_any _ _).mono ?_;rintro r w' ⟨rfl,rfl⟩)
   |(go_at_call 172;refine(put_no _ _ _ h h0 h1 hn).mono ?_;rintro r w1 ⟨rfl,hb1⟩;obtain⟨cap,hb,hg,hlc,hcm,c0,c1,c2,c3,f1,f2,p1,p2⟩:=head_cells (h.below hb1)))
  go_ret3
  exact⟨rfl,stack_set2 (h.below hb1) _,(Frm.of_below (F:=fun k=>k=b∨k=g) hb1).set (.inl rfl) _⟩
 ·rw[if_neg hi0];have hi1:(i==0)=false:=beq_eq_false_iff_ne.2 hi0
  go_enter Tryz.func144,Tryz.ntmps144
  go_wp2_with(first
   |(go_at_call 171;refine(none_some h (by simp)).mono ?_;rintro r w' ⟨rfl,rfl⟩)
   |(go_at_call 173;refine(turned_any _ _).mono ?_;rintro r w' ⟨rfl,rfl⟩)
   |(go_at_call 172;refine(put_no _ _ _ h h0 h1 hn).mono ?_;rintro r w1 ⟨rfl,hb1⟩;obtain⟨cap,hb,hg,hlc,hcm,c0,c1,c2,c3,f1,f2,p1,p2⟩:=head_cells (h.below hb1)))
  go_ret3
  exact⟨rfl,h.below hb1,Frm.of_below hb1⟩
theorem step_iso21_yes {w:World}{b g:Nat}{e:Ent}{l:List Ent}{i m v:Int}(auto:Int)(h:IsStack w b g (e::l) i m v)
 (hl:l.length≤124) (h0:0≤e.lv) (h1:e.lv≤125) (hn:nextLv true e.lv≤125) (hi:i≤0) (hm:m≤0) (hv:0≤v) (hv2:v≤1152921504606846976):
  Calls Tryz.prog 144 #[.pointer (some ⟨b,0,none⟩),.int .u8 21,.int .i8 auto] w fun r w'=>r= .returned (.tuple #[.int .i8 e.lv,.int .u8 (plainCls 21 e.ov),.bool true])∧
   ∃g',(g'=g∨w.heap.size≤g')∧IsStack w' b g' (⟨nextLv true e.lv,0,true⟩::e::l) i m (v+1)∧Frm (fun k=>k=b∨k=g) w w':=by
 go_enter Tryz.func144,Tryz.ntmps144
 go_wp2_with(first
  |(go_at_call 171;refine(none_some h (by simp)).mono ?_;rintro r w' ⟨rfl,rfl⟩)
  |(go_at_call 174;refine(plain_any _ h).mono ?_;rintro r w0 ⟨rfl,hb0⟩;have h0':=h.below hb0)
  |(go_at_call 172;refine(put_yes _ _ _ h0' hl h0 h1 hn hi hm).mono ?_;rintro r w1 ⟨rfl,g',hg',h2,hf⟩;obtain⟨cap,hb,hg,hlc,hcm,c0,c1,c2,c3,f1,f2,p1,p2⟩:=head_cells h2))
 go_ret3
 have hs:=hb0.size;exact⟨rfl,g',by omega,stack_set3 h2 _,((Frm.of_below (F:=fun k=>k=b∨k=g) hb0).trans hf (fun _ _ h=>h)).set (.inl rfl) _⟩
theorem step_iso21_no {w:World}{b g:Nat}{e:Ent}{l:List Ent}{i m v:Int}(auto:Int)(h:IsStack w b g (e::l) i m v)
 (h0:0≤e.lv) (h1:e.lv≤125) (hn:125<nextLv true e.lv∨0<i∨0<m) (hi:0≤i) (hi2:i≤1152921504606846976):
  Calls Tryz.prog 144 #[.pointer (some ⟨b,0,none⟩),.int .u8 21,.int .i8 auto] w fun r w'=>r= .returned (.tuple #[.int .i8 e.lv,.int .u8 (plainCls 21 e.ov),.bool true])∧
   IsStack w' b g (e::l) (i+1) m v∧Frm (fun k=>k=b∨k=g) w w':=by
 go_enter Tryz.func144,Tryz.ntmps144
 go_wp2_with(first
  |(go_at_call 171;refine(none_some h (by simp)).mono ?_;rintro r w' ⟨rfl,rfl⟩)
  |(go_at_call 174;refine(plain_any _ h).mono ?_;rintro r w0 ⟨rfl,hb0⟩;have h0':=h.below hb0)
  |(go_at_call 172;refine(put_no _ _ _ h0' h0 h1 hn).mono ?_;rintro r w1 ⟨rfl,hb1⟩;obtain⟨cap,hb,hg,hlc,hcm,c0,c1,c2,c3,f1,f2,p1,p2⟩:=head_cells (h0'.below hb1)))
 go_ret3
 exact⟨rfl,stack_set1 (h0'.below hb1) _,((Frm.of_below (F:=fun k=>k=b∨k=g) hb0).trans (Frm.of_below (F:=fun _=>False) hb1) (fun _ _ h=>h.elim)).set (.inl rfl) _⟩
theorem step_iso20_yes {w:World}{b g:Nat}{e:Ent}{l:List Ent}{i m v:Int}(auto:Int)(h:IsStack w b g (e::l) i m v)
 (hl:l.length≤124) (h0:0≤e.lv) (h1:e.lv≤125) (hn:nextLv false e.lv≤125) (hi:i≤0) (hm:m≤0) (hv:0≤v) (hv2:v≤1152921504606846976):
  Calls Tryz.prog 144 #[.pointer (some ⟨b,0,none⟩),.int .u8 20,.int .i8 auto] w fun r w'=>r= .returned (.tuple #[.int .i8 e.lv,.int .u8 (plainCls 20 e.ov),.bool true])∧
   ∃g',(g'=g∨w.heap.size≤g')∧IsStack w' b g' (⟨nextLv false e.lv,0,true⟩::e::l) i m (v+1)∧Frm (fun k=>k=b∨k=g) w w':=by
 go_enter Tryz.func144,Tryz.ntmps144
 go_wp2_with(first
  |(go_at_call 171;refine(none_some h (by simp)).mono ?_;rintro r w' ⟨rfl,rfl⟩)
  |(go_at_call 174;refine(plain_any _ h).mono ?_;rintro r w0 ⟨rfl,hb0⟩;have h0':=h.below hb0)
  |(go_at_call 172;refine(put_yes _ _ _ h0' hl h0 h1 hn hi hm).mono ?_;rintro r w1 ⟨rfl,g',hg',h2,hf⟩;obtain⟨cap,hb,hg,hlc,hcm,c0,c1,c2,c3,f1,f2,p1,p2⟩:=head_cells h2))
 go_ret3
 have hs:=hb0.size;exact⟨rfl,g',by omega,stack_set3 h2 _,((Frm.of_below (F:=fun k=>k=b∨k=g) hb0).trans hf (fun _ _ h=>h)).set (.inl rfl) _⟩
theorem step_iso20_no {w:World}{b g:Nat}{e:Ent}{l:List Ent}{i m v:Int}(auto:Int)(h:IsStack w b g (e::l) i m v)
 (h0:0≤e.lv) (h1:e.lv≤125) (hn:125<nextLv false e.lv∨0<i∨0<m) (hi:0≤i) (hi2:i≤1152921504606846976):
  Calls Tryz.prog 144 #[.pointer (some ⟨b,0,none⟩),.int .u8 20,.int .i8 auto] w fun r w'=>r= .returned (.tuple #[.int .i8 e.lv,.int .u8 (plainCls 20 e.ov),.bool true])∧
   IsStack w' b g (e::l) (i+1) m v∧Frm (fun k=>k=b∨k=g) w w':=by
 go_enter Tryz.func144,Tryz.ntmps144
 go_wp2_with(first
  |(go_at_call 171;refine(none_some h (by simp)).mono ?_;rintro r w' ⟨rfl,rfl⟩)
  |(go_at_call 174;refine(plain_any _ h).mono ?_;rintro r w0 ⟨rfl,hb0⟩;have h0':=h.below hb0)
  |(go_at_call 172;refine(put_no _ _ _ h0' h0 h1 hn).mono ?_;rintro r w1 ⟨rfl,hb1⟩;obtain⟨cap,hb,hg,hlc,hcm,c0,c1,c2,c3,f1,f2,p1,p2⟩:=head_cells (h0'.below hb1)))
 go_ret3
 exact⟨rfl,stack_set1 (h0'.below hb1) _,((Frm.of_below (F:=fun k=>k=b∨k=g) hb0).trans (Frm.of_below (F:=fun _=>False) hb1) (fun _ _ h=>h.elim)).set (.inl rfl) _⟩
theorem step_iso22_yes {w:World}{b g:Nat}{e:Ent}{l:List Ent}{i m v:Int}(auto:Int)(h:IsStack w b g (e::l) i m v)
 (hl:l.length≤124) (h0:0≤e.lv) (h1:e.lv≤125) (hn:nextLv (auto==1) e.lv≤125) (hi:i≤0) (hm:m≤0) (hv:0≤v) (hv2:v≤1152921504606846976):
  Calls Tryz.prog 144 #[.pointer (some ⟨b,0,none⟩),.int .u8 22,.int .i8 auto] w fun r w'=>r= .returned (.tuple #[.int .i8 e.lv,.int .u8 (plainCls 22 e.ov),.bool true])∧
   ∃g',(g'=g∨w.heap.size≤g')∧IsStack w' b g' (⟨nextLv (auto==1) e.lv,0,true⟩::e::l) i m (v+1)∧Frm (fun k=>k=b∨k=g) w w':=by
 go_enter Tryz.func144,Tryz.ntmps144
 go_wp2_with(first
  |(go_at_call 171;refine(none_some h (by simp)).mono ?_;rintro r w' ⟨rfl,rfl⟩)
  |(go_at_call 174;refine(plain_any _ h).mono ?_;rintro r w0 ⟨rfl,hb0⟩;have h0':=h.below hb0)
  |(go_at_call 172;refine(put_yes _ _ _ h0' hl h0 h1 hn hi hm).mono ?_;rintro r w1 ⟨rfl,g',hg',h2,hf⟩;obtain⟨cap,hb,hg,hlc,hcm,c0,c1,c2,c3,f1,f2,p1,p2⟩:=head_cells h2))
 go_ret3
 have hs:=hb0.size;exact⟨rfl,g',by omega,stack_set3 h2 _,((Frm.of_below (F:=fun k=>k=b∨k=g) hb0).trans hf (fun _ _ h=>h)).set (.inl rfl) _⟩
theorem step_iso22_no {w:World}{b g:Nat}{e:Ent}{l:List Ent}{i m v:Int}(auto:Int)(h:IsStack w b g (e::l) i m v)
 (h0:0≤e.lv) (h1:e.lv≤125) (hn:125<nextLv (auto==1) e.lv∨0<i∨0<m) (hi:0≤i) (hi2:i≤1152921504606846976):
  Calls Tryz.prog 144 #[.pointer (some ⟨b,0,none⟩),.int .u8 22,.int .i8 auto] w fun r w'=>r= .returned (.tuple #[.int .i8 e.lv,.int .u8 (plainCls 22 e.ov),.bool true])∧
   IsStack w' b g (e::l) (i+1) m v∧Frm (fun k=>k=b∨k=g) w w':=by
 go_enter Tryz.func144,Tryz.ntmps144
 go_wp2_with(first
  |(go_at_call 171;refine(none_some h (by simp)).mono ?_;rintro r w' ⟨rfl,rfl⟩)
  |(go_at_call 174;refine(plain_any _ h).mono ?_;rintro r w0 ⟨rfl,hb0⟩;have h0':=h.below hb0)
  |(go_at_call 172;refine(put_no _ _ _ h0' h0 h1 hn).mono ?_;rintro r w1 ⟨rfl,hb1⟩;obtain⟨cap,hb,hg,hlc,hcm,c0,c1,c2,c3,f1,f2,p1,p2⟩:=head_cells (h0'.below hb1)))
 go_ret3
 exact⟨rfl,stack_set1 (h0'.below hb1) _,((Frm.of_below (F:=fun k=>k=b∨k=g) hb0).trans (Frm.of_below (F:=fun _=>False) hb1) (fun _ _ h=>h.elim)).set (.inl rfl) _⟩
theorem step_pdi_iso {w:World}{b g:Nat}{e:Ent}{l:List Ent}{i m v:Int}(auto:Int)(h:IsStack w b g (e::l) i m v)(hi:0<i)(hb:i≤1152921504606846976):
 Calls Tryz.prog 144 #[.pointer (some ⟨b,0,none⟩),.int .u8 23,.int .i8 auto] w fun r w'=>r= .returned (.tuple #[.int .i8 e.lv,.int .u8 (plainCls 23 e.ov),.bool true])∧
  IsStack w' b g (e::l) (i-1) m v∧Frm (fun k=>k=b∨k=g) w w':=by
 go_enter Tryz.func144,Tryz.ntmps144
 go_wp2_with(first
  |(go_at_call 171;refine(none_some h (by simp)).mono ?_;rintro r w' ⟨rfl,rfl⟩)
  |(go_at_call 175;refine(pop_iso h hi hb).mono ?_;rintro r w1 ⟨rfl,h1,hf1⟩)
  |(go_at_call 174;refine(plain_any _ h1).mono ?_;rintro r w2 ⟨rfl,hb2⟩))
 go_ret3
 exact⟨rfl,h1.below hb2,(hf1.mono (fun _ _ h=>.inl h)).trans (Frm.of_below (F:=fun _=>False) hb2) (fun _ _ h=>h.elim)⟩
theorem step_pdi_not {w:World}{b g:Nat}{e:Ent}{l:List Ent}{i m v:Int}(auto:Int)(h:IsStack w b g (e::l) i m v)(hi:i≤0)(hv:v≤0):
 Calls Tryz.prog 144 #[.pointer (some ⟨b,0,none⟩),.int .u8 23,.int .i8 auto] w fun r w'=>r= .returned (.tuple #[.int .i8 e.lv,.int .u8 (plainCls 23 e.ov),.bool true])∧
  IsStack w' b g (e::l) i m v∧Frm (fun k=>k=b∨k=g) w w':=by
 go_enter Tryz.func144,Tryz.ntmps144
 go_wp2_with(first
  |(go_at_call 171;refine(none_some h (by simp)).mono ?_;rintro r w' ⟨rfl,rfl⟩)
  |(go_at_call 175;refine(pop_not h hi hv).mono ?_;rintro r w1 ⟨rfl,rfl⟩)
  |(go_at_call 174;refine(plain_any _ h).mono ?_;rintro r w2 ⟨rfl,hb2⟩))
 go_ret3
 exact⟨rfl,h.below hb2,Frm.of_below hb2⟩
theorem step_pdi_val {w:World}{b g:Nat}{e e':Ent}{l l':List Ent}{i m v:Int}(auto:Int)(h:IsStack w b g (e::l) i m v)(hi:i≤0)(hv:0<v)(hv2:v≤1152921504606846976)
 (hl: ∃x∈e::l,x.iso=true) (hp:popTo (e::l)=e'::l'):
 Calls Tryz.prog 144 #[.pointer (some ⟨b,0,none⟩),.int .u8 23,.int .i8 auto] w fun r w'=>r= .returned (.tuple #[.int .i8 e'.lv,.int .u8 (plainCls 23 e'.ov),.bool true])∧
  IsStack w' b g (e'::l') i 0 (v-1)∧Frm (fun k=>k=b∨k=g) w w':=by
 have hp:=Lib.hid hp;have hl:=Lib.hid hl
 go_enter Tryz.func144,Tryz.ntmps144
 go_wp2_with(first
  |(go_at_call 171;refine(none_some h (by simp)).mono ?_;rintro r w' ⟨rfl,rfl⟩)
  |(go_at_call 175;refine(pop_val h hi hv hv2 hl.out).mono ?_;rintro r w1 ⟨rfl,h1,hf1⟩;rw[hp.out]at h1)
  |(go_at_call 174;refine(plain_any _ h1).mono ?_;rintro r w2 ⟨rfl,hb2⟩))
 go_ret3
 exact⟨rfl,h1.below hb2,(hf1.mono (fun _ _ h=>.inl h)).trans (Frm.of_below (F:=fun _=>False) hb2) (fun _ _ h=>h.elim)⟩
theorem step_oth {w:World}{b g:Nat}{e:Ent}{l:List Ent}{i m v:Int}(c auto:Int)(h:IsStack w b g (e::l) i m v)
 (n15:c≠15) (n16:c≠16) (n17:c≠17) (n18:c≠18) (n19:c≠19) (n20:c≠20) (n21:c≠21) (n22:c≠22) (n23:c≠23) (n10:c≠10) (n11:c≠11):
 Calls Tryz.prog 144 #[.pointer (some ⟨b,0,none⟩),.int .u8 c,.int .i8 auto] w fun r w'=>r= .returned (.tuple #[.int .i8 e.lv,.int .u8 (plainCls c e.ov),.bool true])∧
  IsStack w' b g (e::l) i m v∧Frm (fun k=>k=b∨k=g) w w':=by
 go_enter Tryz.func144,Tryz.ntmps144
 go_wp2_with(first
  |(go_at_call 171;refine(none_some h (by simp)).mono ?_;rintro r w' ⟨rfl,rfl⟩)
  |(go_at_call 174;refine(plain_any _ h).mono ?_;rintro r w2 ⟨rfl,hb2⟩))
 go_ret3
 exact⟨rfl,h.below hb2,Frm.of_below hb2⟩
theorem step_bn {w:World}{b g:Nat}{e:Ent}{l:List Ent}{i m v:Int}(auto:Int)(h:IsStack w b g (e::l) i m v):
 Calls Tryz.prog 144 #[.pointer (some ⟨b,0,none⟩),.int .u8 10,.int .i8 auto] w fun r w'=>r= .returned (.tuple #[.int .i8 (-1),.int .u8 10,.bool false])∧
  IsStack w' b g (e::l) i m v∧Frm (fun k=>k=b∨k=g) w w':=by
 go_enter Tryz.func144,Tryz.ntmps144
 go_wp2_with(go_at_call 171;refine(none_some h (by simp)).mono ?_;rintro r w' ⟨rfl,rfl⟩)
 go_ret3
 exact⟨rfl,h,Frm.refl _ _⟩
theorem stack_cut {w:World}{b g cap:Nat}{x:Ent}{l:List Ent}{i m v:Int}(h:IsStack w b g (l++[x]) i m v)
 (p1:Blk w b 221 #[.slice (some ⟨g,0,none⟩) (l++[x]).length cap,.int .i64 i,.int .i64 m,.int .i64 v]) (p2:w.ownsRow 0 218 3 (.slice (some ⟨g,0,none⟩) (l++[x]).length cap) (l++[x]).length (entCells (l++[x]))):IsStack (w.setCell ⟨b,0,none⟩ (.slice (some ⟨g,0,none⟩) 1 cap)) b g [x] i m v∧w.cell? ⟨g,0,none⟩=some (.int .i8 x.lv):=by
 have hne:=h.ne
 have he:entCells (l++[x])=entCells [x]++entCells l:=by simp[entCells]
 rw[he]at p2;refine⟨⟨hne,by simp,cap,by simpa using p1.set_ 0 (.slice (some ⟨g,0,none⟩) 1 cap),?_⟩,?_⟩
 ·refine own_setCell_far ?_ (by simpa using hne.symm) _;exact own_cut p2 (entCells_length [x]) (by simp)
 ·exact p2.cells (g:=g) rfl 0 (.int .i8 x.lv) (by simp[entCells,Ent.cells])
theorem step_b {w:World}{b g:Nat}{l:List Ent}{i m v:Int}(auto base:Int)(h:IsStack w b g (l++[⟨base,0,false⟩]) i m v):
 Calls Tryz.prog 144 #[.pointer (some ⟨b,0,none⟩),.int .u8 11,.int .i8 auto] w fun r w'=>r= .returned (.tuple #[.int .i8 base,.int .u8 11,.bool true])∧
  IsStack w' b g [⟨base,0,false⟩] 0 0 0∧Frm (fun k=>k=b∨k=g) w w':=by
 obtain⟨cap,hb,hg,hlc,hcm,c0,c1,c2,c3,f1,f2,p1,p2⟩:=head_cells h
 have hl0:0<(l++[(⟨base,0,false⟩:Ent)]).length:=by simp
 obtain⟨q1,q2⟩:=stack_cut h p1 p2;have hne:=h.ne;have hne':=h.ne.symm
 go_enter Tryz.func144,Tryz.ntmps144
 go_wp2_with(go_at_call 171;refine(none_some h hl0).mono ?_;rintro r w' ⟨rfl,rfl⟩)
 go_ret3
 exact⟨rfl,stack_set3 (stack_set2 (stack_set1 q1 0) 0) 0,((((Frm.refl (fun k=>k=b∨k=g) w).set (.inl rfl) _).set (.inl rfl) _).set (.inl rfl) _).set (.inl rfl) _⟩
theorem step_pdf_iso {w:World}{b g:Nat}{e:Ent}{l:List Ent}{i m v:Int}(auto:Int)(h:IsStack w b g (e::l) i m v)(hi:0<i):
 Calls Tryz.prog 144 #[.pointer (some ⟨b,0,none⟩),.int .u8 19,.int .i8 auto] w fun r w'=>r= .returned (.tuple #[.int .i8 (-1),.int .u8 19,.bool false])∧
  IsStack w' b g (e::l) i m v∧Frm (fun k=>k=b∨k=g) w w':=by
 obtain⟨cap,hb,hg,hlc,hcm,c0,c1,c2,c3,f1,f2,p1,p2⟩:=head_cells h
 go_enter Tryz.func144,Tryz.ntmps144
 go_wp2_with(go_at_call 171;refine(none_some h (by simp)).mono ?_;rintro r w' ⟨rfl,rfl⟩)
 go_ret3
 exact⟨rfl,h,Frm.refl _ _⟩
theorem step_pdf_emb {w:World}{b g:Nat}{e:Ent}{l:List Ent}{i m v:Int}(auto:Int)(h:IsStack w b g (e::l) i m v)(hi:i≤0)(hm:0<m)(hm2:m≤1152921504606846976):
 Calls Tryz.prog 144 #[.pointer (some ⟨b,0,none⟩),.int .u8 19,.int .i8 auto] w fun r w'=>r= .returned (.tuple #[.int .i8 (-1),.int .u8 19,.bool false])∧
  IsStack w' b g (e::l) i (m-1) v∧Frm (fun k=>k=b∨k=g) w w':=by
 obtain⟨cap,hb,hg,hlc,hcm,c0,c1,c2,c3,f1,f2,p1,p2⟩:=head_cells h
 go_enter Tryz.func144,Tryz.ntmps144
 go_wp2_with(go_at_call 171;refine(none_some h (by simp)).mono ?_;rintro r w' ⟨rfl,rfl⟩)
 go_ret3
 exact⟨rfl,stack_set2 h _,(Frm.refl (fun k=>k=b∨k=g) w).set (.inl rfl) _⟩
theorem step_pdf_one {w:World}{b g:Nat}{e:Ent}{i m v:Int}(auto:Int)(h:IsStack w b g [e] i m v)(hi:i≤0)(hm:m≤0):
 Calls Tryz.prog 144 #[.pointer (some ⟨b,0,none⟩),.int .u8 19,.int .i8 auto] w fun r w'=>r= .returned (.tuple #[.int .i8 (-1),.int .u8 19,.bool false])∧
  IsStack w' b g [e] i m v∧Frm (fun k=>k=b∨k=g) w w':=by
 obtain⟨cap,hb,hg,hlc,hcm,c0,c1,c2,c3,f1,f2,p1,p2⟩:=head_cells h;simp only[List.length_cons,List.length_nil]at c0
 go_enter Tryz.func144,Tryz.ntmps144
 go_wp2_with(go_at_call 171;refine(none_some h (by simp)).mono ?_;rintro r w' ⟨rfl,rfl⟩)
 go_ret3
 exact⟨rfl,h,Frm.refl _ _⟩
theorem step_pdf_keep {w:World}{b g:Nat}{e e':Ent}{l:List Ent}{i m v:Int}(auto:Int)(h:IsStack w b g (e::e'::l) i m v)(hi:i≤0)(hm:m≤0)(he:e.iso=true):
 Calls Tryz.prog 144 #[.pointer (some ⟨b,0,none⟩),.int .u8 19,.int .i8 auto] w fun r w'=>r= .returned (.tuple #[.int .i8 (-1),.int .u8 19,.bool false])∧
  IsStack w' b g (e::e'::l) i m v∧Frm (fun k=>k=b∨k=g) w w':=by
 obtain⟨cap,hb,hg,hlc,hcm,c0,c1,c2,c3,f1,f2,p1,p2⟩:=head_cells h;have hsm:=h.small;simp only[List.length_cons]at c0 hsm
 go_enter Tryz.func144,Tryz.ntmps144
 go_wp2_with(first
  |(go_at_call 171;refine(none_some h (by simp)).mono ?_;rintro r w' ⟨rfl,rfl⟩)
  |(go_at_call 176;refine(last_any h).mono ?_;rintro r w1 ⟨rfl,hb1⟩))
 go_ret3
 exact⟨rfl,h.below hb1,Frm.of_below hb1⟩
theorem step_pdf_off {w:World}{b g:Nat}{e e':Ent}{l:List Ent}{i m v:Int}(auto:Int)(h:IsStack w b g (e::e'::l) i m v)(hi:i≤0)(hm:m≤0)(he:e.iso=false):
 Calls Tryz.prog 144 #[.pointer (some ⟨b,0,none⟩),.int .u8 19,.int .i8 auto] w fun r w'=>r= .returned (.tuple #[.int .i8 (-1),.int .u8 19,.bool false])∧
  IsStack w' b g (e'::l) i m v∧Frm (fun k=>k=b∨k=g) w w':=by
 obtain⟨cap,hb,hg,hlc,hcm,c0,c1,c2,c3,f1,f2,p1,p2⟩:=head_cells h;have hsm:=h.small;simp only[List.length_cons]at c0 hsm
 go_enter Tryz.func144,Tryz.ntmps144
 go_wp2_with(first
  |(go_at_call 171;refine(none_some h (by simp)).mono ?_;rintro r w' ⟨rfl,rfl⟩)
  |(go_at_call 176;refine(last_any h).mono ?_;rintro r w1 ⟨rfl,hb1⟩;obtain⟨cap',hb',hg',hlc',hcm',d0,d1,d2,d3,g1,g2,q1,q2⟩:=head_cells (h.below hb1);simp only[List.length_cons]at d0 hlc'))
 refine wp_region_tail 14 (by kernel_rfl) (by kernel_rfl) ?_;simp only[List.take_succ_cons,List.take_zero,List.drop_succ_cons,List.drop_zero]
 repeat(refine still_plain rfl rfl ?_;intro K hK;go_wp2)
 refine wpStill_nil ?_;go_wp2
 go_ret3
 exact⟨rfl,(stack_off (h.below hb1) q1 q2).drew,((Frm.of_below (F:=fun k=>k=b∨k=g) hb1).set (.inl rfl) _).drew⟩
def StackIs (w:World)(b g:Nat)(s:SS):Prop:=IsStack w b g s.l s.i s.m s.v
def StepOut (w:World)(b g:Nat)(o:Out)(r:Ending)(w':World):Prop:=r= .returned (.tuple #[.int .i8 o.lv,.int .u8 o.cl,.bool o.k])∧ ∃g',(g'=g∨w.heap.size≤g')∧StackIs w' b g' o.s∧Frm (fun k=>k=b∨k=g) w w'
theorem step_same {w:World}{b g:Nat}{o:Out}{r:Ending}{w':World}(h1:r= .returned (.tuple #[.int .i8 o.lv,.int .u8 o.cl,.bool o.k]))(h2:IsStack w' b g o.s.l o.s.i o.s.m o.s.v)(h3:Frm (fun k=>k=b∨k=g) w w'):StepOut w b g o r w':=⟨h1,g,.inl rfl,h2,h3⟩
theorem Step_any {w:World}{b g:Nat}{base:Int}{s:SS}(c auto:Int)(h:StackIs w b g s)(hw:WF base s)(hi:s.i≤1152921504606846976)(hm:s.m≤1152921504606846976):
 Calls Tryz.prog 144 #[.pointer (some ⟨b,0,none⟩),.int .u8 c,.int .i8 auto] w (StepOut w b g (stepS base s c auto)):=by
 obtain⟨sl,si,sm,sv⟩:=s;obtain⟨e,l,hl⟩:=hw.ents.ne;simp only at hl hi hm;subst hl;have he:=hw.ents;obtain⟨t1,t2,t3,t4⟩:=Ents.top hw.hb he;have hi0:=hw.i0;have hm0:=hw.m0;have hv0:=hw.v0;have hvn:=isos_nonneg (e::l);have hvl:=isos_le (e::l);simp only[List.length_cons]at hvl;simp only at hi0 hm0 hv0 he;have hb:=hw.hb;have h:IsStack w b g (e::l) si sm sv:=h
 have hll:l.length≤125:=by omega
 unfold stepS;simp only
 by_cases c17:c=17
 ·subst c17;simp only[reduceIte,Int.reduceEq,embS]
  split
  ·rename_i hx
   have hn:=nextLv_lt true e.lv;exact(step_emb17_yes auto h (by omega) (by omega) t2 hx.1 (by omega) (by omega)).mono fun r w' ⟨h1,g',h2,h3,h4⟩=>⟨h1,g',h2,h3,h4⟩
  ·rename_i hx
   exact(step_emb17_no auto h (by omega) t2 (by omega) hi0 hm0 hm).mono fun r w' ⟨h1,h2,h3⟩=>step_same h1 h2 h3
 rw[if_neg c17]
 by_cases c18:c=18
 ·subst c18;simp only[reduceIte,Int.reduceEq,embS]
  split
  ·rename_i hx
   have hn:=nextLv_lt true e.lv;exact(step_emb18_yes auto h (by omega) (by omega) t2 hx.1 (by omega) (by omega)).mono fun r w' ⟨h1,g',h2,h3,h4⟩=>⟨h1,g',h2,h3,h4⟩
  ·rename_i hx
   exact(step_emb18_no auto h (by omega) t2 (by omega) hi0 hm0 hm).mono fun r w' ⟨h1,h2,h3⟩=>step_same h1 h2 h3
 rw[if_neg c18]
 by_cases c15:c=15
 ·subst c15;simp only[reduceIte,Int.reduceEq,embS]
  split
  ·rename_i hx
   have hn:=nextLv_lt false e.lv;exact(step_emb15_yes auto h (by omega) (by omega) t2 hx.1 (by omega) (by omega)).mono fun r w' ⟨h1,g',h2,h3,h4⟩=>⟨h1,g',h2,h3,h4⟩
  ·rename_i hx
   exact(step_emb15_no auto h (by omega) t2 (by omega) hi0 hm0 hm).mono fun r w' ⟨h1,h2,h3⟩=>step_same h1 h2 h3
 rw[if_neg c15]
 by_cases c16:c=16
 ·subst c16;simp only[reduceIte,Int.reduceEq,embS]
  split
  ·rename_i hx
   have hn:=nextLv_lt false e.lv;exact(step_emb16_yes auto h (by omega) (by omega) t2 hx.1 (by omega) (by omega)).mono fun r w' ⟨h1,g',h2,h3,h4⟩=>⟨h1,g',h2,h3,h4⟩
  ·rename_i hx
   exact(step_emb16_no auto h (by omega) t2 (by omega) hi0 hm0 hm).mono fun r w' ⟨h1,h2,h3⟩=>step_same h1 h2 h3
 rw[if_neg c16]
 by_cases c21:c=21
 ·subst c21;simp only[reduceIte,isoS]
  split
  ·rename_i hx
   have hn:=nextLv_lt true e.lv;exact(step_iso21_yes auto h (by omega) (by omega) t2 hx.1 (by omega) (by omega) (by omega) (by omega)).mono fun r w' ⟨h1,g',h2,h3,h4⟩=>⟨h1,g',h2,h3,h4⟩
  ·rename_i hx
   exact(step_iso21_no auto h (by omega) t2 (by omega) hi0 hi).mono fun r w' ⟨h1,h2,h3⟩=>step_same h1 h2 h3
 rw[if_neg c21]
 by_cases c20:c=20
 ·subst c20;simp only[reduceIte,isoS]
  split
  ·rename_i hx
   have hn:=nextLv_lt false e.lv;exact(step_iso20_yes auto h (by omega) (by omega) t2 hx.1 (by omega) (by omega) (by omega) (by omega)).mono fun r w' ⟨h1,g',h2,h3,h4⟩=>⟨h1,g',h2,h3,h4⟩
  ·rename_i hx
   exact(step_iso20_no auto h (by omega) t2 (by omega) hi0 hi).mono fun r w' ⟨h1,h2,h3⟩=>step_same h1 h2 h3
 rw[if_neg c20]
 by_cases c22:c=22
 ·subst c22;simp only[reduceIte,isoS]
  split
  ·rename_i hx
   have hn:=nextLv_lt (auto==1) e.lv;exact(step_iso22_yes auto h (by omega) (by omega) t2 hx.1 (by omega) (by omega) (by omega) (by omega)).mono fun r w' ⟨h1,g',h2,h3,h4⟩=>⟨h1,g',h2,h3,h4⟩
  ·rename_i hx
   exact(step_iso22_no auto h (by omega) t2 (by omega) hi0 hi).mono fun r w' ⟨h1,h2,h3⟩=>step_same h1 h2 h3
 rw[if_neg c22]
 by_cases c23:c=23
 ·subst c23;simp only[reduceIte,pdiS]
  split
  ·rename_i hx
   exact(step_pdi_iso auto h hx hi).mono fun r w' ⟨h1,h2,h3⟩=>step_same h1 h2 h3
  ·rename_i hx
   split
   ·rename_i hy
    have hp:=(Ents.popTo he (by omega)).1;obtain⟨e',l',hp'⟩:=hp.ne;rw[hp'];exact(step_pdi_val auto h (by omega) hy (by omega) (isos_pos (by omega)) hp').mono fun r w' ⟨h1,h2,h3⟩=>step_same h1 h2 h3
   ·rename_i hy
    exact(step_pdi_not auto h (by omega) (by omega)).mono fun r w' ⟨h1,h2,h3⟩=>step_same h1 h2 h3
 rw[if_neg c23]
 by_cases c19:c=19
 ·subst c19;simp only[reduceIte,pdfS]
  split
  ·rename_i hx
   exact(step_pdf_iso auto h hx).mono fun r w' ⟨h1,h2,h3⟩=>step_same h1 h2 h3
  ·rename_i hx
   split
   ·rename_i hy
    exact(step_pdf_emb auto h (by omega) hy hm).mono fun r w' ⟨h1,h2,h3⟩=>step_same h1 h2 h3
   ·rename_i hy
    cases l with
    |nil=>
     have:(if e.iso=true then(⟨⟨[e],si,sm,sv⟩,-1,19,false⟩:Out)else⟨⟨[e],si,sm,sv⟩,-1,19,false⟩)=⟨⟨[e],si,sm,sv⟩,-1,19,false⟩:=by split<;>rfl
     simp only[this];exact(step_pdf_one auto h (by omega) (by omega)).mono fun r w' ⟨h1,h2,h3⟩=>step_same h1 h2 h3
    |cons e' l'=>
     split
     ·rename_i hz
      exact(step_pdf_keep auto h (by omega) (by omega) hz).mono fun r w' ⟨h1,h2,h3⟩=>step_same h1 h2 h3
     ·rename_i hz
      exact(step_pdf_off auto h (by omega) (by omega) (by simpa using hz)).mono fun r w' ⟨h1,h2,h3⟩=>step_same h1 h2 h3
 rw[if_neg c19]
 by_cases c10:c=10
 ·subst c10;simp only[reduceIte];exact(step_bn auto h).mono fun r w' ⟨h1,h2,h3⟩=>step_same h1 h2 h3
 rw[if_neg c10]
 by_cases c11:c=11
 ·subst c11;simp only[reduceIte];obtain⟨l0,hl0⟩:=he.bottom;rw[hl0]at h;exact(step_b auto base h).mono fun r w' ⟨h1,h2,h3⟩=>step_same h1 h2 h3
 rw[if_neg c11];exact(step_oth c auto h c15 c16 c17 c18 c19 c20 c21 c22 c23 c10 c11).mono fun r w' ⟨h1,h2,h3⟩=>step_same h1 h2 h3
end
section
theorem new_is (w:World)(base:Int):StackIs ((w.alloc (.cells #[.int .i8 base,.int .u8 0,.bool false] 218)).alloc (.cells #[.slice (some ⟨w.heap.size,0,none⟩) 1 1,.int .i64 0,.int .i64 0,.int .i64 0] 221)) (w.heap.size+1) w.heap.size ⟨[⟨base,0,false⟩],0,0,0⟩:=by have B1:=(Blk.new w 218 #[.int .i8 base,.int .u8 0,.bool false]).alloc (.cells #[.slice (some ⟨w.heap.size,0,none⟩) 1 1,.int .i64 0,.int .i64 0,.int .i64 0] 221);have B2:=Blk.new (w.alloc (.cells #[.int .i8 base,.int .u8 0,.bool false] 218)) 221 #[.slice (some ⟨w.heap.size,0,none⟩) 1 1,.int .i64 0,.int .i64 0,.int .i64 0];rw[World.size_alloc]at B2;exact⟨by omega,by simp,1,B2,by simp[entCells,Ent.cells],.inr ⟨_,1,_,rfl,Nat.zero_le _,B1,by simp,by decide,by simp,by simp[entCells,Ent.cells]⟩⟩
theorem New_ok (w:World)(base:Int)(hb:base=0∨base=1):
 Calls Tryz.prog 96 #[.int .i8 base] w fun r w'=>r= .returned (.tuple #[.pointer (some ⟨w.heap.size+1,0,none⟩),.int .i64 0])∧StackIs w' (w.heap.size+1) w.heap.size ⟨[⟨base,0,false⟩],0,0,0⟩∧Below w.heap.size w w':=by
 rcases hb with rfl|rfl
 all_goals
  go_enter Tryz.func96,Tryz.ntmps96
  go_wp2
  go_ret2
  exact⟨rfl,new_is w _,((Below.refl _ _).alloc (Nat.le_refl _) _).alloc (by simp) _⟩
theorem steps_any (w:World)(p:Option Addr)(A:Option Addr)(m c:Nat)(A':Option Addr)(m' c':Nat):
 Calls Tryz.prog 98 #[.pointer p,.slice A m c,.slice A' m' c'] w fun r w'=>r= .returned (.func (.func 143) #[] #[.pointer (some ⟨w.heap.size+1,0,none⟩),.pointer (some ⟨w.heap.size,0,none⟩),.pointer (some ⟨w.heap.size+2,0,none⟩)])∧
  w'=((w.alloc (.cells #[.pointer p] 155)).alloc (.cells #[.slice A m c] 30)).alloc (.cells #[.slice A' m' c'] 31):=by
 go_enter Tryz.func98,Tryz.ntmps98
 go_wp2;go_ret;exact⟨rfl,rfl⟩
end
end Go.Proofs.YtllolnkkepacjaaGreat
