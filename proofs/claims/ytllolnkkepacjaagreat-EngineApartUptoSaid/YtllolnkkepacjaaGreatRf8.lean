/- The reference's stack: Step, isolates. The reference's stack: Step, the rest. The reference's stack: Step at the end of an isolate. The reference's Step, whole: what it does is 'stepS'. -/
import Derived.Test.YtllolnkkepacjaaGreatRf4
import Derived.Test.YtllolnkkepacjaaGreatS12
set_option maxRecDepth 100000
set_option maxHeartbeats 1000000
namespace Go.Proofs.YtllolnkkepacjaaGreat
open Go.RowKit
section
theorem rStep21_yes {w:World}{A:Option Addr}{e:Ent}{l:List Ent}{n c:Nat}{base i m v:Int}(auto:Int)(hn:n=l.length+1)(h:Reads w w.heap.size 3 A n (entCells (e::l)))
 (hl:l.length+1≤125) (h0:0≤e.lv) (h1:e.lv≤125) (hx:nextLv true e.lv≤125) (hi:i=0) (hm:m=0) (hv:0≤v) (hv2:v≤1152921504606846976):
 Calls Tryz.prog 128 #[refV base A n c i m v,.int .u8 21,.int .i8 auto] w (RefOut w A base (⟨nextLv true e.lv,0,true⟩::e::l) i m (v+1) e.lv (plainCls 21 e.ov) true):=by
 subst hn;obtain⟨F0,P3,P6⟩:=rW_facts w base A (l.length+1) c i m v
 have hA0: ∀b off,A=some ⟨b,off,none⟩→b≠w.heap.size+1:=fun b off hA=>by obtain⟨b',off',h1,h2,_⟩:=h.2 (by omega);rw[hA]at h1;injection h1 with h1;injection h1 with h1;omega
 have hx0:0≤nextLv true e.lv:=by unfold nextLv;split<;>omega
 have hI:=Lib.hid hi;have hM:=Lib.hid hm;clear hi hm;generalize hnx:nextLv true e.lv=nx at hx hx0⊢;have HX:=Lib.hid hnx;clear hnx
 go_enter Tryz.func128,Tryz.ntmps128
 go_wp2_with(first
  |(go_at_call 161;refine(rPlain_any _ ((h.alloc _).alloc _) (by omega)).mono ?_;rintro r w0 ⟨rfl,hb0⟩;have R3:=P3.below hb0 P3.lt;have R6:=P6.below hb0 P6.lt;have H0:=F0.trans (hb0.mono F0.size);obtain⟨c0,c1,c2,c3,c4,c5,c6⟩:=R3.c5)
  |(go_at_call 158;refine(rNext_any true (h.below H0 (.inr (Nat.le_refl _))) (by omega) h0 h1).mono ?_;rintro r w1 ⟨rfl,hb1⟩;rw[HX.out];clear c0 c1 c2 c3 c4 c5 c6;have Q3:=R3.below hb1 R3.lt;have Q6:=R6.below hb1 R6.lt;have H1:=H0.trans (hb1.mono H0.size);obtain⟨c0,c1,c2,c3,c4,c5,c6⟩:=Q3.c5)
  |(go_at_call 159;refine(rRoom_yes _ hx hI.out hM.out).mono ?_;rintro r w2 ⟨rfl,hb2⟩;clear c0 c1 c2 c3 c4 c5 c6;have Q3':=Q3.below hb2 Q3.lt;have Q6':=Q6.below hb2 Q6.lt;have H2:=H1.trans (hb2.mono H1.size);obtain⟨c0,c1,c2,c3,c4,c5,c6⟩:=Q3'.c5)
  |(go_at_call 160;refine(rWith_any (e:=⟨nx,0,true⟩) (l:=e::l) rfl ((h.below H2 (.inr (Nat.le_refl _))).setCell (Nat.le_refl _) _) (by simp;omega)).mono ?_;rintro r w3 ⟨g,cap,rfl,hr3,hc3,hg3,hb3⟩;have Q6b:=(Q6'.far (p:=⟨w.heap.size,4,none⟩) (by simp) (.int .i64 (v+1))).below hb3 (by have:=Q6'.lt;simp;omega);have H3:=(H2.setCell (p:=⟨w.heap.size,4,none⟩) (Nat.le_refl _) (.int .i64 (v+1))).trans (hb3.mono (by have:=H2.size;simp;omega));obtain⟨d0,d1,d2,d3,d4,d5,d6⟩:=Q6b.c5))
 obtain⟨W,rfl,QW,hout⟩:=rfin (A0:=A) (base:=base) (i:=i) (m:=m) (v:=v+1) (l:=⟨nx,0,true⟩::e::l) Q6b H3 hr3 (fun b off hA=>by have h6:=Q6'.lt;injection hA with hA;injection hA with hA;simp at hg3;omega) hc3 (.inr ⟨g,rfl,by have hz2:=H2.size;simp at hg3;omega⟩);exact bodyPost_ret (results_row3 rfl _ _ _ _ _ _ rfl QW Tryz.underlying200 rfl (by kernel_rfl)) rfl (hout _ _ _)
theorem rStep21_no {w:World}{A:Option Addr}{e:Ent}{l:List Ent}{n c:Nat}{base i m v:Int}(auto:Int)(hn:n=l.length+1)(h:Reads w w.heap.size 3 A n (entCells (e::l)))(hc:n≤c)
 (hl:l.length+1≤126) (h0:0≤e.lv) (h1:e.lv≤125) (hx:125<nextLv true e.lv∨i≠0∨m≠0) (hi0:0≤i) (hi2:i≤1152921504606846976):
 Calls Tryz.prog 128 #[refV base A n c i m v,.int .u8 21,.int .i8 auto] w (RefOut w A base (e::l) (i+1) m v e.lv (plainCls 21 e.ov) true):=by
 subst hn;obtain⟨F0,P3,P6⟩:=rW_facts w base A (l.length+1) c i m v
 have hA0: ∀b off,A=some ⟨b,off,none⟩→b≠w.heap.size+1:=fun b off hA=>by obtain⟨b',off',h1,h2,_⟩:=h.2 (by omega);rw[hA]at h1;injection h1 with h1;injection h1 with h1;omega
 have hx0:0≤nextLv true e.lv:=by unfold nextLv;split<;>omega
 generalize hnx:nextLv true e.lv=nx at hx hx0⊢;have HX:=Lib.hid hnx;clear hnx;have HXX:=Lib.hid hx;clear hx
 go_enter Tryz.func128,Tryz.ntmps128
 go_wp2_with(first
  |(go_at_call 161;refine(rPlain_any _ ((h.alloc _).alloc _) (by omega)).mono ?_;rintro r w0 ⟨rfl,hb0⟩;have R3:=P3.below hb0 P3.lt;have R6:=P6.below hb0 P6.lt;have H0:=F0.trans (hb0.mono F0.size);obtain⟨c0,c1,c2,c3,c4,c5,c6⟩:=R3.c5)
  |(go_at_call 158;refine(rNext_any true (h.below H0 (.inr (Nat.le_refl _))) (by omega) h0 h1).mono ?_;rintro r w1 ⟨rfl,hb1⟩;rw[HX.out];clear c0 c1 c2 c3 c4 c5 c6;have Q3:=R3.below hb1 R3.lt;have Q6:=R6.below hb1 R6.lt;have H1:=H0.trans (hb1.mono H0.size);obtain⟨c0,c1,c2,c3,c4,c5,c6⟩:=Q3.c5)
  |(go_at_call 159;refine(rRoom_no _ HXX.out).mono ?_;rintro r w2 ⟨rfl,hb2⟩;clear c0 c1 c2 c3 c4 c5 c6;have Q3':=Q3.below hb2 Q3.lt;have Q6':=Q6.below hb2 Q6.lt;have H2:=H1.trans (hb2.mono H1.size);obtain⟨c0,c1,c2,c3,c4,c5,c6⟩:=Q3'.c5;obtain⟨d0,d1,d2,d3,d4,d5,d6⟩:=Q6'.c5))
 have F5:=(Frm.refl (fun k=>k=w.heap.size) w2).set (j:=2) rfl (.int .i64 (i+1))
 obtain⟨W,rfl,QW,hout⟩:=rfin (A0:=A) (base:=base) (A:=A) (c:=c) (i:=i+1) (m:=m) (v:=v) (l:=e::l) (Q6'.far (p:=⟨w.heap.size,2,none⟩) (by simp) (.int .i64 (i+1))) (H2.trans (F5.below H2.size (fun k hk h=>by omega)))
  (by have:=((h.below H2 (.inr (Nat.le_refl _))).frm F5 (fun k hk _ h=>by omega)).more (B':=w2.heap.size) H2.size;simpa using this) hA0 (by simpa using hc) (.inl rfl)
 exact bodyPost_ret (results_row3 rfl _ _ _ _ _ _ rfl QW Tryz.underlying200 rfl (by kernel_rfl)) rfl (hout _ _ _)
theorem rStep20_yes {w:World}{A:Option Addr}{e:Ent}{l:List Ent}{n c:Nat}{base i m v:Int}(auto:Int)(hn:n=l.length+1)(h:Reads w w.heap.size 3 A n (entCells (e::l)))
 (hl:l.length+1≤125) (h0:0≤e.lv) (h1:e.lv≤125) (hx:nextLv false e.lv≤125) (hi:i=0) (hm:m=0) (hv:0≤v) (hv2:v≤1152921504606846976):
 Calls Tryz.prog 128 #[refV base A n c i m v,.int .u8 20,.int .i8 auto] w (RefOut w A base (⟨nextLv false e.lv,0,true⟩::e::l) i m (v+1) e.lv (plainCls 20 e.ov) true):=by
 subst hn;obtain⟨F0,P3,P6⟩:=rW_facts w base A (l.length+1) c i m v
 have hA0: ∀b off,A=some ⟨b,off,none⟩→b≠w.heap.size+1:=fun b off hA=>by obtain⟨b',off',h1,h2,_⟩:=h.2 (by omega);rw[hA]at h1;injection h1 with h1;injection h1 with h1;omega
 have hx0:0≤nextLv false e.lv:=by unfold nextLv;split<;>omega
 have hI:=Lib.hid hi;have hM:=Lib.hid hm;clear hi hm;generalize hnx:nextLv false e.lv=nx at hx hx0⊢;have HX:=Lib.hid hnx;clear hnx
 go_enter Tryz.func128,Tryz.ntmps128
 go_wp2_with(first
  |(go_at_call 161;refine(rPlain_any _ ((h.alloc _).alloc _) (by omega)).mono ?_;rintro r w0 ⟨rfl,hb0⟩;have R3:=P3.below hb0 P3.lt;have R6:=P6.below hb0 P6.lt;have H0:=F0.trans (hb0.mono F0.size);obtain⟨c0,c1,c2,c3,c4,c5,c6⟩:=R3.c5)
  |(go_at_call 158;refine(rNext_any false (h.below H0 (.inr (Nat.le_refl _))) (by omega) h0 h1).mono ?_;rintro r w1 ⟨rfl,hb1⟩;rw[HX.out];clear c0 c1 c2 c3 c4 c5 c6;have Q3:=R3.below hb1 R3.lt;have Q6:=R6.below hb1 R6.lt;have H1:=H0.trans (hb1.mono H0.size);obtain⟨c0,c1,c2,c3,c4,c5,c6⟩:=Q3.c5)
  |(go_at_call 159;refine(rRoom_yes _ hx hI.out hM.out).mono ?_;rintro r w2 ⟨rfl,hb2⟩;clear c0 c1 c2 c3 c4 c5 c6;have Q3':=Q3.below hb2 Q3.lt;have Q6':=Q6.below hb2 Q6.lt;have H2:=H1.trans (hb2.mono H1.size);obtain⟨c0,c1,c2,c3,c4,c5,c6⟩:=Q3'.c5)
  |(go_at_call 160;refine(rWith_any (e:=⟨nx,0,true⟩) (l:=e::l) rfl ((h.below H2 (.inr (Nat.le_refl _))).setCell (Nat.le_refl _) _) (by simp;omega)).mono ?_;rintro r w3 ⟨g,cap,rfl,hr3,hc3,hg3,hb3⟩;have Q6b:=(Q6'.far (p:=⟨w.heap.size,4,none⟩) (by simp) (.int .i64 (v+1))).below hb3 (by have:=Q6'.lt;simp;omega);have H3:=(H2.setCell (p:=⟨w.heap.size,4,none⟩) (Nat.le_refl _) (.int .i64 (v+1))).trans (hb3.mono (by have:=H2.size;simp;omega));obtain⟨d0,d1,d2,d3,d4,d5,d6⟩:=Q6b.c5))
 obtain⟨W,rfl,QW,hout⟩:=rfin (A0:=A) (base:=base) (i:=i) (m:=m) (v:=v+1) (l:=⟨nx,0,true⟩::e::l) Q6b H3 hr3 (fun b off hA=>by have h6:=Q6'.lt;injection hA with hA;injection hA with hA;simp at hg3;omega) hc3 (.inr ⟨g,rfl,by have hz2:=H2.size;simp at hg3;omega⟩);exact bodyPost_ret (results_row3 rfl _ _ _ _ _ _ rfl QW Tryz.underlying200 rfl (by kernel_rfl)) rfl (hout _ _ _)
theorem rStep20_no {w:World}{A:Option Addr}{e:Ent}{l:List Ent}{n c:Nat}{base i m v:Int}(auto:Int)(hn:n=l.length+1)(h:Reads w w.heap.size 3 A n (entCells (e::l)))(hc:n≤c)
 (hl:l.length+1≤126) (h0:0≤e.lv) (h1:e.lv≤125) (hx:125<nextLv false e.lv∨i≠0∨m≠0) (hi0:0≤i) (hi2:i≤1152921504606846976):
 Calls Tryz.prog 128 #[refV base A n c i m v,.int .u8 20,.int .i8 auto] w (RefOut w A base (e::l) (i+1) m v e.lv (plainCls 20 e.ov) true):=by
 subst hn;obtain⟨F0,P3,P6⟩:=rW_facts w base A (l.length+1) c i m v
 have hA0: ∀b off,A=some ⟨b,off,none⟩→b≠w.heap.size+1:=fun b off hA=>by obtain⟨b',off',h1,h2,_⟩:=h.2 (by omega);rw[hA]at h1;injection h1 with h1;injection h1 with h1;omega
 have hx0:0≤nextLv false e.lv:=by unfold nextLv;split<;>omega
 generalize hnx:nextLv false e.lv=nx at hx hx0⊢;have HX:=Lib.hid hnx;clear hnx;have HXX:=Lib.hid hx;clear hx
 go_enter Tryz.func128,Tryz.ntmps128
 go_wp2_with(first
  |(go_at_call 161;refine(rPlain_any _ ((h.alloc _).alloc _) (by omega)).mono ?_;rintro r w0 ⟨rfl,hb0⟩;have R3:=P3.below hb0 P3.lt;have R6:=P6.below hb0 P6.lt;have H0:=F0.trans (hb0.mono F0.size);obtain⟨c0,c1,c2,c3,c4,c5,c6⟩:=R3.c5)
  |(go_at_call 158;refine(rNext_any false (h.below H0 (.inr (Nat.le_refl _))) (by omega) h0 h1).mono ?_;rintro r w1 ⟨rfl,hb1⟩;rw[HX.out];clear c0 c1 c2 c3 c4 c5 c6;have Q3:=R3.below hb1 R3.lt;have Q6:=R6.below hb1 R6.lt;have H1:=H0.trans (hb1.mono H0.size);obtain⟨c0,c1,c2,c3,c4,c5,c6⟩:=Q3.c5)
  |(go_at_call 159;refine(rRoom_no _ HXX.out).mono ?_;rintro r w2 ⟨rfl,hb2⟩;clear c0 c1 c2 c3 c4 c5 c6;have Q3':=Q3.below hb2 Q3.lt;have Q6':=Q6.below hb2 Q6.lt;have H2:=H1.trans (hb2.mono H1.size);obtain⟨c0,c1,c2,c3,c4,c5,c6⟩:=Q3'.c5;obtain⟨d0,d1,d2,d3,d4,d5,d6⟩:=Q6'.c5))
 have F5:=(Frm.refl (fun k=>k=w.heap.size) w2).set (j:=2) rfl (.int .i64 (i+1))
 obtain⟨W,rfl,QW,hout⟩:=rfin (A0:=A) (base:=base) (A:=A) (c:=c) (i:=i+1) (m:=m) (v:=v) (l:=e::l) (Q6'.far (p:=⟨w.heap.size,2,none⟩) (by simp) (.int .i64 (i+1))) (H2.trans (F5.below H2.size (fun k hk h=>by omega)))
  (by have:=((h.below H2 (.inr (Nat.le_refl _))).frm F5 (fun k hk _ h=>by omega)).more (B':=w2.heap.size) H2.size;simpa using this) hA0 (by simpa using hc) (.inl rfl)
 exact bodyPost_ret (results_row3 rfl _ _ _ _ _ _ rfl QW Tryz.underlying200 rfl (by kernel_rfl)) rfl (hout _ _ _)
theorem rStep22_yes {w:World}{A:Option Addr}{e:Ent}{l:List Ent}{n c:Nat}{base i m v:Int}(auto:Int)(hn:n=l.length+1)(h:Reads w w.heap.size 3 A n (entCells (e::l)))
 (hl:l.length+1≤125) (h0:0≤e.lv) (h1:e.lv≤125) (hx:nextLv (auto==1) e.lv≤125) (hi:i=0) (hm:m=0) (hv:0≤v) (hv2:v≤1152921504606846976):
 Calls Tryz.prog 128 #[refV base A n c i m v,.int .u8 22,.int .i8 auto] w (RefOut w A base (⟨nextLv (auto==1) e.lv,0,true⟩::e::l) i m (v+1) e.lv (plainCls 22 e.ov) true):=by
 subst hn;obtain⟨F0,P3,P6⟩:=rW_facts w base A (l.length+1) c i m v
 have hA0: ∀b off,A=some ⟨b,off,none⟩→b≠w.heap.size+1:=fun b off hA=>by obtain⟨b',off',h1,h2,_⟩:=h.2 (by omega);rw[hA]at h1;injection h1 with h1;injection h1 with h1;omega
 have hx0:0≤nextLv (auto==1) e.lv:=by unfold nextLv;split<;>omega
 have hI:=Lib.hid hi;have hM:=Lib.hid hm;clear hi hm;generalize hnx:nextLv (auto==1) e.lv=nx at hx hx0⊢;have HX:=Lib.hid hnx;clear hnx
 go_enter Tryz.func128,Tryz.ntmps128
 go_wp2_with(first
  |(go_at_call 161;refine(rPlain_any _ ((h.alloc _).alloc _) (by omega)).mono ?_;rintro r w0 ⟨rfl,hb0⟩;have R3:=P3.below hb0 P3.lt;have R6:=P6.below hb0 P6.lt;have H0:=F0.trans (hb0.mono F0.size);obtain⟨c0,c1,c2,c3,c4,c5,c6⟩:=R3.c5)
  |(go_at_call 158;refine(rNext_any (auto==1) (h.below H0 (.inr (Nat.le_refl _))) (by omega) h0 h1).mono ?_;rintro r w1 ⟨rfl,hb1⟩;rw[HX.out];clear c0 c1 c2 c3 c4 c5 c6;have Q3:=R3.below hb1 R3.lt;have Q6:=R6.below hb1 R6.lt;have H1:=H0.trans (hb1.mono H0.size);obtain⟨c0,c1,c2,c3,c4,c5,c6⟩:=Q3.c5)
  |(go_at_call 159;refine(rRoom_yes _ hx hI.out hM.out).mono ?_;rintro r w2 ⟨rfl,hb2⟩;clear c0 c1 c2 c3 c4 c5 c6;have Q3':=Q3.below hb2 Q3.lt;have Q6':=Q6.below hb2 Q6.lt;have H2:=H1.trans (hb2.mono H1.size);obtain⟨c0,c1,c2,c3,c4,c5,c6⟩:=Q3'.c5)
  |(go_at_call 160;refine(rWith_any (e:=⟨nx,0,true⟩) (l:=e::l) rfl ((h.below H2 (.inr (Nat.le_refl _))).setCell (Nat.le_refl _) _) (by simp;omega)).mono ?_;rintro r w3 ⟨g,cap,rfl,hr3,hc3,hg3,hb3⟩;have Q6b:=(Q6'.far (p:=⟨w.heap.size,4,none⟩) (by simp) (.int .i64 (v+1))).below hb3 (by have:=Q6'.lt;simp;omega);have H3:=(H2.setCell (p:=⟨w.heap.size,4,none⟩) (Nat.le_refl _) (.int .i64 (v+1))).trans (hb3.mono (by have:=H2.size;simp;omega));obtain⟨d0,d1,d2,d3,d4,d5,d6⟩:=Q6b.c5))
 obtain⟨W,rfl,QW,hout⟩:=rfin (A0:=A) (base:=base) (i:=i) (m:=m) (v:=v+1) (l:=⟨nx,0,true⟩::e::l) Q6b H3 hr3 (fun b off hA=>by have h6:=Q6'.lt;injection hA with hA;injection hA with hA;simp at hg3;omega) hc3 (.inr ⟨g,rfl,by have hz2:=H2.size;simp at hg3;omega⟩);exact bodyPost_ret (results_row3 rfl _ _ _ _ _ _ rfl QW Tryz.underlying200 rfl (by kernel_rfl)) rfl (hout _ _ _)
theorem rStep22_no {w:World}{A:Option Addr}{e:Ent}{l:List Ent}{n c:Nat}{base i m v:Int}(auto:Int)(hn:n=l.length+1)(h:Reads w w.heap.size 3 A n (entCells (e::l)))(hc:n≤c)
 (hl:l.length+1≤126) (h0:0≤e.lv) (h1:e.lv≤125) (hx:125<nextLv (auto==1) e.lv∨i≠0∨m≠0) (hi0:0≤i) (hi2:i≤1152921504606846976):
 Calls Tryz.prog 128 #[refV base A n c i m v,.int .u8 22,.int .i8 auto] w (RefOut w A base (e::l) (i+1) m v e.lv (plainCls 22 e.ov) true):=by
 subst hn;obtain⟨F0,P3,P6⟩:=rW_facts w base A (l.length+1) c i m v
 have hA0: ∀b off,A=some ⟨b,off,none⟩→b≠w.heap.size+1:=fun b off hA=>by obtain⟨b',off',h1,h2,_⟩:=h.2 (by omega);rw[hA]at h1;injection h1 with h1;injection h1 with h1;omega
 have hx0:0≤nextLv (auto==1) e.lv:=by unfold nextLv;split<;>omega
 generalize hnx:nextLv (auto==1) e.lv=nx at hx hx0⊢;have HX:=Lib.hid hnx;clear hnx;have HXX:=Lib.hid hx;clear hx
 go_enter Tryz.func128,Tryz.ntmps128
 go_wp2_with(first
  |(go_at_call 161;refine(rPlain_any _ ((h.alloc _).alloc _) (by omega)).mono ?_;rintro r w0 ⟨rfl,hb0⟩;have R3:=P3.below hb0 P3.lt;have R6:=P6.below hb0 P6.lt;have H0:=F0.trans (hb0.mono F0.size);obtain⟨c0,c1,c2,c3,c4,c5,c6⟩:=R3.c5)
  |(go_at_call 158;refine(rNext_any (auto==1) (h.below H0 (.inr (Nat.le_refl _))) (by omega) h0 h1).mono ?_;rintro r w1 ⟨rfl,hb1⟩;rw[HX.out];clear c0 c1 c2 c3 c4 c5 c6;have Q3:=R3.below hb1 R3.lt;have Q6:=R6.below hb1 R6.lt;have H1:=H0.trans (hb1.mono H0.size);obtain⟨c0,c1,c2,c3,c4,c5,c6⟩:=Q3.c5)
  |(go_at_call 159;refine(rRoom_no _ HXX.out).mono ?_;rintro r w2 ⟨rfl,hb2⟩;clear c0 c1 c2 c3 c4 c5 c6;have Q3':=Q3.below hb2 Q3.lt;have Q6':=Q6.below hb2 Q6.lt;have H2:=H1.trans (hb2.mono H1.size);obtain⟨c0,c1,c2,c3,c4,c5,c6⟩:=Q3'.c5;obtain⟨d0,d1,d2,d3,d4,d5,d6⟩:=Q6'.c5))
 have F5:=(Frm.refl (fun k=>k=w.heap.size) w2).set (j:=2) rfl (.int .i64 (i+1))
 obtain⟨W,rfl,QW,hout⟩:=rfin (A0:=A) (base:=base) (A:=A) (c:=c) (i:=i+1) (m:=m) (v:=v) (l:=e::l) (Q6'.far (p:=⟨w.heap.size,2,none⟩) (by simp) (.int .i64 (i+1))) (H2.trans (F5.below H2.size (fun k hk h=>by omega)))
  (by have:=((h.below H2 (.inr (Nat.le_refl _))).frm F5 (fun k hk _ h=>by omega)).more (B':=w2.heap.size) H2.size;simpa using this) hA0 (by simpa using hc) (.inl rfl)
 exact bodyPost_ret (results_row3 rfl _ _ _ _ _ _ rfl QW Tryz.underlying200 rfl (by kernel_rfl)) rfl (hout _ _ _)
end
section
theorem rfin0 {w w3:World}{base:Int}{A:Option Addr}{l:List Ent}{c:Nat}{i m v:Int}(hw:w3.heap.size=w.heap.size+1)(hb:Below w.heap.size w w3)(hr:Reads w w.heap.size 3 A l.length (entCells l))(hc:l.length≤c):
 Blk (w3.alloc (.cells #[.int .i8 base,.slice A l.length c,.int .i64 i,.int .i64 m,.int .i64 v] 200)) (w.heap.size+1) 200 #[.int .i8 base,.slice A l.length c,.int .i64 i,.int .i64 m,.int .i64 v]∧
  ∀lv cl k,RefOut w A base l i m v lv cl k (.returned (.tuple #[refV base A l.length c i m v,.int .i8 lv,.int .u8 cl,.bool k])) (w3.alloc (.cells #[.int .i8 base,.slice A l.length c,.int .i64 i,.int .i64 m,.int .i64 v] 200)):=by
 have h:=Blk.new w3 200 #[.int .i8 base,.slice A l.length c,.int .i64 i,.int .i64 m,.int .i64 v];rw[hw]at h;refine⟨h,fun lv cl k=>⟨A,c,rfl,?_,hc,hb.alloc hb.size _,.inl rfl⟩⟩;exact((hr.below hb (.inr (Nat.le_refl _))).alloc _).more (by simp;omega)
theorem RefOut.drew {w:World}{A0:Option Addr}{base:Int}{l:List Ent}{i m v lv cl:Int}{k:Bool}{r:Ending}{w':World}(h:RefOut w A0 base l i m v lv cl k r w'):RefOut w A0 base l i m v lv cl k r w'.drew:=by obtain⟨A,c,h1,h2,h3,h4,h5⟩:=h;exact⟨A,c,h1,h2,h3,h4.drew,h5⟩
theorem RefOut.alloc {w:World}{A0:Option Addr}{base:Int}{l:List Ent}{i m v lv cl:Int}{k:Bool}{r:Ending}{w':World}(h:RefOut w A0 base l i m v lv cl k r w')(o:Obj):RefOut w A0 base l i m v lv cl k r (w'.alloc o):=by obtain⟨A,c,h1,h2,h3,h4,h5⟩:=h;exact⟨A,c,h1,(h2.alloc o).more (by simp),h3,h4.alloc h4.size o,h5⟩
theorem box_below (w:World)(o:Obj):Below w.heap.size w (w.alloc o):=(Below.refl _ _).alloc (Nat.le_refl _) _
theorem reads_off {w:World}{B:Nat}{A:Option Addr}{e:Ent}{l:List Ent}(h:Reads w B 3 A (l.length+1) (entCells (e::l))):Reads w B 3 A l.length (entCells l):=by
 refine⟨entCells_length l,fun hn=> ?_⟩;obtain⟨b,off,hA,hb,hs,hc⟩:=h.2 (by omega);refine⟨b,off,hA,hb,hs,fun j u hu=>hc j u ?_⟩;rw[entCells_cons,List.getElem?_append_left ?_]
 ·exact hu
 ·rcases Nat.lt_or_ge j (entCells l).length with h1|h1
  ·exact h1
  ·rw[List.getElem?_eq_none h1]at hu;cases hu
theorem rStep_bn {w:World}{A:Option Addr}{e:Ent}{l:List Ent}{n c:Nat}{base i m v:Int}(auto:Int)(hn:n=l.length+1)(h:Reads w w.heap.size 3 A n (entCells (e::l)))(hc:n≤c)(_hl:l.length+1≤126):
 Calls Tryz.prog 128 #[refV base A n c i m v,.int .u8 10,.int .i8 auto] w (RefOut w A base (e::l) i m v (-1) 10 false):=by
 subst hn
 go_enter Tryz.func128,Tryz.ntmps128
 go_wp2;obtain⟨QW,hout⟩:=rfin0 (base:=base) (c:=c) (i:=i) (m:=m) (v:=v) (l:=e::l) (by simp) (box_below w (.cells #[.int .i8 base,.slice A (l.length+1) c,.int .i64 i,.int .i64 m,.int .i64 v] 200)) h hc;exact bodyPost_ret (results_row3 rfl _ _ _ _ _ _ rfl QW Tryz.underlying200 rfl (by kernel_rfl)) rfl (hout _ _ _)
theorem rStep_pdf_iso {w:World}{A:Option Addr}{e:Ent}{l:List Ent}{n c:Nat}{base i m v:Int}(auto:Int)(hn:n=l.length+1)(h:Reads w w.heap.size 3 A n (entCells (e::l)))(hc:n≤c)(_hl:l.length+1≤126)(hi:0<i):
 Calls Tryz.prog 128 #[refV base A n c i m v,.int .u8 19,.int .i8 auto] w (RefOut w A base (e::l) i m v (-1) 19 false):=by
 subst hn
 go_enter Tryz.func128,Tryz.ntmps128
 go_wp2;obtain⟨QW,hout⟩:=rfin0 (base:=base) (c:=c) (i:=i) (m:=m) (v:=v) (l:=e::l) (by simp) (box_below w (.cells #[.int .i8 base,.slice A (l.length+1) c,.int .i64 i,.int .i64 m,.int .i64 v] 200)) h hc;exact bodyPost_ret (results_row3 rfl _ _ _ _ _ _ rfl QW Tryz.underlying200 rfl (by kernel_rfl)) rfl (hout _ _ _)
theorem rStep_pdf_emb {w:World}{A:Option Addr}{e:Ent}{l:List Ent}{n c:Nat}{base i m v:Int}(auto:Int)(hn:n=l.length+1)(h:Reads w w.heap.size 3 A n (entCells (e::l)))(hc:n≤c)(_hl:l.length+1≤126)(hi:i≤0)(hm:0<m)(hm2:m≤1152921504606846976):
 Calls Tryz.prog 128 #[refV base A n c i m v,.int .u8 19,.int .i8 auto] w (RefOut w A base (e::l) i (m-1) v (-1) 19 false):=by
 subst hn
 go_enter Tryz.func128,Tryz.ntmps128
 go_wp2;obtain⟨QW,hout⟩:=rfin0 (base:=base) (c:=c) (i:=i) (m:=m-1) (v:=v) (l:=e::l) (by simp) (box_below w (.cells #[.int .i8 base,.slice A (l.length+1) c,.int .i64 i,.int .i64 (m-1),.int .i64 v] 200)) h hc;exact bodyPost_ret (results_row3 rfl _ _ _ _ _ _ rfl QW Tryz.underlying200 rfl (by kernel_rfl)) rfl (hout _ _ _)
theorem rStep_pdf_keep {w:World}{A:Option Addr}{e:Ent}{l:List Ent}{n c:Nat}{base i m v:Int}(auto:Int)(hn:n=l.length+1)(h:Reads w w.heap.size 3 A n (entCells (e::l)))(hc:n≤c)(hl:l.length+1≤126)(hi:i≤0)(hm:m≤0)(hk:e.iso=true∨l=[]):
 Calls Tryz.prog 128 #[refV base A n c i m v,.int .u8 19,.int .i8 auto] w (RefOut w A base (e::l) i m v (-1) 19 false):=by
 subst hn;obtain⟨F0,P3,P6⟩:=rW_facts w base A (l.length+1) c i m v
 have hA0: ∀b off,A=some ⟨b,off,none⟩→b≠w.heap.size+1:=fun b off hA=>by obtain⟨b',off',h1,h2,_⟩:=h.2 (by omega);rw[hA]at h1;injection h1 with h1;injection h1 with h1;omega
 by_cases he:e.iso=true
 ·clear hk
  go_enter Tryz.func128,Tryz.ntmps128
  go_wp2_with(go_at_call 162;refine(rLast_any ((h.alloc _).alloc _) (by omega)).mono ?_;rintro r w0 ⟨rfl,hb0⟩;have R3:=P3.below hb0 P3.lt;have R6:=P6.below hb0 P6.lt;have H0:=F0.trans (hb0.mono F0.size);obtain⟨c0,c1,c2,c3,c4,c5,c6⟩:=R3.c5;obtain⟨d0,d1,d2,d3,d4,d5,d6⟩:=R6.c5)
  obtain⟨W,rfl,QW,hout⟩:=rfin (A0:=A) (base:=base) (A:=A) (c:=c) (i:=i) (m:=m) (v:=v) (l:=e::l) R6 H0
   (by have:=(h.below H0 (.inr (Nat.le_refl _))).more (B':=w0.heap.size) H0.size;simpa using this) hA0 (by simpa using hc) (.inl rfl)
  exact bodyPost_ret (results_row3 rfl _ _ _ _ _ _ rfl QW Tryz.underlying200 rfl (by kernel_rfl)) rfl (hout _ _ _)
 ·have hl0:l=[]:=hk.resolve_left he
  have he:e.iso=false:=by simpa using he
  subst hl0;clear hk;simp only[List.length_nil,Nat.zero_add]at*
  go_enter Tryz.func128,Tryz.ntmps128
  go_wp2_with(go_at_call 162;refine(rLast_any (l:=[]) ((h.alloc _).alloc _) (by simp)).mono ?_;rintro r w0 ⟨rfl,hb0⟩;have R3:=P3.below hb0 P3.lt;have R6:=P6.below hb0 P6.lt;have H0:=F0.trans (hb0.mono F0.size);obtain⟨c0,c1,c2,c3,c4,c5,c6⟩:=R3.c5;obtain⟨d0,d1,d2,d3,d4,d5,d6⟩:=R6.c5)
  obtain⟨W,rfl,QW,hout⟩:=rfin (A0:=A) (base:=base) (A:=A) (c:=c) (i:=i) (m:=m) (v:=v) (l:=[e]) R6 H0
   (by have:=(h.below H0 (.inr (Nat.le_refl _))).more (B':=w0.heap.size) H0.size;simpa using this) hA0 (by simpa using hc) (.inl rfl)
  exact bodyPost_ret (results_row3 rfl _ _ _ _ _ _ rfl QW Tryz.underlying200 rfl (by kernel_rfl)) rfl (hout _ _ _)
theorem rStep_pdf_off {w:World}{A:Option Addr}{e:Ent}{l:List Ent}{n c:Nat}{base i m v:Int}(auto:Int)(hn:n=l.length+1)(h:Reads w w.heap.size 3 A n (entCells (e::l)))(hc:n≤c)(hl:l.length+1≤126)(hi:i≤0)(hm:m≤0)(he:e.iso=false)(hl2:0<l.length):
 Calls Tryz.prog 128 #[refV base A n c i m v,.int .u8 19,.int .i8 auto] w (RefOut w A base l i m v (-1) 19 false):=by
 subst hn;obtain⟨F0,P3,P6⟩:=rW_facts w base A (l.length+1) c i m v
 have hA0: ∀b off,A=some ⟨b,off,none⟩→b≠w.heap.size+1:=fun b off hA=>by obtain⟨b',off',h1,h2,_⟩:=h.2 (by omega);rw[hA]at h1;injection h1 with h1;injection h1 with h1;omega
 go_enter Tryz.func128,Tryz.ntmps128
 go_wp2_with(go_at_call 162;refine(rLast_any ((h.alloc _).alloc _) (by omega)).mono ?_;rintro r w0 ⟨rfl,hb0⟩;have R3:=P3.below hb0 P3.lt;have R6:=P6.below hb0 P6.lt;have H0:=F0.trans (hb0.mono F0.size);obtain⟨c0,c1,c2,c3,c4,c5,c6⟩:=R3.c5;obtain⟨d0,d1,d2,d3,d4,d5,d6⟩:=R6.c5)
 have F5:=(Frm.refl (fun k=>k=w.heap.size) w0).set (j:=1) rfl (.slice A l.length c)
 obtain⟨W,rfl,QW,hout⟩:=rfin (A0:=A) (base:=base) (A:=A) (c:=c) (i:=i) (m:=m) (v:=v) (l:=l) (R6.far (p:=⟨w.heap.size,1,none⟩) (by simp) (.slice A l.length c)) (H0.trans (F5.below H0.size (fun k hk h=>by omega)))
  (by have:=((reads_off (h.below H0 (.inr (Nat.le_refl _)))).frm F5 (fun k hk _ h=>by omega)).more (B':=w0.heap.size) H0.size;simpa using this) hA0 (by omega) (.inl rfl)
 exact bodyPost_ret (results_row3 rfl _ _ _ _ _ _ rfl QW Tryz.underlying200 rfl (by kernel_rfl)) rfl (hout _ _ _)
theorem rStep_oth {w:World}{A:Option Addr}{e:Ent}{l:List Ent}{n c:Nat}{base i m v:Int}(auto:Int)(hn:n=l.length+1)(h:Reads w w.heap.size 3 A n (entCells (e::l)))(hc:n≤c)(hl:l.length+1≤126)(cl:Int)
 (n15:cl≠15) (n16:cl≠16) (n17:cl≠17) (n18:cl≠18) (n19:cl≠19) (n20:cl≠20) (n21:cl≠21) (n22:cl≠22) (n23:cl≠23) (n10:cl≠10) (n11:cl≠11):
 Calls Tryz.prog 128 #[refV base A n c i m v,.int .u8 cl,.int .i8 auto] w (RefOut w A base (e::l) i m v e.lv (plainCls cl e.ov) true):=by
 subst hn;obtain⟨F0,P3,P6⟩:=rW_facts w base A (l.length+1) c i m v
 have hA0: ∀b off,A=some ⟨b,off,none⟩→b≠w.heap.size+1:=fun b off hA=>by obtain⟨b',off',h1,h2,_⟩:=h.2 (by omega);rw[hA]at h1;injection h1 with h1;injection h1 with h1;omega
 go_enter Tryz.func128,Tryz.ntmps128
 go_wp2_with(go_at_call 161;refine(rPlain_any _ ((h.alloc _).alloc _) (by omega)).mono ?_;rintro r w0 ⟨rfl,hb0⟩;have R3:=P3.below hb0 P3.lt;have R6:=P6.below hb0 P6.lt;have H0:=F0.trans (hb0.mono F0.size);obtain⟨c0,c1,c2,c3,c4,c5,c6⟩:=R3.c5;obtain⟨d0,d1,d2,d3,d4,d5,d6⟩:=R6.c5)
 obtain⟨W,rfl,QW,hout⟩:=rfin (A0:=A) (base:=base) (A:=A) (c:=c) (i:=i) (m:=m) (v:=v) (l:=e::l) R6 H0
  (by have:=(h.below H0 (.inr (Nat.le_refl _))).more (B':=w0.heap.size) H0.size;simpa using this) hA0 (by simpa using hc) (.inl rfl)
 exact bodyPost_ret (results_row3 rfl _ _ _ _ _ _ rfl QW Tryz.underlying200 rfl (by kernel_rfl)) rfl (hout _ _ _)
theorem rStep_pdi_not {w:World}{A:Option Addr}{e:Ent}{l:List Ent}{n c:Nat}{base i m v:Int}(auto:Int)(hn:n=l.length+1)(h:Reads w w.heap.size 3 A n (entCells (e::l)))(hc:n≤c)(hl:l.length+1≤126)(hi:i≤0)(hv:v≤0):
 Calls Tryz.prog 128 #[refV base A n c i m v,.int .u8 23,.int .i8 auto] w (RefOut w A base (e::l) i m v e.lv (plainCls 23 e.ov) true):=by
 subst hn;obtain⟨F0,P3,P6⟩:=rW_facts w base A (l.length+1) c i m v
 have hA0: ∀b off,A=some ⟨b,off,none⟩→b≠w.heap.size+1:=fun b off hA=>by obtain⟨b',off',h1,h2,_⟩:=h.2 (by omega);rw[hA]at h1;injection h1 with h1;injection h1 with h1;omega
 go_enter Tryz.func128,Tryz.ntmps128
 go_wp2_with(go_at_call 161;refine(rPlain_any _ ((h.alloc _).alloc _) (by omega)).mono ?_;rintro r w0 ⟨rfl,hb0⟩;have R3:=P3.below hb0 P3.lt;have R6:=P6.below hb0 P6.lt;have H0:=F0.trans (hb0.mono F0.size);obtain⟨c0,c1,c2,c3,c4,c5,c6⟩:=R3.c5;obtain⟨d0,d1,d2,d3,d4,d5,d6⟩:=R6.c5)
 obtain⟨W,rfl,QW,hout⟩:=rfin (A0:=A) (base:=base) (A:=A) (c:=c) (i:=i) (m:=m) (v:=v) (l:=e::l) R6 H0
  (by have:=(h.below H0 (.inr (Nat.le_refl _))).more (B':=w0.heap.size) H0.size;simpa using this) hA0 (by simpa using hc) (.inl rfl)
 exact bodyPost_ret (results_row3 rfl _ _ _ _ _ _ rfl QW Tryz.underlying200 rfl (by kernel_rfl)) rfl (hout _ _ _)
theorem rStep_pdi_iso {w:World}{A:Option Addr}{e:Ent}{l:List Ent}{n c:Nat}{base i m v:Int}(auto:Int)(hn:n=l.length+1)(h:Reads w w.heap.size 3 A n (entCells (e::l)))(hc:n≤c)(hl:l.length+1≤126)(hi:0<i)(hi2:i≤1152921504606846976):
 Calls Tryz.prog 128 #[refV base A n c i m v,.int .u8 23,.int .i8 auto] w (RefOut w A base (e::l) (i-1) m v e.lv (plainCls 23 e.ov) true):=by
 subst hn;obtain⟨F0,P3,P6⟩:=rW_facts w base A (l.length+1) c (i-1) m v
 have hA0: ∀b off,A=some ⟨b,off,none⟩→b≠w.heap.size+1:=fun b off hA=>by obtain⟨b',off',h1,h2,_⟩:=h.2 (by omega);rw[hA]at h1;injection h1 with h1;injection h1 with h1;omega
 go_enter Tryz.func128,Tryz.ntmps128
 go_wp2_with(go_at_call 161;refine(rPlain_any _ ((h.alloc _).alloc _) (by omega)).mono ?_;rintro r w0 ⟨rfl,hb0⟩;have R3:=P3.below hb0 P3.lt;have R6:=P6.below hb0 P6.lt;have H0:=F0.trans (hb0.mono F0.size);obtain⟨c0,c1,c2,c3,c4,c5,c6⟩:=R3.c5;obtain⟨d0,d1,d2,d3,d4,d5,d6⟩:=R6.c5)
 obtain⟨W,rfl,QW,hout⟩:=rfin (A0:=A) (base:=base) (A:=A) (c:=c) (i:=i-1) (m:=m) (v:=v) (l:=e::l) R6 H0
  (by have:=(h.below H0 (.inr (Nat.le_refl _))).more (B':=w0.heap.size) H0.size;simpa using this) hA0 (by simpa using hc) (.inl rfl)
 exact bodyPost_ret (results_row3 rfl _ _ _ _ _ _ rfl QW Tryz.underlying200 rfl (by kernel_rfl)) rfl (hout _ _ _)
theorem rStep_b {w:World}{A:Option Addr}{n c:Nat}{base i m v:Int}(auto:Int)(hb:base=0∨base=1):
 Calls Tryz.prog 128 #[refV base A n c i m v,.int .u8 11,.int .i8 auto] w (RefOut w A base [⟨base,0,false⟩] 0 0 0 base 11 true):=by
 obtain⟨F0,P3,P6⟩:=rW_facts w base A n c i m v
 go_enter Tryz.func128,Tryz.ntmps128
 go_wp2_with(go_at_call 125;refine(rNew_ok _ base hb).mono ?_;rintro r w0 ⟨g,rfl,hr,hg0,hg1,hb0⟩;have R3:=P3.below hb0 P3.lt;have R6:=P6.below hb0 P6.lt;have H0:=F0.trans (hb0.mono F0.size);obtain⟨c0,c1,c2,c3,c4,c5,c6⟩:=R3.c5;obtain⟨d0,d1,d2,d3,d4,d5,d6⟩:=R6.c5)
 go_region
 all_goals go_wp2
 obtain⟨W,rfl,QW,hout⟩:=rfin (A0:=A) (base:=base) (A:=some ⟨g,0,none⟩) (c:=1) (i:=0) (m:=0) (v:=0) (l:=[⟨base,0,false⟩]) R6 H0 hr (fun b off hA=>by injection hA with hA;injection hA with hA;simp at hg0;omega) (by simp) (.inr ⟨g,rfl,by simp at hg0;omega⟩);exact bodyPost_ret (results_row3 rfl _ _ _ _ _ _ rfl (QW.alloc _).drew Tryz.underlying200 rfl (by kernel_rfl)) rfl (RefOut.drew (RefOut.alloc (hout _ _ _) _))
end
section
theorem rLast_n {w:World}{B:Nat}{A:Option Addr}{e:Ent}{l:List Ent}{n c:Nat}{base i m v:Int}(hn:n=l.length+1)(h:Reads w B 3 A n (entCells (e::l)))(hs:n≤126):
 Calls Tryz.prog 162 #[refV base A n c i m v] w fun r w'=>r= .returned (.agg #[.int .i8 e.lv,.int .u8 e.ov,.bool e.iso])∧Below w.heap.size w w':=by
 subst hn;exact rLast_any h hs
theorem rStep_pdi_val {w:World}{A:Option Addr}{e:Ent}{l:List Ent}{n c:Nat}{base i m v:Int}(auto:Int)(hn:n=l.length+1)(h:Reads w w.heap.size 3 A n (entCells (e::l)))(hc:n≤c)(hl:l.length+1≤126)(hi:i≤0)(hv:0<v)(hv2:v≤1152921504606846976)
 (hx: ∃x∈e::l,x.iso=true) {e':Ent} {l':List Ent} (hp:popTo (e::l)=e'::l'):
 Calls Tryz.prog 128 #[refV base A n c i m v,.int .u8 23,.int .i8 auto] w (RefOut w A base (e'::l') i 0 (v-1) e'.lv (plainCls 23 e'.ov) true):=by
 subst hn
 have hA0: ∀b off,A=some ⟨b,off,none⟩→b≠w.heap.size+1:=fun b off hA=>by obtain⟨b',off',h1,h2,_⟩:=h.2 (by omega);rw[hA]at h1;injection h1 with h1;injection h1 with h1;omega
 obtain⟨F0,P3,P6⟩:=rW_facts w base A (l.length+1) c i 0 v;have hx:=Lib.hid hx;have hp:=Lib.hid hp
 go_enter Tryz.func128,Tryz.ntmps128
 go_wp2_with fail
 go_loopg [] l.length (fun k wr=> ∃x l1,popTo (x::l1)=popTo (e::l)∧(∃y∈x::l1,y.iso=true)∧l1.length=k∧l1.length+1≤126∧l1.length+1≤c∧Reads wr w.heap.size 3 A (l1.length+1) (entCells (x::l1))∧
  Blk wr w.heap.size 200 #[.int .i8 base,.slice A (l1.length+1) c,.int .i64 i,.int .i64 0,.int .i64 v]∧Blk wr (w.heap.size+1) 200 #[.int .i8 0,.slice none 0 0,.int .i64 0,.int .i64 0,.int .i64 0]∧Below w.heap.size w wr)
 case atStart=>exact⟨e,l,rfl,hx.out,rfl,hl,hc,(h.alloc _).alloc _,P3,P6,F0⟩
 case round=>
  obtain⟨x,l1,e1,e2,e3,hl1,hc1,hr,R3,R6,H0⟩:=hrel;have E1:=Lib.hid e1;have E3:=Lib.hid e3;clear e1 e3;obtain⟨c0,c1,c2,c3,c4,c5,c6⟩:=R3.c5
  by_cases he:x.iso=true
  ·have hpx:l1=e'::l':=by have:=E1.out;rw[hp.out]at this;simpa[popTo,he]using this
   have HP:=Lib.hid hpx;clear hpx
   go_wp2_with(first
    |(go_at_call 162;refine(rLast_any hr (by omega)).mono ?_;rintro r w0 ⟨rfl,hb0⟩;have S3:=R3.below hb0 R3.lt;have S6:=R6.below hb0 R6.lt;have H1:=H0.trans (hb0.mono H0.size);clear c0 c1 c2 c3 c4 c5 c6;obtain⟨c0,c1,c2,c3,c4,c5,c6⟩:=S3.c5)
    |fail)
   clear c0 c1 c2 c3 c4 c5 c6;have HP:=HP.out;subst HP;simp only[List.length_cons]at hr S3 hl1 hc1⊢;have F5:=((Frm.refl (fun k=>k=w.heap.size) w0).set (j:=1) rfl (.slice A (l'.length+1) c)).set (j:=4) rfl (.int .i64 (v-1));have H2:=H1.trans (F5.below H1.size (fun k hk h=>by omega));have hr2:=(reads_off (hr.below hb0 (.inr (Nat.le_refl _)))).frm F5 (fun k hk _ h=>by omega);have T3:=(S3.set_ 1 (.slice A (l'.length+1) c)).set_ 4 (.int .i64 (v-1));have T6:=(S6.far (p:=⟨w.heap.size,1,none⟩) (by simp) (.slice A (l'.length+1) c)).far (p:=⟨w.heap.size,4,none⟩) (by simp) (.int .i64 (v-1));simp only[List.setIfInBounds_toArray,List.set_cons_succ,List.set_cons_zero]at T3;simp only[List.length_cons]at hr2;clear hr S3 S6;obtain⟨c0,c1,c2,c3,c4,c5,c6⟩:=T3.c5;refine(rPlain_any _ hr2 (by omega)).mono ?_;rintro r w4 ⟨rfl,hb4⟩;have S3:=T3.below hb4 T3.lt;have S6:=T6.below hb4 T6.lt;have H4:=H2.trans (hb4.mono H2.size);clear c0 c1 c2 c3 c4 c5 c6;obtain⟨c0,c1,c2,c3,c4,c5,c6⟩:=S3.c5;obtain⟨d0,d1,d2,d3,d4,d5,d6⟩:=S6.c5;go_wp2
   obtain⟨W,rfl,QW,hout⟩:=rfin (A0:=A) (base:=base) (A:=A) (c:=c) (i:=i) (m:=0) (v:=v-1) (l:=e'::l') S6 H4
    (by have:=(hr2.below hb4 (.inr (Nat.le_refl _))).more (B':=w4.heap.size) H4.size;simpa using this) hA0 (by simp;omega) (.inl rfl)
   exact bodyPost_ret (results_row3 rfl _ _ _ _ _ _ rfl QW Tryz.underlying200 rfl (by kernel_rfl)) rfl (hout _ _ _)
  ·have he:x.iso=false:=by simpa using he
   rcases l1 with _|⟨x',l1⟩
   ·exact absurd e2 (by simp[he])
   ·simp only[List.length_cons]at R3 hl1 hc1 hr c1
    have e2': ∃y∈x'::l1,y.iso=true:=by
     obtain⟨y,hy,hi⟩:=e2
     rcases List.mem_cons.1 hy with rfl|hy
     ·rw[he]at hi;cases hi
     ·exact⟨y,hy,hi⟩
    clear e2
    go_wp2_with(go_at_call 162;refine(rLast_n (l:=x'::l1) (n:=l1.length+1+1) (by simp) hr (by omega)).mono ?_;rintro r w0 ⟨rfl,hb0⟩;have S3:=R3.below hb0 R3.lt;have S6:=R6.below hb0 R6.lt;have H1:=H0.trans (hb0.mono H0.size);clear c0 c1 c2 c3 c4 c5 c6;obtain⟨c0,c1,c2,c3,c4,c5,c6⟩:=S3.c5)
    go_roundg l1.length
    case rel=>
     have F5:=(Frm.refl (fun k=>k=w.heap.size) w0).set (j:=1) rfl (.slice A (l1.length+1) c);refine⟨x',l1,?_,e2',rfl,by omega,by omega,?_,?_,?_,?_⟩
     ·rw[←E1.out];simp[popTo,he]
     ·exact(reads_off (hr.below hb0 (.inr (Nat.le_refl _)))).frm F5 (fun k hk _ h=>by omega)
     ·exact S3.set_ 1 (.slice A (l1.length+1) c)
     ·exact S6.far (p:=⟨w.heap.size,1,none⟩) (by simp) _
     ·exact H1.trans (F5.below H1.size (fun k hk h=>by omega))
    case measure=>rw[←E3.out];simp
end
section
def RefIs (w:World)(_base:Int)(A:Option Addr)(n c:Nat)(s:SS):Prop:=n=s.l.length∧Reads w w.heap.size 3 A n (entCells s.l)∧n≤c
abbrev refOf (base:Int) (A:Option Addr) (n c:Nat) (s:SS):Value:=refV base A n c s.i s.m s.v
def RStepOut (w:World)(A0:Option Addr)(base:Int)(o:Out)(r:Ending)(w':World):Prop:= ∃A n c,r= .returned (.tuple #[refOf base A n c o.s,.int .i8 o.lv,.int .u8 o.cl,.bool o.k])∧RefIs w' base A n c o.s∧Below w.heap.size w w'∧(A=A0∨ ∃g,A=some ⟨g,0,none⟩∧w.heap.size≤g)
theorem rstep_of {w:World}{A0:Option Addr}{base:Int}{o:Out}{r:Ending}{w':World}(h:RefOut w A0 base o.s.l o.s.i o.s.m o.s.v o.lv o.cl o.k r w'):RStepOut w A0 base o r w':=by obtain⟨A,c,h1,h2,h3,h4⟩:=h;exact⟨A,o.s.l.length,c,h1,⟨rfl,h2,h3⟩,h4⟩
theorem RStep_any {w:World}{base:Int}{A:Option Addr}{n c0:Nat}{s:SS}(c auto:Int)(h:RefIs w base A n c0 s)(hw:WF base s)(hi:s.i≤1152921504606846976)(hm:s.m≤1152921504606846976):
 Calls Tryz.prog 128 #[refOf base A n c0 s,.int .u8 c,.int .i8 auto] w (RStepOut w A base (stepS base s c auto)):=by
 obtain⟨sl,si,sm,sv⟩:=s;obtain⟨hn,h,hc0⟩:=h;obtain⟨e,l,hl⟩:=hw.ents.ne;simp only at hl hi hm hn h;subst hl;have he:=hw.ents;obtain⟨t1,t2,t3,t4⟩:=Ents.top hw.hb he;have hi0:=hw.i0;have hm0:=hw.m0;have hv0:=hw.v0;have hvn:=isos_nonneg (e::l);have hvl:=isos_le (e::l);simp only[List.length_cons]at hvl hn;simp only at hi0 hm0 hv0 he;have hb:=hw.hb
 have hll:l.length≤125:=by omega
 unfold stepS;simp only
 by_cases c17:c=17
 ·subst c17;simp only[reduceIte,Int.reduceEq,embS]
  split
  ·rename_i hx
   have hn':=nextLv_lt true e.lv;exact(rStep17_yes (i:=si) (m:=sm) (v:=sv) auto hn h (by omega) (by omega) t2 hx.1 hx.2.1 hx.2.2).mono fun r w' h1=>rstep_of h1
  ·rename_i hx
   exact(rStep17_no (i:=si) (m:=sm) (v:=sv) auto hn h hc0 (by omega) (by omega) t2 (show 125<nextLv true e.lv∨si≠0∨sm≠0 by omega) hm0 hm).mono fun r w' h1=>rstep_of h1
 rw[if_neg c17]
 by_cases c18:c=18
 ·subst c18;simp only[reduceIte,Int.reduceEq,embS]
  split
  ·rename_i hx
   have hn':=nextLv_lt true e.lv;exact(rStep18_yes (i:=si) (m:=sm) (v:=sv) auto hn h (by omega) (by omega) t2 hx.1 hx.2.1 hx.2.2).mono fun r w' h1=>rstep_of h1
  ·rename_i hx
   exact(rStep18_no (i:=si) (m:=sm) (v:=sv) auto hn h hc0 (by omega) (by omega) t2 (show 125<nextLv true e.lv∨si≠0∨sm≠0 by omega) hm0 hm).mono fun r w' h1=>rstep_of h1
 rw[if_neg c18]
 by_cases c15:c=15
 ·subst c15;simp only[reduceIte,Int.reduceEq,embS]
  split
  ·rename_i hx
   have hn':=nextLv_lt false e.lv;exact(rStep15_yes (i:=si) (m:=sm) (v:=sv) auto hn h (by omega) (by omega) t2 hx.1 hx.2.1 hx.2.2).mono fun r w' h1=>rstep_of h1
  ·rename_i hx
   exact(rStep15_no (i:=si) (m:=sm) (v:=sv) auto hn h hc0 (by omega) (by omega) t2 (show 125<nextLv false e.lv∨si≠0∨sm≠0 by omega) hm0 hm).mono fun r w' h1=>rstep_of h1
 rw[if_neg c15]
 by_cases c16:c=16
 ·subst c16;simp only[reduceIte,Int.reduceEq,embS]
  split
  ·rename_i hx
   have hn':=nextLv_lt false e.lv;exact(rStep16_yes (i:=si) (m:=sm) (v:=sv) auto hn h (by omega) (by omega) t2 hx.1 hx.2.1 hx.2.2).mono fun r w' h1=>rstep_of h1
  ·rename_i hx
   exact(rStep16_no (i:=si) (m:=sm) (v:=sv) auto hn h hc0 (by omega) (by omega) t2 (show 125<nextLv false e.lv∨si≠0∨sm≠0 by omega) hm0 hm).mono fun r w' h1=>rstep_of h1
 rw[if_neg c16]
 by_cases c21:c=21
 ·subst c21;simp only[reduceIte,isoS]
  split
  ·rename_i hx
   have hn':=nextLv_lt true e.lv;exact(rStep21_yes (i:=si) (m:=sm) (v:=sv) auto hn h (by omega) (by omega) t2 hx.1 hx.2.1 hx.2.2 (by omega) (by omega)).mono fun r w' h1=>rstep_of h1
  ·rename_i hx
   exact(rStep21_no (i:=si) (m:=sm) (v:=sv) auto hn h hc0 (by omega) (by omega) t2 (show 125<nextLv true e.lv∨si≠0∨sm≠0 by omega) hi0 hi).mono fun r w' h1=>rstep_of h1
 rw[if_neg c21]
 by_cases c20:c=20
 ·subst c20;simp only[reduceIte,isoS]
  split
  ·rename_i hx
   have hn':=nextLv_lt false e.lv;exact(rStep20_yes (i:=si) (m:=sm) (v:=sv) auto hn h (by omega) (by omega) t2 hx.1 hx.2.1 hx.2.2 (by omega) (by omega)).mono fun r w' h1=>rstep_of h1
  ·rename_i hx
   exact(rStep20_no (i:=si) (m:=sm) (v:=sv) auto hn h hc0 (by omega) (by omega) t2 (show 125<nextLv false e.lv∨si≠0∨sm≠0 by omega) hi0 hi).mono fun r w' h1=>rstep_of h1
 rw[if_neg c20]
 by_cases c22:c=22
 ·subst c22;simp only[reduceIte,isoS]
  split
  ·rename_i hx
   have hn':=nextLv_lt (auto==1) e.lv;exact(rStep22_yes (i:=si) (m:=sm) (v:=sv) auto hn h (by omega) (by omega) t2 hx.1 hx.2.1 hx.2.2 (by omega) (by omega)).mono fun r w' h1=>rstep_of h1
  ·rename_i hx
   exact(rStep22_no (i:=si) (m:=sm) (v:=sv) auto hn h hc0 (by omega) (by omega) t2 (show 125<nextLv (auto==1) e.lv∨si≠0∨sm≠0 by omega) hi0 hi).mono fun r w' h1=>rstep_of h1
 rw[if_neg c22]
 by_cases c23:c=23
 ·subst c23;simp only[reduceIte,pdiS]
  split
  ·rename_i hx
   exact(rStep_pdi_iso (i:=si) (m:=sm) (v:=sv) auto hn h hc0 (by omega) hx hi).mono fun r w' h1=>rstep_of h1
  ·rename_i hx
   split
   ·rename_i hy
    have hp:=(Ents.popTo he (by omega)).1;obtain⟨e',l',hp'⟩:=hp.ne;rw[hp'];exact(rStep_pdi_val (i:=si) (m:=sm) (v:=sv) auto hn h hc0 (by omega) (by omega) hy (by omega) (isos_pos (by omega)) hp').mono fun r w' h1=>rstep_of h1
   ·rename_i hy
    exact(rStep_pdi_not (i:=si) (m:=sm) (v:=sv) auto hn h hc0 (by omega) (by omega) (by omega)).mono fun r w' h1=>rstep_of h1
 rw[if_neg c23]
 by_cases c19:c=19
 ·subst c19;simp only[reduceIte,pdfS]
  split
  ·rename_i hx
   exact(rStep_pdf_iso (i:=si) (m:=sm) (v:=sv) auto hn h hc0 (by omega) hx).mono fun r w' h1=>rstep_of h1
  ·rename_i hx
   split
   ·rename_i hy
    exact(rStep_pdf_emb (i:=si) (m:=sm) (v:=sv) auto hn h hc0 (by omega) (by omega) hy hm).mono fun r w' h1=>rstep_of h1
   ·rename_i hy
    cases l with
    |nil=>
     have:(if e.iso=true then(⟨⟨[e],si,sm,sv⟩,-1,19,false⟩:Out)else⟨⟨[e],si,sm,sv⟩,-1,19,false⟩)=⟨⟨[e],si,sm,sv⟩,-1,19,false⟩:=by split<;>rfl
     simp only[this];exact(rStep_pdf_keep (i:=si) (m:=sm) (v:=sv) auto hn h hc0 (by omega) (by omega) (by omega) (.inr rfl)).mono fun r w' h1=>rstep_of h1
    |cons e' l'=>
     split
     ·rename_i hz
      exact(rStep_pdf_keep (i:=si) (m:=sm) (v:=sv) auto hn h hc0 (by omega) (by omega) (by omega) (.inl hz)).mono fun r w' h1=>rstep_of h1
     ·rename_i hz
      exact(rStep_pdf_off (i:=si) (m:=sm) (v:=sv) auto hn h hc0 (by omega) (by omega) (by omega) (by simpa using hz) (by simp)).mono fun r w' h1=>rstep_of h1
 rw[if_neg c19]
 by_cases c10:c=10
 ·subst c10;simp only[reduceIte];exact(rStep_bn (i:=si) (m:=sm) (v:=sv) auto hn h hc0 (by omega)).mono fun r w' h1=>rstep_of h1
 rw[if_neg c10]
 by_cases c11:c=11
 ·subst c11;simp only[reduceIte];exact(rStep_b auto hb).mono fun r w' h1=>rstep_of h1
 rw[if_neg c11];exact(rStep_oth (i:=si) (m:=sm) (v:=sv) auto hn h hc0 (by omega) c c15 c16 c17 c18 c19 c20 c21 c22 c23 c10 c11).mono fun r w' h1=>rstep_of h1
end
end Go.Proofs.YtllolnkkepacjaaGreat
