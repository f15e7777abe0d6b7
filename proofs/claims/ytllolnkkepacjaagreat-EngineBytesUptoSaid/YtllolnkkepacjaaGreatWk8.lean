/- The program's rules as a list; one rule of a sequence, walked. A sequence with its rules done may be, as before; the program's Resolve walked. The reference's rules W1 to W7: small functions, what stands ahead. -/
import Derived.Test.YtllolnkkepacjaaGreatWk5
import Derived.Test.YtllolnkkepacjaaGreatH6
import Derived.Deep.RegionHeld3
set_option maxRecDepth 100000
set_option maxHeartbeats 4000000
namespace Go.Proofs.YtllolnkkepacjaaGreat
open Go.RowKit
section
attribute [local go_sem] Oper.semAt_some
theorem Reads.clip1 {w:World}{B size n:Nat}{A:Option Addr}{xs:List Value}(h:Reads w B size A n xs):Reads w w.heap.size size A n xs:=⟨h.1,fun h0=>by obtain⟨b,off,e,_,h2,h3⟩:=h.2 h0;exact⟨b,off,e,h2,h2,h3⟩⟩
theorem RdInts.clip1 {w:World}{B:Nat}{k:IntKind}{A:Option Addr}{l:List Int}(h:RdInts w B k A l):RdInts w w.heap.size k A l:=Reads.clip1 h
def fnV (n:Nat):Value:=.func (.func n) #[] #[]
theorem wrules_ok (w:World):Calls Tryz.prog 77 #[] w fun r w'=>r= .returned (.slice (some ⟨w.heap.size,0,none⟩) 7 7)∧Blk w' w.heap.size 192 #[fnV 115,fnV 116,fnV 117,fnV 118,fnV 119,fnV 120,fnV 121]∧Aft w w':=by
 go_enter Tryz.func77,Tryz.ntmps77
 go_wp2;go_ret;exact⟨rfl,Blk.new w 192 _,(Aft.refl w).alloc _⟩
theorem rule_any {W:World}{B q g n cap:Nat}{sos:Int}{l:List Int}(h:WkAt W B q g n cap sos l)(hl:n≤1099511627776)(k:Nat)(h1:1≤k)(h7:k≤7):
 Calls Tryz.prog (114+k) #[.pointer (some ⟨q,0,none⟩)] W fun e w'=>e= .returned (.tuple #[])∧WkAt w' B q g n cap sos (ruleL k sos l)∧Frm (fun j=>j=g) W w':=by
 have hk:k=1∨k=2∨k=3∨k=4∨k=5∨k=6∨k=7:=by omega
 rcases hk with rfl|rfl|rfl|rfl|rfl|rfl|rfl
 ·exact marks_ok h hl
 ·exact arabic_ok h hl
 ·exact letters_ok h hl
 ·exact between_ok h hl
 ·exact ends5_ok h hl
 ·exact others_ok h hl
 ·exact european_ok h hl
def Sq.ruled (s:Sq)(k:Nat):Sq:={s with cs:=ruleL k s.so s.cs}
theorem Rule_ok {w:World}{B1 B2 n m c d:Nat}{A C:Option Addr}{s:Sq}(hn:n=s.pl.length)(hm:m=s.cs.length)(h1:RdInts w B1 .i64 A s.pl)(h2:RdInts w B2 .u8 C s.cs)(hl:n≤1048576)(hl2:m≤1048576)(hc:chkL s=0)(k:Nat)(k1:1≤k)(k7:k≤7):
 Calls Tryz.prog 78 #[.int .i64 k,.agg (s.is (.slice A n c) (.slice C m d))] w fun r w'=> ∃pv cv,r= .returned (.tuple #[.agg (s.is pv cv),.int .i64 0])∧Ints w' w.heap.size 3 .i64 pv s.pl∧Ints w' w.heap.size 22 .u8 cv (ruleL k s.so s.cs)∧Aft w w':=by
 have hm0:0<m:=by
  have: ¬(s.pl.length=0∨s.pl.length≠s.cs.length∨s.lv<0∨126<s.lv∨edgeI s.so=false∨edgeI s.eo=false):=fun e=>by unfold chkL at hc;rw[if_pos e]at hc;cases hc
  omega
 have h1c:=h1.clip1;have h2c:=h2.clip1
 have CC: ∀W,Aft w W→Calls Tryz.prog 79 #[.agg (s.is (.slice A n c) (.slice C m d))] W fun r w'=>r= .returned (.int .i64 0)∧Aft W w':=fun W hW=>by rw[←hc];exact Check_ok hn hm (h1c.below hW (.inl (Nat.le_refl _))) (h2c.below hW (.inl (Nat.le_refl _))) (by omega)
 have CP: ∀W,Aft w W→Calls Tryz.prog 74 #[.agg (s.is (.slice A n c) (.slice C m d))] W fun r w'=> ∃pv cv,r= .returned (.agg (s.is pv cv))∧Ints w' W.heap.size 3 .i64 pv s.pl∧Ints w' W.heap.size 22 .u8 cv s.cs∧(∀j,pv.ownBlock=some j→cv.ownBlock≠some j)∧Aft W w':=fun W hW=>Copy_ok hn hm (h1c.below hW (.inl (Nat.le_refl _))) (h2c.below hW (.inl (Nat.le_refl _))) (by omega) (by omega)
 obtain⟨pl,cs,lv,so,eo⟩:=s;simp only[Sq.is]at CC CP h1 h2 hn hm⊢;have HN:=Lib.hid hn;have HM:=Lib.hid hm;clear hn hm hc h1c h2c h1 h2;obtain⟨W1,hW1⟩: ∃W1,(w.alloc (.cells #[.slice A n c,.slice C m d,.int .i8 lv,.int .u8 so,.int .u8 eo] 87)).alloc (.cells #[.slice none 0 0,.slice none 0 0,.int .i8 0,.int .u8 0,.int .u8 0] 87)=W1:=⟨_,rfl⟩
 have X0:Blk W1 w.heap.size 87 #[.slice A n c,.slice C m d,.int .i8 lv,.int .u8 so,.int .u8 eo]:=by rw[←hW1];exact(Blk.new w 87 _).alloc _
 have X1:Blk W1 (w.heap.size+1) 87 #[.slice none 0 0,.slice none 0 0,.int .i8 0,.int .u8 0,.int .u8 0]:=by rw[←hW1];exact Blk.at_ (by simp)
 have a1:Aft w W1:=by rw[←hW1];exact((Aft.refl w).alloc _).alloc _
 have z1:W1.heap.size=w.heap.size+1+1:=by rw[←hW1,World.size_alloc,World.size_alloc]
 have Z1:=Lib.hid z1
 go_enter Tryz.func78,Tryz.ntmps78
 go_upto_region 1 with(fail)
 clear hW1;obtain⟨x0,x1,x2,x3,x4,xf,xl⟩:=X0.c5
 go_upto_region 4 with(go_at_call 79;refine(CC _ a1).mono ?_;rintro r2 w2 ⟨rfl,a2⟩)
 have a12:=a1.trans a2
 go_upto_region 5 with(go_at_call 77;refine(wrules_ok _).mono ?_;rintro r3 w3 ⟨rfl,BR,a3⟩)
 have a13:=a12.trans a3;have hz3:=a3.size;obtain⟨y0,y1,y2,y3,y4,yf,yl⟩:=(X0.aft (a2.trans a3)).c5;have CP3:=CP w3 a13;have X1':=X1.aft (a2.trans a3);have BR3:=BR.lt;have hc7:(Blk w3 w2.heap.size 192 #[fnV 115,fnV 116,fnV 117,fnV 118,fnV 119,fnV 120,fnV 121]):=BR;have hle2:=a12.size
 go_upto_region 8 with(go_at_call 74;refine CP3.mono ?_;rintro r4 w4 ⟨pv,cv,rfl,Ip,Ic,hpc,a4⟩;obtain⟨pA,pc,rfl,hp1,hp2,-⟩:=Ip.val;obtain⟨g,cc,rfl⟩:=Ic.form (by have:=HM.out;omega))
 have a14:=a13.trans a4;have hz4:=a4.size;have hz1:=Z1.out;rw[←HM.out]at Ic⊢;rw[←HN.out]at Ip hp1⊢;obtain⟨q,hq⟩: ∃q,w4.heap.size=q:=⟨_,rfl⟩;obtain⟨w5,hw5⟩: ∃W,w4.alloc (.cells #[.slice pA n pc,.slice (some ⟨g,0,none⟩) m cc,.int .i8 lv,.int .u8 so,.int .u8 eo] 87)=W:=⟨_,rfl⟩
 have Bq:Blk w5 q 87 #[.slice pA n pc,.slice (some ⟨g,0,none⟩) m cc,.int .i8 lv,.int .u8 so,.int .u8 eo]:=by rw[←hw5,←hq];exact Blk.new w4 87 _
 have a15:Aft w w5:=by rw[←hw5];exact a14.alloc _
 have Ip5:Ints w5 w3.heap.size 3 .i64 (.slice pA n pc) pl:=by rw[←hw5];exact Ip.alloc _
 have Ic5:Ints w5 w3.heap.size 22 .u8 (.slice (some ⟨g,0,none⟩) m cc) cs:=by rw[←hw5];exact Ic.alloc _
 have R5:Blk w5 w2.heap.size 192 #[fnV 115,fnV 116,fnV 117,fnV 118,fnV 119,fnV 120,fnV 121]:=by rw[←hw5];exact(BR.aft a4).alloc _
 have X5:Blk w5 (w.heap.size+1) 87 #[.slice none 0 0,.slice none 0 0,.int .i8 0,.int .u8 0,.int .u8 0]:=by rw[←hw5];exact(X1'.aft a4).alloc _
 have hgq:w3.heap.size≤g∧g<q:=by have:=Ic.lt g rfl;omega
 rw[hw5,hq];clear hw5 Ip Ic CP3 CP CC X1 X1' BR hc7;obtain⟨b0,b1,b2,b3,b4,bf,bl⟩:=Bq.c5;have c0:=R5.cell (k-1);have hx5:=X5.lt;have hq5:=Bq.lt
 have hw23:w.heap.size+1+1≤w3.heap.size:=by have:=a2.size;omega
 have hr5:=R5.lt;have hw2g:w2.heap.size<w3.heap.size:=BR3;have hpB: ∀j,(Value.slice pA n pc).ownBlock=some j→w3.heap.size≤j∧j<w5.heap.size:=fun j e=>Ip5.lt j e
 have hpg: ∀j,(Value.slice pA n pc).ownBlock=some j→j≠g:=fun j e h=>by rw[HN.out]at e;exact hpc j e (by rw[h];rfl)
 have fin: ∀(w6:World) (L:List Int),WkAt w6 w3.heap.size w5.heap.size g m cc so L→Frm (fun j=>j=g) (w5.alloc (.cells #[.slice (some ⟨g,0,none⟩) m cc,.int .u8 so] 195)).drew w6→
  Blk w6 w2.heap.size 192 #[fnV 115,fnV 116,fnV 117,fnV 118,fnV 119,fnV 120,fnV 121]∧Blk w6 q 87 #[.slice pA n pc,.slice (some ⟨g,0,none⟩) m cc,.int .i8 lv,.int .u8 so,.int .u8 eo]∧Blk w6 (w.heap.size+1) 87 #[.slice none 0 0,.slice none 0 0,.int .i8 0,.int .u8 0,.int .u8 0]∧
  (∀w7,Frm (fun j=>j=w.heap.size+1) w6 w7→Ints w7 w.heap.size 3 .i64 (.slice pA n pc) pl∧Ints w7 w.heap.size 22 .u8 (.slice (some ⟨g,0,none⟩) m cc) L∧Aft w w7):=fun w6 L K F=>by
  refine⟨((R5.alloc _).drew).frm F (by omega),((Bq.alloc _).drew).frm F (by omega),((X5.alloc _).drew).frm F (by omega),fun w7 F7=>⟨?_,?_,?_⟩⟩
  ·exact(((((Ip5.alloc (.cells #[.slice (some ⟨g,0,none⟩) m cc,.int .u8 so] 195)).drew).frm F (fun j e=>hpg j e)).frm F7 (fun j e h=>by have:=(hpB j e).1;omega)).base (fun j e=>by have:=(hpB j e).1;omega))
  ·exact(K.row.frm F7 (fun j e h=>by
    have e:g=j:=by simpa[Value.ownBlock]using e
    omega)).base (fun j e=>by
    have e:g=j:=by simpa[Value.ownBlock]using e
    omega)
  ·have h1:Aft w (w5.alloc (.cells #[.slice (some ⟨g,0,none⟩) m cc,.int .u8 so] 195)).drew:=(a15.alloc _).drew;have h2:Aft w w6:=Below.trans h1 (F.below h1.size (fun j hj e=>by omega));exact Below.trans h2 (F7.below h2.size (fun j hj e=>by omega))
 have FIN:=Lib.hid fin;clear fin Ip5 R5 X5 hpB hpg hpc hp1 hp2 a13 a14 a4
 have hk7:k=1∨k=2∨k=3∨k=4∨k=5∨k=6∨k=7:=by omega
 rcases hk7 with rfl|rfl|rfl|rfl|rfl|rfl|rfl
 ·have c1:w5.cell? ⟨w2.heap.size,0,none⟩=some (.func (.func 115) #[] #[]):=c0;clear c0;have CK:=rule_any (W:=(w5.alloc (.cells #[.slice (some ⟨g,0,none⟩) m cc,.int .u8 so] 195)).drew) (B:=w3.heap.size) (q:=w5.heap.size) (g:=g) (n:=m) (cap:=cc) (sos:=so) (l:=cs) ⟨(Blk.new w5 195 _).drew,(Ic5.alloc _).drew⟩ (by omega) 1 (by omega) (by omega);have n1:=World.new_ne w5 ⟨w2.heap.size,0,none⟩ c1
  have u1:IntKind.i64.wrap ((1:Int)-1)=0:=by decide
  have u2:(0:Int)≤((1:Int)-1):=by decide
  have u3:((1:Int)-1)≤7:=by decide
  have u4:((1:Int)-1)<7:=by decide
  have u5:((1:Int)-1).toNat=0:=by decide
  have u6:(1:Int)-1=0:=by decide
  have u7:IntKind.i64.wrap 0=0:=by decide
  have n2:=World.new_ne w5 ⟨q,1,none⟩ b1;have n3:=World.new_ne w5 ⟨q,3,none⟩ b3
  go_region_held3 (fun W=>W.cell? ⟨w2.heap.size,0,none⟩=some (.func (.func 115) #[] #[])∧W.cell? ⟨q,1,none⟩=some (.slice (some ⟨g,0,none⟩) m cc)∧W.cell? ⟨q,3,none⟩=some (.int .u8 so)) (go_keep)
   ((go_at_call 115;refine CK.mono ?_;rintro r6 w6 ⟨rfl,K6,F6⟩;obtain⟨Rq6,Bq6,X6,E6⟩:=FIN.out w6 _ K6 F6;have c6:w6.cell? ⟨w2.heap.size,0,none⟩=some (.func (.func 115) #[] #[]):=Rq6.cell 0;obtain⟨d0,d1,d2,d3,d4,df,dl⟩:=Bq6.c5;obtain⟨e0,e1,e2,e3,e4,ef,el⟩:=X6.c5))
  all_goals
   go_wp2;refine bodyPost_ret (results_row1 rfl _ _ (w.heap.size+1) 87 _ _ rfl (blk_put5 _ _ _ _ _ X6) Tryz.underlying87 rfl (by kernel_rfl)) rfl ?_;obtain⟨o1,o2,o3⟩:=E6 _ (frm_put5 _ _ _ _ _ _ _);exact⟨_,_,rfl,o1,o2,o3⟩
 ·have c1:w5.cell? ⟨w2.heap.size,1,none⟩=some (.func (.func 116) #[] #[]):=c0;clear c0;have CK:=rule_any (W:=(w5.alloc (.cells #[.slice (some ⟨g,0,none⟩) m cc,.int .u8 so] 195)).drew) (B:=w3.heap.size) (q:=w5.heap.size) (g:=g) (n:=m) (cap:=cc) (sos:=so) (l:=cs) ⟨(Blk.new w5 195 _).drew,(Ic5.alloc _).drew⟩ (by omega) 2 (by omega) (by omega);have n1:=World.new_ne w5 ⟨w2.heap.size,1,none⟩ c1
  have u1:IntKind.i64.wrap ((2:Int)-1)=1:=by decide
  have u2:(0:Int)≤((2:Int)-1):=by decide
  have u3:((2:Int)-1)≤7:=by decide
  have u4:((2:Int)-1)<7:=by decide
  have u5:((2:Int)-1).toNat=1:=by decide
  have u6:(2:Int)-1=1:=by decide
  have u7:IntKind.i64.wrap 1=1:=by decide
  have n2:=World.new_ne w5 ⟨q,1,none⟩ b1;have n3:=World.new_ne w5 ⟨q,3,none⟩ b3
  go_region_held3 (fun W=>W.cell? ⟨w2.heap.size,1,none⟩=some (.func (.func 116) #[] #[])∧W.cell? ⟨q,1,none⟩=some (.slice (some ⟨g,0,none⟩) m cc)∧W.cell? ⟨q,3,none⟩=some (.int .u8 so)) (go_keep)
   ((go_at_call 116;refine CK.mono ?_;rintro r6 w6 ⟨rfl,K6,F6⟩;obtain⟨Rq6,Bq6,X6,E6⟩:=FIN.out w6 _ K6 F6;have c6:w6.cell? ⟨w2.heap.size,1,none⟩=some (.func (.func 116) #[] #[]):=Rq6.cell 1;obtain⟨d0,d1,d2,d3,d4,df,dl⟩:=Bq6.c5;obtain⟨e0,e1,e2,e3,e4,ef,el⟩:=X6.c5))
  all_goals
   go_wp2;refine bodyPost_ret (results_row1 rfl _ _ (w.heap.size+1) 87 _ _ rfl (blk_put5 _ _ _ _ _ X6) Tryz.underlying87 rfl (by kernel_rfl)) rfl ?_;obtain⟨o1,o2,o3⟩:=E6 _ (frm_put5 _ _ _ _ _ _ _);exact⟨_,_,rfl,o1,o2,o3⟩
 ·have c1:w5.cell? ⟨w2.heap.size,2,none⟩=some (.func (.func 117) #[] #[]):=c0;clear c0;have CK:=rule_any (W:=(w5.alloc (.cells #[.slice (some ⟨g,0,none⟩) m cc,.int .u8 so] 195)).drew) (B:=w3.heap.size) (q:=w5.heap.size) (g:=g) (n:=m) (cap:=cc) (sos:=so) (l:=cs) ⟨(Blk.new w5 195 _).drew,(Ic5.alloc _).drew⟩ (by omega) 3 (by omega) (by omega);have n1:=World.new_ne w5 ⟨w2.heap.size,2,none⟩ c1
  have u1:IntKind.i64.wrap ((3:Int)-1)=2:=by decide
  have u2:(0:Int)≤((3:Int)-1):=by decide
  have u3:((3:Int)-1)≤7:=by decide
  have u4:((3:Int)-1)<7:=by decide
  have u5:((3:Int)-1).toNat=2:=by decide
  have u6:(3:Int)-1=2:=by decide
  have u7:IntKind.i64.wrap 2=2:=by decide
  have n2:=World.new_ne w5 ⟨q,1,none⟩ b1;have n3:=World.new_ne w5 ⟨q,3,none⟩ b3
  go_region_held3 (fun W=>W.cell? ⟨w2.heap.size,2,none⟩=some (.func (.func 117) #[] #[])∧W.cell? ⟨q,1,none⟩=some (.slice (some ⟨g,0,none⟩) m cc)∧W.cell? ⟨q,3,none⟩=some (.int .u8 so)) (go_keep)
   ((go_at_call 117;refine CK.mono ?_;rintro r6 w6 ⟨rfl,K6,F6⟩;obtain⟨Rq6,Bq6,X6,E6⟩:=FIN.out w6 _ K6 F6;have c6:w6.cell? ⟨w2.heap.size,2,none⟩=some (.func (.func 117) #[] #[]):=Rq6.cell 2;obtain⟨d0,d1,d2,d3,d4,df,dl⟩:=Bq6.c5;obtain⟨e0,e1,e2,e3,e4,ef,el⟩:=X6.c5))
  all_goals
   go_wp2;refine bodyPost_ret (results_row1 rfl _ _ (w.heap.size+1) 87 _ _ rfl (blk_put5 _ _ _ _ _ X6) Tryz.underlying87 rfl (by kernel_rfl)) rfl ?_;obtain⟨o1,o2,o3⟩:=E6 _ (frm_put5 _ _ _ _ _ _ _);exact⟨_,_,rfl,o1,o2,o3⟩
 ·have c1:w5.cell? ⟨w2.heap.size,3,none⟩=some (.func (.func 118) #[] #[]):=c0;clear c0;have CK:=rule_any (W:=(w5.alloc (.cells #[.slice (some ⟨g,0,none⟩) m cc,.int .u8 so] 195)).drew) (B:=w3.heap.size) (q:=w5.heap.size) (g:=g) (n:=m) (cap:=cc) (sos:=so) (l:=cs) ⟨(Blk.new w5 195 _).drew,(Ic5.alloc _).drew⟩ (by omega) 4 (by omega) (by omega);have n1:=World.new_ne w5 ⟨w2.heap.size,3,none⟩ c1
  have u1:IntKind.i64.wrap ((4:Int)-1)=3:=by decide
  have u2:(0:Int)≤((4:Int)-1):=by decide
  have u3:((4:Int)-1)≤7:=by decide
  have u4:((4:Int)-1)<7:=by decide
  have u5:((4:Int)-1).toNat=3:=by decide
  have u6:(4:Int)-1=3:=by decide
  have u7:IntKind.i64.wrap 3=3:=by decide
  have n2:=World.new_ne w5 ⟨q,1,none⟩ b1;have n3:=World.new_ne w5 ⟨q,3,none⟩ b3
  go_region_held3 (fun W=>W.cell? ⟨w2.heap.size,3,none⟩=some (.func (.func 118) #[] #[])∧W.cell? ⟨q,1,none⟩=some (.slice (some ⟨g,0,none⟩) m cc)∧W.cell? ⟨q,3,none⟩=some (.int .u8 so)) (go_keep)
   ((go_at_call 118;refine CK.mono ?_;rintro r6 w6 ⟨rfl,K6,F6⟩;obtain⟨Rq6,Bq6,X6,E6⟩:=FIN.out w6 _ K6 F6;have c6:w6.cell? ⟨w2.heap.size,3,none⟩=some (.func (.func 118) #[] #[]):=Rq6.cell 3;obtain⟨d0,d1,d2,d3,d4,df,dl⟩:=Bq6.c5;obtain⟨e0,e1,e2,e3,e4,ef,el⟩:=X6.c5))
  all_goals
   go_wp2;refine bodyPost_ret (results_row1 rfl _ _ (w.heap.size+1) 87 _ _ rfl (blk_put5 _ _ _ _ _ X6) Tryz.underlying87 rfl (by kernel_rfl)) rfl ?_;obtain⟨o1,o2,o3⟩:=E6 _ (frm_put5 _ _ _ _ _ _ _);exact⟨_,_,rfl,o1,o2,o3⟩
 ·have c1:w5.cell? ⟨w2.heap.size,4,none⟩=some (.func (.func 119) #[] #[]):=c0;clear c0;have CK:=rule_any (W:=(w5.alloc (.cells #[.slice (some ⟨g,0,none⟩) m cc,.int .u8 so] 195)).drew) (B:=w3.heap.size) (q:=w5.heap.size) (g:=g) (n:=m) (cap:=cc) (sos:=so) (l:=cs) ⟨(Blk.new w5 195 _).drew,(Ic5.alloc _).drew⟩ (by omega) 5 (by omega) (by omega);have n1:=World.new_ne w5 ⟨w2.heap.size,4,none⟩ c1
  have u1:IntKind.i64.wrap ((5:Int)-1)=4:=by decide
  have u2:(0:Int)≤((5:Int)-1):=by decide
  have u3:((5:Int)-1)≤7:=by decide
  have u4:((5:Int)-1)<7:=by decide
  have u5:((5:Int)-1).toNat=4:=by decide
  have u6:(5:Int)-1=4:=by decide
  have u7:IntKind.i64.wrap 4=4:=by decide
  have n2:=World.new_ne w5 ⟨q,1,none⟩ b1;have n3:=World.new_ne w5 ⟨q,3,none⟩ b3
  go_region_held3 (fun W=>W.cell? ⟨w2.heap.size,4,none⟩=some (.func (.func 119) #[] #[])∧W.cell? ⟨q,1,none⟩=some (.slice (some ⟨g,0,none⟩) m cc)∧W.cell? ⟨q,3,none⟩=some (.int .u8 so)) (go_keep)
   ((go_at_call 119;refine CK.mono ?_;rintro r6 w6 ⟨rfl,K6,F6⟩;obtain⟨Rq6,Bq6,X6,E6⟩:=FIN.out w6 _ K6 F6;have c6:w6.cell? ⟨w2.heap.size,4,none⟩=some (.func (.func 119) #[] #[]):=Rq6.cell 4;obtain⟨d0,d1,d2,d3,d4,df,dl⟩:=Bq6.c5;obtain⟨e0,e1,e2,e3,e4,ef,el⟩:=X6.c5))
  all_goals
   go_wp2;refine bodyPost_ret (results_row1 rfl _ _ (w.heap.size+1) 87 _ _ rfl (blk_put5 _ _ _ _ _ X6) Tryz.underlying87 rfl (by kernel_rfl)) rfl ?_;obtain⟨o1,o2,o3⟩:=E6 _ (frm_put5 _ _ _ _ _ _ _);exact⟨_,_,rfl,o1,o2,o3⟩
 ·have c1:w5.cell? ⟨w2.heap.size,5,none⟩=some (.func (.func 120) #[] #[]):=c0;clear c0;have CK:=rule_any (W:=(w5.alloc (.cells #[.slice (some ⟨g,0,none⟩) m cc,.int .u8 so] 195)).drew) (B:=w3.heap.size) (q:=w5.heap.size) (g:=g) (n:=m) (cap:=cc) (sos:=so) (l:=cs) ⟨(Blk.new w5 195 _).drew,(Ic5.alloc _).drew⟩ (by omega) 6 (by omega) (by omega);have n1:=World.new_ne w5 ⟨w2.heap.size,5,none⟩ c1
  have u1:IntKind.i64.wrap ((6:Int)-1)=5:=by decide
  have u2:(0:Int)≤((6:Int)-1):=by decide
  have u3:((6:Int)-1)≤7:=by decide
  have u4:((6:Int)-1)<7:=by decide
  have u5:((6:Int)-1).toNat=5:=by decide
  have u6:(6:Int)-1=5:=by decide
  have u7:IntKind.i64.wrap 5=5:=by decide
  have n2:=World.new_ne w5 ⟨q,1,none⟩ b1;have n3:=World.new_ne w5 ⟨q,3,none⟩ b3
  go_region_held3 (fun W=>W.cell? ⟨w2.heap.size,5,none⟩=some (.func (.func 120) #[] #[])∧W.cell? ⟨q,1,none⟩=some (.slice (some ⟨g,0,none⟩) m cc)∧W.cell? ⟨q,3,none⟩=some (.int .u8 so)) (go_keep)
   ((go_at_call 120;refine CK.mono ?_;rintro r6 w6 ⟨rfl,K6,F6⟩;obtain⟨Rq6,Bq6,X6,E6⟩:=FIN.out w6 _ K6 F6;have c6:w6.cell? ⟨w2.heap.size,5,none⟩=some (.func (.func 120) #[] #[]):=Rq6.cell 5;obtain⟨d0,d1,d2,d3,d4,df,dl⟩:=Bq6.c5;obtain⟨e0,e1,e2,e3,e4,ef,el⟩:=X6.c5))
  all_goals
   go_wp2;refine bodyPost_ret (results_row1 rfl _ _ (w.heap.size+1) 87 _ _ rfl (blk_put5 _ _ _ _ _ X6) Tryz.underlying87 rfl (by kernel_rfl)) rfl ?_;obtain⟨o1,o2,o3⟩:=E6 _ (frm_put5 _ _ _ _ _ _ _);exact⟨_,_,rfl,o1,o2,o3⟩
 ·have c1:w5.cell? ⟨w2.heap.size,6,none⟩=some (.func (.func 121) #[] #[]):=c0;clear c0;have CK:=rule_any (W:=(w5.alloc (.cells #[.slice (some ⟨g,0,none⟩) m cc,.int .u8 so] 195)).drew) (B:=w3.heap.size) (q:=w5.heap.size) (g:=g) (n:=m) (cap:=cc) (sos:=so) (l:=cs) ⟨(Blk.new w5 195 _).drew,(Ic5.alloc _).drew⟩ (by omega) 7 (by omega) (by omega);have n1:=World.new_ne w5 ⟨w2.heap.size,6,none⟩ c1
  have u1:IntKind.i64.wrap ((7:Int)-1)=6:=by decide
  have u2:(0:Int)≤((7:Int)-1):=by decide
  have u3:((7:Int)-1)≤7:=by decide
  have u4:((7:Int)-1)<7:=by decide
  have u5:((7:Int)-1).toNat=6:=by decide
  have u6:(7:Int)-1=6:=by decide
  have u7:IntKind.i64.wrap 6=6:=by decide
  have n2:=World.new_ne w5 ⟨q,1,none⟩ b1;have n3:=World.new_ne w5 ⟨q,3,none⟩ b3
  go_region_held3 (fun W=>W.cell? ⟨w2.heap.size,6,none⟩=some (.func (.func 121) #[] #[])∧W.cell? ⟨q,1,none⟩=some (.slice (some ⟨g,0,none⟩) m cc)∧W.cell? ⟨q,3,none⟩=some (.int .u8 so)) (go_keep)
   ((go_at_call 121;refine CK.mono ?_;rintro r6 w6 ⟨rfl,K6,F6⟩;obtain⟨Rq6,Bq6,X6,E6⟩:=FIN.out w6 _ K6 F6;have c6:w6.cell? ⟨w2.heap.size,6,none⟩=some (.func (.func 121) #[] #[]):=Rq6.cell 6;obtain⟨d0,d1,d2,d3,d4,df,dl⟩:=Bq6.c5;obtain⟨e0,e1,e2,e3,e4,ef,el⟩:=X6.c5))
  all_goals
   go_wp2;refine bodyPost_ret (results_row1 rfl _ _ (w.heap.size+1) 87 _ _ rfl (blk_put5 _ _ _ _ _ X6) Tryz.underlying87 rfl (by kernel_rfl)) rfl ?_;obtain⟨o1,o2,o3⟩:=E6 _ (frm_put5 _ _ _ _ _ _ _);exact⟨_,_,rfl,o1,o2,o3⟩
end
section
attribute [local go_sem] Oper.semAt_some
def okC (c:Int):Prop:=remC c=false∧clsC c=c
theorem okC_lit:okC 1∧okC 2∧okC 4∧okC 7∧okC 14:=by unfold okC;decide
theorem scan_all {σ:Type}{g:σ→Int→List Int→Int×σ}{P:Int→Prop}{S:σ→Prop}(hg: ∀s c r,S s→P c→P (g s c r).1∧S (g s c r).2): ∀(s:σ) (l:List Int),S s→(∀c∈l,P c)→ ∀c∈passW g s l,P c
 |_,[],_,_,_,h=>by cases h
 |s,a::l,hs,hl,c,h=>by
  have h1:=hg s a l hs (hl a List.mem_cons_self);unfold passW at h
  rcases List.mem_cons.1 h with rfl|h
  ·exact h1.1
  ·exact scan_all hg _ l h1.2 (fun x hx=>hl x (List.mem_cons_of_mem _ hx)) c h
theorem rule_okC {sos:Int}(hs:okC sos){l:List Int}(hl: ∀c∈l,okC c)(n:Nat): ∀c∈ruleL n sos l,okC c:=by
 obtain⟨o1,o2,o4,o7,o14⟩:=okC_lit;unfold ruleL
 split
 ·refine scan_all (S:=okC) (fun s c r h1 h2=> ?_) _ _ hs hl;unfold g1
  (repeat' split)<;>exact⟨by assumption,by assumption⟩
 ·refine scan_all (S:=fun _=>True) (fun s c r h1 h2=>⟨?_,trivial⟩) _ _ trivial hl;unfold g2;simp only
  split<;>assumption
 ·refine scan_all (S:=fun _=>True) (fun s c r h1 h2=>⟨?_,trivial⟩) _ _ trivial hl;unfold g3;simp only
  split<;>assumption
 ·refine scan_all (S:=fun p=>p=0∨okC p) (fun s c r h1 h2=> ?_) _ _ (.inl rfl) hl;unfold g4
  split
  ·rename_i h
   have:okC s:=by
    rcases h.2.2 with e|e
    ·rw[e];exact o4
    ·rw[e.1];exact o7
   exact⟨this,.inr this⟩
  ·exact⟨h2,.inr h2⟩
 ·refine scan_all (S:=fun _=>True) (fun s c r h1 h2=>⟨?_,trivial⟩) _ _ trivial hl;unfold g5
  split
  ·rename_i h
   subst h
   split<;>assumption
  ·exact h2
 ·refine scan_all (S:=fun _=>True) (fun s c r h1 h2=>⟨?_,trivial⟩) _ _ trivial hl;unfold g6;simp only
  split<;>assumption
 ·refine scan_all (S:=fun _=>True) (fun s c r h1 h2=>⟨?_,trivial⟩) _ _ trivial hl;unfold g7;simp only
  split<;>assumption
 ·exact hl
theorem chkL_iff {s:Sq}:chkL s=0↔(¬(s.pl.length=0∨s.pl.length≠s.cs.length∨s.lv<0∨126<s.lv∨edgeI s.so=false∨edgeI s.eo=false))∧ ∀i,i<s.pl.length→lastAt s.pl i<s.pl.getD i 0∧okC (s.cs.getD i 0):=by
 unfold chkL okC;constructor
 ·intro h
  split at h
  ·cases h
  ·rename_i h1
   split at h
   ·cases h
   ·rename_i h2
    refine⟨h1,fun i hi=> ?_⟩;have:=fun e=>h2 (List.any_eq_true.2 ⟨i,List.mem_range.2 hi,e⟩);unfold chkAt at this;simp only[Bool.or_eq_true,decide_eq_true_eq,bne_iff_ne,ne_eq]at this;refine⟨Int.lt_of_not_ge (fun e=>this (.inl (.inl e))),?_,Decidable.byContradiction (fun e=>this (.inr e))⟩
    rcases hb:remC (s.cs.getD i 0)with _|_
    ·rfl
    ·exact(this (.inl (.inr hb))).elim
 ·rintro⟨h1,h2⟩;rw[if_neg h1,if_neg];intro h3;obtain⟨i,hi,e⟩:=List.any_eq_true.1 h3;have:=h2 i (List.mem_range.1 hi);unfold chkAt at e;simp only[Bool.or_eq_true,decide_eq_true_eq,bne_iff_ne,ne_eq]at e
  rcases e with(e|e)|e
  ·omega
  ·rw[this.2.1]at e;cases e
  ·exact e this.2.2
theorem chk_swap {s:Sq}(h:chkL s=0){cs:List Int}(hl:cs.length=s.cs.length)(hc: ∀c∈cs,okC c):chkL {s with cs:=cs}=0:=by
 obtain⟨h1,h2⟩:=chkL_iff.1 h;refine chkL_iff.2 ⟨by simp only;rw[hl];exact h1,fun i hi=>⟨(h2 i hi).1,?_⟩⟩
 have hil:i<cs.length:=by have: ¬s.pl.length≠s.cs.length:=fun e=>h1 (.inr (.inl e));have hi:i<s.pl.length:=hi;omega
 simp only;rw[List.getD_eq_getElem?_getD,List.getElem?_eq_getElem hil];exact hc _ (List.getElem_mem hil)
theorem chk_okC {s:Sq}(h:chkL s=0):(∀c∈s.cs,okC c)∧okC s.so∧isoK s.so=false:=by
 obtain⟨h1,h2⟩:=chkL_iff.1 h;refine⟨fun c hc=> ?_,?_,?_⟩
 ·obtain⟨i,hi,e⟩:=List.mem_iff_getElem.1 hc
  have hi2:i<s.pl.length:=by omega
  have:=(h2 i hi2).2;rw[List.getD_eq_getElem?_getD,List.getElem?_eq_getElem hi,Option.getD_some,e]at this;exact this
 all_goals
  have hso:s.so=1∨s.so=2:=by
   have:edgeI s.so=true:=by
    rcases he:edgeI s.so with _|_
    ·exact absurd (.inr (.inr (.inr (.inr (.inl he))))) h1
    ·rfl
   simp[edgeI]at this;omega
  rcases hso with e|e<;>rw[e]<;>first|decide|(unfold okC;decide)
theorem chk_ruled {s:Sq}(h:chkL s=0)(k:Nat):chkL (s.ruled k)=0:=chk_swap h (ruleL_len _ _ _) (rule_okC (chk_okC h).2.1 (chk_okC h).1 k)
def Sq.weak (s:Sq)(k:Nat):Sq:={s with cs:=rulesL s.so s.cs k}
theorem weak_succ (s:Sq)(k:Nat):(s.weak k).ruled (k+1)=s.weak (k+1):=rfl
theorem chk_weak {s:Sq}(h:chkL s=0): ∀k,chkL (s.weak k)=0
 |0=>h
 |k+1=>by rw[←weak_succ];exact chk_ruled (chk_weak h k) _
structure WrAt (w W:World) (b0 k:Nat) (s:Sq) (A C:Option Addr) (n m c d:Nat):Prop where
 x0:Blk W b0 87 #[.slice A n c,.slice C m d,.int .i8 s.lv,.int .u8 s.so,.int .u8 s.eo]
 x1:Blk W (b0+1) 87 #[.slice none 0 0,.slice none 0 0,.int .i8 0,.int .u8 0,.int .u8 0]
 rp:RdInts W W.heap.size .i64 A s.pl
 rc:RdInts W W.heap.size .u8 C (s.weak k).cs
 op:0<k→Ints W (b0+1+1) 3 .i64 (.slice A n c) s.pl∧Ints W (b0+1+1) 22 .u8 (.slice C m d) (s.weak k).cs
 af:Aft w W
theorem WResolve_ok {w:World}{B1 B2 n m c d:Nat}{A C:Option Addr}{s:Sq}(hn:n=s.pl.length)(hm:m=s.cs.length)(h1:RdInts w B1 .i64 A s.pl)(h2:RdInts w B2 .u8 C s.cs)(hl:n≤1048576)(hl2:m≤1048576)(hc:chkL s=0):
 Calls Tryz.prog 47 #[.agg (s.is (.slice A n c) (.slice C m d))] w fun r w'=> ∃pv cv,r= .returned (.tuple #[.agg (s.is pv cv),.int .i64 0])∧Ints w' w.heap.size 3 .i64 pv s.pl∧Ints w' w.heap.size 22 .u8 cv (weakL s.so s.cs)∧Aft w w':=by
 have h1c:=h1.clip1;have h2c:=h2.clip1;have HN:=Lib.hid hn;have HM:=Lib.hid hm;obtain⟨b0,hb0⟩: ∃b,w.heap.size=b:=⟨_,rfl⟩;obtain⟨W1,hW1⟩: ∃W1,(w.alloc (.cells #[.slice A n c,.slice C m d,.int .i8 s.lv,.int .u8 s.so,.int .u8 s.eo] 87)).alloc (.cells #[.slice none 0 0,.slice none 0 0,.int .i8 0,.int .u8 0,.int .u8 0] 87)=W1:=⟨_,rfl⟩
 have I0:WrAt w W1 b0 0 s A C n m c d:=by
  have a1:Aft w W1:=by rw[←hW1];exact((Aft.refl w).alloc _).alloc _
  refine⟨by rw[←hW1,←hb0];exact(Blk.new w 87 _).alloc _,by rw[←hW1];exact Blk.at_ (by simp;omega),?_,?_,fun h=>by omega,a1⟩
  ·exact(h1c.below a1 (.inl (Nat.le_refl _))).more a1.size
  ·exact(h2c.below a1 (.inl (Nat.le_refl _))).more a1.size
 have z1:W1.heap.size=b0+1+1:=by rw[←hW1,World.size_alloc,World.size_alloc,hb0]
 simp only[Sq.is];clear hn hm h1 h2 h1c h2c
 go_enter Tryz.func47,Tryz.ntmps47
 go_upto_region 1 with(fail)
 clear hW1;have HB:=Lib.hid hb0;clear hb0
 go_upto_region 2 with(go_at_call 77;refine(wrules_ok _).mono ?_;rintro r3 w3 ⟨rfl,BR,a3⟩)
 have I3:WrAt w w3 b0 0 s A C n m c d:=by have hs3:=a3.size;exact⟨I0.x0.aft a3,I0.x1.aft a3,(I0.rp.below a3 (.inl (Nat.le_refl _))).more a3.size,(I0.rc.below a3 (.inl (Nat.le_refl _))).more a3.size,fun h=>by omega,I0.af.trans a3⟩
 clear I0 BR a3 z1
 go_loopg [8] 7 (fun gk iv wr=> ∃(k:Nat) (A C:Option Addr) (c d:Nat),k+gk=7∧iv= .int .i64 k∧WrAt w wr b0 k s A C n m c d)
 case atStart=>exact⟨0,A,C,c,d,rfl,rfl,I3⟩
 case round=>
  clear I3;obtain⟨k,A',C',c',d',hk,rfl,I⟩:=hrel;obtain⟨y0,y1,y2,y3,y4,yf,yl⟩:=I.x0.c5;obtain⟨v0,v1,v2,v3,v4,vf,vl⟩:=I.x1.c5
  by_cases hk7:k<7
  ·have CR:=Rule_ok (s:=s.weak k) (n:=n) (m:=m) (c:=c') (d:=d') HN.out (by rw[HM.out];exact(rulesL_len _ _ _).symm) I.rp I.rc hl hl2 (chk_weak hc k) (k+1) (by omega) (by omega);have hwk:ruleL (k+1) (s.weak k).so (s.weak k).cs=(s.weak (k+1)).cs:=rfl;rw[hwk]at CR;simp only[Sq.is]at CR;have hps:(s.weak k).pl=s.pl:=rfl;have hlv:(s.weak k).lv=s.lv:=rfl;have hso:(s.weak k).so=s.so:=rfl;have heo:(s.weak k).eo=s.eo:=rfl;rw[hps,hlv,hso,heo]at CR
   have hkk:((k+1:Nat):Int)=(k:Int)+1:=by omega
   rw[hkk]at CR;have hIx:=I.x1;have hIa:=I.af;have hI0:=I.x0
   have hcl:(s.weak (k+1)).cs.length=m:=by rw[HM.out];exact rulesL_len _ _ _
   have HCL:=Lib.hid hcl;clear I hwk hps hlv hso heo hcl hkk
   go_upto_region 6 with(go_at_call 78;refine CR.mono ?_;rintro r4 w4 ⟨pv,cv,rfl,Ip,Ic,a4⟩;obtain⟨pA,pc,rfl,hp1,hp2,Rp⟩:=Ip.val;obtain⟨cA,cc,rfl,hc1,hc2,Rc⟩:=Ic.val;obtain⟨u0,u1,u2,u3,u4,uf,ul⟩:=(hI0.aft a4).c5)
   rw[HCL.out,←HN.out];rw[←HN.out]at hp1 Ip;rw[HCL.out]at hc1 Ic;have F:=frm_put5 w4 b0 (.slice pA n pc) (.slice cA m cc) (.int .i8 s.lv) (.int .u8 s.so) (.int .u8 s.eo);have N0:=blk_put5 (.slice pA n pc) (.slice cA m cc) (.int .i8 s.lv) (.int .u8 s.so) (.int .u8 s.eo) (hI0.aft a4);have hbx:=hIx.lt;have hz4:=a4.size;have hipl:=Ip.lt;have hicl:=Ic.lt;have N1:=(hIx.aft a4).frm F (by omega);have fz:=F.size
   have hres:WrAt w _ b0 (k+1) s pA cA n m pc cc:=⟨N0,N1,(Rp.frmA F (fun b off e h=>by
    subst e;have:=(hipl b rfl).1
    omega)).more fz,(Rc.frmA F (fun b off e h=>by
    subst e;have:=(hicl b rfl).1
    omega)).more fz,fun _=>⟨(Ip.frm F (fun j e h=>by have:=(hipl j e).1;omega)).base (fun j e=>by have:=(hipl j e).1;omega),(Ic.frm F (fun j e h=>by have:=(hicl j e).1;omega)).base (fun j e=>by have:=(hicl j e).1;omega)⟩,
    Below.trans (hIa.trans a4) (F.below (hIa.trans a4).size (fun j hj e=>by have:=HB.out;omega))⟩
   have HR:=Lib.hid hres;clear hres N0 N1 F Rp Rc Ip Ic hIx hI0 hIa hp1 hc1 hipl hicl CR;go_wp2
   go_roundg (7-(k+1))
   case rel=>exact⟨k+1,pA,cA,pc,cc,by omega,by go_num,HR.out⟩
   case measure=>omega
  ·have hke:k=7:=by omega
   clear hk;subst hke;have hop:=I.op (by omega);have F:=frm_put5 wr (b0+1) (.slice A' n c') (.slice C' m d') (.int .i8 s.lv) (.int .u8 s.so) (.int .u8 s.eo);have N1:=blk_put5 (.slice A' n c') (.slice C' m d') (.int .i8 s.lv) (.int .u8 s.so) (.int .u8 s.eo) I.x1;have haf:=I.af
   have fin:Ints _ w.heap.size 3 .i64 (.slice A' n c') s.pl∧Ints _ w.heap.size 22 .u8 (.slice C' m d') (weakL s.so s.cs)∧Aft w _:=⟨(hop.1.frm F (fun j e h=>by have:=(hop.1.lt j e).1;omega)).base (fun j e=>by have:=(hop.1.lt j e).1;have:=HB.out;omega),(hop.2.frm F (fun j e h=>by have:=(hop.2.lt j e).1;omega)).base (fun j e=>by have:=(hop.2.lt j e).1;have:=HB.out;omega),
    Below.trans haf (F.below haf.size (fun j hj e=>by have:=HB.out;omega))⟩
   have FN:=Lib.hid fin;clear fin hop F haf I;go_wp2;refine bodyPost_ret (results_row1 rfl _ _ (b0+1) 87 _ _ rfl N1 Tryz.underlying87 rfl (by kernel_rfl)) rfl ?_;exact⟨_,_,rfl,FN.out⟩
end
section
attribute [local go_sem] Oper.semAt_some
theorem riso_ok (w:World)(r:Int):Calls Tryz.prog 180 #[.int .u8 r] w fun e w'=>e= .returned (.bool (isoK r))∧w'=w:=by
 go_enter Tryz.func180,Tryz.ntmps180
 go_wp2
 all_goals (go_ret;refine⟨congrArg (fun z=>Ending.returned (Value.bool z)) ?_,rfl⟩;(try simp only[beq_iff_eq,beq_eq_false_iff_ne,ne_eq]at*);rw[Bool.eq_iff_iff];simp[isoK]<;>omega)
theorem rat_ok {w:World}{B n c:Nat}{A:Option Addr}{l:List Int}(h:RdInts w B .u8 A l)(hn:n=l.length)(_hl:n≤1099511627776)(i:Int)(hi: -1≤i∧i≤1099511627776):
 Calls Tryz.prog 182 #[.slice A n c,.int .i64 i] w fun e w'=>e= .returned (.int .u8 (if i<0 then 0 else l.getD i.toNat 0))∧w'=w:=by
 have HN:=Lib.hid hn
 by_cases h0:i<0
 ·rw[if_pos h0];have hd:decide (i<0)=true:=decide_eq_true h0;clear hn
  go_enter Tryz.func182,Tryz.ntmps182
  go_wp2;go_ret;exact⟨rfl,rfl⟩
 ·rw[if_neg h0];obtain⟨k,rfl⟩: ∃k:Nat,i=k:=⟨i.toNat,by omega⟩;rw[Int.toNat_natCast]
  by_cases hk:k<n
  ·obtain⟨b,off,rfl,_,hb,kc⟩:=h.at_ (i:=k) (by omega);obtain⟨x,hx⟩: ∃x,l.getD k 0=x:=⟨_,rfl⟩;rw[hx]at kc⊢;clear hn hx h
   go_enter Tryz.func182,Tryz.ntmps182
   go_wp2;go_ret;exact⟨rfl,rfl⟩
  ·have hz:l.getD k 0=0:=by rw[List.getD_eq_getElem?_getD,List.getElem?_eq_none (by omega)];rfl
   rw[hz]
   have hnk:n≤k:=by omega
   clear hn h hz
   go_enter Tryz.func182,Tryz.ntmps182
   go_wp2;go_ret;exact⟨rfl,rfl⟩
theorem getD_memI {l:List Int}{i:Nat}(h:i<l.length):l.getD i 0∈l:=by rw[List.getD_eq_getElem?_getD,List.getElem?_eq_getElem h];exact List.getElem_mem h
def anyP (S:List Int)(c:Int):Bool:=S.any fun x=>c==x
theorem any3:anyP [2,1,3]=str3:=by funext c;simp[anyP,str3,Bool.or_assoc]
theorem any2:anyP [2,1]=str2:=by funext c;simp[anyP,str2]
theorem rahead_ok {w:World}{B B2 n m c c2:Nat}{A A2:Option Addr}{l S:List Int}(h:RdInts w B .u8 A l)(h2:RdInts w B2 .u8 A2 S)(hn:n=l.length)(hm:m=S.length)(hl:n≤1099511627776)(hlm:m≤10)(sos:Int){i:Nat}(hi:i<n):
 Calls Tryz.prog 181 #[.slice A n c,.int .u8 sos,.int .i64 i,.slice A2 m c2] w fun e w'=>e= .returned (.int .u8 (lookB (anyP S) l sos i))∧ ∃d,w'=w.drewN d:=by
 have HN:=Lib.hid hn;have HM:=Lib.hid hm;obtain⟨res,hres⟩: ∃x,lookB (anyP S) l sos i=x:=⟨_,rfl⟩;rw[hres];have HRES:=Lib.hid hres;clear hn hm hres
 go_enter Tryz.func181,Tryz.ntmps181
 go_upto_region 2 with(fail)
 go_loopg [9] i (fun gk iv wr=>iv= .int .i64 ((gk:Int)-1)∧gk≤i∧lookB (anyP S) l sos gk=res∧ ∃d,wr=w.drewN d)
 case atStart=>exact⟨by go_num,Nat.le_refl _,HRES.out,0,rfl⟩
 case round=>
  obtain⟨rfl,hgi,hlk,d,rfl⟩:=hrel
  rcases gk with _|p
  ·have hr0:sos=res:=hlk;subst hr0;clear HRES;go_wp2;go_ret;exact⟨rfl,d,rfl⟩
  ·have hii:(((p+1:Nat):Int)-1)=(p:Int):=by omega
   rw[hii]
   have hpl:p<l.length:=by have:=HN.out;omega
   obtain⟨b,off,rfl,_,hb,kc⟩:=h.at_ hpl
   have hst:lookB (anyP S) l sos (p+1)=if anyP S (l.getD p 0)=true then l.getD p 0 else lookB (anyP S) l sos p:=rfl
   rw[hlk]at hst;obtain⟨x,hx⟩: ∃x,l.getD p 0=x:=⟨_,rfl⟩;rw[hx]at kc hst;have HST:=Lib.hid hst;clear hst hx hlk
   have hpn:p<n:=by omega
   go_upto_region 5 with(fail)
   go_loopg [10] m (fun gk2 jv wq=> ∃j d2:Nat,j+gk2=m∧jv= .int .i64 j∧(∀jj,jj<j→(x==S.getD jj 0)=false)∧wq=w.drewN d2)
   case atStart=>exact⟨0,d,by omega,rfl,fun jj h=>by omega,rfl⟩
   case round=>
    obtain⟨j,d2,hj,rfl,hno,rfl⟩:=hrel
    by_cases hjm:j<m
    ·obtain⟨b2,off2,rfl,_,hb2,kc2⟩:=h2.at_ (i:=j) (by have:=HM.out;omega);obtain⟨y,hy⟩: ∃y,S.getD j 0=y:=⟨_,rfl⟩;rw[hy]at kc2
     rcases hxy:(x==y)with _|_
     ·have HS:=Lib.hid (fun jj (hjj:jj<j+1)=>(show(x==S.getD jj 0)=false by
       by_cases e:jj=j
       ·subst e;rw[hy];exact hxy
       ·exact hno jj (by omega)))
      clear hno hy;go_wp2
      go_quiet (fail)
      go_wp2
      go_roundg (m-(j+1))
      case rel=>exact⟨j+1,_,by omega,by go_num,HS.out,by first|rfl|exact World.drewN_drewN _ _ _⟩
      case measure=>omega
     ·have hyes:anyP S x=true:=by
       unfold anyP;refine List.any_eq_true.2 ⟨S.getD j 0,getD_memI (by have:=HM.out;omega),?_⟩;rw[hy];exact hxy
      have hr0:res=x:=by rw[HST.out,if_pos hyes]
      subst hr0;clear hno hy hyes HST HRES;go_wp2
      go_quiet (fail)
      go_wp2;go_ret;exact⟨rfl,_,by first|rfl|exact World.drewN_drewN _ _ _⟩
    ·have hnot:anyP S x=false:=by
      rw[Bool.eq_false_iff];intro e;unfold anyP at e;obtain⟨z,hz,ez⟩:=List.any_eq_true.1 e;obtain⟨jj,hjj,e2⟩:=List.mem_iff_getElem.1 hz;have:=hno jj (by have:=HM.out;omega);rw[List.getD_eq_getElem?_getD,List.getElem?_eq_getElem hjj,Option.getD_some,e2,ez]at this;cases this
     have HL:=Lib.hid (show lookB (anyP S) l sos p=res by rw[HST.out,hnot,if_neg (by decide)]);clear hno hnot HST;go_wp2
     go_roundg p
     case rel=>exact⟨by first|rfl|go_num,by omega,HL.out,d2,rfl⟩
     case measure=>omega
end
end Go.Proofs.YtllolnkkepacjaaGreat
