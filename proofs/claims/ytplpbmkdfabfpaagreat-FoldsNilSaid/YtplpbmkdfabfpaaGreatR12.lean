/- Props made by hand: what they tell. May a sequence be looked at? What Find finds: the plain law. pairs.Find walked. -/
import Derived.Test.YtplpbmkdfabfpaaGreatR8
import Derived.Test.YtplpbmkdfabfpaaGreatP1
import Derived.Test.YtplpbmkdfabfpaaGreatH6
import Derived.WalkMore
set_option maxRecDepth 100000
set_option maxHeartbeats 4000000
namespace Go.Proofs.YtplpbmkdfabfpaaGreat
open Go.RowKit
section
attribute [local go_sem] Oper.semAt_some
structure Chr where
 r:Int
 cl:Int
 ot:Int
 sd:Int
 tw:Int
 mi:Int
 tu:Bool
def Chr.zero:Chr:=⟨0,0,0,0,0,0,false⟩
def chC (x:Chr):List Value:=[.int .i32 x.r,.int .u8 x.cl,.int .i32 x.ot,.int .u8 x.sd,.int .i32 x.tw,.int .i32 x.mi,.bool x.tu]
theorem encC:Enc chC 7:=⟨fun _=>rfl,fun x u hu=>by simp[chC]at hu;rcases hu with rfl|rfl|rfl|rfl|rfl|rfl|rfl<;>rfl⟩
def atL:List Chr→Int→Option Chr
 |[],_=>none
 |c::L,r=>if c.r=r then some c else atL L r
def brL (L:List Chr)(r:Int):Int×Int:=match atL L r with|some c=>if c.sd=1∨c.sd=2 then(c.ot,c.sd)else(0,0)|none=>(0,0)
def twL (L:List Chr)(r:Int):Int:=match atL L r with|some c=>if c.tw=0 then r else c.tw|none=>r
def cpL (rest:Int)(L:List Chr)(r:Int):Int:=match atL L r with|some c=>c.cl|none=>rest
def PropsIs (W:World)(B:Nat)(pv:Value)(rest:Int)(L:List Chr):Prop:= ∃A c,pv= .agg #[.int .u8 rest,.slice A L.length c]∧RdR chC 7 W B A L∧L.length≤4611686018427387904
theorem PropsIs.below {W W':World}{B C:Nat}{pv:Value}{rest:Int}{L:List Chr}(h:PropsIs W B pv rest L)(hb:Below C W W')(hC:B≤C∨W.heap.size≤C):PropsIs W' B pv rest L:=by obtain⟨A,c,h1,h2,h3⟩:=h;exact⟨A,c,h1,h2.below hb hC,h3⟩
theorem PropsIs.frm {W W':World}{B:Nat}{pv:Value}{rest:Int}{L:List Chr}(h:PropsIs W B pv rest L)(hF:Frm (fun _=>False) W W'):PropsIs W' B pv rest L:=h.below (hF.below (Nat.le_refl _) (fun _ _=>id)) (.inr (Nat.le_refl _))
theorem PropsIs.drew {W:World}{B:Nat}{pv:Value}{rest:Int}{L:List Chr}(h:PropsIs W B pv rest L):PropsIs W.drew B pv rest L:=h
theorem atL_drop {L:List Chr}{r:Int}: ∀{i:Nat} {x:Chr},L[i]?=some x→atL (L.drop i) r=if x.r=r then some x else atL (L.drop (i+1)) r:=by
 intro i x h;have hi:i<L.length:=(List.getElem?_eq_some_iff.1 h).1
 have:L.drop i=x::L.drop (i+1):=by rw[List.drop_eq_getElem_cons hi];rw[List.getElem?_eq_getElem hi]at h;rw[Option.some.inj h]
 rw[this];rfl
theorem at_ok {w:World}{B:Nat}{pv:Value}{rest:Int}{L:List Chr}(r:Int)(h:PropsIs w B pv rest L):
 Calls Tryz.prog 39 #[pv,.int .i32 r] w fun e w'=>e= .returned (.tuple #[.agg (chC ((atL L r).getD Chr.zero)).toArray,.bool (atL L r).isSome])∧Below w.heap.size w w':=by
 obtain⟨A,c,rfl,hR,hm⟩:=h;obtain⟨n,hn⟩: ∃n,L.length=n:=⟨_,rfl⟩;rw[hn]at hm⊢;have HN:=Lib.hid hn;clear hn;obtain⟨W1,hW1⟩: ∃W1,((w.alloc (.cells #[.int .u8 rest,.slice A n c] 25)).alloc (.cells #[.int .i32 0,.int .u8 0,.int .i32 0,.int .u8 0,.int .i32 0,.int .i32 0,.bool false] 60))=W1:=⟨_,rfl⟩
 have b1:Below w.heap.size w W1:=by rw[←hW1];exact((Below.refl _ w).alloc (Nat.le_refl _) _).alloc (by simp) _
 have X2:Blk W1 w.heap.size 25 #[.int .u8 rest,.slice A n c]:=by rw[←hW1];exact(Blk.new w 25 _).alloc _
 have X4:Blk W1 (w.heap.size+1) 60 #[.int .i32 0,.int .u8 0,.int .i32 0,.int .u8 0,.int .i32 0,.int .i32 0,.bool false]:=by rw[←hW1];exact Blk.at_ (by simp)
 have hR1:=hR.below b1 (.inr (Nat.le_refl _));have HW1:=Lib.hid hW1;obtain⟨x0,x1,xf,xl⟩:=X2.c2;clear hW1
 have fin: ∀(y:Chr),∃W2,(((((((W1.setCell ⟨w.heap.size+1,0,none⟩ (.int .i32 y.r)).setCell ⟨w.heap.size+1,1,none⟩ (.int .u8 y.cl)).setCell ⟨w.heap.size+1,2,none⟩ (.int .i32 y.ot)).setCell ⟨w.heap.size+1,3,none⟩ (.int .u8 y.sd)).setCell ⟨w.heap.size+1,4,none⟩ (.int .i32 y.tw)).setCell ⟨w.heap.size+1,5,none⟩ (.int .i32 y.mi)).setCell ⟨w.heap.size+1,6,none⟩ (.bool y.tu))=W2∧
  Blk W2 (w.heap.size+1) 60 (chC y).toArray∧Below w.heap.size w W2:=by
  intro y;refine⟨_,rfl,?_,?_⟩
  ·simpa[chC]using((((((X4.set_ 0 (.int .i32 y.r)).set_ 1 (.int .u8 y.cl)).set_ 2 (.int .i32 y.ot)).set_ 3 (.int .u8 y.sd)).set_ 4 (.int .i32 y.tw)).set_ 5 (.int .i32 y.mi)).set_ 6 (.bool y.tu)
  ·have F:=(((((((Frm.refl (fun i=>i=w.heap.size+1) W1).set (j:=0) rfl (.int .i32 y.r)).set (j:=1) rfl (.int .u8 y.cl)).set (j:=2) rfl (.int .i32 y.ot)).set (j:=3) rfl (.int .u8 y.sd)).set (j:=4) rfl (.int .i32 y.tw)).set (j:=5) rfl (.int .i32 y.mi)).set (j:=6) rfl (.bool y.tu);exact b1.trans (F.below b1.size (fun i hi e=>by omega))
 obtain⟨e0,e1,e2,e3,e4,e5,e6,ef,el⟩:W1.cell? ⟨w.heap.size+1,0,none⟩=some (.int .i32 0)∧W1.cell? ⟨w.heap.size+1,1,none⟩=some (.int .u8 0)∧W1.cell? ⟨w.heap.size+1,2,none⟩=some (.int .i32 0)∧W1.cell? ⟨w.heap.size+1,3,none⟩=some (.int .u8 0)∧W1.cell? ⟨w.heap.size+1,4,none⟩=some (.int .i32 0)∧W1.cell? ⟨w.heap.size+1,5,none⟩=some (.int .i32 0)∧W1.cell? ⟨w.heap.size+1,6,none⟩=some (.bool false)∧(∀j,W1.frozen? ⟨w.heap.size+1,j,none⟩=false)∧w.heap.size+1<W1.heap.size:=⟨X4.cell 0,X4.cell 1,X4.cell 2,X4.cell 3,X4.cell 4,X4.cell 5,X4.cell 6,X4.frozen,X4.lt⟩
 have FIN:=Lib.hid fin;clear fin
 go_enter Tryz.func39,Tryz.ntmps39
 go_upto_region 1 with(fail)
 rw[HW1.out];go_wp2
 go_loopg [6] n (fun gk iv wr=> ∃i:Nat,i+gk=n∧iv= .int .i64 i∧atL L r=atL (L.drop i) r∧wr=W1)
 case atStart=>exact⟨0,by omega,rfl,rfl,rfl⟩
 case round=>
  obtain⟨i,hi,rfl,hat,rfl⟩:=hrel;have HI:=Lib.hid hi;have HAT:=Lib.hid hat;clear hi hat
  by_cases hlt:i<n
  ·obtain⟨x,hx⟩: ∃x,L[i]?=some x:=⟨_,List.getElem?_eq_getElem (by have:=HN.out;omega)⟩;obtain⟨ab,off,rfl,a1,a2,hc⟩:=hR1.at_ encC hx (by omega);have c0:=hc 0 _ rfl;have c1:=hc 1 _ rfl;have c2:=hc 2 _ rfl;have c3:=hc 3 _ rfl;have c4:=hc 4 _ rfl;have c5:=hc 5 _ rfl;have c6:=hc 6 _ rfl;rw[Nat.add_zero]at c0;rw[←Nat.add_assoc]at c1 c2 c3 c4 c5 c6;have hst:=atL_drop (r:=r) hx;have HST:=Lib.hid hst;clear hst hc hx
   by_cases hk:x.r=r
   ·subst hk
    have hkk:(x.r==x.r)=true:=by simp
    have he:atL L x.r=some x:=by rw[HAT.out,HST.out,if_pos rfl]
    have HE:=Lib.hid he;clear he;go_wp2;rw[HE.out];obtain⟨W2,q1,q2,q3⟩:=FIN.out x;rw[q1];exact bodyPost_ret (results_row1 rfl _ _ (w.heap.size+1) 60 #[.int .i32 x.r,.int .u8 x.cl,.int .i32 x.ot,.int .u8 x.sd,.int .i32 x.tw,.int .i32 x.mi,.bool x.tu] _ rfl q2 Tryz.underlying60 rfl (by kernel_rfl)) rfl ⟨rfl,q3⟩
   ·have hkk:(x.r==r)=false:=by simpa using hk
    go_wp2
    go_roundg (n-(i+1))
    case rel=>exact⟨i+1,by omega,by go_num,by rw[HAT.out,HST.out,if_neg hk],rfl⟩
    case measure=>have:=HI.out;omega
  ·have he:atL L r=none:=by rw[HAT.out,List.drop_eq_nil_of_le (by have:=HN.out;omega)];rfl
   have HE:=Lib.hid he;clear he;go_wp2;rw[HE.out];obtain⟨W2,q1,q2,q3⟩:=FIN.out Chr.zero;simp only[Chr.zero]at q1 q2 q3;rw[q1];exact bodyPost_ret (results_row1 rfl _ _ (w.heap.size+1) 60 #[.int .i32 0,.int .u8 0,.int .i32 0,.int .u8 0,.int .i32 0,.int .i32 0,.bool false] _ rfl q2 Tryz.underlying60 rfl (by kernel_rfl)) rfl ⟨rfl,q3⟩
theorem brack_ok {w:World}{B:Nat}{pv:Value}{rest:Int}{L:List Chr}(r:Int)(h:PropsIs w B pv rest L):
 Calls Tryz.prog 15 #[pv,.int .i32 r] w fun e w'=>e= .returned (.tuple #[.int .i32 (brL L r).1,.int .u8 (brL L r).2])∧Below w.heap.size w w':=by
 have CT: ∀W,Frm (fun _=>False) w W→Calls Tryz.prog 39 #[pv,.int .i32 r] W fun e w'=>e= .returned (.tuple #[.agg (chC ((atL L r).getD Chr.zero)).toArray,.bool (atL L r).isSome])∧Below W.heap.size W w':=fun W hF=>at_ok r (h.frm hF);obtain⟨A,c,rfl,hR,hm⟩:=h
 have hbr:brL L r=if((atL L r).getD Chr.zero).sd=1∨((atL L r).getD Chr.zero).sd=2 then(((atL L r).getD Chr.zero).ot,((atL L r).getD Chr.zero).sd)else(0,0):=by unfold brL;cases atL L r<;>rfl
 obtain⟨x,hx⟩: ∃x,(atL L r).getD Chr.zero=x:=⟨_,rfl⟩;obtain⟨b,hb⟩: ∃b,(atL L r).isSome=b:=⟨_,rfl⟩;rw[hx,hb]at CT;rw[hx]at hbr;rw[hbr];obtain⟨n,hn⟩: ∃n,L.length=n:=⟨_,rfl⟩;rw[hn]at CT⊢;simp only[chC]at CT;have F1:Frm (fun _=>False) w (w.alloc (.cells #[.int .u8 rest,.slice A n c] 25)):=(Frm.refl _ w).alloc _;have CT1:=CT _ F1;clear hx hb hbr hn CT
 by_cases h1:x.sd=1
 ·obtain⟨a1,a2,a3,a4,a5,a6,a7⟩:=x;simp only at h1 CT1;subst h1;rw[if_pos (.inl rfl)]
  go_enter Tryz.func15,Tryz.ntmps15
  go_wp2_with(go_at_call 39;refine CT1.mono ?_;rintro e1 w1 ⟨rfl,b1⟩)
  go_quiet (fail)
  go_wp2
  go_ret2
  exact⟨rfl,below_drewN (((Below.refl _ w).alloc (Nat.le_refl _) _).trans (b1.mono (by simp))|>.alloc (by have:=b1.size;simp at this;omega) _) _⟩
 ·by_cases h2:x.sd=2
  ·obtain⟨a1,a2,a3,a4,a5,a6,a7⟩:=x;simp only at h2 CT1;subst h2;rw[if_pos (.inr rfl)]
   go_enter Tryz.func15,Tryz.ntmps15
   go_wp2_with(go_at_call 39;refine CT1.mono ?_;rintro e1 w1 ⟨rfl,b1⟩)
   go_quiet (fail)
   go_wp2
   go_ret2
   exact⟨rfl,below_drewN (((Below.refl _ w).alloc (Nat.le_refl _) _).trans (b1.mono (by simp))|>.alloc (by have:=b1.size;simp at this;omega) _) _⟩
  ·rw[if_neg (by omega)]
   have hn1:(x.sd !=1)=true:=by simpa using h1
   have hn2:(x.sd !=2)=true:=by simpa using h2
   go_enter Tryz.func15,Tryz.ntmps15
   go_wp2_with(go_at_call 39;refine CT1.mono ?_;rintro e1 w1 ⟨rfl,b1⟩)
   go_ret2
   exact⟨rfl,((((Below.refl _ w).alloc (Nat.le_refl _) _).trans (b1.mono (by simp))).alloc (by have:=b1.size;simp at this;omega) _)⟩
theorem class_ok {w:World}{B:Nat}{pv:Value}{rest:Int}{L:List Chr}(r:Int)(h:PropsIs w B pv rest L):
 Calls Tryz.prog 17 #[pv,.int .i32 r] w fun e w'=>e= .returned (.int .u8 (cpL rest L r))∧Below w.heap.size w w':=by
 have CT: ∀W,Frm (fun _=>False) w W→Calls Tryz.prog 39 #[pv,.int .i32 r] W fun e w'=>e= .returned (.tuple #[.agg (chC ((atL L r).getD Chr.zero)).toArray,.bool (atL L r).isSome])∧Below W.heap.size W w':=fun W hF=>at_ok r (h.frm hF);obtain⟨A,c,rfl,hR,hm⟩:=h;obtain⟨n,hn⟩: ∃n,L.length=n:=⟨_,rfl⟩;rw[hn]at CT⊢;simp only[chC]at CT;have F1:Frm (fun _=>False) w (w.alloc (.cells #[.int .u8 rest,.slice A n c] 25)):=(Frm.refl _ w).alloc _;have CT1:=CT _ F1;unfold cpL;clear CT hn;obtain⟨o,ho⟩: ∃o,atL L r=o:=⟨_,rfl⟩;rw[ho]at CT1⊢;clear ho
 rcases o with _|x
 ·simp only[Option.getD_none,Option.isSome_none,Chr.zero]at CT1
  go_enter Tryz.func17,Tryz.ntmps17
  go_wp2_with(go_at_call 39;refine CT1.mono ?_;rintro e1 w1 ⟨rfl,b1⟩;have hc:=(Blk.new w 25 #[.int .u8 rest,.slice A n c]).below b1 (by simp);obtain⟨y0,y1,yf,yl⟩:=hc.c2)
  go_ret;exact⟨rfl,((((Below.refl _ w).alloc (Nat.le_refl _) _).trans (b1.mono (by simp))).alloc (by have:=b1.size;simp at this;omega) _)⟩
 ·simp only[Option.getD_some,Option.isSome_some]at CT1
  go_enter Tryz.func17,Tryz.ntmps17
  go_wp2_with(go_at_call 39;refine CT1.mono ?_;rintro e1 w1 ⟨rfl,b1⟩)
  go_ret;exact⟨rfl,((((Below.refl _ w).alloc (Nat.le_refl _) _).trans (b1.mono (by simp))).alloc (by have:=b1.size;simp at this;omega) _)⟩
theorem twin_ok {w:World}{B:Nat}{pv:Value}{rest:Int}{L:List Chr}(r:Int)(h:PropsIs w B pv rest L):
 Calls Tryz.prog 18 #[pv,.int .i32 r] w fun e w'=>e= .returned (.int .i32 (twL L r))∧Below w.heap.size w w':=by
 have CT: ∀W,Frm (fun _=>False) w W→Calls Tryz.prog 39 #[pv,.int .i32 r] W fun e w'=>e= .returned (.tuple #[.agg (chC ((atL L r).getD Chr.zero)).toArray,.bool (atL L r).isSome])∧Below W.heap.size W w':=fun W hF=>at_ok r (h.frm hF);obtain⟨A,c,rfl,hR,hm⟩:=h;obtain⟨n,hn⟩: ∃n,L.length=n:=⟨_,rfl⟩;rw[hn]at CT⊢;simp only[chC]at CT;have F1:Frm (fun _=>False) w (w.alloc (.cells #[.int .u8 rest,.slice A n c] 25)):=(Frm.refl _ w).alloc _;have CT1:=CT _ F1;unfold twL;clear CT hn;obtain⟨o,ho⟩: ∃o,atL L r=o:=⟨_,rfl⟩;rw[ho]at CT1⊢;clear ho
 rcases o with _|x
 ·simp only[Option.getD_none,Option.isSome_none,Chr.zero]at CT1
  go_enter Tryz.func18,Tryz.ntmps18
  go_wp2_with(go_at_call 39;refine CT1.mono ?_;rintro e1 w1 ⟨rfl,b1⟩)
  go_ret;exact⟨rfl,((((Below.refl _ w).alloc (Nat.le_refl _) _).trans (b1.mono (by simp))).alloc (by have:=b1.size;simp at this;omega) _)⟩
 ·simp only[Option.getD_some,Option.isSome_some]at CT1;obtain⟨a1,a2,a3,a4,a5,a6,a7⟩:=x;simp only at CT1⊢
  by_cases h0:a5=0
  ·subst h0;rw[if_pos rfl]
   go_enter Tryz.func18,Tryz.ntmps18
   go_wp2_with(go_at_call 39;refine CT1.mono ?_;rintro e1 w1 ⟨rfl,b1⟩)
   go_ret;exact⟨rfl,((((Below.refl _ w).alloc (Nat.le_refl _) _).trans (b1.mono (by simp))).alloc (by have:=b1.size;simp at this;omega) _)⟩
  ·rw[if_neg h0]
   have h00:(a5==0)=false:=by simpa using h0
   go_enter Tryz.func18,Tryz.ntmps18
   go_wp2_with(go_at_call 39;refine CT1.mono ?_;rintro e1 w1 ⟨rfl,b1⟩)
   go_ret;exact⟨rfl,((((Below.refl _ w).alloc (Nat.le_refl _) _).trans (b1.mono (by simp))).alloc (by have:=b1.size;simp at this;omega) _)⟩
def runC (r:Int):Int:=if r<0∨1114111<r then 65533 else r
theorem rRune_ok (w:World)(r:Int):Calls Tryz.prog 26 #[.int .i32 r] w fun e w'=>e= .returned (.int .i32 (runC r))∧w'=w:=by
 unfold runC
 by_cases h1:r<0
 ·rw[if_pos (.inl h1)]
  go_enter Tryz.func26,Tryz.ntmps26
  go_wp2;go_ret;exact⟨rfl,rfl⟩
 ·by_cases h2:1114111<r
  ·rw[if_pos (.inr h2)]
   go_enter Tryz.func26,Tryz.ntmps26
   go_wp2;go_ret;exact⟨rfl,rfl⟩
  ·rw[if_neg (by omega)]
   go_enter Tryz.func26,Tryz.ntmps26
   go_wp2;go_ret;exact⟨rfl,rfl⟩
theorem plain_ok (w:World)(r:Int):Calls Tryz.prog 88 #[.int .i32 r] w fun e w'=>e= .returned (.int .i32 (runC r))∧w'=w:=by
 unfold runC
 by_cases h1:r<0
 ·rw[if_pos (.inl h1)]
  go_enter Tryz.func88,Tryz.ntmps88
  go_wp2;go_ret;exact⟨rfl,rfl⟩
 ·by_cases h2:1114111<r
  ·rw[if_pos (.inr h2)]
   go_enter Tryz.func88,Tryz.ntmps88
   go_wp2;go_ret;exact⟨rfl,rfl⟩
  ·rw[if_neg (by omega)]
   go_enter Tryz.func88,Tryz.ntmps88
   go_wp2;go_ret;exact⟨rfl,rfl⟩
attribute [local go_sem] Oper.semAt_some
def SqIs (W:World)(B:Nat)(sv:Value)(s:Sq):Prop:= ∃(A A2:Option Addr) (c c2:Nat),sv= .agg (s.is (.slice A s.pl.length c) (.slice A2 s.cs.length c2))∧RdInts W B .i64 A s.pl∧RdInts W B .u8 A2 s.cs∧s.pl.length≤4611686018427387904∧s.cs.length≤4611686018427387904
theorem SqIs.below {W W':World}{B C:Nat}{sv:Value}{s:Sq}(h:SqIs W B sv s)(hb:Below C W W')(hC:B≤C∨W.heap.size≤C):SqIs W' B sv s:=by obtain⟨A,A2,c,c2,h1,h2,h3,h4⟩:=h;exact⟨A,A2,c,c2,h1,h2.below hb hC,h3.below hb hC,h4⟩
theorem SqIs.more {W:World}{B B':Nat}{sv:Value}{s:Sq}(h:SqIs W B sv s)(hB:B≤B'):SqIs W B' sv s:=by obtain⟨A,A2,c,c2,h1,h2,h3,h4⟩:=h;exact⟨A,A2,c,c2,h1,h2.more hB,h3.more hB,h4⟩
theorem SqIs.frm {W W':World}{B:Nat}{sv:Value}{s:Sq}(h:SqIs W B sv s)(hF:Frm (fun _=>False) W W'):SqIs W' B sv s:=h.below (hF.below (Nat.le_refl _) (fun _ _=>id)) (.inr (Nat.le_refl _))
theorem check_sq {w:World}{B:Nat}{sv:Value}{s:Sq}(h:SqIs w B sv s):Calls Tryz.prog 67 #[sv] w fun r w'=>r= .returned (.int .i64 (chkL s))∧Below w.heap.size w w':=by obtain⟨A,A2,c,c2,rfl,h1,h2,h3,_⟩:=h;exact Check_ok rfl rfl h1 h2 (by omega)
theorem chk_pos {s:Sq}(h:chkL s=0):0<s.pl.length∧s.pl.length=s.cs.length:=by
 unfold chkL at h
 split at h
 ·cases h
 ·rename_i hn
  constructor
  ·rcases Nat.eq_zero_or_pos s.pl.length with h0|h0
   ·exact absurd (.inl h0) hn
   ·exact h0
  ·rcases Nat.decEq s.pl.length s.cs.length with h0|h0
   ·exact absurd (.inr (.inl h0)) hn
   ·exact h0
def mayL (n:Nat)(s:Sq):Int:=if chkL s≠0 then chkL s else if(n:Int)≤s.pl.getD (s.pl.length-1) 0 then 2 else 0
theorem may_ok {w:World}{B n:Nat}{sv:Value}{s:Sq}(h:SqIs w B sv s)(t:TypeId)(v:Value)(_hn:n≤4611686018427387904):
 Calls Tryz.prog 86 #[.iface t v,.int .i64 n,sv] w fun r w'=>r= .returned (.int .i64 (mayL n s))∧Below w.heap.size w w':=by
 have h0:=h;obtain⟨A,A2,c,c2,hsv,h1,h2,h3,h4⟩:=h;have CK: ∀W,Frm (fun _=>False) w W→Calls Tryz.prog 67 #[sv] W fun r w'=>r= .returned (.int .i64 (chkL s))∧Below W.heap.size W w':=fun W hF=>check_sq (h0.frm hF);subst hsv;obtain⟨pl,cs,lv,so,eo⟩:=s;simp only[Sq.is]at CK⊢;simp only at h1 h2 h3 h4;have F1:Frm (fun _=>False) w (w.alloc (.cells #[.slice A pl.length c,.slice A2 cs.length c2,.int .i8 lv,.int .u8 so,.int .u8 eo] 92)):=(Frm.refl _ w).alloc _;have CK1:=CK _ F1;obtain⟨e,he⟩: ∃e,chkL ⟨pl,cs,lv,so,eo⟩=e:=⟨_,rfl⟩;rw[he]at CK1;clear CK h0;obtain⟨m,hm⟩: ∃m,mayL n ⟨pl,cs,lv,so,eo⟩=m:=⟨_,rfl⟩;rw[hm];have HM:=Lib.hid hm;have HE:=Lib.hid he;clear hm he;obtain⟨pn,hpn⟩: ∃pn,pl.length=pn:=⟨_,rfl⟩;rw[hpn]at CK1 h3⊢;have HPN:=Lib.hid hpn;clear hpn
 by_cases he0:e=0
 ·subst he0;obtain⟨hp0,hpc⟩:=chk_pos HE.out;simp only at hp0 hpc;obtain⟨b,off,rfl,b1,b2,c0⟩:=h1.at_ (i:=pl.length-1) (by omega);obtain⟨q,hq⟩: ∃q,pl.getD (pl.length-1) 0=q:=⟨_,rfl⟩;rw[hq,HPN.out]at c0;rw[HPN.out]at hp0
  have hlast:IntKind.i64.wrap ((pn:Int)-1)=((pn-1:Nat):Int):=by rw[IntWalk.i64_in _ (by omega)];omega
  have hpl:pn-1<pn:=by omega
  have HQ:=Lib.hid hq;clear hq hpc
  by_cases hge:(n:Int)≤q
  ·have hm2:m=2:=by rw[←HM.out];unfold mayL;rw[if_neg (by rw[HE.out];simp),if_pos (by simp only;rw[HQ.out];exact hge)]
   subst hm2
   go_enter Tryz.func86,Tryz.ntmps86
   go_wp2_with(go_at_call 67;refine CK1.mono ?_;rintro r1 w1 ⟨rfl,bb⟩;have X:=(Blk.new w 92 #[.slice (some ⟨b,off,none⟩) pn c,.slice A2 cs.length c2,.int .i8 lv,.int .u8 so,.int .u8 eo]).below bb (by simp);obtain⟨y0,y1,y2,y3,y4,yf,yl⟩:=X.c5;have hb2:w1.cell? ⟨b,off+(pn-1),none⟩=some (.int .i64 q):=((bcell bb).1 b _ (by simp;omega)).trans (by rw[World.cell?_alloc_lt _ _ _ (by simpa using b2)];exact c0))
   go_ret;exact⟨rfl,((Below.refl _ w).alloc (Nat.le_refl _) _).trans (bb.mono (by simp))⟩
  ·have hm2:m=0:=by rw[←HM.out];unfold mayL;rw[if_neg (by rw[HE.out];simp),if_neg (by simp only;rw[HQ.out];exact hge)]
   subst hm2
   go_enter Tryz.func86,Tryz.ntmps86
   go_wp2_with(go_at_call 67;refine CK1.mono ?_;rintro r1 w1 ⟨rfl,bb⟩;have X:=(Blk.new w 92 #[.slice (some ⟨b,off,none⟩) pn c,.slice A2 cs.length c2,.int .i8 lv,.int .u8 so,.int .u8 eo]).below bb (by simp);obtain⟨y0,y1,y2,y3,y4,yf,yl⟩:=X.c5;have hb2:w1.cell? ⟨b,off+(pn-1),none⟩=some (.int .i64 q):=((bcell bb).1 b _ (by simp;omega)).trans (by rw[World.cell?_alloc_lt _ _ _ (by simpa using b2)];exact c0))
   go_ret;exact⟨rfl,((Below.refl _ w).alloc (Nat.le_refl _) _).trans (bb.mono (by simp))⟩
 ·have hm2:m=e:=by rw[←HM.out];unfold mayL;rw[if_pos (by rw[HE.out];exact he0),HE.out]
  subst hm2
  have he1:(m !=0)=true:=by simpa using he0
  go_enter Tryz.func86,Tryz.ntmps86
  go_wp2_with(go_at_call 67;refine CK1.mono ?_;rintro r1 w1 ⟨rfl,bb⟩)
  go_ret;exact⟨rfl,((Below.refl _ w).alloc (Nat.le_refl _) _).trans (bb.mono (by simp))⟩
theorem chk_each {s:Sq}(h:chkL s=0): ∀i,i<s.pl.length→lastAt s.pl i<s.pl.getD i 0∧remC (s.cs.getD i 0)=false∧clsC (s.cs.getD i 0)=s.cs.getD i 0:=by
 intro i hi;unfold chkL at h
 split at h
 ·cases h
 ·split at h
  ·cases h
  ·rename_i hn
   have:chkAt s i=false:=by
    rcases hx:chkAt s i with _|_
    ·rfl
    ·exact absurd (List.any_eq_true.2 ⟨i,List.mem_range.2 hi,hx⟩) hn
   unfold chkAt at this;simp only[Bool.or_eq_false_iff,decide_eq_false_iff_not,bne_eq_false_iff_eq]at this;exact⟨by omega,this.1.2,this.2⟩
theorem chk_inc {s:Sq}(h:chkL s=0): ∀(d i:Nat),i+d<s.pl.length→0≤s.pl.getD i 0∧s.pl.getD i 0+d≤s.pl.getD (i+d) 0
 |0,0,hi=>by
  have:=(chk_each h 0 hi).1;unfold lastAt at this;rw[if_pos rfl]at this;exact⟨by omega,by simp⟩
 |0,i+1,hi=>by
  have h0:=chk_inc h 0 i (by omega);have:=(chk_each h (i+1) hi).1;unfold lastAt at this;rw[if_neg (by omega)]at this
  have e:i+1-1=i:=by omega
  rw[e]at this;exact⟨by omega,by simp⟩
 |d+1,i,hi=>by
  have h0:=chk_inc h d i (by omega);have:=(chk_each h (i+(d+1)) hi).1;unfold lastAt at this;rw[if_neg (by omega)]at this
  have e:i+(d+1)-1=i+d:=by omega
  rw[e]at this;exact⟨h0.1,by omega⟩
theorem may_zero {n:Nat}{s:Sq}(h:mayL n s=0):chkL s=0∧ ∀i,i<s.pl.length→0≤s.pl.getD i 0∧s.pl.getD i 0<(n:Int):=by
 unfold mayL at h
 split at h
 ·rename_i h1;exact absurd h h1
 ·rename_i h1
  have h1:chkL s=0:=Classical.not_not.1 h1
  split at h
  ·cases h
  ·rename_i h2
   refine⟨h1,fun i hi=> ?_⟩;have:=chk_inc h1 (s.pl.length-1-i) i (by omega)
   have e:i+(s.pl.length-1-i)=s.pl.length-1:=by omega
   rw[e]at this;exact⟨this.1,by omega⟩
theorem may_two {n:Nat}{s:Sq}(h:chkL s=0):mayL n s=if∃i,i<s.pl.length∧(n:Int)≤s.pl.getD i 0 then 2 else 0:=by
 unfold mayL;rw[if_neg (by rw[h];simp)];have hp:=(chk_pos h).1
 by_cases h2:(n:Int)≤s.pl.getD (s.pl.length-1) 0
 ·rw[if_pos h2,if_pos ⟨s.pl.length-1,by omega,h2⟩]
 ·rw[if_neg h2,if_neg];rintro⟨i,hi,h3⟩;have:=chk_inc h (s.pl.length-1-i) i (by omega)
  have e:i+(s.pl.length-1-i)=s.pl.length-1:=by omega
  rw[e]at this;omega
structure Mk where
 i:Int
 sd:Int
 ky:Int
deriving Inhabited
def m3C (m:Mk):List Value:=[.int .i64 m.i,.int .u8 m.sd,.int .i32 m.ky]
theorem enc3:Enc m3C 3:=⟨fun _=>rfl,fun x u hu=>by simp[m3C]at hu;rcases hu with rfl|rfl|rfl<;>rfl⟩
def mk1 (ch:List Chr)(rs:List Int)(s:Sq)(i:Nat):List Mk:=
 if s.cs.getD i 0=14 then
  let r:=runC (rs.getD (s.pl.getD i 0).toNat 0)
  if(brL ch r).2=1 then [⟨i,1,twL ch (brL ch r).1⟩]else if(brL ch r).2=2 then [⟨i,2,twL ch r⟩]else []
 else []
def mkT (ch:List Chr)(rs:List Int)(s:Sq):Nat→List Mk
 |0=>[]
 |k+1=>mkT ch rs s k++mk1 ch rs s k
structure PS where
 l:List (Int×Int)
 f:List (Int×Int)
 ov:Bool
def stpM (p:PS)(m:Mk):PS:=if p.ov then p else if m.sd=1 then⟨opL p.l p.ov m.i m.ky,p.f,opV p.l p.ov⟩else⟨clL p.l m.ky,clF p.l p.f m.i m.ky,p.ov⟩
def fdT (ch:List Chr)(rs:List Int)(s:Sq)(k:Nat):PS:=(mkT ch rs s k).foldl stpM ⟨[],[],false⟩
theorem fdT_succ (ch:List Chr)(rs:List Int)(s:Sq)(k:Nat):fdT ch rs s (k+1)=(mk1 ch rs s k).foldl stpM (fdT ch rs s k):=by unfold fdT;rw[mkT,List.foldl_append]
theorem fold_over: ∀(ms:List Mk) {p:PS},p.ov=true→ms.foldl stpM p=p
 |[],_,_=>rfl
 |m::ms,p,h=>by
  have e:stpM p m=p:=by unfold stpM;rw[if_pos h]
  rw[List.foldl_cons,e];exact fold_over ms h
theorem fdT_over {ch:List Chr}{rs:List Int}{s:Sq}{k:Nat}(h:(fdT ch rs s k).ov=true): ∀d,fdT ch rs s (k+d)=fdT ch rs s k
 |0=>rfl
 |d+1=>by
  rw[←Nat.add_assoc,fdT_succ,fold_over _ (by rw[fdT_over h d];exact h),fdT_over h d]
def PSok (p:PS)(k:Nat):Prop:=p.l.length≤63∧p.f.length≤k∧(p.ov=true→p.l=[])
theorem PSok.mono {p:PS}{k k':Nat}(h:PSok p k)(hk:k≤k'):PSok p k':=⟨h.1,by have:=h.2.1;omega,h.2.2⟩
theorem clL_len (l:List (Int×Int))(k:Int):(clL l k).length≤l.length:=by
 unfold clL
 split
 ·rw[List.length_take];omega
 ·omega
theorem clF_len (l f:List (Int×Int))(a k:Int):(clF l f a k).length≤f.length+1:=by
 unfold clF
 split
 ·simp
 ·omega
theorem opL_len (l:List (Int×Int))(a k:Int)(h:l.length≤63):(opL l false a k).length≤63∧(opV l false=true→opL l false a k=[]):=by
 unfold opL opV;rw[if_neg (by decide)]
 split
 ·exact⟨by simp,fun _=>rfl⟩
 ·rename_i h2
  refine⟨by simp;omega,fun h3=> ?_⟩;simp at h3;omega
theorem stpM_ok {p:PS}{k:Nat}(h:PSok p k)(m:Mk):PSok (stpM p m) (k+1):=by
 unfold stpM
 by_cases ho:p.ov=true
 ·rw[if_pos ho];exact h.mono (by omega)
 ·have hf:p.ov=false:=by simpa using ho
  rw[if_neg ho,hf]
  split
  ·exact⟨(opL_len p.l m.i m.ky h.1).1,by have:=h.2.1;simp only;omega,(opL_len p.l m.i m.ky h.1).2⟩
  ·exact⟨Nat.le_trans (clL_len _ _) h.1,by have:=h.2.1;have:=clF_len p.l p.f m.i m.ky;simp only;omega,fun h2=>by cases h2⟩
theorem fdT_ok (ch:List Chr)(rs:List Int)(s:Sq): ∀k,PSok (fdT ch rs s k) k
 |0=>⟨by simp[fdT,mkT],by simp[fdT,mkT],fun _=>rfl⟩
 |k+1=>by
  rw[fdT_succ];have h:=fdT_ok ch rs s k;unfold mk1
  split
  ·simp only
   split
   ·exact stpM_ok h _
   ·split
    ·exact stpM_ok h _
    ·exact h.mono (by omega)
  ·exact h.mono (by omega)
def findF (ch:List Chr)(rs:List Int)(s:Sq):List (Int×Int):=if mayL rs.length s=0 then ssort (fdT ch rs s s.pl.length).f else []
end
section
attribute [local go_sem] Oper.semAt_some
@[go_sem] theorem meth_brack (w:World) (pv:Value):(method 339 25 pv "Bracket").run Tryz.prog w= .ok (15,pv) w:=by kernel_rfl
@[go_sem] theorem meth_twin (w:World) (pv:Value):(method 339 25 pv "Twin").run Tryz.prog w= .ok (18,pv) w:=by kernel_rfl
theorem BrsAt.base {W:World}{B B':Nat}{v:Value}{D:List (Int×Int)}(h:BrsAt W B v D)(hB:B'≤B):BrsAt W B' v D:=by
 rcases h with h|⟨g,cap,h1,h2,h3,h4⟩
 ·exact .inl h
 ·exact .inr ⟨g,cap,h1,h2,Nat.le_trans hB h3,h4⟩
theorem Reads.clip {w:World}{B size n:Nat}{A:Option Addr}{xs:List Value}(h:Reads w B size A n xs):Reads w w.heap.size size A n xs:=⟨h.1,fun h0=>by obtain⟨b,off,e,_,h2,h3⟩:=h.2 h0;exact⟨b,off,e,h2,h2,h3⟩⟩
theorem RdInts.clip {w:World}{B:Nat}{k:IntKind}{A:Option Addr}{l:List Int}(h:RdInts w B k A l):RdInts w w.heap.size k A l:=Reads.clip h
theorem RdR.clip {α:Type}{c:α→List Value}{sz:Nat}{w:World}{B:Nat}{A:Option Addr}{l:List α}(h:RdR c sz w B A l):RdR c sz w w.heap.size A l:=Reads.clip h
theorem PropsIs.clip {w:World}{B:Nat}{pv:Value}{rest:Int}{L:List Chr}(h:PropsIs w B pv rest L):PropsIs w w.heap.size pv rest L:=by obtain⟨A,c,h1,h2,h3⟩:=h;exact⟨A,c,h1,h2.clip,h3⟩
theorem PFind_ok {w:World}{Bp Br Bs rc:Nat}{pv sv:Value}{rest:Int}{ch:List Chr}{rA:Option Addr}{rs:List Int}{s:Sq}(hP:PropsIs w Bp pv rest ch)(hR:RdInts w Br .i32 rA rs)(hS:SqIs w Bs sv s)(hn:s.pl.length≤1048576)(hrn:rs.length≤4611686018427387904):
 Calls Tryz.prog 61 #[.iface 25 pv,.slice rA rs.length rc,sv] w fun r w'=> ∃v,r= .returned (.tuple #[v,.int .i64 (mayL rs.length s)])∧BrsAt w' w.heap.size v (findF ch rs s)∧Below w.heap.size w w':=by
 replace hP:=hP.clip;replace hR:=hR.clip;obtain⟨F,hF⟩: ∃F,findF ch rs s=F:=⟨_,rfl⟩;obtain⟨m,hm⟩: ∃m,mayL rs.length s=m:=⟨_,rfl⟩;obtain⟨rn,hrl⟩: ∃rn,rs.length=rn:=⟨_,rfl⟩;rw[hF,hm,hrl];rw[hrl]at hm hrn;have HRL:=Lib.hid hrl;have HM:=Lib.hid hm;have HFF:=Lib.hid hF
 have CM: ∀W,Frm (fun _=>False) w W→Calls Tryz.prog 86 #[.iface 25 pv,.int .i64 rn,sv] W fun r w'=>r= .returned (.int .i64 m)∧Below W.heap.size W w':=fun W hF=>by rw[←hm];exact may_ok (hS.frm hF) 25 pv hrn
 obtain⟨A,A2,c,c2,hsv,h1,h2,h3,h4⟩:=hS;replace h1:=h1.clip;replace h2:=h2.clip;obtain⟨n,hnn⟩: ∃n,s.pl.length=n:=⟨_,rfl⟩;rw[hnn]at hsv hn h3;have HN:=Lib.hid hnn;subst hsv;simp only[Sq.is]at CM⊢;obtain⟨W1,hW1⟩: ∃W1,w.alloc (.cells #[.slice A n c,.slice A2 s.cs.length c2,.int .i8 s.lv,.int .u8 s.so,.int .u8 s.eo] 92)=W1:=⟨_,rfl⟩
 have F1:Frm (fun _=>False) w W1:=by rw[←hW1];exact(Frm.refl _ w).alloc _
 have X5:Blk W1 w.heap.size 92 #[.slice A n c,.slice A2 s.cs.length c2,.int .i8 s.lv,.int .u8 s.so,.int .u8 s.eo]:=by rw[←hW1];exact Blk.new w 92 _
 have HW1:=Lib.hid hW1;have CM1:=CM W1 F1;clear hF hm hrl hnn hW1 CM;obtain⟨n2,hn2⟩: ∃n2,s.cs.length=n2:=⟨_,rfl⟩;rw[hn2]at X5 h4 HW1 CM1⊢;obtain⟨x0,x1,x2,x3,x4,xf,xl⟩:=X5.c5;have HN2:=Lib.hid hn2;clear hn2
 by_cases hm0:m=0
 ·subst hm0;have hmz:=may_zero HM.out;have CM2:=CM1
  go_enter Tryz.func61,Tryz.ntmps61
  go_wp2
  go_step3
  go_upto_region 1 with(fail)
  rw[HW1.out]
  go_wp2_with(first
   |(go_at_call 86;refine CM1.mono ?_;rintro r1 w1 ⟨rfl,b1⟩)
   |(go_at_call 87;refine PNew_ok.mono ?_;rintro r2 w2 ⟨rfl,P2,b2⟩))
  have hbp:w.heap.size<w1.heap.size:=by have:=b1.size;have:=X5.lt;omega
  have X51:=(X5.below b1 X5.lt).below b2 hbp;have FV:Frm (fun _=>False) w w2:=(F1.trans (Frm.of_below b1) (fun _ _ h=>h)).trans (Frm.of_below b2) (fun _ _ h=>h);have hPv:=hP.frm FV;have hRv:=RdInts.frmA hR FV (fun _ _ _=>id);have h1v:=RdInts.frmA h1 FV (fun _ _ _=>id);have h2v:=RdInts.frmA h2 FV (fun _ _ _=>id);obtain⟨bp,hbpe⟩: ∃bp,w1.heap.size=bp:=⟨_,rfl⟩;rw[hbpe]at P2 b2 hbp⊢;have HBP:=Lib.hid hbpe;clear hbpe x0 x1 x2 x3 x4 xf xl X5 CM1 hP hR h1 h2 b2 b1;obtain⟨x0,x1,x2,x3,x4,xf,xl⟩:=X51.c5;have hPs:bp<w2.heap.size:=P2.blk.lt;obtain⟨V,rfl⟩: ∃V,V=w2:=⟨_,rfl⟩
  go_step3
  go_wp2;have HMZ:=Lib.hid hmz;clear hmz
  go_loopg [27] n (fun gk kv wr=> ∃(k:Nat) (vl vf:Value) (l f:List (Int×Int)),k+gk=n∧kv= .int .i64 k∧fdT ch rs s k=⟨l,f,false⟩∧Pil wr bp bp vl vf l f false∧Below bp V wr)
  case atStart=>exact⟨0,_,_,[],[],by omega,rfl,rfl,P2,Below.refl _ _⟩
  case round=>
   clear P2 x0 x1 x2 x3 x4 xf xl;obtain⟨k,vl,vf,l,f,hk,rfl,hfd,P,bb⟩:=hrel;have HK:=Lib.hid hk;have HFD:=Lib.hid hfd;have hok:PSok ⟨l,f,false⟩ k:=hfd▸fdT_ok ch rs s k;have hl63:l.length≤63:=hok.1;have hfk:f.length≤k:=hok.2.1;clear hk hfd hok;have hsz:=bb.size
   by_cases hlt:k<n
   ·have hPw:=hPv.below bb (.inl (Nat.le_of_lt hbp));have hck:=HMZ.out.1;have hlen:=(chk_pos hck).2;obtain⟨ab,ao,rfl,a1,a2,ca⟩:=(h1v.below bb (.inl (Nat.le_of_lt hbp))).at_ (i:=k) (by have:=HN.out;omega);obtain⟨cb,co,rfl,d1,d2,cc⟩:=(h2v.below bb (.inl (Nat.le_of_lt hbp))).at_ (i:=k) (by have:=HN.out;omega);have hmk:=(HMZ.out).2 k (by have:=HN.out;omega);have hstep:=fdT_succ ch rs s k;rw[HFD.out]at hstep
    have hm1:mk1 ch rs s k=if s.cs.getD k 0=14 then
     (if(brL ch (runC (rs.getD (s.pl.getD k 0).toNat 0))).2=1 then [⟨k,1,twL ch (brL ch (runC (rs.getD (s.pl.getD k 0).toNat 0))).1⟩]else if(brL ch (runC (rs.getD (s.pl.getD k 0).toNat 0))).2=2 then [⟨k,2,twL ch (runC (rs.getD (s.pl.getD k 0).toNat 0))⟩]else [])else []:=rfl
    obtain⟨a,ha⟩: ∃a:Nat,s.pl.getD k 0=a:=⟨(s.pl.getD k 0).toNat,by omega⟩;obtain⟨cl,hcl⟩: ∃cl,s.cs.getD k 0=cl:=⟨_,rfl⟩;rw[ha]at ca hmk hm1;rw[hcl]at cc hm1
    have har:a<rn:=by omega
    obtain⟨rb,ro,rfl,r1,r2,cr⟩:=(hRv.below bb (.inl (Nat.le_of_lt hbp))).at_ (i:=a) (by have:=HRL.out;omega);obtain⟨r0,hr0⟩: ∃r0,rs.getD a 0=r0:=⟨_,rfl⟩;rw[Int.toNat_natCast,hr0]at hm1;rw[hr0]at cr;obtain⟨ru,hru⟩: ∃ru,runC r0=ru:=⟨_,rfl⟩;rw[hru]at hm1
    have CP: ∀W,Calls Tryz.prog 88 #[.int .i32 r0] W fun e w'=>e= .returned (.int .i32 ru)∧w'=W:=fun W=>by rw[←hru];exact plain_ok W r0
    obtain⟨ot,hot⟩: ∃ot,(brL ch ru).1=ot:=⟨_,rfl⟩;obtain⟨sd,hsd⟩: ∃sd,(brL ch ru).2=sd:=⟨_,rfl⟩;have CB:=brack_ok ru hPw;rw[hot,hsd]at CB hm1
    have hkn:n2=n:=by have:=HN.out;have:=HN2.out;omega
    have HM1:=Lib.hid hm1;have HST:=Lib.hid hstep;have X5:=X51.below bb hbp;obtain⟨x0,x1,x2,x3,x4,xf,xl⟩:=X5.c5;clear hm1 hstep hot hsd hru hr0 hmk ha hcl hlen hck
    have hk2:k<n2:=by omega
    clear hkn
    by_cases hc14:cl=14
    ·have hcc:(cl !=14)=false:=by simpa using hc14
     by_cases hs1:sd=1
     ·subst hs1
      have hm2:mk1 ch rs s k=[⟨k,1,twL ch ot⟩]:=by rw[HM1.out,if_pos hc14,if_pos rfl]
      have HM2:=Lib.hid hm2;obtain⟨ky,hky⟩: ∃ky,twL ch ot=ky:=⟨_,rfl⟩
      have hnx:fdT ch rs s (k+1)=⟨opL l false k ky,f,opV l false⟩:=by rw[HST.out,HM2.out,hky];show stpM ⟨l,f,false⟩ ⟨k,1,ky⟩=_;unfold stpM;rw[if_neg (fun h=>by cases h),if_pos rfl]
      have HNX:=Lib.hid hnx
      have CT: ∀W,Below wr.heap.size wr W→Calls Tryz.prog 18 #[pv,.int .i32 ot] W fun e w'=>e= .returned (.int .i32 ky)∧Below W.heap.size W w':=fun W hb=>by rw[←hky];exact twin_ok ot (hPw.below hb (.inr (Nat.le_refl _)))
      have CO: ∀W,Below wr.heap.size wr W→_:=fun W hb=>Popen_ok k ky (P.below hb (Nat.le_refl _))
      by_cases hov:opV l false=true
      ·have he:opE l false=3:=by unfold opE;rw[if_pos hov]
       rw[he]at CO;rw[hov]at HNX CO;clear hm2 hnx hky he hov
       go_wp2_with(first
        |(go_at_call 88;refine(CP _).mono ?_;rintro r3 w3 ⟨rfl,rfl⟩)
        |(go_at_call 15;refine CB.mono ?_;rintro r4 w4 ⟨rfl,b4⟩)
        |(go_at_call 18;refine(CT _ b4).mono ?_;rintro r5 w5 ⟨rfl,b5⟩)
        |(go_at_call 89;refine(CO _ (b4.trans (b5.mono b4.size))).mono ?_;rintro r6 w6 ⟨rfl,vl',P6,F6,hv6⟩;have hfF:F=ssort f:=by{rw[←HFF.out];unfold findF;rw[HRL.out,HM.out,if_pos rfl,HN.out];have e:=fdT_over (ch:=ch) (rs:=rs) (s:=s) (k:=k+1) (by rw[HNX.out]) (n-(k+1));rw[show k+1+(n-(k+1))=n from by omega]at e;rw[e,HNX.out]})
        |(go_at_call 91;refine(Pbraces_ok P6 (by omega)).mono ?_;rintro r7 w7 ⟨v7,rfl,Q7,b7⟩))
       rw[Exit.noGoto_ret];have hb6:Below bp w3 w6:=((b4.mono (by omega)).trans (b5.mono (by have:=b4.size;omega))).trans (F6.below (by have:=b4.size;have:=b5.size;omega) (fun i hi e=>by have:=(P.lt i e).1;omega));have hb7:Below w.heap.size w w7:=((FV.below (Nat.le_refl _) (fun _ _=>id)).trans ((bb.trans hb6).mono (Nat.le_of_lt hbp))).trans (b7.mono (by have:=hb6.size;omega))
       go_ret2
       exact⟨v7,rfl,by rw[hfF];exact Q7.base (by have:=hb6.size;omega),hb7⟩
      ·have hov2:opV l false=false:=by simpa using hov
       have he:opE l false=0:=by unfold opE;rw[if_neg hov]
       rw[he]at CO;rw[hov2]at HNX CO;clear hm2 hnx hky he hov hov2
       go_wp2_with(first
        |(go_at_call 88;refine(CP _).mono ?_;rintro r3 w3 ⟨rfl,rfl⟩)
        |(go_at_call 15;refine CB.mono ?_;rintro r4 w4 ⟨rfl,b4⟩)
        |(go_at_call 18;refine(CT _ b4).mono ?_;rintro r5 w5 ⟨rfl,b5⟩)
        |(go_at_call 89;refine(CO _ (b4.trans (b5.mono b4.size))).mono ?_;rintro r6 w6 ⟨rfl,vl',P6,F6,hv6⟩))
       have hb6:Below bp w3 w6:=((b4.mono (by omega)).trans (b5.mono (by have:=b4.size;omega))).trans (F6.below (by have:=b4.size;have:=b5.size;omega) (fun i hi e=>by have:=(P.lt i e).1;omega))
       go_roundg (n-(k+1))
       case rel=>exact⟨k+1,vl',_,_,_,by have:=HK.out;omega,by go_num,HNX.out,P6,bb.trans hb6⟩
       case measure=>have:=HK.out;omega
     ·by_cases hs2:sd=2
      ·subst hs2
       have hm2:mk1 ch rs s k=[⟨k,2,twL ch ru⟩]:=by rw[HM1.out,if_pos hc14,if_neg (by decide),if_pos rfl]
       have HM2:=Lib.hid hm2;obtain⟨ky,hky⟩: ∃ky,twL ch ru=ky:=⟨_,rfl⟩
       have hnx:fdT ch rs s (k+1)=⟨clL l ky,clF l f k ky,false⟩:=by rw[HST.out,HM2.out,hky];show stpM ⟨l,f,false⟩ ⟨k,2,ky⟩=_;unfold stpM;rw[if_neg (fun h=>by cases h),if_neg (fun(h:(2:Int)=1)=>by omega)]
       have HNX:=Lib.hid hnx
       have CT: ∀W,Below wr.heap.size wr W→Calls Tryz.prog 18 #[pv,.int .i32 ru] W fun e w'=>e= .returned (.int .i32 ky)∧Below W.heap.size W w':=fun W hb=>by rw[←hky];exact twin_ok ru (hPw.below hb (.inr (Nat.le_refl _)))
       have CO: ∀W,Below wr.heap.size wr W→_:=fun W hb=>Pclose_live k ky (P.below hb (Nat.le_refl _)) (by omega) (by omega);clear hm2 hnx hky
       go_wp2_with(first
        |(go_at_call 88;refine(CP _).mono ?_;rintro r3 w3 ⟨rfl,rfl⟩)
        |(go_at_call 15;refine CB.mono ?_;rintro r4 w4 ⟨rfl,b4⟩)
        |(go_at_call 18;refine(CT _ b4).mono ?_;rintro r5 w5 ⟨rfl,b5⟩)
        |(go_at_call 90;refine(CO _ (b4.trans (b5.mono b4.size))).mono ?_;rintro r6 w6 ⟨rfl,vl',vf',P6,F6,hv6,hf6⟩))
       have hb6:Below bp w3 w6:=((b4.mono (by omega)).trans (b5.mono (by have:=b4.size;omega))).trans (F6.below (by have:=b4.size;have:=b5.size;omega) (fun i hi e=>by have:=(P.lt i e).1;omega))
       go_roundg (n-(k+1))
       case rel=>exact⟨k+1,vl',_,_,_,by have:=HK.out;omega,by go_num,HNX.out,P6,bb.trans hb6⟩
       case measure=>have:=HK.out;omega
      ·have e1:(sd==1)=false:=by simpa using hs1
       have e2:(sd==2)=false:=by simpa using hs2
       go_wp2_with(first
        |(go_at_call 88;refine(CP _).mono ?_;rintro r3 w3 ⟨rfl,rfl⟩)
        |(go_at_call 15;refine CB.mono ?_;rintro r4 w4 ⟨rfl,b4⟩))
       go_roundg (n-(k+1))
       case rel=>exact⟨k+1,vl,vf,l,f,by have:=HK.out;omega,by go_num,by rw[HST.out,HM1.out,if_pos hc14,if_neg hs1,if_neg hs2];rfl,P.below b4 (Nat.le_refl _),bb.trans (b4.mono (by omega))⟩
       case measure=>have:=HK.out;omega
    ·have hcc:(cl !=14)=true:=by simpa using hc14
     go_wp2
     go_roundg (n-(k+1))
     case rel=>exact⟨k+1,vl,vf,l,f,by have:=HK.out;omega,by go_num,by rw[HST.out,HM1.out,if_neg hc14];rfl,P,bb⟩
     case measure=>have:=HK.out;omega
   ·have hkn:k=n:=by have:=HK.out;omega
    subst hkn
    have hF:F=ssort f:=by rw[←HFF.out];unfold findF;rw[HRL.out,HM.out,if_pos rfl,HN.out,HFD.out]
    have CB:=Pbraces_ok P (by omega)
    go_wp2_with(go_at_call 91;refine CB.mono ?_;rintro r5 w5 ⟨v5,rfl,Q5,b5⟩)
    rw[Exit.noGoto_ret]
    go_ret2
    exact⟨v5,rfl,by rw[hF];exact Q5.base (by omega),((FV.below (Nat.le_refl _) (fun _ _=>id)).trans (bb.mono (Nat.le_of_lt hbp))).trans (b5.mono (by omega))⟩
 ·have hm1:(m !=0)=true:=by simpa using hm0
  have hf:F=[]:=by rw[←HFF.out];unfold findF;rw[if_neg (by rw[HRL.out,HM.out];exact hm0)]
  go_enter Tryz.func61,Tryz.ntmps61
  go_wp2
  go_step3
  go_upto_region 1 with(fail)
  rw[HW1.out]
  go_wp2_with(go_at_call 86;refine CM1.mono ?_;rintro r1 w1 ⟨rfl,b1⟩)
  rw[Exit.noGoto_ret]
  go_ret2
  exact⟨_,rfl,.inl ⟨rfl,hf⟩,(F1.below (Nat.le_refl _) (fun _ _=>id)).trans (b1.mono (Nat.le_of_lt X5.lt))⟩
end
end Go.Proofs.YtplpbmkdfabfpaaGreat
