/- Rules N1, N2, I1, I2 as plain functions; the small functions that ask, by both. Rules N1 and N2 as one pass; the plain law of a row of neutral ones. The program's rest.Resolve walked. The program's rest.Levels walked. -/
import Derived.Test.YtllolnkkepacjaaGreatWk2
import Derived.Test.YtllolnkkepacjaaGreatP1
import Derived.Test.YtllolnkkepacjaaGreatWk8
import Derived.Test.YtllolnkkepacjaaGreatT4
set_option maxRecDepth 100000
set_option maxHeartbeats 8000000
namespace Go.Proofs.YtllolnkkepacjaaGreat
open Go.RowKit
section
def neuC (c:Int):Bool:=c==11||c==12||c==13||c==14||c==20||c==21||c==22||c==23
def stC (c:Int):Bool:=c==1||c==4||c==7||c==2
def wyC (c:Int):Int:=if c=1 then 1 else 2
def sdC (c:Int):Int:=if c=1 then 1 else if c=4 then 2 else if c=7 then 2 else if c=2 then 2 else 0
def neuP (c:Int):Bool:=neuC c||decide (c<1)||decide (23<c)
def lvC (l c:Int):Int:=if l % 2=0 then(if c=2 then l+1 else if c=1 then l else l+2)else(if c=2 then l else l+1)
theorem sdC_wy {c:Int}(h:stC c=true):sdC c=wyC c:=by
 simp[stC]at h;unfold sdC wyC
 (repeat' split)<;>omega
theorem st_neu {c:Int}(h:stC c=true):neuC c=false:=by
 simp[stC]at h
 rcases h with((h|h)|h)|h<;>subst h<;>rfl
theorem neu_st {c:Int}(h:neuC c=true):stC c=false:=by
 rcases e:stC c with _|_
 ·rfl
 ·rw[st_neu e]at h;cases h
theorem Side_ok (w:World)(c:Int):Calls Tryz.prog 80 #[.int .u8 c] w fun r w'=>r= .returned (.tuple #[.int .u8 (sdC c),.bool (stC c)])∧w=w':=by
 by_cases hc:c=1∨c=4∨c=7∨c=2
 ·rcases hc with rfl|rfl|rfl|rfl
  all_goals
   go_enter Tryz.func80,Tryz.ntmps80
   go_wp2
   go_ret2
   exact⟨rfl,rfl⟩
 ·have h1:(c==1)=false:=by simp;omega
  have h2:(c==4)=false:=by simp;omega
  have h3:(c==7)=false:=by simp;omega
  have h4:(c==2)=false:=by simp;omega
  have e1:sdC c=0:=by unfold sdC;(repeat' split)<;>omega
  have e2:stC c=false:=by simp[stC];omega
  rw[e1,e2];clear hc e1 e2
  go_enter Tryz.func80,Tryz.ntmps80
  go_wp2
  go_ret2
  exact⟨rfl,rfl⟩
theorem Neutral_ok (w:World)(c:Int):Calls Tryz.prog 81 #[.int .u8 c] w fun r w'=>r= .returned (.bool (neuP c))∧w=w':=by
 go_enter Tryz.func81,Tryz.ntmps81
 go_wp2
 all_goals (go_ret;exact⟨by simp[neuP,neuC, *],rfl⟩)
theorem rneutral_ok (w:World)(c:Int):Calls Tryz.prog 139 #[.int .u8 c] w fun r w'=>r= .returned (.bool (neuC c))∧w=w':=by
 go_enter Tryz.func139,Tryz.ntmps139
 go_wp2
 all_goals (go_ret;exact⟨by simp[neuC, *],rfl⟩)
theorem rway_ok (w:World)(c:Int):Calls Tryz.prog 140 #[.int .u8 c] w fun r w'=>r= .returned (.int .u8 (wyC c))∧w=w':=by
 by_cases hc:c=1
 ·subst hc
  go_enter Tryz.func140,Tryz.ntmps140
  go_wp2;go_ret;exact⟨rfl,rfl⟩
 ·have h1:(c==1)=false:=by simp;omega
  have e1:wyC c=2:=by unfold wyC;rw[if_neg hc]
  rw[e1];clear hc e1
  go_enter Tryz.func140,Tryz.ntmps140
  go_wp2;go_ret;exact⟨rfl,rfl⟩
theorem Level_ok (w:World){l c:Int}(h0:0≤l)(h1:l≤125)(hc:stC c=true):Calls Tryz.prog 104 #[.int .i8 l,.int .u8 c] w fun r w'=>r= .returned (.tuple #[.int .i8 (lvC l c),.bool true])∧w=w':=by
 have S1: ∀W,Calls Tryz.prog 80 #[.int .u8 1] W fun r w'=>r= .returned (.tuple #[.int .u8 1,.bool true])∧W=w':=fun W=>Side_ok W 1;have S4: ∀W,Calls Tryz.prog 80 #[.int .u8 4] W fun r w'=>r= .returned (.tuple #[.int .u8 2,.bool true])∧W=w':=fun W=>Side_ok W 4;have S7: ∀W,Calls Tryz.prog 80 #[.int .u8 7] W fun r w'=>r= .returned (.tuple #[.int .u8 2,.bool true])∧W=w':=fun W=>Side_ok W 7;have S2: ∀W,Calls Tryz.prog 80 #[.int .u8 2] W fun r w'=>r= .returned (.tuple #[.int .u8 2,.bool true])∧W=w':=fun W=>Side_ok W 2;have d0:decide (l<0)=false:=decide_eq_false (by omega);have d1:decide (125<l)=false:=decide_eq_false (by omega);have d2:decide (l>125)=false:=decide_eq_false (by omega);simp[stC]at hc
 have hl2:l % 2=0∨l % 2=1:=by omega
 rcases hc with((hc|hc)|hc)|hc<;>subst hc
 ·have S:=S1;clear S1 S4 S7 S2
  rcases hl2 with h2|h2
  ·have e1:(l % 2==1)=false:=by simp[h2]
   have eL:lvC l 1=l:=by simp[lvC,h2]
   rw[eL];clear h2 eL
   go_enter Tryz.func104,Tryz.ntmps104
   go_wp2_with(go_at_call 80;refine(S _).mono ?_;rintro r1 w1 ⟨rfl,hw1⟩;subst hw1)
   go_ret2
   exact⟨rfl,rfl⟩
  ·have e1:(l % 2==1)=true:=by simp[h2]
   have eL:lvC l 1=l+1:=by simp[lvC,h2]
   rw[eL];clear h2 eL
   go_enter Tryz.func104,Tryz.ntmps104
   go_wp2_with(go_at_call 80;refine(S _).mono ?_;rintro r1 w1 ⟨rfl,hw1⟩;subst hw1)
   go_ret2
   exact⟨rfl,rfl⟩
 ·have S:=S4;clear S1 S4 S7 S2
  rcases hl2 with h2|h2
  ·have e1:(l % 2==1)=false:=by simp[h2]
   have eL:lvC l 4=l+2:=by simp[lvC,h2]
   rw[eL];clear h2 eL
   go_enter Tryz.func104,Tryz.ntmps104
   go_wp2_with(go_at_call 80;refine(S _).mono ?_;rintro r1 w1 ⟨rfl,hw1⟩;subst hw1)
   go_ret2
   exact⟨rfl,rfl⟩
  ·have e1:(l % 2==1)=true:=by simp[h2]
   have eL:lvC l 4=l+1:=by simp[lvC,h2]
   rw[eL];clear h2 eL
   go_enter Tryz.func104,Tryz.ntmps104
   go_wp2_with(go_at_call 80;refine(S _).mono ?_;rintro r1 w1 ⟨rfl,hw1⟩;subst hw1)
   go_ret2
   exact⟨rfl,rfl⟩
 ·have S:=S7;clear S1 S4 S7 S2
  rcases hl2 with h2|h2
  ·have e1:(l % 2==1)=false:=by simp[h2]
   have eL:lvC l 7=l+2:=by simp[lvC,h2]
   rw[eL];clear h2 eL
   go_enter Tryz.func104,Tryz.ntmps104
   go_wp2_with(go_at_call 80;refine(S _).mono ?_;rintro r1 w1 ⟨rfl,hw1⟩;subst hw1)
   go_ret2
   exact⟨rfl,rfl⟩
  ·have e1:(l % 2==1)=true:=by simp[h2]
   have eL:lvC l 7=l+1:=by simp[lvC,h2]
   rw[eL];clear h2 eL
   go_enter Tryz.func104,Tryz.ntmps104
   go_wp2_with(go_at_call 80;refine(S _).mono ?_;rintro r1 w1 ⟨rfl,hw1⟩;subst hw1)
   go_ret2
   exact⟨rfl,rfl⟩
 ·have S:=S2;clear S1 S4 S7 S2
  rcases hl2 with h2|h2
  ·have e1:(l % 2==1)=false:=by simp[h2]
   have eL:lvC l 2=l+1:=by simp[lvC,h2]
   rw[eL];clear h2 eL
   go_enter Tryz.func104,Tryz.ntmps104
   go_wp2_with(go_at_call 80;refine(S _).mono ?_;rintro r1 w1 ⟨rfl,hw1⟩;subst hw1)
   go_ret2
   exact⟨rfl,rfl⟩
  ·have e1:(l % 2==1)=true:=by simp[h2]
   have eL:lvC l 2=l:=by simp[lvC,h2]
   rw[eL];clear h2 eL
   go_enter Tryz.func104,Tryz.ntmps104
   go_wp2_with(go_at_call 80;refine(S _).mono ?_;rintro r1 w1 ⟨rfl,hw1⟩;subst hw1)
   go_ret2
   exact⟨rfl,rfl⟩
theorem rlevel_ok (w:World){l c:Int}(h0:0≤l)(h1:l≤125):Calls Tryz.prog 89 #[.int .i8 l,.int .u8 c] w fun r w'=>r= .returned (.int .i8 (lvC l c))∧w=w':=by
 have hl2:l % 2=0∨l % 2=1:=by omega
 have hc:c=1∨c=2∨(c≠1∧c≠2):=by omega
 rcases hl2 with h2|h2
 ·have e1:(l % 2==1)=false:=by simp[h2]
  have e2:(l % 2==0)=true:=by simp[h2]
  simp only[lvC,h2];clear h2
  rcases hc with rfl|rfl|⟨hc1,hc2⟩
  ·go_enter Tryz.func89,Tryz.ntmps89
   go_wp2;go_ret;exact⟨rfl,rfl⟩
  ·go_enter Tryz.func89,Tryz.ntmps89
   go_wp2;go_ret;exact⟨rfl,rfl⟩
  ·have f1:(c==2)=false:=by simp[hc2]
   have f2:(c !=1)=true:=by simp[hc1]
   simp only[hc1,hc2]
   go_enter Tryz.func89,Tryz.ntmps89
   go_wp2;go_ret;exact⟨rfl,rfl⟩
 ·have e1:(l % 2==1)=true:=by simp[h2]
  have e2:(l % 2==0)=false:=by simp[h2]
  simp only[lvC,h2];clear h2
  rcases hc with rfl|rfl|⟨hc1,hc2⟩
  ·go_enter Tryz.func89,Tryz.ntmps89
   go_wp2;go_ret;exact⟨rfl,rfl⟩
  ·go_enter Tryz.func89,Tryz.ntmps89
   go_wp2;go_ret;exact⟨rfl,rfl⟩
  ·have f1:(c==2)=false:=by simp[hc2]
   have f2:(c !=2)=true:=by simp[hc2]
   have f3:(c !=1)=true:=by simp[hc1]
   simp only[hc1,hc2]
   go_enter Tryz.func89,Tryz.ntmps89
   go_wp2;go_ret;exact⟨rfl,rfl⟩
end
section
def nxN (eo:Int):List Int→Int
 |[]=>eo
 |c::l=>if neuC c=true then nxN eo l else wyC c
def g8 (lv eo:Int)(a c:Int)(r:List Int):Int×Int:=if neuC c=true then(if nxN eo r=a then a else wayL lv,a)else(c,wyC c)
def restL (lv so eo:Int)(cs:List Int):List Int:=passW (g8 lv eo) so cs
theorem restL_len (lv so eo:Int)(cs:List Int):(restL lv so eo cs).length=cs.length:=scan_len _ _
structure RowN (l:List Int) (k t:Nat):Prop where
 lt:k<t
 le:t≤l.length
 all: ∀j,k≤j→j<t→neuC (l.getD j 0)=true
 stop:t<l.length→neuC (l.getD t 0)=false
variable{lv eo so:Int} {l:List Int} {k t:Nat}
theorem RowN.nx (h:RowN l k t): ∀(d m:Nat),t-m≤d→k≤m→m<t→nxN eo (l.drop (m+1))=if t<l.length then wyC (l.getD t 0)else eo
 |0,m,h1,_,h3=>by omega
 |d+1,m,h1,h2,h3=>by
  have hle:=h.le
  by_cases he:m+1=t
  ·rw[he]
   by_cases ht:t<l.length
   ·rw[drop_cons ht,if_pos ht];unfold nxN;rw[if_neg (by rw[h.stop ht];decide)]
   ·rw[if_neg ht,List.drop_eq_nil_of_le (by omega)];rfl
  ·rw[drop_cons (show m+1<l.length by omega)];unfold nxN;rw[if_pos (h.all (m+1) (by omega) (by omega))];exact RowN.nx h d (m+1) (by omega) (by omega) (by omega)
theorem g8_neu {a c:Int}{r:List Int}(h:neuC c=true):g8 lv eo a c r=(if nxN eo r=a then a else wayL lv,a):=by unfold g8;rw[if_pos h]
theorem g8_not {a c:Int}{r:List Int}(h:neuC c=false):g8 lv eo a c r=(c,wyC c):=by unfold g8;rw[if_neg (by rw[h];decide)]
theorem RowN.st (h:RowN l k t): ∀(d m:Nat),m-k≤d→k≤m→m≤t→stW (g8 lv eo) so l m=stW (g8 lv eo) so l k
 |0,m,h1,h2,_=>by
  have:m=k:=by omega
  subst this;rfl
 |d+1,m,h1,h2,h3=>by
  by_cases he:m=k
  ·subst he;rfl
  ·have:=RowN.st h d (m-1) (by omega) (by omega) (by omega)
   have hl:m-1<l.length:=by have:=h.le;omega
   have hs:=stW_succ (g:=g8 lv eo) so l (m-1) hl;rw[g8_neu (h.all _ (by omega) (by omega)),show m-1+1=m by omega]at hs;exact hs.trans this
theorem RowN.st' (h:RowN l k t){m:Nat}(h1:k≤m)(h2:m≤t):stW (g8 lv eo) so l m=stW (g8 lv eo) so l k:=h.st _ m (Nat.le_refl _) h1 h2
theorem RowN.val (h:RowN l k t){m:Nat}(h1:k≤m)(h2:m<t):(g8 lv eo (stW (g8 lv eo) so l m) (l.getD m 0) (l.drop (m+1))).1=if(if t<l.length then wyC (l.getD t 0)else eo)=stW (g8 lv eo) so l k then stW (g8 lv eo) so l k else wayL lv:=by rw[g8_neu (h.all _ h1 h2),h.st' h1 (by omega),h.nx _ m (Nat.le_refl _) h1 h2]
theorem rest_one (hk:k<l.length)(hc:neuC (l.getD k 0)=false):curW (g8 lv eo) so l k=curW (g8 lv eo) so l (k+1)∧stW (g8 lv eo) so l (k+1)=wyC (l.getD k 0):=by refine⟨curW_same so l hk (by rw[g8_not hc]),?_⟩;rw[stW_succ so l k hk,g8_not hc]
end
section
attribute [local go_sem] Oper.semAt_some
def LateC (l:List Int):Prop:= ∀c∈l,stC c=true∨neuC c=true
theorem LateC.at {l:List Int}(h:LateC l){k:Nat}(hk:k<l.length):stC (l.getD k 0)=true∨neuC (l.getD k 0)=true:=by rw[List.getD_eq_getElem?_getD,List.getElem?_eq_getElem hk];exact h _ (List.getElem_mem hk)
theorem neuP_neu {c:Int}(h:neuC c=true):neuP c=true:=by unfold neuP;rw[h];rfl
theorem neuP_st {c:Int}(h:stC c=true):neuP c=false:=by
 simp[stC]at h
 rcases h with((h|h)|h)|h<;>subst h<;>rfl
theorem side_st (W:World){c:Int}(h:stC c=true):Calls Tryz.prog 80 #[.int .u8 c] W fun r w'=>r= .returned (.tuple #[.int .u8 (wyC c),.bool true])∧W=w':=by
 have:=Side_ok W c
 rwa [sdC_wy h,h]at this
theorem side_neu (W:World){c:Int}(h:neuC c=true):Calls Tryz.prog 80 #[.int .u8 c] W fun r w'=>r= .returned (.tuple #[.int .u8 (sdC c),.bool false])∧W=w':=by
 have:=Side_ok W c
 rwa [neu_st h]at this
theorem neut_st (W:World){c:Int}(h:stC c=true):Calls Tryz.prog 81 #[.int .u8 c] W fun r w'=>r= .returned (.bool false)∧W=w':=by
 have:=Neutral_ok W c
 rwa [neuP_st h]at this
theorem neut_neu (W:World){c:Int}(h:neuC c=true):Calls Tryz.prog 81 #[.int .u8 c] W fun r w'=>r= .returned (.bool true)∧W=w':=by
 have:=Neutral_ok W c
 rwa [neuP_neu h]at this
structure RsAt (W:World) (B b0 q g n cap:Nat) (v1 v2 v3:Value) (lv so eo:Int) (l:List Int):Prop where
 x0:Blk W b0 87 #[v1,v2,.int .i8 lv,.int .u8 so,.int .u8 eo]
 x9:Blk W q 87 #[v3,.slice (some ⟨g,0,none⟩) n cap,.int .i8 lv,.int .u8 so,.int .u8 eo]
 row:Ints W B 22 .u8 (.slice (some ⟨g,0,none⟩) n cap) l
section
variable{W:World} {B b0 q g n cap:Nat} {v1 v2 v3:Value} {lv so eo:Int} {l:List Int}
theorem RsAt.ne (h:RsAt W B b0 q g n cap v1 v2 v3 lv so eo l):b0≠g∧q≠g:=by
 obtain⟨rfl,_⟩:=h.row.at_;obtain⟨cur,_,hb,_⟩:=own_blk h.row;constructor
 ·rintro rfl;have h1:=h.x0;unfold Blk at h1 hb;rw[hb]at h1
  injection h1 with h1
  injection h1 with _ h2 _
  exact absurd h2 (by decide)
 ·rintro rfl;have h1:=h.x9;unfold Blk at h1 hb;rw[hb]at h1
  injection h1 with h1
  injection h1 with _ h2 _
  exact absurd h2 (by decide)
theorem RsAt.len (h:RsAt W B b0 q g n cap v1 v2 v3 lv so eo l):n=l.length:=h.row.at_.1
theorem RsAt.cell (h:RsAt W B b0 q g n cap v1 v2 v3 lv so eo l){k:Nat}(hk:k<n):W.cell? ⟨g,k,none⟩=some (.int .u8 (l.getD k 0)):=by have:=h.row.at_;exact this.2.2.2.2.2.2 k (by rw[←this.1];exact hk)
theorem RsAt.free (h:RsAt W B b0 q g n cap v1 v2 v3 lv so eo l): ∀j,W.frozen? ⟨g,j,none⟩=false:=h.row.at_.2.2.2.2.2.1
theorem RsAt.lt (h:RsAt W B b0 q g n cap v1 v2 v3 lv so eo l):g<W.heap.size:=h.row.at_.2.2.2.2.1
theorem RsAt.caps (h:RsAt W B b0 q g n cap v1 v2 v3 lv so eo l):n≤cap∧cap≤maxLen:=by have:=h.row.at_;exact⟨by rw[this.1];exact this.2.1,this.2.2.1⟩
theorem RsAt.set (h:RsAt W B b0 q g n cap v1 v2 v3 lv so eo l)(i:Nat)(x:Int):RsAt (W.setCell ⟨g,i,none⟩ (.int .u8 x)) B b0 q g n cap v1 v2 v3 lv so eo (l.set i x):=⟨h.x0.far (p:=⟨g,i,none⟩) h.ne.1 _,h.x9.far (p:=⟨g,i,none⟩) h.ne.2 _,h.row.set i x⟩
end
theorem RResolve_ok {w:World}{B1 B2 n m c d:Nat}{A C:Option Addr}{s:Sq}(hn:n=s.pl.length)(hm:m=s.cs.length)(h1:RdInts w B1 .i64 A s.pl)(h2:RdInts w B2 .u8 C s.cs)(hl:n≤1048576)(hl2:m≤1048576)(hc:chkL s=0)(hL:LateC s.cs):
 Calls Tryz.prog 48 #[.agg (s.is (.slice A n c) (.slice C m d))] w fun r w'=> ∃pv cv,r= .returned (.tuple #[.agg (s.is pv cv),.int .i64 0])∧Ints w' w.heap.size 3 .i64 pv s.pl∧Ints w' w.heap.size 22 .u8 cv (restL s.lv s.so s.eo s.cs)∧Aft w w':=by
 have hm0:0<m:=by
  have: ¬(s.pl.length=0∨s.pl.length≠s.cs.length∨s.lv<0∨126<s.lv∨edgeI s.so=false∨edgeI s.eo=false):=fun e=>by unfold chkL at hc;rw[if_pos e]at hc;cases hc
  omega
 have h1c:=h1.clip1;have h2c:=h2.clip1
 have CC: ∀W,Aft w W→Calls Tryz.prog 79 #[.agg (s.is (.slice A n c) (.slice C m d))] W fun r w'=>r= .returned (.int .i64 0)∧Aft W w':=fun W hW=>by rw[←hc];exact Check_ok hn hm (h1c.below hW (.inl (Nat.le_refl _))) (h2c.below hW (.inl (Nat.le_refl _))) (by omega)
 have CP: ∀W,Aft w W→Calls Tryz.prog 74 #[.agg (s.is (.slice A n c) (.slice C m d))] W fun r w'=> ∃pv cv,r= .returned (.agg (s.is pv cv))∧Ints w' W.heap.size 3 .i64 pv s.pl∧Ints w' W.heap.size 22 .u8 cv s.cs∧(∀j,pv.ownBlock=some j→cv.ownBlock≠some j)∧Aft W w':=fun W hW=>Copy_ok hn hm (h1c.below hW (.inl (Nat.le_refl _))) (h2c.below hW (.inl (Nat.le_refl _))) (by omega) (by omega)
 obtain⟨pl,cs,lv,so,eo⟩:=s;simp only[Sq.is]at CC CP h1 h2 hn hm hL⊢;have HN:=Lib.hid hn;have HM:=Lib.hid hm;have HL:=Lib.hid hL;obtain⟨cb,co,rfl,hcb⟩:=h2c.cells (by show 0<cs.length;omega)
 have hcell: ∀(W:World),Aft w W→ ∀k,k<m→W.cell? ⟨cb,co+k,none⟩=some (.int .u8 (cs.getD k 0)):=fun W hW k hk=>by have hx:=(hcb.2.2 k (by show k<cs.length;omega));rw[hW.cell hcb.2.1];exact hx
 clear hn hm hc h1c h2c h1 h2 hL hcb;have HC:=Lib.hid hcell;clear hcell;obtain⟨W1,hW1⟩: ∃W1,(w.alloc (.cells #[.slice A n c,.slice (some ⟨cb,co,none⟩) m d,.int .i8 lv,.int .u8 so,.int .u8 eo] 87)).alloc (.cells #[.slice none 0 0,.slice none 0 0,.int .i8 0,.int .u8 0,.int .u8 0] 87)=W1:=⟨_,rfl⟩
 have X0:Blk W1 w.heap.size 87 #[.slice A n c,.slice (some ⟨cb,co,none⟩) m d,.int .i8 lv,.int .u8 so,.int .u8 eo]:=by rw[←hW1];exact(Blk.new w 87 _).alloc _
 have X1:Blk W1 (w.heap.size+1) 87 #[.slice none 0 0,.slice none 0 0,.int .i8 0,.int .u8 0,.int .u8 0]:=by rw[←hW1];exact Blk.at_ (by simp)
 have a1:Aft w W1:=by rw[←hW1];exact((Aft.refl w).alloc _).alloc _
 have z1:W1.heap.size=w.heap.size+1+1:=by rw[←hW1,World.size_alloc,World.size_alloc]
 have Z1:=Lib.hid z1
 go_enter Tryz.func48,Tryz.ntmps48
 go_upto_region 1 with(fail)
 clear hW1;obtain⟨x0,x1,x2,x3,x4,xf,xl⟩:=X0.c5
 go_step3
 go_upto_region 4 with(go_at_call 79;refine(CC _ a1).mono ?_;rintro r2 w2 ⟨rfl,a2⟩;have X2:=X0.aft a2;obtain⟨x0,x1,x2,x3,x4,xf,xl⟩:=X2.c5)
 have a12:=a1.trans a2;have Y2:=X1.aft a2;clear X0 X1 a1 a2 CC z1;go_wp2
 go_loopg [25] m (fun gk iv wr=> ∃k:Nat,k+gk=m∧iv= .int .i64 k∧wr=w2)
 case atStart=>exact⟨0,by omega,rfl,rfl⟩
 case round=>
  obtain⟨k,hk,rfl,hw⟩:=hrel;subst hw
  by_cases hkm:k<m
  ·have ck:=HC.out wr a12 k hkm;have hst:=HL.out.at (k:=k) (by have:=HM.out;omega);obtain⟨x,hx⟩: ∃x,cs.getD k 0=x:=⟨_,rfl⟩;rw[hx]at ck hst;clear hx
   rcases hst with hst|hst
   ·go_wp2_with(first|(go_at_call 80;refine(side_st _ hst).mono ?_;rintro r3 w3 ⟨rfl,hw3⟩;subst hw3)|(go_at_call 81;refine(neut_st _ hst).mono ?_;rintro r3 w3 ⟨rfl,hw3⟩;subst hw3))
    go_roundg (m-(k+1))
    case rel=>exact⟨k+1,by omega,by go_num,rfl⟩
    case measure=>omega
   ·go_wp2_with(first|(go_at_call 80;refine(side_neu _ hst).mono ?_;rintro r3 w3 ⟨rfl,hw3⟩;subst hw3)|(go_at_call 81;refine(neut_neu _ hst).mono ?_;rintro r3 w3 ⟨rfl,hw3⟩;subst hw3))
    go_roundg (m-(k+1))
    case rel=>exact⟨k+1,by omega,by go_num,rfl⟩
    case measure=>omega
  ·have hke:k=m:=by omega
   clear hk;subst hke;have CP2:=CP wr a12;clear CP
   go_upto_region 13 with(go_at_call 74;refine CP2.mono ?_;rintro r4 w4 ⟨pv,cv,rfl,Ip,Ic,hpc,a4⟩;obtain⟨pA,pc,rfl,hp1,hp2,-⟩:=Ip.val;obtain⟨g,cc,rfl⟩:=Ic.form (by have:=HM.out;omega);have X4:=X2.aft a4;obtain⟨x0,x1,x2,x3,x4,xf,xl⟩:=X4.c5)
   have a14:=a12.trans a4;have Y4:=Y2.aft a4;rw[←HM.out]at Ic⊢;rw[←HN.out]at Ip hp1⊢;obtain⟨q,hq⟩: ∃q,w4.heap.size=q:=⟨_,rfl⟩;obtain⟨w5,hw5⟩: ∃W,w4.alloc (.cells #[.slice pA n pc,.slice (some ⟨g,0,none⟩) k cc,.int .i8 lv,.int .u8 so,.int .u8 eo] 87)=W:=⟨_,rfl⟩
   have Bq:Blk w5 q 87 #[.slice pA n pc,.slice (some ⟨g,0,none⟩) k cc,.int .i8 lv,.int .u8 so,.int .u8 eo]:=by rw[←hw5,←hq];exact Blk.new w4 87 _
   have a15:Aft w w5:=by rw[←hw5];exact a14.alloc _
   have Ip5:Ints w5 wr.heap.size 3 .i64 (.slice pA n pc) pl:=by rw[←hw5];exact Ip.alloc _
   have Ic5:Ints w5 wr.heap.size 22 .u8 (.slice (some ⟨g,0,none⟩) k cc) cs:=by rw[←hw5];exact Ic.alloc _
   have X5:Blk w5 w.heap.size 87 #[.slice A n c,.slice (some ⟨cb,co,none⟩) k d,.int .i8 lv,.int .u8 so,.int .u8 eo]:=by rw[←hw5];exact X4.alloc _
   have Y5:Blk w5 (w.heap.size+1) 87 #[.slice none 0 0,.slice none 0 0,.int .i8 0,.int .u8 0,.int .u8 0]:=by rw[←hw5];exact Y4.alloc _
   have hpg: ∀j,(Value.slice pA n pc).ownBlock=some j→j≠g:=fun j e h=>by rw[HN.out]at e;exact hpc j e (by rw[h];rfl)
   have R5:RsAt w5 wr.heap.size w.heap.size q g k cc (.slice A n c) (.slice (some ⟨cb,co,none⟩) k d) (.slice pA n pc) lv so eo cs:=⟨X5,Bq,Ic5⟩;rw[hw5,hq];clear X2 X4 Y4 x0 x1 x2 x3 x4 xf xl Ic Ip CP2 hpc hw5;have hBz:w.heap.size+1<wr.heap.size:=Y2.lt;obtain⟨Bz,hB⟩: ∃B,wr.heap.size=B:=⟨_,rfl⟩;rw[hB]at Ip5 R5 hBz;have HI:=Lib.hid Ip5;have HY:=Lib.hid Y5;have HA:=Lib.hid a15;have HP:=Lib.hid hpg;clear Ip5 Y5 a15 hpg X5 Bq Ic5 Y2 hB
   go_step3
   go_wp2
   go_loopg [10,11] k (fun gk av iv wx=> ∃i:Nat,i+gk=k∧av= .int .u8 (stW (g8 lv eo) so cs i)∧iv= .int .i64 i∧RsAt wx Bz w.heap.size q g k cc (.slice A n c) (.slice (some ⟨cb,co,none⟩) k d) (.slice pA n pc) lv so eo (curW (g8 lv eo) so cs i)∧Frm (fun j=>j=g) w5 wx)
   case atStart=>exact⟨0,by omega,by rcases cs with _|_<;>rfl,rfl,by rw[curW_zero];exact R5,Frm.refl _ _⟩
   case round=>
    clear R5;obtain⟨i,hi,rfl,rfl,I,F⟩:=hrel;obtain⟨x0,x1,x2,x3,x4,xf,xl⟩:=I.x0.c5;obtain⟨y0,y1,y2,y3,y4,yf,yl⟩:=I.x9.c5;have hfr:=I.free;have hlt:=I.lt;obtain⟨hc1,hc2⟩:=I.caps
    by_cases hik:i<k
    ·have hil:i<cs.length:=by have:=HM.out;omega
     have ci:=I.cell hik;rw[curW_ge _ cs (by omega) (Nat.le_refl i)]at ci;have hst:=HL.out.at hil;obtain⟨x,hx⟩: ∃x,cs.getD i 0=x:=⟨_,rfl⟩;rw[hx]at ci hst
     rcases hst with hst|hst
     ·have hone:=rest_one (lv:=lv) (eo:=eo) (so:=so) hil (by rw[hx];exact st_neu hst);rw[hx]at hone;have S:=fun W=>side_st W hst;have HO:=Lib.hid hone;have HIF:=Lib.hid (And.intro I F);clear hone hx hst I F
      go_wp2_with(go_at_call 80;refine(S _).mono ?_;rintro r6 w6 ⟨rfl,hw6⟩;subst hw6)
      obtain⟨I,F⟩:=HIF.out;obtain⟨h1,h2⟩:=HO.out;rw[h1]at I
      go_roundg (k-(i+1))
      case rel=>exact⟨i+1,by omega,by rw[h2],by go_num,I,F⟩
      case measure=>omega
     ·obtain⟨W0,hW0⟩: ∃W0,W0=wr:=⟨_,rfl⟩;subst hW0;have S:=fun W=>side_neu W hst;obtain⟨z,hz⟩: ∃z,sdC x=z:=⟨_,rfl⟩;rw[hz]at S
      have hcell: ∀j,i≤j→j<k→W0.cell? ⟨g,j,none⟩=some (.int .u8 (cs.getD j 0)):=fun j h1 h2=>by
       have:=I.cell h2
       rwa [curW_ge _ cs (by omega) h1]at this
      obtain⟨a,ha⟩: ∃a,stW (g8 lv eo) so cs i=a:=⟨_,rfl⟩;rw[ha]
      have hneu:neuC (cs.getD i 0)=true:=by rw[hx];exact hst
      have HIF:=Lib.hid (And.intro I F);have HCL:=Lib.hid hcell;have HNE:=Lib.hid hneu;have HAA:=Lib.hid ha;clear I F hst hx hcell hz hil ha hneu
      go_upto_region 19 with(go_at_call 80;refine(S _).mono ?_;rintro r6 w6 ⟨rfl,hw6⟩;subst hw6)
      clear S ci
      go_upto_block 4 with(fail)
      go_cut [14] from 66 to 80 (fun tv wx=> ∃t:Nat,RowN cs i t∧tv= .int .i64 t∧wx=W0)
      case first=>
       go_wp2_with(fail)
       go_loopg [14] (k-i) (fun gk2 tv wq=> ∃t:Nat,t+gk2=k∧i≤t∧tv= .int .i64 t∧(∀j,i≤j→j<t→neuC (cs.getD j 0)=true)∧wq=W0)
       case atStart=>exact⟨i,by omega,Nat.le_refl _,rfl,fun j h1 h2=>by omega,rfl⟩
       case round=>
        obtain⟨t,ht,hkt,rfl,hall,hw⟩:=hrel;subst hw
        by_cases htn:t<k
        ·have hct:=HCL.out t hkt htn;have hst:=HL.out.at (k:=t) (by have:=HM.out;omega);obtain⟨x,hx⟩: ∃x,cs.getD t 0=x:=⟨_,rfl⟩;rw[hx]at hct hst;have HX:=Lib.hid hx;have HA2:=Lib.hid hall
         rcases hst with hst|hst
         ·have S:=fun W=>neut_st W hst;have HS:=Lib.hid hst;clear hx hall hst
          go_wp2_with(go_at_call 81;refine(S _).mono ?_;rintro r6 w6 ⟨rfl,hw6⟩;subst hw6)
          go_meet;refine⟨t,⟨?_,by have:=HM.out;omega,HA2.out,fun _=>by rw[HX.out];exact st_neu HS.out⟩,rfl,rfl⟩
          by_cases e:t=i
          ·subst e;have h1:=HNE.out;rw[HX.out,st_neu HS.out]at h1;cases h1
          ·omega
         ·have S:=fun W=>neut_neu W hst;have HS:=Lib.hid hst;clear hx hall hst
          go_wp2_with(go_at_call 81;refine(S _).mono ?_;rintro r6 w6 ⟨rfl,hw6⟩;subst hw6)
          go_roundg (k-(t+1))
          case rel=>exact⟨t+1,by omega,by omega,by go_num,fun j h1 h2=>(by
           by_cases e:j=t
           ·subst e;rw[HX.out];exact HS.out
           ·exact HA2.out j h1 (by omega)),rfl⟩
          case measure=>omega
        ·have hte:t=k:=by omega
         have HA2:=Lib.hid hall;clear ht hall;subst hte
         go_wp2_with(fail)
         go_meet;exact⟨t,⟨by omega,by have:=HM.out;omega,HA2.out,fun e=>by have:=HM.out;omega⟩,rfl,rfl⟩
      case rest=>
       obtain⟨t,hR,rfl,hw⟩:=hcut;subst hw;have hkt:=hR.lt;have htl:=hR.le;have HR:=Lib.hid hR;clear hR
       have htk:t≤k:=by have:=HM.out;omega
       obtain⟨X,hX⟩: ∃X,(if t<cs.length then wyC (cs.getD t 0)else eo)=X:=⟨_,rfl⟩;obtain⟨v,hv⟩: ∃v,(if X=a then a else wayL lv)=v:=⟨_,rfl⟩
       have hval: ∀j,i≤j→j<t→(g8 lv eo (stW (g8 lv eo) so cs j) (cs.getD j 0) (cs.drop (j+1))).1=v:=fun j h1 h2=>by rw[HR.out.val h1 h2,HAA.out,hX,hv]
       have HV:=Lib.hid hval;have HXX:=Lib.hid hX;have HVV:=Lib.hid hv;clear hval hX hv htl
       go_upto_region 22 with(fail)
       go_cut [15] from 81 to 82 (fun yv wx=>yv= .int .u8 eo∧wx=wc)
       case first=>go_wp2;go_meet;exact⟨rfl,rfl⟩
       case rest=>
        obtain⟨rfl,hw⟩:=hcut;subst hw
        apply_assumption
        go_step
        go_cut [15] from 83 to 96 (fun yv wx=>yv= .int .u8 X∧wx=wc)
        case first=>
         by_cases htk2:t<k
         ·have ct:=HCL.out t (by omega) htk2
          have hst:stC (cs.getD t 0)=true:=by
           have h1:=HL.out.at (k:=t) (by have:=HM.out;omega);have h2:=HR.out.stop (by have:=HM.out;omega)
           rcases h1 with h1|h1
           ·exact h1
           ·rw[h2]at h1;cases h1
          have hX2:wyC (cs.getD t 0)=X:=by
           have:=HXX.out
           rwa [if_pos (by have:=HM.out;omega)]at this
          obtain⟨x,hx⟩: ∃x,cs.getD t 0=x:=⟨_,rfl⟩;rw[hx]at ct hst hX2;have S:=fun W=>side_st W hst;rw[hX2]at S;clear hst hx hX2
          go_wp2_with(go_at_call 80;refine(S _).mono ?_;rintro r6 w6 ⟨rfl,hw6⟩;subst hw6)
          go_meet;exact⟨rfl,rfl⟩
         ·have hte:t=k:=by omega
          have hX2:eo=X:=by
           have:=HXX.out
           rwa [if_neg (by have:=HM.out;omega)]at this
          clear htk htk2;subst hte
          go_wp2_with(fail)
          go_meet;exact⟨by rw[hX2],rfl⟩
        case rest=>
         obtain⟨rfl,hw⟩:=hcut;subst hw
         apply_assumption
         go_step
         go_cut [15] from 97 to 102 (fun yv wx=>yv= .int .u8 v∧wx=wc)
         case first=>
          have CW:=fun W=>Way_ok W lv
          by_cases hXa:X=a
          ·have hv2:X=v:=by
            have:=HVV.out;rw[if_pos hXa]at this;omega
           have hb:(X !=a)=false:=by simp[hXa]
           clear hXa
           go_wp2_with(go_at_call 75;refine(CW _).mono ?_;rintro r6 w6 ⟨rfl,hw6⟩;subst hw6)
           go_meet;exact⟨by rw[hv2],rfl⟩
          ·have hv2:wayL lv=v:=by
            have:=HVV.out
            rwa [if_neg hXa]at this
           have hb:(X !=a)=true:=bne_iff_ne.2 hXa;rw[hv2]at CW;clear hXa
           go_wp2_with(go_at_call 75;refine(CW _).mono ?_;rintro r6 w6 ⟨rfl,hw6⟩;subst hw6)
           go_meet;exact⟨rfl,rfl⟩
         case rest=>
          obtain⟨rfl,hw⟩:=hcut;subst hw;obtain⟨I,F⟩:=HIF.out;have hst2:=HR.out.st' (lv:=lv) (eo:=eo) (so:=so) (m:=t) (by omega) (Nat.le_refl _);rw[HAA.out]at hst2;have HST2:=Lib.hid hst2;clear HIF hst2;obtain⟨W0,hW0⟩: ∃W0,W0=wc:=⟨_,rfl⟩;subst hW0
          apply_assumption
          go_wp2
          go_loopg [11] (t-i) (fun gk3 mv wq=> ∃j:Nat,j+gk3=t∧i≤j∧mv= .int .i64 j∧RsAt wq Bz w.heap.size q g k cc (.slice A n c) (.slice (some ⟨cb,co,none⟩) k d) (.slice pA n pc) lv so eo (curW (g8 lv eo) so cs j)∧Frm (fun j=>j=g) w5 wq)
          case atStart=>exact⟨i,by omega,Nat.le_refl _,rfl,I,F⟩
          case round=>
           clear I F;obtain⟨j,hj,hij,rfl,I,F⟩:=hrel;obtain⟨x0,x1,x2,x3,x4,xf,xl⟩:=I.x0.c5;obtain⟨y0,y1,y2,y3,y4,yf,yl⟩:=I.x9.c5;have hfr:=I.free;have hlt:=I.lt
           by_cases hjt:j<t
           ·have hset:=curW_set (g:=g8 lv eo) so cs (show j<cs.length by have:=HM.out;omega);rw[HV.out j hij hjt]at hset;have HS:=Lib.hid hset
            have hjk:j<k:=by omega
            have cj:=I.cell hjk;have HIF:=Lib.hid (And.intro I F);clear I F hset;go_wp2
            go_roundg (t-(j+1))
            case rel=>obtain⟨I,F⟩:=HIF.out;have I2:=I.set j v;rw[HS.out]at I2;exact⟨j+1,by omega,by omega,by go_num,I2,F.set rfl _⟩
            case measure=>omega
           ·have hje:j=t:=by omega
            clear hj;subst hje;have HIF:=Lib.hid (And.intro I F);clear I F;go_wp2
            go_roundg (k-j)
            case rel=>exact⟨j,by omega,by rw[HST2.out],rfl,HIF.out.1,HIF.out.2⟩
            case measure=>omega
    ·have hie:i=k:=by omega
     clear hi;subst hie;have hgB:=(I.row.lt g rfl).1;have Yw:=HY.out.frm F (by omega);obtain⟨v0,v1,v2,v3,v4,vf,vl⟩:=Yw.c5;have F7:=frm_put5 wr (w.heap.size+1) (.slice pA n pc) (.slice (some ⟨g,0,none⟩) i cc) (.int .i8 lv) (.int .u8 so) (.int .u8 eo);have N1:=blk_put5 (.slice pA n pc) (.slice (some ⟨g,0,none⟩) i cc) (.int .i8 lv) (.int .u8 so) (.int .u8 eo) Yw;have hpl:=HI.out.lt
     have hwB:w.heap.size≤Bz:=by omega
     have hcu:curW (g8 lv eo) so cs i=restL lv so eo cs:=curW_end so cs (by have:=HM.out;omega);rw[hcu]at I;have haf:Aft w wr:=Below.trans HA.out (F.below HA.out.size (fun j hj e=>by omega))
     have fin:Ints _ w.heap.size 3 .i64 (.slice pA n pc) pl∧Ints _ w.heap.size 22 .u8 (.slice (some ⟨g,0,none⟩) i cc) (restL lv so eo cs)∧Aft w _:=⟨((HI.out.frm F (fun j e h=>HP.out j e h)).frm F7 (fun j e h=>by have:=(hpl j e).1;omega)).base (fun j e=>by have:=(hpl j e).1;omega),
      (I.row.frm F7 (fun j e h=>by have:=(I.row.lt j e).1;omega)).base (fun j e=>by have:=(I.row.lt j e).1;omega),
      Below.trans haf (F7.below haf.size (fun j hj e=>by omega))⟩
     have FN:=Lib.hid fin;clear fin F7 haf I F hcu hpl;go_wp2;rw[Exit.noGoto_ret];refine bodyPost_ret (results_row1 rfl _ _ (w.heap.size+1) 87 _ _ rfl N1 Tryz.underlying87 rfl (by kernel_rfl)) rfl ?_;exact⟨_,_,rfl,FN.out⟩
end
section
attribute [local go_sem] Oper.semAt_some
def SetC (l:List Int):Prop:= ∀c∈l,stC c=true
theorem SetC.at {l:List Int}(h:SetC l){k:Nat}(hk:k<l.length):stC (l.getD k 0)=true:=by rw[List.getD_eq_getElem?_getD,List.getElem?_eq_getElem hk];exact h _ (List.getElem_mem hk)
def lvsL (lv:Int)(cs:List Int):List Int:=cs.map (lvC lv)
theorem lvsL_take {lv:Int}{cs:List Int}{k:Nat}(h:k<cs.length):lvsL lv (cs.take (k+1))=lvsL lv (cs.take k)++[lvC lv (cs.getD k 0)]:=take_map_succ h
theorem Levels_ok {w:World}{B1 B2 n m c d:Nat}{A C:Option Addr}{s:Sq}(hn:n=s.pl.length)(hm:m=s.cs.length)(h1:RdInts w B1 .i64 A s.pl)(h2:RdInts w B2 .u8 C s.cs)(hl:n≤1048576)(hl2:m≤1048576)(hc:chkL s=0)(hv:s.lv≤125)(hL:SetC s.cs):
 Calls Tryz.prog 72 #[.agg (s.is (.slice A n c) (.slice C m d))] w fun r w'=> ∃v,r= .returned (.tuple #[v,.int .i64 0])∧Ints w' w.heap.size 29 .i8 v (lvsL s.lv s.cs)∧Aft w w':=by
 have hlv0:0<m∧0≤s.lv:=by
  have: ¬(s.pl.length=0∨s.pl.length≠s.cs.length∨s.lv<0∨126<s.lv∨edgeI s.so=false∨edgeI s.eo=false):=fun e=>by unfold chkL at hc;rw[if_pos e]at hc;cases hc
  omega
 have h1c:=h1.clip1;have h2c:=h2.clip1
 have CC: ∀W,Aft w W→Calls Tryz.prog 79 #[.agg (s.is (.slice A n c) (.slice C m d))] W fun r w'=>r= .returned (.int .i64 0)∧Aft W w':=fun W hW=>by rw[←hc];exact Check_ok hn hm (h1c.below hW (.inl (Nat.le_refl _))) (h2c.below hW (.inl (Nat.le_refl _))) (by omega)
 obtain⟨pl,cs,lv,so,eo⟩:=s;simp only[Sq.is]at CC h1 h2 hn hm hL hlv0 hv⊢;obtain⟨hm0,hl0⟩:=hlv0;obtain⟨cb,co,rfl,hcb⟩:=h2c.cells (by show 0<cs.length;omega)
 have hcell: ∀(W:World),Aft w W→ ∀k,k<m→W.cell? ⟨cb,co+k,none⟩=some (.int .u8 (cs.getD k 0)):=fun W hW k hk=>by have hx:=(hcb.2.2 k (by show k<cs.length;omega));rw[hW.cell hcb.2.1];exact hx
 have HC:=Lib.hid hcell;have HM:=Lib.hid hm;have HL:=Lib.hid hL;have hgt:decide (lv>125)=false:=decide_eq_false (by omega);have hgt2:decide (125<lv)=false:=decide_eq_false (by omega);clear hn hm hc h1c h2c h1 h2 hL hcb hcell;obtain⟨W1,hW1⟩: ∃W1,(w.alloc (.cells #[.slice A n c,.slice (some ⟨cb,co,none⟩) m d,.int .i8 lv,.int .u8 so,.int .u8 eo] 87))=W1:=⟨_,rfl⟩
 have X0:Blk W1 w.heap.size 87 #[.slice A n c,.slice (some ⟨cb,co,none⟩) m d,.int .i8 lv,.int .u8 so,.int .u8 eo]:=by rw[←hW1];exact(Blk.new w 87 _)
 have a1:Aft w W1:=by rw[←hW1];exact((Aft.refl w).alloc _)
 go_enter Tryz.func72,Tryz.ntmps72
 go_upto_region 1 with(fail)
 clear hW1;obtain⟨x0,x1,x2,x3,x4,xf,xl⟩:=X0.c5
 go_upto_region 4 with(go_at_call 79;refine(CC _ a1).mono ?_;rintro r2 w2 ⟨rfl,a2⟩;have X2:=X0.aft a2;obtain⟨x0,x1,x2,x3,x4,xf,xl⟩:=X2.c5)
 have a12:=a1.trans a2;clear X0 a1 a2 CC;go_wp2
 go_loopg [4,20] m (fun gk ov iv wr=> ∃k:Nat,k+gk=m∧iv= .int .i64 k∧Blk wr w.heap.size 87 #[.slice A n c,.slice (some ⟨cb,co,none⟩) m d,.int .i8 lv,.int .u8 so,.int .u8 eo]∧Ints wr (w.heap.size+1) 29 .i8 ov (lvsL lv (cs.take k))∧Aft w wr)
 case atStart=>exact⟨0,by omega,rfl,X2,Ints.nil _ _ _ _,a12⟩
 case round=>
  clear X2 a12 x0 x1 x2 x3 x4 xf xl;obtain⟨k,hk,rfl,X,I,b⟩:=hrel;obtain⟨x0,x1,x2,x3,x4,xf,xl⟩:=X.c5
  by_cases hkm:k<m
  ·have ck:=HC.out wr b k hkm;have hst:=HL.out.at (k:=k) (by have:=HM.out;omega);have htk:=lvsL_take (lv:=lv) (cs:=cs) (k:=k) (by have:=HM.out;omega)
   have hlen:(lvsL lv (cs.take k)).length=k:=by unfold lvsL;simp;have:=HM.out;omega
   obtain⟨x,hx⟩: ∃x,cs.getD k 0=x:=⟨_,rfl⟩;rw[hx]at ck hst htk;have S:=fun W=>Level_ok W hl0 hv hst;obtain⟨y,hy⟩: ∃y,lvC lv x=y:=⟨_,rfl⟩;rw[hy]at S htk;obtain⟨D,hD⟩: ∃D,lvsL lv (cs.take k)=D:=⟨_,rfl⟩;rw[hD]at I htk hlen;have HT:=Lib.hid htk;have HLN:=Lib.hid hlen;have HX:=Lib.hid X;have hbs:=b.size;clear hst hx hy hD htk hlen X
   go_wp2_with(first
    |(go_at_call 104;refine(S _).mono ?_;rintro r6 w6 ⟨rfl,hw6⟩;subst hw6)
    |(at_builtin;go_must (refine wpList_appI ei35 rfl rfl rfl (I.alloc _) rfl (Blk.at_ (by simp)) ?_ ?_ ?_ ?_)))
   ·have:=HLN.out;unfold maxLen;omega
   ·have:=HLN.out;omega
   ·first|omega|(simp;omega)
   intro g cap w2 I2 g2 hg;go_wp2
   go_roundg (m-(k+1))
   case rel=>have hI:=I.lt;exact⟨k+1,by omega,by go_num,(HX.out.alloc _).grown g2 (fun e=>by have:=(hI _ e.symm).1;omega),by rw[HT.out];exact I2,((Below.alloc b hbs _).grown g2 (by simp;omega) (fun j hj=>by have:=(hI j hj).1;omega))⟩
   case measure=>omega
  ·have hke:k=m:=by omega
   clear hk;subst hke
   have hfin:lvsL lv (cs.take k)=lvsL lv cs:=by rw[List.take_of_length_le (by have:=HM.out;omega)]
   rw[hfin]at I;clear hfin;go_wp2
   go_ret2
   exact⟨_,rfl,I.base (fun j e=>by have:=(I.lt j e).1;omega),b⟩
end
end Go.Proofs.YtllolnkkepacjaaGreat
