/- Level runs by the reference: groups, one more character at the end; kept characters; Runs walked. -/
import Derived.Test.YtllolnkkepacjaaGreatT8
set_option maxRecDepth 100000
set_option maxHeartbeats 4000000
namespace Go.Proofs.YtllolnkkepacjaaGreat
open Go.RowKit
attribute [local go_sem] Oper.semAt_some
theorem rRemoved_ok (w:World)(c:Int):Calls Tryz.prog 34 #[.int .u8 c] w fun r w'=>r= .returned (.bool (remC c))∧w=w':=by
 go_enter Tryz.func34,Tryz.ntmps34
 go_wp2
 all_goals (go_ret;exact⟨by simp[remC, *],rfl⟩)
theorem rWay_ok (w:World)(l:Int):Calls Tryz.prog 132 #[.int .i8 l] w fun r w'=>r= .returned (.int .u8 (wayL l))∧w=w':=by
 unfold wayL
 by_cases h0:l<0
 ·rw[if_pos h0]
  go_enter Tryz.func132,Tryz.ntmps132
  go_wp2;go_ret;exact⟨rfl,rfl⟩
 ·rw[if_neg h0]
  have h0':0≤l:=by omega
  by_cases h1:126<l
  ·rw[if_pos h1]
   go_enter Tryz.func132,Tryz.ntmps132
   go_wp2;go_ret;exact⟨rfl,rfl⟩
  ·rw[if_neg h1]
   have h1':l≤126:=by omega
   by_cases h2:l % 2=0
   ·rw[if_pos h2]
    have h3:(l % 2==0)=true:=by simp[h2]
    clear h0 h1 h2
    go_enter Tryz.func132,Tryz.ntmps132
    go_wp2;go_ret;exact⟨rfl,rfl⟩
   ·rw[if_neg h2]
    have h3:(l % 2==0)=false:=by simp[h2]
    clear h0 h1 h2
    go_enter Tryz.func132,Tryz.ntmps132
    go_wp2;go_ret;exact⟨rfl,rfl⟩
theorem rKept_ok {w:World}{B:Nat}{A:Option Addr}{c:Nat}{l:List Int}(h:RdInts w B .u8 A l)(hl:l.length≤8388608):
 Calls Tryz.prog 163 #[.slice A l.length c] w fun r w'=> ∃v,r= .returned v∧Ints w' w.heap.size 3 .i64 v (keptL l)∧Below w.heap.size w w':=by
 go_enter Tryz.func163,Tryz.ntmps163
 go_wp2
 go_loopg [3,4] l.length (fun gk ov iv wr=> ∃j:Nat,j+gk=l.length∧iv= .int .i64 j∧Ints wr w.heap.size 3 .i64 ov (keptT l j)∧Below w.heap.size w wr)
 case atStart=>exact⟨0,by omega,rfl,Ints.nil _ _ _ _,Below.refl _ _⟩
 case round=>
  obtain⟨j,hj,rfl,I,b⟩:=hrel;have HJ:=Lib.hid hj;clear hj
  by_cases hlt:j<l.length
  ·obtain⟨ab,off,rfl,_,_,hc⟩:=(h.below b (.inr (Nat.le_refl _))).at_ hlt
   have hN:keptT l (j+1)=if remC (l.getD j 0)=true then keptT l j else keptT l j++[(j:Int)]:=rfl
   have hlen:=keptT_length l j;generalize l.getD j 0=x at hc hN;generalize hC:keptT l j=cs at I hN hlen;have HN:=Lib.hid hN;have HL:=Lib.hid hlen;clear hN hlen hC;have hbs:=b.size;cases hb:remC x
   ·go_wp2_with(first
     |(go_at_call 34;refine(rRemoved_ok _ _).mono ?_;rintro r1 w1 ⟨rfl,rfl⟩)
     |(at_builtin;go_must (refine wpList_appI ei24 rfl rfl rfl (I.alloc _) rfl (Blk.at_ (by simp)) ?_ ?_ ?_ ?_)))
    ·have:=HL.out;unfold maxLen;omega
    ·have:=HL.out;omega
    ·first|omega|(simp;omega)
    intro g cap w2 I2 g2 hg;go_wp2
    go_roundg (l.length-(j+1))
    case rel=>exact⟨j+1,by have:=HJ.out;omega,by go_num,by rw[HN.out,hb,if_neg (by simp)];exact I2,(b.alloc hbs _).grown g2 (by simp;omega) (fun k hk=>(I.lt k hk).1)⟩
    case measure=>have:=HJ.out;omega
   ·go_wp2_with(go_at_call 34;refine(rRemoved_ok _ _).mono ?_;rintro r1 w1 ⟨rfl,rfl⟩)
    go_roundg (l.length-(j+1))
    case rel=>exact⟨j+1,by have:=HJ.out;omega,by go_num,by rw[HN.out,hb,if_pos rfl];exact I,b⟩
    case measure=>have:=HJ.out;omega
  ·have hjl:j=l.length:=by have:=HJ.out;omega
   subst hjl;go_wp2;go_ret;exact⟨_,rfl,I,b⟩
theorem spanN_app (lv:List Int)(v x:Int): ∀t,spanN lv v (t++[x])=if spanN lv v t<t.length then spanN lv v t else if lvAt lv x=v then t.length+1 else t.length
 |[]=>by simp[spanN]
 |a::t=>by
  have ih:=spanN_app lv v x t;rw[List.cons_append,spanN]
  by_cases h:lvAt lv a=v
  ·rw[if_pos h,ih,spanN,if_pos h]
   by_cases h2:spanN lv v t<t.length
   ·rw[if_pos h2,if_pos (by simp;omega)]
   ·rw[if_neg h2,if_neg (show¬(spanN lv v t+1<(a::t).length) by simp;omega)]
    by_cases h3:lvAt lv x=v
    ·rw[if_pos h3,if_pos h3];simp
    ·rw[if_neg h3,if_neg h3];simp
  ·rw[if_neg h,spanN,if_neg h,if_pos (by simp)]
theorem span_all {lv:List Int}{v:Int}{t:List Int}(h:spanN lv v t=t.length): ∀k,k<t.length→lvAt lv (t.getD k 0)=v:=fun k hk=>spanN_in lv v t k (by omega)
theorem grp_snoc (lv:List Int)(x:Int)(l:List Int):l≠[]→ ∃G g,grp lv l=G++[g]∧g≠[]∧g.getD (g.length-1) 0=l.getD (l.length-1) 0∧grp lv (l++[x])=if lvAt lv (l.getD (l.length-1) 0)=lvAt lv x then G++[g++[x]]else(G++[g])++[[x]]:=by
 fun_induction grp lv l with
 |case1=>exact fun h=>absurd rfl h
 |case2 a t ih=>
  intro _;have hle:=spanN_le lv (lvAt lv a) t;rw[List.cons_append,grp,spanN_app]
  by_cases hn:spanN lv (lvAt lv a) t<t.length
  ·rw[if_pos hn]
   have hd:t.drop (spanN lv (lvAt lv a) t)≠[]:=by intro e;have:=congrArg List.length e;simp at this;omega
   obtain⟨G,g,e1,hg,hl,e2⟩:=ih hd;generalize spanN lv (lvAt lv a) t=n at*
   have hlast:(t.drop n).getD ((t.drop n).length-1) 0=(a::t).getD ((a::t).length-1) 0:=by simp only[List.getD_eq_getElem?_getD,List.getElem?_drop,List.length_drop,List.length_cons];rw[show n+(t.length-n-1)=t.length-1 by omega,show t.length+1-1=(t.length-1)+1 by omega,List.getElem?_cons_succ]
   rw[hlast]at hl e2;refine⟨(a::t.take n)::G,g,by rw[e1];simp,hg,hl,?_⟩;rw[List.take_append_of_le_length (by omega),List.drop_append_of_le_length (by omega),e2]
   split<;>simp
  ·rw[if_neg hn]
   have hn:spanN lv (lvAt lv a) t=t.length:=by omega
   have hall:=span_all hn;rw[hn]
   have hlast:lvAt lv ((a::t).getD ((a::t).length-1) 0)=lvAt lv a:=by
    rcases Nat.eq_zero_or_pos t.length with h0|h0
    ·rw[List.eq_nil_of_length_eq_zero h0];rfl
    ·have:=hall (t.length-1) (by omega);rw[←this,List.length_cons,show t.length+1-1=(t.length-1)+1 by omega,List.getD_cons_succ]
   refine⟨[],a::t,by simp[grp_nil],by simp,rfl,?_⟩;rw[hlast]
   by_cases hx:lvAt lv x=lvAt lv a
   ·rw[if_pos hx,if_pos hx.symm];rw[List.take_of_length_le (by simp),List.drop_eq_nil_of_le (by simp),grp_nil];simp
   ·rw[if_neg hx,if_neg (Ne.symm hx)];rw[List.take_left,List.drop_left];simp[grp,spanN]
abbrev Gr:=List Int×Int×Value
def grCells (e:Gr):List Value:=[e.2.2,.int .i8 e.2.1]
structure GrpAt (W:World) (B:Nat) (v:Value) (L:List Gr):Prop where
 row:W.ownsRow B 210 2 v L.length (L.flatMap grCells)
 each: ∀e∈L,Ints W B 3 .i64 e.2.2 e.1
 apart:L.Pairwise (fun e e'=> ∀b,e.2.2.ownBlock=some b→e'.2.2.ownBlock≠some b)
 out: ∀e∈L,∀b,e.2.2.ownBlock=some b→v.ownBlock≠some b
theorem GrpAt.nil (W:World)(B:Nat):GrpAt W B (.slice none 0 0) []:=⟨World.ownsRow_nil _ _ _ _,by simp,by simp,by simp⟩
theorem GrpAt.below {W W':World}{B C:Nat}{v:Value}{L:List Gr}(h:GrpAt W B v L)(hb:Below C W W')(hC:W.heap.size≤C):GrpAt W' B v L:=⟨own_frm h.row (Frm.of_below (F:=fun _=>False) (hb.mono hC)) (fun _ _ h=>h),fun e he=>(h.each e he).below hb hC,h.apart,h.out⟩
theorem GrpAt.drew {W:World}{B:Nat}{v:Value}{L:List Gr}(h:GrpAt W B v L):GrpAt W.drew B v L:=⟨h.row,h.each,h.apart,h.out⟩
theorem gr_length: ∀L:List Gr,(L.flatMap grCells).length=L.length*2
 |[]=>by simp
 |e::L=>by have:=gr_length L;simp[grCells]at*;omega
theorem keep_none {v:Value}{row:Option Nat}(h: ∀b,v.ownBlock=some b→row≠some b):v.ownBlock=none∨v.ownBlock≠row:=by
 rcases hv:v.ownBlock with _|b
 ·exact .inl rfl
 ·right;intro e;exact h b hv e.symm
theorem GrpAt.push {W w3:World}{B:Nat}{v v':Value}{L:List Gr}{lg:Int}(h:GrpAt W B v L){o:Obj}(row:w3.ownsRow B 210 2 v' (L.length+1) (L.flatMap grCells++[.slice none 0 0,.int .i8 lg]))(g3:(W.alloc o).grownBy w3 v.ownBlock)(hv:v'.ownBlock=v.ownBlock∨v'.ownBlock=some (W.heap.size+1)):
 GrpAt w3 B v' (L++[([],lg,.slice none 0 0)]):=by
 refine⟨by simpa[grCells]using row,?_,?_,?_⟩
 ·intro e he
  rcases List.mem_append.1 he with he|he
  ·exact((h.each e he).alloc o).kept g3 (keep_none (h.out e he))
  ·rw[List.mem_singleton]at he;subst he;exact Ints.nil _ _ _ _
 ·rw[List.pairwise_append];refine⟨h.apart,by simp,?_⟩;intro e he e' he' b hb;rw[List.mem_singleton]at he';subst he';simp[Value.ownBlock]
 ·intro e he b hb
  rcases List.mem_append.1 he with he|he
  ·rcases hv with e3|e3
   ·rw[e3];exact h.out e he b hb
   ·rw[e3];have:=((h.each e he).lt b hb).2;intro e;have:W.heap.size+1=b:=by simpa using e
    omega
  ·rw[List.mem_singleton]at he;subst he;simp[Value.ownBlock]at hb
theorem GrpAt.grow {W w3:World}{B og n cap g2 n2 cap2:Nat}{L:List Gr}{g:List Int}{lg x:Int}{gv:Value}(h:GrpAt W B (.slice (some ⟨og,0,none⟩) n cap) (L++[(g,lg,gv)])){o:Obj}
 (I:Ints w3 B 3 .i64 (.slice (some ⟨g2,0,none⟩) n2 cap2) (g++[x])) (g3:(W.alloc o).grownBy w3 gv.ownBlock) (hg:gv.ownBlock=some g2∨g2=W.heap.size+1):
 GrpAt (w3.setCell ⟨og,L.length*2,none⟩ (.slice (some ⟨g2,0,none⟩) n2 cap2)) B (.slice (some ⟨og,0,none⟩) n cap) (L++[(g++[x],lg,.slice (some ⟨g2,0,none⟩) n2 cap2)]):=by
 have hm:(g,lg,gv)∈L++[(g,lg,gv)]:=by simp
 have hog:gv.ownBlock≠some og:=fun e=>h.out _ hm og e rfl;have hlo:=World.ownsRow.lt h.row og rfl;have hrow:=(World.ownsRow.alloc h.row o).kept g3 (.inr (fun e=>hog e.symm))
 have hst:=(World.ownsRow.stored (g:=og) (n:=n) (cap:=cap) (by
  have hn:n=(L++[(g,lg,gv)]).length:=by
   rcases h.row.2 with⟨h0,_⟩|⟨_,_,_,hv,_⟩
   ·cases h0
   ·injection hv
  rw[←hn]at hrow
  exact hrow) (L.length*2) (.slice (some ⟨g2,0,none⟩) n2 cap2)).1
 have hg2:g2≠og:=by
  rcases hg with e|e
  ·rintro rfl;exact hog e
  ·omega
 have F:=(Frm.refl (fun k=>k=og) w3).set (b:=og) (j:=L.length*2) rfl (.slice (some ⟨g2,0,none⟩) n2 cap2);have hap:=List.pairwise_append.1 h.apart;refine⟨?_,?_,?_,?_⟩
 ·have e:((L++[(g,lg,gv)]).flatMap grCells).set (L.length*2) (Value.slice (some ⟨g2,0,none⟩) n2 cap2)=(L++[(g++[x],lg,Value.slice (some ⟨g2,0,none⟩) n2 cap2)]).flatMap grCells:=by
   have hl:=gr_length L;simp only[List.flatMap_append,List.flatMap_singleton,List.set_append,hl];rw[if_neg (by omega),Nat.sub_self];rfl
  rw[←e]
  have hn:n=(L++[(g,lg,gv)]).length:=by
   rcases h.row.2 with⟨h0,_⟩|⟨_,_,_,hv,_⟩
   ·cases h0
   ·injection hv
  have e2:(L++[(g++[x],lg,Value.slice (some ⟨g2,0,none⟩) n2 cap2)]).length=n:=by rw[hn];simp
  rw[e2];exact hst
 ·intro e he
  rcases List.mem_append.1 he with he|he
  ·have he':e∈L++[(g,lg,gv)]:=List.mem_append_left _ he;refine((((h.each e he').alloc o).kept g3 (keep_none (fun b hb e2=>hap.2.2 e he (g,lg,gv) (by simp) b hb e2))).frm F (fun b hb e2=>h.out e he' b hb (by rw[e2];rfl)))
  ·rw[List.mem_singleton]at he;subst he
   exact I.frm F (fun b hb e2=>hg2 (by have:g2=b:=by simpa[Value.ownBlock]using hb
                                       rw[this,e2]))
 ·rw[List.pairwise_append];refine⟨hap.1,by simp,?_⟩;intro e he e' he' b hb;rw[List.mem_singleton]at he';subst he';intro e2
  have e2:g2=b:=by simpa[Value.ownBlock]using e2
  subst e2
  rcases hg with e3|e3
  ·exact hap.2.2 e he (g,lg,gv) (by simp) g2 hb e3
  ·have:=((h.each e (List.mem_append_left _ he)).lt g2 hb).2;omega
 ·intro e he b hb
  rcases List.mem_append.1 he with he|he
  ·exact h.out e (List.mem_append_left _ he) b hb
  ·rw[List.mem_singleton]at he;subst he
   have e2:g2=b:=by simpa[Value.ownBlock]using hb
   intro e3
   have e3:og=b:=by simpa[Value.ownBlock]using e3
   omega
theorem et206:ElemT Tryz.prog 206 210 2 32:=ElemT.mk' (.agg #[.slice none 0 0,.int .i8 0]) Tryz.underlying206 (by kernel_rfl) rfl (by omega)
theorem rKept_n {w:World}{B:Nat}{A:Option Addr}{c n:Nat}{l:List Int}(hn:n=l.length)(h:RdInts w B .u8 A l)(hl:n≤8388608):
 Calls Tryz.prog 163 #[.slice A n c] w fun r w'=> ∃v,r= .returned v∧Ints w' w.heap.size 3 .i64 v (keptL l)∧Below w.heap.size w w':=by
 subst hn;exact rKept_ok h hl
def grL (lv ks:List Int):List (List Int×Int):=(grp lv ks).map (fun g=>(g,lvAt lv (g.getD 0 0)))
theorem take_last {ks:List Int}{i:Nat}(h0:0<i)(h:i≤ks.length):(ks.take i).getD ((ks.take i).length-1) 0=ks.getD (i-1) 0:=by
 have:(ks.take i).length=i:=by simp;omega
 rw[this];simp only[List.getD_eq_getElem?_getD,List.getElem?_take];rw[if_pos (by omega)]
theorem take_one {ks:List Int}{i:Nat}(h:i<ks.length):ks.take (i+1)=ks.take i++[ks.getD i 0]:=by rw[List.take_succ_eq_append_getElem h,List.getD_eq_getElem?_getD,List.getElem?_eq_getElem h];rfl
theorem grL_new {lv ks:List Int}{i:Nat}(h:i<ks.length)(hd:i=0∨lvAt lv (ks.getD (i-1) 0)≠lvAt lv (ks.getD i 0)):grL lv (ks.take (i+1))=grL lv (ks.take i)++[([ks.getD i 0],lvAt lv (ks.getD i 0))]:=by
 rw[take_one h]
 rcases Nat.eq_zero_or_pos i with h0|h0
 ·subst h0;simp[grL,grp,spanN]
 ·obtain⟨G,g,e1,hg,hl,e2⟩:=grp_snoc lv (ks.getD i 0) (ks.take i) (fun e=>by have:=congrArg List.length e;rw[List.length_take,List.length_nil]at this;omega);rw[take_last h0 (by omega)]at e2;rw[if_neg (hd.resolve_left (by omega))]at e2;unfold grL;rw[e2,e1];simp
theorem grL_same {lv ks:List Int}{i:Nat}(h:i<ks.length)(h0:0<i)(hd:lvAt lv (ks.getD (i-1) 0)=lvAt lv (ks.getD i 0)):
 ∃(M:List (List Int×Int)) (g:List Int) (lg:Int),grL lv (ks.take i)=M++[(g,lg)]∧grL lv (ks.take (i+1))=M++[(g++[ks.getD i 0],lg)]:=by
 rw[take_one h];obtain⟨G,g,e1,hg,hl,e2⟩:=grp_snoc lv (ks.getD i 0) (ks.take i) (fun e=>by have:=congrArg List.length e;rw[List.length_take,List.length_nil]at this;omega);rw[take_last h0 (by omega),if_pos hd]at e2;refine⟨G.map (fun g=>(g,lvAt lv (g.getD 0 0))),g,lvAt lv (g.getD 0 0),by unfold grL;rw[e1];simp,?_⟩;unfold grL;rw[e2]
 rcases g with _|⟨y,g⟩
 ·exact absurd rfl hg
 ·simp
theorem rRuns_ok {w:World}{B B2 n n2 c c2:Nat}{A A2:Option Addr}{cl lv:List Int}(hn:n=cl.length)(hn2:n2=lv.length)(he:n=n2)(h:RdInts w B .u8 A cl)(h2:RdInts w B2 .i8 A2 lv)(hl:n≤8388608):
 Calls Tryz.prog 129 #[.slice A n c,.slice A2 n2 c2] w fun r w'=> ∃v L,r= .returned v∧GrpAt w' w.heap.size v L∧L.map (fun e=>(e.1,e.2.1))=grL lv (keptL cl)∧Below w.heap.size w w':=by
 subst he;have HN:=Lib.hid hn;have HN2:=Lib.hid hn2;clear hn hn2
 have hkb: ∀k,k<(keptL cl).length→ ∃a:Nat,(keptL cl).getD k 0=a∧a<n:=fun k hk=>by obtain⟨a,e,h,_⟩:=keptL_in hk;exact⟨a,e,by have:=HN.out;omega⟩
 have hm:(keptL cl).length≤8388608:=by have:=keptT_length cl cl.length;have:=HN.out;unfold keptL;omega
 go_enter Tryz.func129,Tryz.ntmps129
 go_wp2_with(go_at_call 163;refine(rKept_n HN.out h hl).mono ?_;rintro r1 w1 ⟨kv,rfl,IK,b1⟩;obtain⟨kA,kc,rfl,-,-,-⟩:=IK.val)
 generalize hks:keptL cl=ks at*;obtain⟨m,hml⟩: ∃m,ks.length=m:=⟨_,rfl⟩;rw[hml]at hm hkb IK⊢;have RK:=IK.rd;have h1:=h2.below b1 (.inr (Nat.le_refl _))
 go_loopg [5,7] m (fun gk ov iv wr=> ∃(i:Nat) (L:List Gr),i+gk=m∧iv= .int .i64 i∧Below w1.heap.size w1 wr∧GrpAt wr w1.heap.size ov L∧L.map (fun e=>(e.1,e.2.1))=grL lv (ks.take i)∧L.length≤i)
 case atStart=>exact⟨0,[],by omega,rfl,Below.refl _ _,GrpAt.nil _ _,by simp[grL,grp_nil],by simp⟩
 case round=>
  obtain⟨i,L,hi,rfl,b2,hG,hL,hLn⟩:=hrel;have HI:=Lib.hid hi;have HL:=Lib.hid hL;clear hi hL
  by_cases hlt:i<m
  ·obtain⟨a,ha,han⟩:=hkb i hlt;have hbs:=b2.size;obtain⟨g4,o4,rfl,_,hg4,kc4⟩:=(RK.below b2 (.inr (Nat.le_refl _))).cells (by rw[hml];omega);have k4:=kc4 i (by rw[hml];exact hlt);rw[ha]at k4;have HKC:=Lib.hid kc4;obtain⟨b3,o3,rfl,_,hb3,lc⟩:=(h1.below b2 (.inr (Nat.le_refl _))).cells (by have:=HN2.out;omega);have l4:=lc a (by have:=HN2.out;omega);have HLC:=Lib.hid lc;have hla:lv.getD a 0=lvAt lv (a:Int):=rfl;rw[hla]at l4;clear kc4 lc hla
   go_upto_region 6 with(fail)
   go_cut [35] from 16 to 35 (fun cv wx=>cv= .bool (decide (i=0∨lvAt lv (ks.getD (i-1) 0)≠lvAt lv (ks.getD i 0)))∧ ∃d,wx=wr.drewN d)
   case first=>
    by_cases hi0:i=0
    ·subst hi0
     go_quiet (fail)
     go_wp2;go_meet;exact⟨by simp,_,rfl⟩
    ·obtain⟨p,hp,hpn⟩:=hkb (i-1) (by omega);have k5:=HKC.out (i-1) (by rw[hml];omega);rw[hp]at k5;have l5:=HLC.out p (by have:=HN2.out;omega);have hlp:lv.getD p 0=lvAt lv (p:Int):=rfl;rw[hlp]at l5
     have hw1:IntKind.i64.wrap ((i:Int)-1)=((i-1:Nat):Int):=by rw[IntWalk.i64_in _ (by omega)];omega
     have hz:((i:Int)==0)=false:=by simp;omega
     have hdd:decide (i=0∨lvAt lv (ks.getD (i-1) 0)≠lvAt lv (ks.getD i 0))=(lvAt lv (a:Int) !=lvAt lv (p:Int)):=by
      rw[hp,ha]
      by_cases e:lvAt lv (p:Int)=lvAt lv (a:Int)
      ·simp[e,hi0]
      ·simp[e,hi0,Ne.symm e]
     have HDD:=Lib.hid hdd;have HP:=Lib.hid hp;clear hdd hlp hp
     go_quiet (fail)
     go_wp2;go_meet;exact⟨by rw[HDD.out],_,rfl⟩
   case rest=>
    obtain⟨rfl,d,rfl⟩:=hcut;clear HKC HLC
    go_upto_if 35 with(fail)
    go_cut [5] from 35 to 46 (fun ov wx=> ∃(L0:List Gr) (g:List Int) (lg:Int) (gv:Value),GrpAt wx w1.heap.size ov (L0++[(g,lg,gv)])∧Below w1.heap.size w1 wx∧(L0.map (fun e=>(e.1,e.2.1)))++[(g++[(a:Int)],lg)]=grL lv (ks.take (i+1))∧L0.length≤i)
    case first=>
     obtain⟨vA,vc,rfl⟩:=row_shape hG.row;have hGd:GrpAt (wr.drewN d) w1.heap.size (.slice vA L.length vc) L:=⟨hG.row,hG.each,hG.apart,hG.out⟩;have b2d:Below w1.heap.size w1 (wr.drewN d):=⟨b2.os,b2.tape,b2.output,b2.size,b2.block⟩
     rcases hnew:decide (i=0∨lvAt lv (ks.getD (i-1) 0)≠lvAt lv (ks.getD i 0))with _|_
     ·have hne: ¬(i=0∨lvAt lv (ks.getD (i-1) 0)≠lvAt lv (ks.getD i 0)):=of_decide_eq_false hnew;have hi0:0<i:=Nat.pos_of_ne_zero (fun e=>hne (.inl e));have hsame:lvAt lv (ks.getD (i-1) 0)=lvAt lv (ks.getD i 0):=Classical.byContradiction (fun e=>hne (.inr e));obtain⟨M,g,lg,e1,e2⟩:=grL_same (by rw[hml];exact hlt) hi0 hsame;rw[ha]at e2;have hLo:=HL.out;rw[e1]at hLo;obtain⟨L0,L1,rfl,hm0,hm1⟩:=List.map_eq_append_iff.1 hLo;obtain⟨e,rfl,he⟩:=List.map_eq_singleton_iff.1 hm1;obtain⟨g',lg',gv⟩:=e;simp only[Prod.mk.injEq]at he;obtain⟨rfl,rfl⟩:=he;have HE2:=Lib.hid e2;have HM0:=Lib.hid hm0;clear hLo hm1 hne hsame e1 e2 hm0;go_wp2;go_meet;exact⟨L0,g',lg',gv,hGd,b2d,by rw[HM0.out,HE2.out],by have:=hLn;simp at this;omega⟩
     ·have hnew':=of_decide_eq_true hnew;have hgl:=grL_new (lv:=lv) (by rw[hml];exact hlt) hnew';rw[ha]at hgl;have HGL:=Lib.hid hgl;clear hgl hnew'
      go_wp2_with(at_builtin;go_must (refine wpList_app et206 rfl rfl rfl (World.ownsRow.alloc hGd.row _) rfl (Reads.blk (Blk.at_ (by simp)) rfl) ?_ ?_ ?_ ?_ ?_))
      ·simp[Value.oneCell']
      ·unfold maxLen;omega
      ·omega
      ·simp;omega
      intro v3 w3 O3 g3 hv3;have hP:=hGd.push O3 g3 hv3;have b3:=(b2d.alloc hbs _).grown g3 (by simp;omega) (fun k e=>(World.ownsRow.lt hGd.row k e).1);go_wp2;go_meet;exact⟨L,[],lvAt lv (a:Int),.slice none 0 0,hP,b3,by rw[HL.out,HGL.out];rfl,hLn⟩
    case rest=>
     obtain⟨L0,g,lg,gv,hG2,b3,hmp,hL0⟩:=hcut;have HMP:=Lib.hid hmp;clear hmp b2 hG k4 l4 hLn
     have hlen:(L0++[(g,lg,gv)]).length=L0.length+1:=by simp
     obtain⟨og,cap,e,ho1,ho2⟩:=World.ownsRow.form hG2.row (by omega);subst e;rw[hlen]at hG2;obtain⟨cur,hb1,hb2,hb3,hb4,hb5,hb6⟩:=own_blk (hlen▸hG2.row);have hIg:=hG2.each (g,lg,gv) (by simp);obtain⟨gA,gc,e2,_,_,_⟩:=hIg.val;simp only at e2;subst e2
     have hcell:wc.cell? ⟨og,L0.length*2,none⟩=some (.slice gA g.length gc):=by
      have:=World.ownsRow.cells hG2.row (g:=og) rfl (L0.length*2) (.slice gA g.length gc) (by
       have hl:=gr_length L0;rw[List.flatMap_append,List.getElem?_append_right (by omega),hl,Nat.sub_self]
       rfl)
      rwa [add_lit,Nat.zero_add]at this
     have hfz:wc.frozen? ⟨og,L0.length*2,none⟩=false:=hb2.frozen _;obtain⟨_,_,e,_,hg5,kc5⟩:=(RK.below b3 (.inr (Nat.le_refl _))).at_ (i:=i) (by rw[hml];exact hlt)
     injection e with e
     injection e with e1 e2
     subst e1 e2;rw[ha]at kc5;have hbs3:=b3.size;have hw1:IntKind.i64.wrap (L0.length:Int)=(L0.length:Int):=IntWalk.i64_in _ (by omega)
     have hgl:g.length≤8388608:=by
      have hm1:(g++[(a:Int)],lg)∈grL lv (ks.take (i+1)):=by rw[←HMP.out];simp
      obtain⟨g',hg',e⟩:=List.mem_map.1 hm1;have e:g'=g++[(a:Int)]:=(Prod.mk.inj e).1;subst e;have:=(List.sublist_flatten_of_mem hg').length_le;rw[grp_flat,List.length_take,List.length_append]at this;omega
     have hout:=hG2.out (g,lg,.slice gA g.length gc) (by simp);clear hb1 hb3 hb4 hb5 hb6
     have hlt1:(L0.length:Int)<(L0.length:Int)+1:=by omega
     go_wp2
     go_region_law (first
      |(refine step_appI (v:=.slice gA g.length gc) ei24 rfl (.tmp 57) (.tmp 62) rfl rfl (hIg.alloc _).drew rfl (Blk.at_ (w:=wc) (by simp)).drew (by unfold maxLen;omega) (by omega) (by simp;omega) ?_
        intro g2 cap2 w5 I5 g5 hg5;have B5:=((hb2.alloc (.cells #[.int .i64 a] 3)).drew).grown g5 (fun e=>hout og e.symm rfl);have w5f:=B5.frozen (L0.length*2)
        have w5c:=(B5.cell (L0.length*2)).trans ((hb2.cell (L0.length*2)).symm.trans hcell)))
     all_goals
      have S6:=GrpAt.grow hG2.drew I5 g5 (by simpa using hg5)
      have b6:Below w1.heap.size w1 (w5.setCell ⟨og,L0.length*2,none⟩ (.slice (some ⟨g2,0,none⟩) (g.length+1) cap2)):=((((b3.drew).alloc hbs3 (.cells #[.int .i64 a] 3)).grown g5 (by simp;omega) (fun k e=>(hIg.lt k e).1)).setCell (p:=⟨og,L0.length*2,none⟩) ho1 _)
      clear B5 w5f w5c I5 g5 hg5;go_wp2
      go_roundg (m-(i+1))
      case rel=>refine⟨i+1,L0++[(g++[(a:Int)],lg,_)],by have:=HI.out;omega,by go_num,b6,S6,?_,by simp;omega⟩;rw[←HMP.out];simp
      case measure=>have:=HI.out;omega
  ·have him:i=m:=by have:=HI.out;omega
   subst him;go_wp2;go_ret;have hL:=HL.out;rw[List.take_of_length_le (by omega)]at hL;exact⟨_,L,rfl,⟨own_base hG.row (fun k e=>Nat.le_trans b1.size (World.ownsRow.lt hG.row k e).1),fun e he=>(hG.each e he).base (fun k e2=>Nat.le_trans b1.size ((hG.each e he).lt k e2).1),hG.apart,hG.out⟩,by rw[hL,hks],b1.trans (b2.mono b1.size)⟩
end Go.Proofs.YtllolnkkepacjaaGreat
