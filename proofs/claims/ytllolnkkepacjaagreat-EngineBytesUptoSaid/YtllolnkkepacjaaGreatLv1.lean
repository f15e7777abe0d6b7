/- The first strong one of a paragraph, and its level: the plain law; by both. -/
import Derived.Test.YtllolnkkepacjaaGreatSp2
import Derived.Test.YtllolnkkepacjaaGreatT8
set_option maxRecDepth 100000
set_option maxHeartbeats 2000000
namespace Go.Proofs.YtllolnkkepacjaaGreat
open Go.RowKit
attribute [local go_sem] Oper.semAt_some
def str3L (c:Int):Bool:=c==1||c==2||c==3
def fsT (cl mt:List Int):Nat→Nat→Option Nat
 |0,_=>none
 |d+1,i=>if cl.length≤i then none else if str3L (cl.getD i 0)=true then some i else if begI (cl.getD i 0)=true then fsT cl mt d ((mt.getD i 0).toNat+1)else fsT cl mt d (i+1)
def fsAt (cl:List Int)(i:Nat):Option Nat:=fsT cl (matchL cl) (cl.length-i) i
theorem fsT_end {cl mt:List Int}{i:Nat}(h:cl.length≤i): ∀d,fsT cl mt d i=none
 |0=>rfl
 |d+1=>by unfold fsT;rw[if_pos h]
theorem fsT_fuel {cl:List Int}: ∀(d i:Nat),cl.length-i≤d→fsT cl (matchL cl) d i=fsAt cl i
 |0,i,h=>by
  unfold fsAt;rw[show cl.length-i=0 by omega]
 |d+1,i,h=>by
  by_cases hi:cl.length≤i
  ·unfold fsAt;rw[fsT_end hi,fsT_end hi]
  ·unfold fsAt;rw[show cl.length-i=(cl.length-i-1)+1 by omega];unfold fsT;rw[if_neg hi,if_neg hi]
   by_cases h1:str3L (cl.getD i 0)=true
   ·rw[if_pos h1,if_pos h1]
   ·rw[if_neg h1,if_neg h1]
    by_cases h2:begI (cl.getD i 0)=true
    ·rw[if_pos h2,if_pos h2];obtain⟨y,e,hy,_⟩:=match_behind (l:=cl) (a:=i) (by omega) h2;rw[e,Int.toNat_natCast];rw[fsT_fuel d (y+1) (by omega),fsT_fuel (cl.length-i-1) (y+1) (by omega)]
    ·rw[if_neg h2,if_neg h2];rw[fsT_fuel d (i+1) (by omega),fsT_fuel (cl.length-i-1) (i+1) (by omega)]
termination_by d=>d
theorem fsAt_eq {cl:List Int}{i:Nat}(hi:i<cl.length):fsAt cl i=if str3L (cl.getD i 0)=true then some i else if begI (cl.getD i 0)=true then fsAt cl (((matchL cl).getD i 0).toNat+1)else fsAt cl (i+1):=by
 have h:fsAt cl i=fsT cl (matchL cl) (cl.length-i-1+1) i:=by unfold fsAt;congr 1;omega
 rw[h];unfold fsT;rw[if_neg (by omega)]
 split
 ·rfl
 ·split
  ·rename_i h2
   obtain⟨y,e,hy,_⟩:=match_behind (l:=cl) (a:=i) (by omega) h2;rw[e,Int.toNat_natCast,fsT_fuel _ _ (by omega)]
  ·rw[fsT_fuel _ _ (by omega)]
theorem fsAt_end {cl:List Int}{i:Nat}(h:cl.length≤i):fsAt cl i=none:=fsT_end h _
theorem match_pdi {l:List Int}{a y:Nat}(h:a<l.length)(hb:begI (l.getD a 0)=true)(hm:(matchL l).getD a 0=(y:Int))(hy:y<l.length):l.getD y 0=23:=by
 have M:=mInv_run l.length l (Nat.le_refl _)
 have e:l[a]?=some (l.getD a 0):=by rw[List.getD_eq_getElem?_getD,List.getElem?_eq_getElem h];rfl
 rw[begB]at hb
 have hml:((mRun l.length l).1[a]?).getD 0=(y:Int):=by rw[←hm,List.getD_eq_getElem?_getD];rfl
 rcases M.kind a _ e with⟨_,h2⟩|⟨h1,_⟩|⟨y',h1,_,h3,h4⟩
 ·rw[h2]at hb;cases hb
 ·rw[h1]at hml;have:(l.length:Int)=y:=hml;omega
 ·rw[h1]at hml;have e2:(y':Int)=y:=hml
  have e3:y'=y:=by omega
  subst e3
  rcases h4 with⟨_,_,h5⟩|⟨_,h6,_⟩
  ·rw[List.getD_eq_getElem?_getD,h5];rfl
  ·rw[h6]at hb;simp[begins]at hb
theorem fsAt_match {cl:List Int}{i y:Nat}(hi:i<cl.length)(hb:begI (cl.getD i 0)=true)(hm:(matchL cl).getD i 0=(y:Int)):fsAt cl i=fsAt cl y∧fsAt cl y=fsAt cl (y+1):=by
 have hn:str3L (cl.getD i 0)=false:=by unfold begI at hb;unfold str3L;simp only[Bool.or_eq_true,beq_iff_eq]at hb;simp only[Bool.or_eq_false_iff,beq_eq_false_iff_ne];omega
 have h1:fsAt cl i=fsAt cl (y+1):=by rw[fsAt_eq hi,if_neg (by rw[hn];decide),if_pos hb,hm,Int.toNat_natCast]
 have h2:fsAt cl y=fsAt cl (y+1):=by
  by_cases hy:y<cl.length
  ·have h23:=match_pdi hi hb hm hy;rw[fsAt_eq hy,h23];rfl
  ·rw[fsAt_end (by omega),fsAt_end (by omega)]
 exact⟨by rw[h1,h2],h2⟩
theorem fsAt_lt {cl:List Int}: ∀(d i j:Nat),cl.length-i≤d→fsAt cl i=some j→j<cl.length
 |0,i,j,h,e=>by rw[fsAt_end (by omega)]at e;cases e
 |d+1,i,j,h,e=>by
  by_cases hi:i<cl.length
  ·rw[fsAt_eq hi]at e
   split at e
   ·injection e with e;omega
   ·split at e
    ·rename_i h2
     obtain⟨y,e1,hy,_⟩:=match_behind (l:=cl) (a:=i) hi h2;rw[e1,Int.toNat_natCast]at e;exact fsAt_lt d (y+1) j (by omega) e
    ·exact fsAt_lt d (i+1) j (by omega) e
  ·rw[fsAt_end (by omega)]at e;cases e
def fsP (cl:List Int):Int×Bool:=match fsAt cl 0 with|some i=>(i,true)|none=>(0,false)
def lvlB (cl:List Int)(b:Int):Int:=if b=0 then 0 else if b=1 then 1 else match fsAt cl 0 with|some i=>if cl.getD i 0=1 then 0 else 1|none=>0
theorem lvlB_two (cl:List Int)(b:Int):lvlB cl b=0∨lvlB cl b=1:=by
 unfold lvlB
 split
 ·exact .inl rfl
 ·split
  ·exact .inr rfl
  ·split
   ·split<;>simp
   ·exact .inl rfl
theorem fsP_some {cl:List Int}{i:Nat}(h:fsAt cl 0=some i):fsP cl=((i:Int),true):=by unfold fsP;rw[h]
theorem fsP_none {cl:List Int}(h:fsAt cl 0=none):fsP cl=(0,false):=by unfold fsP;rw[h]
theorem str3_strong {c:Int}(h:str3L c=true):c=1∨c=2∨c=3:=by unfold str3L at h;simp only[Bool.or_eq_true,beq_iff_eq]at h;omega
theorem str3_no {c:Int}(h:str3L c=false):(c==1)=false∧(c==2)=false∧(c==3)=false:=by unfold str3L at h;simp only[Bool.or_eq_false_iff]at h;exact⟨h.1.1,h.1.2,h.2⟩
theorem r15M_n {w:World}{B:Nat}{A:Option Addr}{c n:Nat}{l:List Int}(hn:n=l.length)(h:RdInts w B .u8 A l)(hl:n≤8388608):
 Calls Tryz.prog 130 #[.slice A n c] w fun r w'=> ∃g,r= .returned (.slice (some ⟨g,0,none⟩) n n)∧Ints w' w.heap.size 3 .i64 (.slice (some ⟨g,0,none⟩) n n) (matchL l)∧Below w.heap.size w w':=by
 subst hn;exact r15Match_any h.small (Nat.le_refl _) hl
theorem First_ok {w:World}{B n c:Nat}{A:Option Addr}{cl:List Int}(hn:n=cl.length)(h:RdInts w B .u8 A cl)(hl:n≤8388608):
 Calls Tryz.prog 95 #[.slice A n c,.agg #[.int .i64 0,.int .i64 n]] w fun r w'=>r= .returned (.tuple #[.int .i64 (fsP cl).1,.bool (fsP cl).2,.int .i64 0])∧Below w.heap.size w w':=by
 have h0:=h.small;have HN:=Lib.hid hn;obtain⟨W1,hW1⟩: ∃W1,w.alloc (.cells #[.int .i64 0,.int .i64 n] 44)=W1:=⟨_,rfl⟩
 have X0:Blk W1 w.heap.size 44 #[.int .i64 0,.int .i64 n]:=by rw[←hW1];exact Blk.new w 44 _
 have a1:Below w.heap.size w W1:=by rw[←hW1];exact(Below.refl _ w).alloc (Nat.le_refl _) _
 clear hn h;have hg0:decide ((n:Int)<0)=false:=decide_eq_false (by omega);have hgn:decide ((n:Int)<(n:Int))=false:=decide_eq_false (by omega)
 go_enter Tryz.func95,Tryz.ntmps95
 go_upto_region 1 with(fail)
 clear hW1;obtain⟨x0,x1,xf,xl⟩:=X0.c2
 go_step3
 go_upto_region 4 with(go_at_call 97;refine(Match_n HN.out (h0.below a1 (.inl (Nat.le_refl _))) hl).mono ?_;rintro r2 w2 ⟨mg,rfl,IM,a2⟩)
 have X2:=X0.below a2 xl;obtain⟨x0,x1,xf,xl⟩:=X2.c2;have a12:Below w.heap.size w w2:=a1.trans (a2.mono a1.size);have hR:=h0.below a12 (.inl (Nat.le_refl _));obtain⟨-,_,_,_,_,_,mc⟩:=IM.at_;have hml:(matchL cl).length=n:=IM.at_.1.symm;have HMC:=Lib.hid mc;have HML:=Lib.hid hml;clear X0 X2 a1 a2 IM mc hml h0;go_wp2
 go_step3
 go_wp2
 go_loopg [8,9] n (fun gk sv iv wr=> ∃i s:Nat,i+gk=n∧s≤n∧iv= .int .i64 i∧sv= .int .i64 s∧fsAt cl 0=fsAt cl (max i s)∧wr=w2)
 case atStart=>exact⟨0,0,by omega,by omega,rfl,rfl,rfl,rfl⟩
 case round=>
  obtain⟨i,s,hi,hs,rfl,rfl,hfs,hw⟩:=hrel;subst hw;have HI:=Lib.hid hi;have HFS:=Lib.hid hfs;clear hi hfs
  by_cases hin:i<n
  ·by_cases his:i<s
   ·go_wp2
    go_roundg (n-(i+1))
    case rel=>exact⟨i+1,s,by have:=HI.out;omega,hs,by go_num,rfl,by rw[HFS.out];congr 1;omega,rfl⟩
    case measure=>have:=HI.out;omega
   ·have hil:i<cl.length:=by have:=HN.out;omega
    have hfs:fsAt cl 0=fsAt cl i:=by rw[HFS.out];congr 1;omega
    have heq:=fsAt_eq hil;obtain⟨q,o,rfl,_,hq,ci⟩:=hR.at_ hil;have mi:=HMC.out i (by rw[HML.out];exact hin);have hmb:=fun h=>match_behind (l:=cl) (a:=i) hil h;have hfm:=fun(y:Nat) h1 h2=>fsAt_match (cl:=cl) (i:=i) (y:=y) hil h1 h2;obtain⟨x,hx⟩: ∃x,cl.getD i 0=x:=⟨_,rfl⟩;obtain⟨mm,hmm⟩: ∃mm,(matchL cl).getD i 0=mm:=⟨_,rfl⟩;rw[hx]at ci heq hmb hfm;rw[hmm]at mi hmb hfm heq;have HF:=Lib.hid hfs;have HE:=Lib.hid heq;have HMB:=Lib.hid hmb;have HFM:=Lib.hid hfm;clear hfs heq hmb hfm hx hmm
    rcases hst:str3L x with _|_
    ·obtain⟨e1,e2,e3⟩:=str3_no hst
     rcases hbg:begins x with _|_
     ·have hfin:fsAt cl 0=fsAt cl (max (i+1) s):=by
       rw[HF.out,HE.out,if_neg (by rw[hst];decide),if_neg (by rw[begB,hbg];decide)];congr 1;omega
      have HFIN:=Lib.hid hfin;clear hfin hst
      go_wp2_with(go_at_call 142;refine(begins_any _ _).mono ?_;rintro r4 w4 ⟨rfl,rfl⟩)
      go_roundg (n-(i+1))
      case rel=>exact⟨i+1,s,by have:=HI.out;omega,hs,by go_num,rfl,HFIN.out,rfl⟩
      case measure=>have:=HI.out;omega
     ·obtain⟨y,rfl,hy1,hy2⟩:=HMB.out hbg
      have hfin:fsAt cl 0=fsAt cl (max (i+1) y):=by rw[HF.out,(HFM.out y hbg rfl).1];congr 1;omega
      have HFIN:=Lib.hid hfin
      have hyn:y≤n:=by have:=HN.out;omega
      clear hfin hst
      go_wp2_with(go_at_call 142;refine(begins_any _ _).mono ?_;rintro r4 w4 ⟨rfl,rfl⟩)
      go_roundg (n-(i+1))
      case rel=>exact⟨i+1,y,by have:=HI.out;omega,hyn,by go_num,rfl,HFIN.out,rfl⟩
      case measure=>have:=HI.out;omega
    ·have hfin:fsP cl=((i:Int),true):=fsP_some (by rw[HF.out,HE.out,if_pos hst]);have h3:=str3_strong hst;have HFIN:=Lib.hid hfin;clear hfin hst
     rcases h3 with rfl|rfl|rfl
     all_goals
      go_wp2
      try rw[Exit.noGoto_ret]
      go_ret3
      rw[HFIN.out];exact⟨rfl,a12⟩
  ·have hin2:i=n:=by have:=HI.out;omega
   have hfin:fsP cl=(0,false):=fsP_none (by rw[HFS.out];exact fsAt_end (by have:=HN.out;omega));have HFIN:=Lib.hid hfin;clear hfin hin;subst hin2;go_wp2
   try rw[Exit.noGoto_ret]
   go_ret3
   rw[HFIN.out];exact⟨rfl,a12⟩
theorem rFirst_ok {w:World}{B n c:Nat}{A:Option Addr}{cl:List Int}(hn:n=cl.length)(h:RdInts w B .u8 A cl)(hl:n≤8388608):
 Calls Tryz.prog 124 #[.slice A n c,.agg #[.int .i64 0,.int .i64 n]] w fun r w'=>r= .returned (.tuple #[.int .i64 (fsP cl).1,.bool (fsP cl).2,.int .i64 0])∧Below w.heap.size w w':=by
 have h0:=h.small;have HN:=Lib.hid hn;obtain⟨W1,hW1⟩: ∃W1,w.alloc (.cells #[.int .i64 0,.int .i64 n] 44)=W1:=⟨_,rfl⟩
 have X0:Blk W1 w.heap.size 44 #[.int .i64 0,.int .i64 n]:=by rw[←hW1];exact Blk.new w 44 _
 have a1:Below w.heap.size w W1:=by rw[←hW1];exact(Below.refl _ w).alloc (Nat.le_refl _) _
 clear hn h;have hg0:decide ((n:Int)<0)=false:=decide_eq_false (by omega);have hgn:decide ((n:Int)<(n:Int))=false:=decide_eq_false (by omega)
 go_enter Tryz.func124,Tryz.ntmps124
 go_upto_region 1 with(fail)
 clear hW1;obtain⟨x0,x1,xf,xl⟩:=X0.c2
 go_upto_region 4 with(go_at_call 130;refine(r15M_n HN.out (h0.below a1 (.inl (Nat.le_refl _))) hl).mono ?_;rintro r2 w2 ⟨mg,rfl,IM,a2⟩)
 have X2:=X0.below a2 xl;obtain⟨x0,x1,xf,xl⟩:=X2.c2;have a12:Below w.heap.size w w2:=a1.trans (a2.mono a1.size);have hR:=h0.below a12 (.inl (Nat.le_refl _));obtain⟨-,_,_,_,_,_,mc⟩:=IM.at_;have hml:(matchL cl).length=n:=IM.at_.1.symm;have HMC:=Lib.hid mc;have HML:=Lib.hid hml;clear X0 X2 a1 a2 IM mc hml h0;go_wp2
 go_loopg [8] (n+1) (fun gk iv wr=> ∃i:Nat,i+gk=n+1∧iv= .int .i64 i∧fsAt cl 0=fsAt cl i∧wr=w2)
 case atStart=>exact⟨0,by omega,rfl,rfl,rfl⟩
 case round=>
  obtain⟨i,hi,rfl,hfs,hw⟩:=hrel;subst hw;have HI:=Lib.hid hi;have HFS:=Lib.hid hfs;clear hi hfs
  by_cases hin:i<n
  ·have hil:i<cl.length:=by have:=HN.out;omega
   have heq:=fsAt_eq hil;obtain⟨q,o,rfl,_,hq,ci⟩:=hR.at_ hil;have mi:=HMC.out i (by rw[HML.out];exact hin);have hmb:=fun h=>match_behind (l:=cl) (a:=i) hil h;have hfm:=fun(y:Nat) h1 h2=>fsAt_match (cl:=cl) (i:=i) (y:=y) hil h1 h2;obtain⟨x,hx⟩: ∃x,cl.getD i 0=x:=⟨_,rfl⟩;obtain⟨mm,hmm⟩: ∃mm,(matchL cl).getD i 0=mm:=⟨_,rfl⟩;rw[hx]at ci heq hmb hfm;rw[hmm]at mi hmb hfm heq;have HE:=Lib.hid heq;have HMB:=Lib.hid hmb;have HFM:=Lib.hid hfm;clear heq hmb hfm hx hmm
   rcases hst:str3L x with _|_
   ·obtain⟨e1,e2,e3⟩:=str3_no hst
    rcases hbg:begins x with _|_
    ·have hfin:fsAt cl 0=fsAt cl (i+1):=by
      rw[HFS.out,HE.out,if_neg (by rw[hst];decide),if_neg (by rw[begB,hbg];decide)]
     have HFIN:=Lib.hid hfin;clear hfin hst
     go_wp2_with(go_at_call 134;refine(rBegins_any _ _).mono ?_;rintro r4 w4 ⟨rfl,rfl⟩)
     go_roundg (n+1-(i+1))
     case rel=>exact⟨i+1,by have:=HI.out;omega,by go_num,HFIN.out,rfl⟩
     case measure=>have:=HI.out;omega
    ·obtain⟨y,rfl,hy1,hy2⟩:=HMB.out hbg
     have hfin:fsAt cl 0=fsAt cl (y+1):=by rw[HFS.out,(HFM.out y hbg rfl).1,(HFM.out y hbg rfl).2]
     have HFIN:=Lib.hid hfin
     have hyn:y≤n:=by have:=HN.out;omega
     clear hfin hst
     go_wp2_with(go_at_call 134;refine(rBegins_any _ _).mono ?_;rintro r4 w4 ⟨rfl,rfl⟩)
     go_roundg (n+1-(y+1))
     case rel=>exact⟨y+1,by have:=HI.out;omega,by go_num,HFIN.out,rfl⟩
     case measure=>have:=HI.out;omega
   ·have hfin:fsP cl=((i:Int),true):=fsP_some (by rw[HFS.out,HE.out,if_pos hst]);have h3:=str3_strong hst;have HFIN:=Lib.hid hfin;clear hfin hst
    rcases h3 with rfl|rfl|rfl
    all_goals
     go_wp2
     go_ret3
     rw[HFIN.out];exact⟨rfl,a12⟩
  ·have hfin:fsP cl=(0,false):=fsP_none (by rw[HFS.out];exact fsAt_end (by have:=HN.out;omega));have HFIN:=Lib.hid hfin;have hng:decide (i<n)=false:=decide_eq_false hin;clear hfin;go_wp2
   go_ret3
   rw[HFIN.out];exact⟨rfl,a12⟩
theorem PLevel_ok {w:World}{B n c:Nat}{A:Option Addr}{cl:List Int}(hn:n=cl.length)(h:RdInts w B .u8 A cl)(hl:n≤8388608){b:Int}(hb:b= -1∨b=0∨b=1):
 Calls Tryz.prog 68 #[.slice A n c,.int .i8 b] w fun r w'=>r= .returned (.tuple #[.int .i8 (lvlB cl b),.int .i64 0])∧Below w.heap.size w w':=by
 rcases hb with rfl|rfl|rfl
 ·have hF:=fun W (hW:Below w.heap.size w W)=>First_ok (c:=c) hn ((h.small).below hW (.inl (Nat.le_refl _))) hl;have h0:=h.small;have HN:=Lib.hid hn;clear hn h
  rcases hfs:fsAt cl 0 with _|i
  ·have e:lvlB cl (-1)=0:=by unfold lvlB;rw[hfs];rfl
   rw[fsP_none hfs]at hF;have HF:=Lib.hid hF;have HE:=Lib.hid e;clear hF e hfs
   go_enter Tryz.func68,Tryz.ntmps68
   go_wp2_with(go_at_call 95;refine(HF.out _ (Below.refl _ _)).mono ?_;rintro r2 w2 ⟨rfl,a2⟩)
   go_ret2
   rw[HE.out];exact⟨rfl,a2⟩
  ·have hlt:=fsAt_lt _ _ _ (Nat.le_refl _) hfs
   have e:lvlB cl (-1)=if cl.getD i 0=1 then 0 else 1:=by unfold lvlB;rw[hfs];rfl
   rw[fsP_some hfs]at hF
   have hin:i<n:=by have:=HN.out;omega
   have hci: ∀W,Below w.heap.size w W→ ∃q o,A=some ⟨q,o,none⟩∧W.cell? ⟨q,o+i,none⟩=some (.int .u8 (cl.getD i 0)):=fun W hW=>by obtain⟨q,o,e,_,_,hc⟩:=(h0.below hW (.inl (Nat.le_refl _))).at_ hlt;exact⟨q,o,e,hc⟩
   obtain⟨q,o,rfl,_⟩:=hci w (Below.refl _ _);obtain⟨x,hx⟩: ∃x,cl.getD i 0=x:=⟨_,rfl⟩;rw[hx]at e hci;have HC:=Lib.hid hci;have HF:=Lib.hid hF;have HE:=Lib.hid e;clear hF e hfs hx hci hlt
   by_cases hx1:x=1
   ·subst hx1
    go_enter Tryz.func68,Tryz.ntmps68
    go_wp2_with(go_at_call 95;refine(HF.out _ (Below.refl _ _)).mono ?_;rintro r2 w2 ⟨rfl,a2⟩;obtain⟨q2,o2,e2,c2⟩:=HC.out _ a2;injection e2 with e2;injection e2 with e3 e4 e5;subst e3 e4;clear e5)
    go_ret2
    rw[HE.out];exact⟨rfl,a2⟩
   ·have hxb:(x !=1)=true:=bne_iff_ne.2 hx1;have HX1:=Lib.hid hx1;clear hx1
    go_enter Tryz.func68,Tryz.ntmps68
    go_wp2_with(go_at_call 95;refine(HF.out _ (Below.refl _ _)).mono ?_;rintro r2 w2 ⟨rfl,a2⟩;obtain⟨q2,o2,e2,c2⟩:=HC.out _ a2;injection e2 with e2;injection e2 with e3 e4 e5;subst e3 e4;clear e5)
    go_ret2
    rw[HE.out,if_neg HX1.out];exact⟨rfl,a2⟩
 ·go_enter Tryz.func68,Tryz.ntmps68
  go_wp2
  go_ret2
  exact⟨rfl,Below.refl _ _⟩
 ·go_enter Tryz.func68,Tryz.ntmps68
  go_wp2
  go_ret2
  exact⟨rfl,Below.refl _ _⟩
theorem rPLevel_ok {w:World}{B n c:Nat}{A:Option Addr}{cl:List Int}(hn:n=cl.length)(h:RdInts w B .u8 A cl)(hl:n≤8388608){b:Int}(hb:b= -1∨b=0∨b=1):
 Calls Tryz.prog 83 #[.slice A n c,.int .i8 b] w fun r w'=>r= .returned (.tuple #[.int .i8 (lvlB cl b),.int .i64 0])∧Below w.heap.size w w':=by
 rcases hb with rfl|rfl|rfl
 ·have hF:=fun W (hW:Below w.heap.size w W)=>rFirst_ok (c:=c) hn ((h.small).below hW (.inl (Nat.le_refl _))) hl;have h0:=h.small;have HN:=Lib.hid hn;clear hn h
  rcases hfs:fsAt cl 0 with _|i
  ·have e:lvlB cl (-1)=0:=by unfold lvlB;rw[hfs];rfl
   rw[fsP_none hfs]at hF;have HF:=Lib.hid hF;have HE:=Lib.hid e;clear hF e hfs
   go_enter Tryz.func83,Tryz.ntmps83
   go_wp2_with(go_at_call 124;refine(HF.out _ (Below.refl _ _)).mono ?_;rintro r2 w2 ⟨rfl,a2⟩)
   go_ret2
   rw[HE.out];exact⟨rfl,a2⟩
  ·have hlt:=fsAt_lt _ _ _ (Nat.le_refl _) hfs
   have e:lvlB cl (-1)=if cl.getD i 0=1 then 0 else 1:=by unfold lvlB;rw[hfs];rfl
   rw[fsP_some hfs]at hF
   have hin:i<n:=by have:=HN.out;omega
   have hci: ∀W,Below w.heap.size w W→ ∃q o,A=some ⟨q,o,none⟩∧W.cell? ⟨q,o+i,none⟩=some (.int .u8 (cl.getD i 0)):=fun W hW=>by obtain⟨q,o,e,_,_,hc⟩:=(h0.below hW (.inl (Nat.le_refl _))).at_ hlt;exact⟨q,o,e,hc⟩
   obtain⟨q,o,rfl,_⟩:=hci w (Below.refl _ _);obtain⟨x,hx⟩: ∃x,cl.getD i 0=x:=⟨_,rfl⟩;rw[hx]at e hci;have HC:=Lib.hid hci;have HF:=Lib.hid hF;have HE:=Lib.hid e;clear hF e hfs hx hci hlt
   by_cases hx1:x=1
   ·subst hx1
    go_enter Tryz.func83,Tryz.ntmps83
    go_wp2_with(go_at_call 124;refine(HF.out _ (Below.refl _ _)).mono ?_;rintro r2 w2 ⟨rfl,a2⟩;obtain⟨q2,o2,e2,c2⟩:=HC.out _ a2;injection e2 with e2;injection e2 with e3 e4 e5;subst e3 e4;clear e5)
    go_ret2
    rw[HE.out];exact⟨rfl,a2⟩
   ·have hxb:(x !=1)=true:=bne_iff_ne.2 hx1;have HX1:=Lib.hid hx1;clear hx1
    go_enter Tryz.func83,Tryz.ntmps83
    go_wp2_with(go_at_call 124;refine(HF.out _ (Below.refl _ _)).mono ?_;rintro r2 w2 ⟨rfl,a2⟩;obtain⟨q2,o2,e2,c2⟩:=HC.out _ a2;injection e2 with e2;injection e2 with e3 e4 e5;subst e3 e4;clear e5)
    go_ret2
    rw[HE.out,if_neg HX1.out];exact⟨rfl,a2⟩
 ·go_enter Tryz.func83,Tryz.ntmps83
  go_wp2
  go_ret2
  exact⟨rfl,Below.refl _ _⟩
 ·go_enter Tryz.func83,Tryz.ntmps83
  go_wp2
  go_ret2
  exact⟨rfl,Below.refl _ _⟩
end Go.Proofs.YtllolnkkepacjaaGreat
