/- paras.Match walked. The reference's Match of chapter 15 walked. -/
import Derived.Test.YtllolnkkepacjaaGreatP1
import Derived.Test.YtllolnkkepacjaaGreatS3
set_option maxRecDepth 100000
set_option maxHeartbeats 1000000
namespace Go.Proofs.YtllolnkkepacjaaGreat
open Go.RowKit
section
theorem begins_any (c:Int)(w:World):
 Calls Tryz.prog 142 #[.int .u8 c] w fun r w'=>r= .returned (.bool (begins c))∧w=w':=by
 have hx:begins c=(c==20||c==21||c==22):=rfl;rw[hx];clear hx
 go_enter Tryz.func142,Tryz.ntmps142
 go_wp2
 all_goals (go_ret;exact⟨by simp_all,rfl⟩)
def pileInts (p:List Nat):List Int:=List.map (fun x:Nat=>(x:Int)) p.reverse
theorem pileInts_cons (k:Nat)(p:List Nat):pileInts (k::p)=pileInts p++[(k:Int)]:=by simp[pileInts]
theorem pileInts_length (p:List Nat):(pileInts p).length=p.length:=by simp[pileInts]
theorem fill_at {outs:List Int}{k m:Nat}(h:outs.length=k)(x:Int):(outs++List.replicate (m+1) 0).set k x=(outs++[x])++List.replicate m 0:=by subst h;simp[List.replicate_succ]
theorem fill_new {outs r:List Int}{k:Nat}(h:outs.length=k)(x y:Int):((outs++[x])++r).set k y=(outs++[y])++r:=by subst h;simp
theorem fill_old {outs r:List Int}{k p:Nat}(h:outs.length=k)(hp:p<k)(x y:Int):((outs++[x])++r).set p y=(outs.set p y++[x])++r:=by subst h;simp[hp]
theorem mRun_next (n:Nat){l:List Int}{k:Nat}(h:k<l.length):mRun n (l.take (k+1))=mStep n (mRun n (l.take k)) (l.getD k 0):=by rw[List.take_succ_eq_append_getElem h,mRun_snoc];simp[h]
theorem pile_len: ∀{p:List Nat} {k:Nat},p.Pairwise (· > ·)→(∀x∈p,x<k)→p.length≤k
 |[],_,_,_=>by simp
 |a::p,k,h,hk=>by
  obtain⟨h1,h2⟩:=List.pairwise_cons.1 h;have:=pile_len (k:=a) h2 (fun x hx=>h1 x hx);have:=hk a (by simp);simp only[List.length_cons];omega
structure MatchAt (n:Nat) (l:List Int) (B og:Nat) (k:Nat) (pv:Value) (wr:World):Prop where
 out:Ints wr B 3 .i64 (.slice (some ⟨og,0,none⟩) n n) ((mRun n (l.take k)).1++List.replicate (n-k) 0)
 pile:Ints wr B 3 .i64 pv (pileInts (mRun n (l.take k)).2)
 ne:pv.ownBlock≠some og
theorem Match_any {w:World}{B:Nat}{A:Option Addr}{c:Nat}{l:List Int}(h:RdInts w B .u8 A l)(hB:B≤w.heap.size)(hl:l.length≤8388608):
 Calls Tryz.prog 97 #[.slice A l.length c] w fun r w'=> ∃g,r= .returned (.slice (some ⟨g,0,none⟩) l.length l.length)∧Ints w' w.heap.size 3 .i64 (.slice (some ⟨g,0,none⟩) l.length l.length) (matchL l)∧Below w.heap.size w w':=by
 go_enter Tryz.func97,Tryz.ntmps97
 go_wp2_with(at_make;go_must (refine wpList_mkI ei24 w.heap.size rfl rfl l.length rfl rfl rfl rfl ?_ ?_ (Nat.le_refl _) ?_))
 ·omega
 ·unfold maxLen;omega
 intro w1 ho1 hg1;have hb1:Below w.heap.size w w1:=(Below.refl _ _).grown hg1 (Nat.le_refl _) (by simp);go_wp2
 go_loopg [4,12] l.length (fun gk pv iv wr=> ∃k:Nat,k+gk=l.length∧iv= .int .i64 k∧MatchAt l.length l w.heap.size w.heap.size k pv wr∧Below w.heap.size w wr)
 case atStart=>
  refine⟨0,by simp,rfl,⟨?_,?_,by simp[Value.ownBlock]⟩,hb1⟩
  ·simpa[mRun]using ho1
  ·exact Ints.nil _ _ _ _
 case round=>
  obtain⟨k,hk,rfl,hM,hb⟩:=hrel;have HK:=Lib.hid hk
  by_cases hlt:k<l.length
  ·clear hk;have hr:=(h.below hb (.inl hB));obtain⟨b,off,rfl,hbB,hbs,hc⟩:=hr.at_ hlt;obtain⟨-,_,_,_,hos,hofr,hoc⟩:=hM.out.at_;have hinv:=mInv_run l.length (l.take k) (by simp;omega);have hlen:=hinv.len
   have hkl:(l.take k).length=k:=by simp;omega
   rw[hkl]at hlen;have hnx:=mRun_next l.length hlt;have hoc0:=hoc k (by simp[hlen];omega);obtain⟨m,hm⟩: ∃m,l.length-k=m+1:=⟨l.length-k-1,by omega⟩
   have hm1:l.length-(k+1)=m:=by omega
   have I0:=hM.out;have J0:=hM.pile;have hne:=hM.ne;generalize hc0:l.getD k 0=c0 at hc hnx;generalize hst:mRun l.length (l.take k)=st at*;obtain⟨outs,pile⟩:=st;simp only at hlen I0 J0 hinv hoc0;rw[hm]at I0;have I1:=I0.set k (-1);rw[fill_at hlen]at I1;have F1:=(Frm.refl (fun j=>j=w.heap.size) wr).set (j:=k) rfl (.int .i64 (-1));have J1:=J0.frm F1 (fun j hj e=>hne (by rw[hj,e]));have b1:=hb.trans (F1.below hb.size (fun j hj e=>by omega))
   have hplt: ∀x∈pile,x<k:=fun x hx=>by have:=(hinv.pile_lt x hx).1;omega
   have hpl:=pile_len hinv.sorted hplt;have HN:=Lib.hid hnx;have HM1:=Lib.hid hm1;have HC0:=Lib.hid hc0;clear hnx hm hm1 hc0 hst hM hoc I0 J0 hkl
   by_cases hbg:begins c0=true
   ·have hx:mStep l.length (outs,pile) c0=(outs++[(l.length:Int)],outs.length::pile):=by simp[mStep,hbg]
    have HX:=Lib.hid hx;clear hx;obtain⟨pA,pcap,rfl,_,_,_⟩:=J1.val;have I2:=I1.set k (l.length:Int);rw[fill_new hlen]at I2;have F2:=(Frm.refl (fun j=>j=w.heap.size) (wr.setCell ⟨w.heap.size,k,none⟩ (.int .i64 (-1)))).set (j:=k) rfl (.int .i64 (l.length:Int));have J2:=J1.frm F2 (fun j hj e=>hne (by rw[hj,e]));have b2:=b1.trans (F2.below b1.size (fun j hj e=>by omega));have hbg':=Lib.hid hbg
    go_wp2_with(first
     |(go_at_call 142;refine(begins_any _ _).mono ?_;rintro r w' ⟨rfl,rfl⟩)
     |(at_builtin;go_must (refine wpList_appI ei24 rfl rfl rfl (J2.alloc _) rfl (Blk.at_ (by simp)) ?_ ?_ ?_ ?_)))
    ·rw[pileInts_length];unfold maxLen;omega
    ·rw[pileInts_length];omega
    ·have:=hb.size;simp;omega
    intro g cap w3 J3 hg3 hgg;have I3:=(I2.alloc (.cells #[.int .i64 (k:Int)] 3)).kept hg3 (.inr (fun e=>hne (by simpa[Value.ownBlock]using e.symm)));have b3:=(b2.alloc b2.size (.cells #[.int .i64 (k:Int)] 3)).grown hg3 (by have:=hb.size;simp;omega) (fun j hj=>(J2.lt j hj).1);go_wp2
    go_roundg m
    case rel=>
     refine⟨k+1,by have:=HK.out;have:=HM1.out;omega,by go_num,⟨?_,?_,?_⟩,b3⟩
     ·rw[HN.out,HX.out,HM1.out];exact I3
     ·rw[HN.out,HX.out,pileInts_cons,hlen];exact J3
     ·rcases hgg with e|e
      ·intro e2;simp[Value.ownBlock]at e2;subst e2;exact hne (by simpa[Value.ownBlock]using e)
      ·intro e2;simp[Value.ownBlock]at e2;omega
    case measure=>have:=HK.out;have:=HM1.out;omega
   ·have hbg:begins c0=false:=by simpa using hbg
    by_cases h23:c0=23
    ·subst h23
     cases pile with
     |nil=>
      have hx:mStep l.length (outs,[]) 23=(outs++[-1],[]):=by simp[mStep,begins]
      have HX:=Lib.hid hx;clear hx;obtain⟨pA,pcap,rfl,_,_,_⟩:=J1.val;have hp0:(pileInts ([]:List Nat)).length=0:=rfl;rw[hp0]at J1 hne⊢;clear hp0
      go_wp2_with(go_at_call 142;refine(begins_any _ _).mono ?_;rintro r w' ⟨rfl,rfl⟩)
      go_roundg m
      case rel=>
       refine⟨k+1,by have:=HK.out;have:=HM1.out;omega,by go_num,⟨?_,?_,?_⟩,b1⟩
       ·rw[HN.out,HX.out,HM1.out];exact I1
       ·rw[HN.out,HX.out];exact J1
       ·exact hne
      case measure=>have:=HK.out;have:=HM1.out;omega
     |cons p rest=>
      have hx:mStep l.length (outs,p::rest) 23=(outs.set p (k:Int)++[(p:Int)],rest):=by simp[mStep,begins,hlen]
      have HX:=Lib.hid hx;clear hx;have hpk:p<k:=hplt p (by simp);obtain⟨pg,pcap,rfl⟩:=J1.form (by simp[pileInts])
      have hplen:(pileInts (p::rest)).length=rest.length+1:=by simp[pileInts]
      rw[hplen]at J1 hne⊢;obtain⟨-,jl,jm,_,js,jf,jc⟩:=J1.at_;have jc:=jc rest.length (by simp[pileInts])
      have hpv:(pileInts (p::rest)).getD rest.length 0=(p:Int):=by rw[pileInts_cons];simp[pileInts,List.getD]
      rw[hpv]at jc;rw[hplen]at jl;have I2:=I1.set k (p:Int);rw[fill_new hlen]at I2;have F2:=(Frm.refl (fun j=>j=w.heap.size) (wr.setCell ⟨w.heap.size,k,none⟩ (.int .i64 (-1)))).set (j:=k) rfl (.int .i64 (p:Int));have J2:=J1.frm F2 (fun j hj e=>hne (by rw[hj,e]));have b2:=b1.trans (F2.below b1.size (fun j hj e=>by omega));obtain⟨-,_,_,_,_,_,kc⟩:=I2.at_;have kcp:=kc p (by simp[hlen];omega);have I3:=I2.set p (k:Int);rw[fill_old hlen hpk]at I3;have F3:=(Frm.refl (fun j=>j=w.heap.size) ((wr.setCell ⟨w.heap.size,k,none⟩ (.int .i64 (-1))).setCell ⟨w.heap.size,k,none⟩ (.int .i64 (p:Int)))).set (j:=p) rfl (.int .i64 (k:Int));have J3:=J2.frm F3 (fun j hj e=>hne (by rw[hj,e]));have b3:=b2.trans (F3.below b2.size (fun j hj e=>by omega));have J4:=J3.cut rest.length (by simp[pileInts])
      have htk:(pileInts (p::rest)).take rest.length=pileInts rest:=by rw[pileInts_cons];simp[pileInts]
      rw[htk]at J4;clear kc hplen hpv htk J3 J2 I2 hinv hplt
      have hrl:rest.length≤8388608:=by simp only[List.length_cons]at hpl;omega
      go_wp2_with(go_at_call 142;refine(begins_any _ _).mono ?_;rintro r w' ⟨rfl,rfl⟩)
      go_roundg m
      case rel=>
       refine⟨k+1,by have:=HK.out;have:=HM1.out;omega,by go_num,⟨?_,?_,?_⟩,b3⟩
       ·rw[HN.out,HX.out,HM1.out];exact I3
       ·rw[HN.out,HX.out];exact J4
       ·exact hne
      case measure=>have:=HK.out;have:=HM1.out;omega
    ·have hx23:(c0==23)=false:=beq_eq_false_iff_ne.2 h23
     by_cases h11:c0=11
     ·subst h11
      have hx:mStep l.length (outs,pile) 11=(outs++[-1],[]):=by simp[mStep,begins]
      have HX:=Lib.hid hx;clear hx
      have hpl2:(pileInts pile).length≤8388608:=by rw[pileInts_length];omega
      rcases J1.cases' with⟨rfl,_⟩|⟨pg,pcap,rfl⟩
      ·go_wp2_with(go_at_call 142;refine(begins_any _ _).mono ?_;rintro r w' ⟨rfl,rfl⟩)
       go_roundg m
       case rel=>
        refine⟨k+1,by have:=HK.out;have:=HM1.out;omega,by go_num,⟨?_,?_,?_⟩,b1⟩
        ·rw[HN.out,HX.out,HM1.out];exact I1
        ·rw[HN.out,HX.out];exact Ints.nil _ _ _ _
        ·exact by simp[Value.ownBlock]
       case measure=>have:=HK.out;have:=HM1.out;omega
      ·obtain⟨-,jl,jm,_⟩:=J1.at_;have J2:=J1.cut 0 (Nat.zero_le _)
       go_wp2_with(go_at_call 142;refine(begins_any _ _).mono ?_;rintro r w' ⟨rfl,rfl⟩)
       go_roundg m
       case rel=>
        refine⟨k+1,by have:=HK.out;have:=HM1.out;omega,by go_num,⟨?_,?_,?_⟩,b1⟩
        ·rw[HN.out,HX.out,HM1.out];exact I1
        ·rw[HN.out,HX.out];exact J2
        ·exact hne
       case measure=>have:=HK.out;have:=HM1.out;omega
     ·obtain⟨pA,pcap,rfl,_,_,_⟩:=J1.val;have hx11:(c0==11)=false:=beq_eq_false_iff_ne.2 h11
      have hx:mStep l.length (outs,pile) c0=(outs++[-1],pile):=by simp[mStep,hbg,h23,h11]
      have HX:=Lib.hid hx;clear hx
      go_wp2_with(go_at_call 142;refine(begins_any _ _).mono ?_;rintro r w' ⟨rfl,rfl⟩)
      go_roundg m
      case rel=>
       refine⟨k+1,by have:=HK.out;have:=HM1.out;omega,by go_num,⟨?_,?_,?_⟩,b1⟩
       ·rw[HN.out,HX.out,HM1.out];exact I1
       ·rw[HN.out,HX.out];exact J1
       ·exact hne
      case measure=>have:=HK.out;have:=HM1.out;omega
  ·have hkn:k=l.length:=by omega
   subst hkn;have hI:=hM.out;rw[List.take_length,Nat.sub_self]at hI;simp only[List.replicate_zero,List.append_nil]at hI;clear hM;go_wp2;go_ret;exact⟨w.heap.size,rfl,hI,hb⟩
end
section
theorem rBegins_any (c:Int)(w:World):Calls Tryz.prog 134 #[.int .u8 c] w fun r w'=>r= .returned (.bool (begins c))∧w=w':=by
 have hx:begins c=(c==20||c==21||c==22):=rfl;rw[hx];clear hx
 go_enter Tryz.func134,Tryz.ntmps134
 go_wp2
 all_goals (go_ret;exact⟨by simp_all,rfl⟩)
theorem r15Match_any {w:World}{B:Nat}{A:Option Addr}{c:Nat}{l:List Int}(h:RdInts w B .u8 A l)(hB:B≤w.heap.size)(hl:l.length≤8388608):
 Calls Tryz.prog 130 #[.slice A l.length c] w fun r w'=> ∃g,r= .returned (.slice (some ⟨g,0,none⟩) l.length l.length)∧Ints w' w.heap.size 3 .i64 (.slice (some ⟨g,0,none⟩) l.length l.length) (matchL l)∧Below w.heap.size w w':=by
 go_enter Tryz.func130,Tryz.ntmps130
 go_wp2_with(at_make;go_must (refine wpList_mkI ei24 w.heap.size rfl rfl l.length rfl rfl rfl rfl ?_ ?_ (Nat.le_refl _) ?_))
 ·omega
 ·unfold maxLen;omega
 intro w1 ho1 hg1;have hb1:Below w.heap.size w w1:=(Below.refl _ _).grown hg1 (Nat.le_refl _) (by simp);go_wp2
 go_loopg [4,5] l.length (fun gk pv iv wr=> ∃k:Nat,k+gk=l.length∧iv= .int .i64 k∧MatchAt l.length l w.heap.size w.heap.size k pv wr∧Below w.heap.size w wr)
 case atStart=>
  refine⟨0,by simp,rfl,⟨?_,?_,by simp[Value.ownBlock]⟩,hb1⟩
  ·simpa[mRun]using ho1
  ·exact Ints.nil _ _ _ _
 case round=>
  obtain⟨k,hk,rfl,hM,hb⟩:=hrel;have HK:=Lib.hid hk
  by_cases hlt:k<l.length
  ·clear hk;have hr:=(h.below hb (.inl hB));obtain⟨b,off,rfl,hbB,hbs,hc⟩:=hr.at_ hlt;obtain⟨-,_,_,_,hos,hofr,hoc⟩:=hM.out.at_;have hinv:=mInv_run l.length (l.take k) (by simp;omega);have hlen:=hinv.len
   have hkl:(l.take k).length=k:=by simp;omega
   rw[hkl]at hlen;have hnx:=mRun_next l.length hlt;have hoc0:=hoc k (by simp[hlen];omega);obtain⟨m,hm⟩: ∃m,l.length-k=m+1:=⟨l.length-k-1,by omega⟩
   have hm1:l.length-(k+1)=m:=by omega
   have I0:=hM.out;have J0:=hM.pile;have hne:=hM.ne;generalize hc0:l.getD k 0=c0 at hc hnx;generalize hst:mRun l.length (l.take k)=st at*;obtain⟨outs,pile⟩:=st;simp only at hlen I0 J0 hinv hoc0;rw[hm]at I0;have I1:=I0.set k (-1);rw[fill_at hlen]at I1;have F1:=(Frm.refl (fun j=>j=w.heap.size) wr).set (j:=k) rfl (.int .i64 (-1));have J1:=J0.frm F1 (fun j hj e=>hne (by rw[hj,e]));have b1:=hb.trans (F1.below hb.size (fun j hj e=>by omega))
   have hplt: ∀x∈pile,x<k:=fun x hx=>by have:=(hinv.pile_lt x hx).1;omega
   have hpl:=pile_len hinv.sorted hplt;have HN:=Lib.hid hnx;have HM1:=Lib.hid hm1;have HC0:=Lib.hid hc0;clear hnx hm hm1 hc0 hst hM hoc I0 J0 hkl
   by_cases hbg:begins c0=true
   ·have hx:mStep l.length (outs,pile) c0=(outs++[(l.length:Int)],outs.length::pile):=by simp[mStep,hbg]
    have HX:=Lib.hid hx;clear hx;obtain⟨pA,pcap,rfl,_,_,_⟩:=J1.val;have I2:=I1.set k (l.length:Int);rw[fill_new hlen]at I2;have F2:=(Frm.refl (fun j=>j=w.heap.size) (wr.setCell ⟨w.heap.size,k,none⟩ (.int .i64 (-1)))).set (j:=k) rfl (.int .i64 (l.length:Int));have J2:=J1.frm F2 (fun j hj e=>hne (by rw[hj,e]));have b2:=b1.trans (F2.below b1.size (fun j hj e=>by omega));have hbg':=Lib.hid hbg
    go_wp2_with(first
     |(go_at_call 134;refine(rBegins_any _ _).mono ?_;rintro r w' ⟨rfl,rfl⟩)
     |(at_builtin;go_must (refine wpList_appI ei24 rfl rfl rfl (J2.alloc _) rfl (Blk.at_ (by simp)) ?_ ?_ ?_ ?_)))
    ·rw[pileInts_length];unfold maxLen;omega
    ·rw[pileInts_length];omega
    ·have:=hb.size;simp;omega
    intro g cap w3 J3 hg3 hgg;have I3:=(I2.alloc (.cells #[.int .i64 (k:Int)] 3)).kept hg3 (.inr (fun e=>hne (by simpa[Value.ownBlock]using e.symm)));have b3:=(b2.alloc b2.size (.cells #[.int .i64 (k:Int)] 3)).grown hg3 (by have:=hb.size;simp;omega) (fun j hj=>(J2.lt j hj).1);go_wp2
    go_roundg m
    case rel=>
     refine⟨k+1,by have:=HK.out;have:=HM1.out;omega,by go_num,⟨?_,?_,?_⟩,b3⟩
     ·rw[HN.out,HX.out,HM1.out];exact I3
     ·rw[HN.out,HX.out,pileInts_cons,hlen];exact J3
     ·rcases hgg with e|e
      ·intro e2;simp[Value.ownBlock]at e2;subst e2;exact hne (by simpa[Value.ownBlock]using e)
      ·intro e2;simp[Value.ownBlock]at e2;omega
    case measure=>have:=HK.out;have:=HM1.out;omega
   ·have hbg:begins c0=false:=by simpa using hbg
    by_cases h23:c0=23
    ·subst h23
     cases pile with
     |nil=>
      have hx:mStep l.length (outs,[]) 23=(outs++[-1],[]):=by simp[mStep,begins]
      have HX:=Lib.hid hx;clear hx;obtain⟨pA,pcap,rfl,_,_,_⟩:=J1.val;have hp0:(pileInts ([]:List Nat)).length=0:=rfl;rw[hp0]at J1 hne⊢;clear hp0
      go_wp2_with(go_at_call 134;refine(rBegins_any _ _).mono ?_;rintro r w' ⟨rfl,rfl⟩)
      go_roundg m
      case rel=>
       refine⟨k+1,by have:=HK.out;have:=HM1.out;omega,by go_num,⟨?_,?_,?_⟩,b1⟩
       ·rw[HN.out,HX.out,HM1.out];exact I1
       ·rw[HN.out,HX.out];exact J1
       ·exact hne
      case measure=>have:=HK.out;have:=HM1.out;omega
     |cons p rest=>
      have hx:mStep l.length (outs,p::rest) 23=(outs.set p (k:Int)++[(p:Int)],rest):=by simp[mStep,begins,hlen]
      have HX:=Lib.hid hx;clear hx;have hpk:p<k:=hplt p (by simp);obtain⟨pg,pcap,rfl⟩:=J1.form (by simp[pileInts])
      have hplen:(pileInts (p::rest)).length=rest.length+1:=by simp[pileInts]
      rw[hplen]at J1 hne⊢;obtain⟨-,jl,jm,_,js,jf,jc⟩:=J1.at_;have jc:=jc rest.length (by simp[pileInts])
      have hpv:(pileInts (p::rest)).getD rest.length 0=(p:Int):=by rw[pileInts_cons];simp[pileInts,List.getD]
      rw[hpv]at jc;rw[hplen]at jl;have I2:=I1.set k (p:Int);rw[fill_new hlen]at I2;have F2:=(Frm.refl (fun j=>j=w.heap.size) (wr.setCell ⟨w.heap.size,k,none⟩ (.int .i64 (-1)))).set (j:=k) rfl (.int .i64 (p:Int));have J2:=J1.frm F2 (fun j hj e=>hne (by rw[hj,e]));have b2:=b1.trans (F2.below b1.size (fun j hj e=>by omega));obtain⟨-,_,_,_,_,_,kc⟩:=I2.at_;have kcp:=kc p (by simp[hlen];omega);have I3:=I2.set p (k:Int);rw[fill_old hlen hpk]at I3;have F3:=(Frm.refl (fun j=>j=w.heap.size) ((wr.setCell ⟨w.heap.size,k,none⟩ (.int .i64 (-1))).setCell ⟨w.heap.size,k,none⟩ (.int .i64 (p:Int)))).set (j:=p) rfl (.int .i64 (k:Int));have J3:=J2.frm F3 (fun j hj e=>hne (by rw[hj,e]));have b3:=b2.trans (F3.below b2.size (fun j hj e=>by omega));have J4:=J3.cut rest.length (by simp[pileInts])
      have htk:(pileInts (p::rest)).take rest.length=pileInts rest:=by rw[pileInts_cons];simp[pileInts]
      rw[htk]at J4;clear kc hplen hpv htk J3 J2 I2 hinv hplt
      have hrl:rest.length≤8388608:=by simp only[List.length_cons]at hpl;omega
      go_wp2_with(go_at_call 134;refine(rBegins_any _ _).mono ?_;rintro r w' ⟨rfl,rfl⟩)
      go_roundg m
      case rel=>
       refine⟨k+1,by have:=HK.out;have:=HM1.out;omega,by go_num,⟨?_,?_,?_⟩,b3⟩
       ·rw[HN.out,HX.out,HM1.out];exact I3
       ·rw[HN.out,HX.out];exact J4
       ·exact hne
      case measure=>have:=HK.out;have:=HM1.out;omega
    ·have hx23:(c0==23)=false:=beq_eq_false_iff_ne.2 h23
     by_cases h11:c0=11
     ·subst h11
      have hx:mStep l.length (outs,pile) 11=(outs++[-1],[]):=by simp[mStep,begins]
      have HX:=Lib.hid hx;clear hx
      have hpl2:(pileInts pile).length≤8388608:=by rw[pileInts_length];omega
      rcases J1.cases' with⟨rfl,_⟩|⟨pg,pcap,rfl⟩
      ·go_wp2_with(go_at_call 134;refine(rBegins_any _ _).mono ?_;rintro r w' ⟨rfl,rfl⟩)
       go_roundg m
       case rel=>
        refine⟨k+1,by have:=HK.out;have:=HM1.out;omega,by go_num,⟨?_,?_,?_⟩,b1⟩
        ·rw[HN.out,HX.out,HM1.out];exact I1
        ·rw[HN.out,HX.out];exact Ints.nil _ _ _ _
        ·exact by simp[Value.ownBlock]
       case measure=>have:=HK.out;have:=HM1.out;omega
      ·obtain⟨-,jl,jm,_⟩:=J1.at_;have J2:=J1.cut 0 (Nat.zero_le _)
       go_wp2_with(go_at_call 134;refine(rBegins_any _ _).mono ?_;rintro r w' ⟨rfl,rfl⟩)
       go_roundg m
       case rel=>
        refine⟨k+1,by have:=HK.out;have:=HM1.out;omega,by go_num,⟨?_,?_,?_⟩,b1⟩
        ·rw[HN.out,HX.out,HM1.out];exact I1
        ·rw[HN.out,HX.out];exact Ints.nil _ _ _ _
        ·exact by simp[Value.ownBlock]
       case measure=>have:=HK.out;have:=HM1.out;omega
     ·obtain⟨pA,pcap,rfl,_,_,_⟩:=J1.val;have hx11:(c0==11)=false:=beq_eq_false_iff_ne.2 h11
      have hx:mStep l.length (outs,pile) c0=(outs++[-1],pile):=by simp[mStep,hbg,h23,h11]
      have HX:=Lib.hid hx;clear hx
      go_wp2_with(go_at_call 134;refine(rBegins_any _ _).mono ?_;rintro r w' ⟨rfl,rfl⟩)
      go_roundg m
      case rel=>
       refine⟨k+1,by have:=HK.out;have:=HM1.out;omega,by go_num,⟨?_,?_,?_⟩,b1⟩
       ·rw[HN.out,HX.out,HM1.out];exact I1
       ·rw[HN.out,HX.out];exact J1
       ·exact hne
      case measure=>have:=HK.out;have:=HM1.out;omega
  ·have hkn:k=l.length:=by omega
   subst hkn;have hI:=hM.out;rw[List.take_length,Nat.sub_self]at hI;simp only[List.replicate_zero,List.append_nil]at hI;clear hM;go_wp2;go_ret;exact⟨w.heap.size,rfl,hI,hb⟩
end
end Go.Proofs.YtllolnkkepacjaaGreat
