/- paras.Match walked. stack.autos walked. The reference's Match walked. The reference's Auto walked. -/
import Derived.Test.YtllolnkkepacjaaGreatKit3
import Derived.Test.YtllolnkkepacjaaGreatS3
import Derived.Test.YtllolnkkepacjaaGreatSp2
import Derived.Test.YtllolnkkepacjaaGreatS12
set_option maxRecDepth 100000
set_option maxHeartbeats 1000000
namespace Go.Proofs.YtllolnkkepacjaaGreat
open Go.RowKit
section
theorem Tryz.ei24:ElemI Tryz.prog 30 22 .u8 1:=ElemI.mk' Tryz.underlying30 (by kernel_rfl)
theorem Tryz.ei26:ElemI Tryz.prog 31 29 .i8 1:=ElemI.mk' Tryz.underlying31 (by kernel_rfl)
theorem Tryz.ei27:ElemI Tryz.prog 64 3 .i64 8:=ElemI.mk' Tryz.underlying64 (by kernel_rfl)
theorem suf_at (i:Nat)(s:List Int)(x:Int):(List.replicate (i+1) 0++s).set i x=List.replicate i 0++(x::s):=by rw[List.replicate_succ',List.append_assoc,List.set_append];simp
theorem suf_get (i j:Nat)(s:List Int):(List.replicate (i+1) 0++s).getD (i+1+j) 0=s.getD j 0:=by
 have: ¬i+1+j<i+1:=by omega
 simp[List.getD,List.getElem?_append,this]
theorem suf_zero (i:Nat)(s:List Int):(List.replicate (i+1) 0++s)=List.replicate i 0++((0:Int)::s):=by rw[List.replicate_succ',List.append_assoc];rfl
theorem autoSuf_next {l m:List Int}{i k:Nat}(h:i+1+k=l.length):autoSuf l m (k+1)=autoOne l.length i (l.getD i 0) (m.getD i 0) (autoSuf l m k)::autoSuf l m k:=by
 have:l.length-(k+1)=i:=by omega
 simp only[autoSuf,this]
theorem autos_any {w:World}{B B2:Nat}{A A2:Option Addr}{c c2:Nat}{l:List Int}(h:RdInts w B .u8 A l)(h2:RdInts w B2 .i64 A2 (matchL l))(hB:B≤w.heap.size)(hB2:B2≤w.heap.size)(hl:l.length≤1048576):
 Calls Tryz.prog 99 #[.slice A l.length c,.slice A2 l.length c2] w fun r w'=> ∃g cap,r= .returned (.slice (some ⟨g,0,none⟩) (l.length+1) cap)∧Ints w' w.heap.size 29 .i8 (.slice (some ⟨g,0,none⟩) (l.length+1) cap) (autosL l (matchL l))∧Below w.heap.size w w':=by
 have hm:=matchL_inv l;generalize (mRun l.length l).2=pile at hm;generalize matchL l=m at hm h2⊢;have hml:=hm.len
 go_enter Tryz.func99,Tryz.ntmps99
 go_wp2_with(at_make;go_must (refine wpList_mkI Tryz.ei26 w.heap.size rfl rfl (l.length+1) rfl rfl (by simp) (by simp) ?_ ?_ (Nat.le_refl _) ?_))
 ·omega
 ·unfold maxLen;omega
 intro w1 ho1 hg1;have hb1:Below w.heap.size w w1:=(Below.refl _ _).grown hg1 (Nat.le_refl _) (by simp);go_wp2
 go_loopg [6] l.length (fun gk iv wr=> ∃j k:Nat,j+k=l.length∧iv= .int .i64 ((j:Int)-1)∧gk=j∧Ints wr w.heap.size 29 .i8 (.slice (some ⟨w.heap.size,0,none⟩) (l.length+1) (l.length+1)) (List.replicate j 0++autoSuf l m k)∧Below w.heap.size w wr)
 case atStart=>
  refine⟨l.length,0,by simp,rfl,rfl,?_,hb1⟩
  have:List.replicate l.length (0:Int)++autoSuf l m 0=List.replicate (l.length+1) 0:=by rw[List.replicate_succ'];rfl
  rw[this];exact ho1
 case round=>
  obtain⟨j,k,hjk,hiv,hgk,I0,hb⟩:=hrel
  cases j with
  |zero=>
   subst hiv
   have hk:k=l.length:=by omega
   subst hk;simp only[List.replicate_zero,List.nil_append]at I0;clear hjk;go_wp2;go_ret;exact⟨w.heap.size,l.length+1,rfl,I0,hb⟩
  |succ i=>
   have e:(((i+1:Nat):Int)-1)=(i:Int):=by omega
   rw[e]at hiv;subst hiv
   have hil:i<l.length:=by omega
   have hr:=h.below hb (.inl hB);have hr2:=h2.below hb (.inl hB2);obtain⟨b,off,rfl,hbB,hbs,hc⟩:=hr.at_ hil;obtain⟨b2,off2,rfl,hbB2,hbs2,hc2⟩:=hr2.at_ (i:=i) (by omega);obtain⟨-,_,_,_,hos,hofr,hoc⟩:=I0.at_
   have hlen:(List.replicate (i+1) (0:Int)++autoSuf l m k).length=l.length+1:=by simp[autoSuf_length];omega
   have hoi:=hoc i (by omega);have hkind:=hm.kind i _ (get_getD hil);have hnx:=autoSuf_next (l:=l) (m:=m) hjk
   have hI: ∀x,Ints (wr.setCell ⟨w.heap.size,i,none⟩ (.int .i8 x)) w.heap.size 29 .i8 (.slice (some ⟨w.heap.size,0,none⟩) (l.length+1) (l.length+1)) (List.replicate i 0++(x::autoSuf l m k)):=fun x=>by
    have:=I0.set i x
    rwa [suf_at]at this
   have hb': ∀x,Below w.heap.size w (wr.setCell ⟨w.heap.size,i,none⟩ (.int .i8 x)):=fun x=>hb.setCell (Nat.le_refl _) _;have hsuc:=hoc (i+1) (by omega);rw[suf_get i 0]at hsuc
   have hfar: ∀y:Nat,i<y→y<l.length→wr.cell? ⟨w.heap.size,y+1,none⟩=some (.int .i8 ((autoSuf l m k).getD (y-i) 0)):=fun y h1 h2=>by
    have h3:=hoc (y+1) (by omega)
    have h4:y+1=i+1+(y-i):=by omega
    rw[h4,suf_get]at h3
    rwa [←h4]at h3
   rw[suf_zero]at I0;generalize hc0:l.getD i 0=c0 at hc hkind hnx;generalize hm0:m.getD i 0=m0 at hc2 hnx;have HM0:=Lib.hid hm0;have HJ:=Lib.hid hjk;have HN:=Lib.hid hnx;have HFAR:=Lib.hid hfar;have HI:=Lib.hid hI;have HB:=Lib.hid hb';have HK:=Lib.hid hkind;have HG:=Lib.hid hgk;clear hm0 hjk hnx hfar hI hb' hkind hgk hlen hoc hc0 e
   by_cases h2':c0=2
   ·subst h2';go_wp2
    go_roundg i
    case rel=>exact⟨i,k+1,by have:=HJ.out;omega,rfl,rfl,by rw[HN.out,show autoOne l.length i 2 m0 (autoSuf l m k)=1 from by simp[autoOne]];exact HI.out _,HB.out _⟩
    case measure=>have:=HG.out;omega
   by_cases h3':c0=3
   ·subst h3';go_wp2
    go_roundg i
    case rel=>exact⟨i,k+1,by have:=HJ.out;omega,rfl,rfl,by rw[HN.out,show autoOne l.length i 3 m0 (autoSuf l m k)=1 from by simp[autoOne]];exact HI.out _,HB.out _⟩
    case measure=>have:=HG.out;omega
   by_cases h1':c0=1
   ·subst h1';go_wp2
    go_roundg i
    case rel=>exact⟨i,k+1,by have:=HJ.out;omega,rfl,rfl,by rw[HN.out,show autoOne l.length i 1 m0 (autoSuf l m k)=0 from by simp[autoOne]];exact I0,hb⟩
    case measure=>have:=HG.out;omega
   by_cases h11':c0=11
   ·subst h11';go_wp2
    go_roundg i
    case rel=>exact⟨i,k+1,by have:=HJ.out;omega,rfl,rfl,by rw[HN.out,show autoOne l.length i 11 m0 (autoSuf l m k)=0 from by simp[autoOne]];exact I0,hb⟩
    case measure=>have:=HG.out;omega
   have hx2:(c0==2)=false:=beq_eq_false_iff_ne.2 h2';have hx3:(c0==3)=false:=beq_eq_false_iff_ne.2 h3';have hx1:(c0==1)=false:=beq_eq_false_iff_ne.2 h1';have hx11:(c0==11)=false:=beq_eq_false_iff_ne.2 h11'
   by_cases h23':c0=23
   ·subst h23'
    by_cases hm0:0≤m0
    ·go_wp2
     go_roundg i
     case rel=>exact⟨i,k+1,by have:=HJ.out;omega,rfl,rfl,by rw[HN.out,show autoOne l.length i 23 m0 (autoSuf l m k)=0 from by simp[autoOne,hm0]];exact I0,hb⟩
     case measure=>have:=HG.out;omega
    ·have hm0':m0<0:=by omega
     go_wp2
     go_roundg i
     case rel=>exact⟨i,k+1,by have:=HJ.out;omega,rfl,rfl,by rw[HN.out,show autoOne l.length i 23 m0 (autoSuf l m k)=(autoSuf l m k).getD 0 0 from by rw[autoOne,if_neg (by omega),if_neg (by omega),if_neg (by omega),if_pos hm0']];exact HI.out _,HB.out _⟩
     case measure=>have:=HG.out;omega
   have hx23:(c0 !=23)=true:=by simp[h23']
   have hy23:(c0==23)=false:=beq_eq_false_iff_ne.2 h23'
   by_cases hm0:0≤m0
   ·by_cases hmn:m0<l.length
    ·obtain⟨y,rfl⟩:=Int.eq_ofNat_of_zero_le hm0
     have hiy:i<y:=by
      rcases HK.out with⟨k1,_⟩|⟨k1,_⟩|⟨y',k1,k2,k3,k4⟩
      ·have:=getD_of k1;rw[HM0.out]at this;omega
      ·have:=getD_of k1;rw[HM0.out]at this;omega
      ·have h9:=getD_of k1;rw[HM0.out]at h9
       have:y=y':=by omega
       subst this
       rcases k4 with⟨k5,_⟩|⟨_,k5,_⟩
       ·exact k5
       ·exact absurd k5 h23'
     have hyl:y<l.length:=by omega
     have hcy:=HFAR.out y hiy hyl;clear hm0 hmn;go_wp2
     go_roundg i
     case rel=>exact⟨i,k+1,by have:=HJ.out;omega,rfl,rfl,by rw[HN.out,show autoOne l.length i c0 (y:Int) (autoSuf l m k)=(autoSuf l m k).getD (y-i) 0 from by rw[autoOne,if_neg (by omega),if_neg (by omega),if_pos ⟨h23',by omega,by omega⟩,Int.toNat_natCast]];exact HI.out _,HB.out _⟩
     case measure=>have:=HG.out;omega
    ·have hmn':(l.length:Int)≤m0:=by omega
     go_wp2
     go_roundg i
     case rel=>exact⟨i,k+1,by have:=HJ.out;omega,rfl,rfl,by rw[HN.out,show autoOne l.length i c0 m0 (autoSuf l m k)=0 from by rw[autoOne,if_neg (by omega),if_neg (by omega),if_neg (by omega),if_neg (by omega)]];exact I0,hb⟩
     case measure=>have:=HG.out;omega
   ·have hm0':m0<0:=by omega
    go_wp2
    go_roundg i
    case rel=>exact⟨i,k+1,by have:=HJ.out;omega,rfl,rfl,by rw[HN.out,show autoOne l.length i c0 m0 (autoSuf l m k)=(autoSuf l m k).getD 0 0 from by rw[autoOne,if_neg (by omega),if_neg (by omega),if_neg (by omega),if_pos hm0']];exact HI.out _,HB.out _⟩
    case measure=>have:=HG.out;omega
end
section
theorem fillm_same {outs:List Int}{m:Nat}:outs++List.replicate (m+1) (-1)=(outs++[-1])++List.replicate m (-1):=by simp[List.replicate_succ]
theorem rMatch_any {w:World}{B:Nat}{A:Option Addr}{c:Nat}{l:List Int}(h:RdInts w B .u8 A l)(hB:B≤w.heap.size)(hl:l.length≤1048576):
 Calls Tryz.prog 126 #[.slice A l.length c] w fun r w'=> ∃v,r= .returned v∧Ints w' w.heap.size 3 .i64 v (matchL l)∧Below w.heap.size w w':=by
 go_enter Tryz.func126,Tryz.ntmps126
 go_wp2
 go_loopg [3,4] l.length (fun gk ov iv wr=> ∃k:Nat,k+gk=l.length∧iv= .int .i64 k∧Ints wr w.heap.size 3 .i64 ov (List.replicate k (-1))∧Below w.heap.size w wr)
 case atStart=>exact⟨0,by simp,rfl,Ints.nil _ _ _ _,Below.refl _ _⟩
 case round=>
  obtain⟨k,hk,rfl,I0,hb⟩:=hrel
  by_cases hlt:k<l.length
  ·have HK:=Lib.hid hk;clear hk;obtain⟨oA,ocap,rfl,_,_,_⟩:=I0.val
   have hlk:(List.replicate k (-1:Int)).length=k:=by simp
   rw[hlk]at I0⊢;clear hlk;have I1:=I0
   go_wp2_with(at_builtin;go_must (refine wpList_appI Tryz.ei27 rfl rfl rfl (I1.alloc _) rfl (Blk.at_ (by simp)) ?_ ?_ ?_ ?_))
   ·simp[maxLen];omega
   ·simp;omega
   ·have:=hb.size;simp;omega
   intro g cap w3 I3 hg3 hgg;have b3:=(hb.alloc hb.size (.cells #[.int .i64 (-1)] 3)).grown hg3 (by have:=hb.size;simp;omega) (fun j hj=>(I1.lt j hj).1);rw[←List.replicate_succ']at I3;go_wp2
   go_roundg (l.length-(k+1))
   case rel=>exact⟨k+1,by omega,by go_num,I3,b3⟩
   case measure=>have:=HK.out;omega
  ·have hkn:k=l.length:=by omega
   subst hkn;clear hk
   by_cases hn:l.length=0
   ·have hl0:l=[]:=List.eq_nil_of_length_eq_zero hn;subst hl0;obtain⟨oA,ocap,rfl,_,_,_⟩:=I0.val;simp only[List.length_nil]at*;go_wp2;refine wp_loop_rounds 1 ?_;rw[rounds_succ];go_wp2;go_ret;exact⟨_,rfl,I0,hb⟩
   ·obtain⟨og,ocap,rfl⟩:=I0.form (by simp;omega)
    have hl0:(List.replicate l.length (-1:Int)).length=l.length:=by simp
    rw[hl0]at I0⊢;clear hl0;obtain⟨-,_,_,hog,_⟩:=I0.at_;go_wp2
    go_loopg [5,6,7] l.length (fun gk pv iv _ wr=> ∃k:Nat,k+gk=l.length∧iv= .int .i64 k∧Ints wr w.heap.size 3 .i64 (.slice (some ⟨og,0,none⟩) l.length ocap) ((mRun l.length (l.take k)).1++List.replicate (l.length-k) (-1))∧
     Ints wr w.heap.size 3 .i64 pv (pileInts (mRun l.length (l.take k)).2)∧pv.ownBlock≠some og∧Below w.heap.size w wr)
    case atStart=>exact⟨0,by simp,rfl,by simpa[mRun]using I0,Ints.nil _ _ _ _,by simp[Value.ownBlock],hb⟩
    case round=>
     clear hb hlt I0;obtain⟨k,hk,rfl,I0,J0,hne,hb⟩:=hrel;have HK:=Lib.hid hk;clear hk
     by_cases hlt:k<l.length
     ·have hr:=(h.below hb (.inl hB));obtain⟨b,off,rfl,hbB,hbs,hc⟩:=hr.at_ hlt;obtain⟨-,_,_,_,hos,hofr,hoc⟩:=I0.at_;have hinv:=mInv_run l.length (l.take k) (by simp;omega);have hlen:=hinv.len
      have hkl:(l.take k).length=k:=by simp;omega
      rw[hkl]at hlen;have hnx:=mRun_next l.length hlt;have hoc0:=hoc k (by simp[hlen];omega);obtain⟨m,hm⟩: ∃m,l.length-k=m+1:=⟨l.length-k-1,by omega⟩
      have hm1:l.length-(k+1)=m:=by omega
      generalize hc0:l.getD k 0=c0 at hc hnx;generalize hst:mRun l.length (l.take k)=st at*;obtain⟨outs,pile⟩:=st;simp only at hlen I0 J0 hinv hoc0;rw[hm]at I0;have I1:=I0;rw[fillm_same]at I1
      have hplt: ∀x∈pile,x<k:=fun x hx=>by have:=(hinv.pile_lt x hx).1;omega
      have hpl:=pile_len hinv.sorted hplt;have HN:=Lib.hid hnx;have HM1:=Lib.hid hm1;clear hnx hm hm1 hc0 hst hoc I0 hkl
      by_cases hbg:begins c0=true
      ·have hx:mStep l.length (outs,pile) c0=(outs++[(l.length:Int)],outs.length::pile):=by simp[mStep,hbg]
       have HX:=Lib.hid hx;clear hx;have hJ0:=J0;obtain⟨pA,pcap,rfl,_,_,_⟩:=J0.val;have hl1:(pileInts pile).length=pile.length:=pileInts_length pile;rw[hl1]at hJ0 hne⊢;clear J0
       have hpl2:pile.length≤1048576:=by omega
       rcases begins_cases hbg with rfl|rfl|rfl
       all_goals
        go_wp2_with(at_builtin;go_must (refine wpList_appI Tryz.ei27 rfl rfl rfl (hJ0.alloc _) rfl (Blk.at_ (by simp)) ?_ ?_ ?_ ?_))
        ·unfold maxLen;omega
        ·omega
        ·have:=hb.size;simp;omega
        intro g cap w3 J3 hg3 hgg;have I2:=(I1.alloc (.cells #[.int .i64 (k:Int)] 3)).kept hg3 (.inr (fun e=>hne (by simpa[Value.ownBlock]using e.symm)));have b3:=(hb.alloc hb.size (.cells #[.int .i64 (k:Int)] 3)).grown hg3 (by have:=hb.size;simp;omega) (fun j hj=>(hJ0.lt j hj).1);have I3:=I2.set k (l.length:Int);rw[fill_new hlen]at I3
        have hgo:g≠og:=by
         rcases hgg with e|e
         ·intro e2;subst e2;exact hne e
         ·omega
        have F3:=(Frm.refl (fun j=>j=og) w3).set (j:=k) rfl (.int .i64 (l.length:Int));have J4:=J3.frm F3 (fun j hj e=>by simp[Value.ownBlock]at hj;omega);have b4:=b3.trans (F3.below b3.size (fun j hj e=>by omega));obtain⟨-,_,_,_,_,ifr,kc⟩:=I2.at_;have kck:=kc k (by simp[hlen]);clear kc I2 J3 hinv;go_wp2
        go_roundg m
        case rel=>
         refine⟨k+1,by have:=HK.out;have:=HM1.out;omega,by go_num,?_,?_,by simp[Value.ownBlock];omega,b4⟩
         ·rw[HN.out,HX.out,HM1.out];exact I3
         ·rw[HN.out,HX.out,pileInts_cons,hlen];exact J4
        case measure=>have:=HK.out;have:=HM1.out;omega
      ·have hbg':begins c0=false:=by simpa using hbg
       by_cases h23:c0=23
       ·subst h23
        cases pile with
        |nil=>
         have hx:mStep l.length (outs,[]) 23=(outs++[-1],[]):=by simp[mStep,begins]
         have HX:=Lib.hid hx;clear hx;have hJ0:=J0;obtain⟨pA,pcap,rfl,_,_,_⟩:=J0.val;have hp0:(pileInts ([]:List Nat)).length=0:=rfl;rw[hp0]at hJ0 hne⊢;clear hp0 J0;go_wp2
         go_roundg m
         case rel=>
          refine⟨k+1,by have:=HK.out;have:=HM1.out;omega,by go_num,?_,?_,hne,hb⟩
          ·rw[HN.out,HX.out,HM1.out];exact I1
          ·rw[HN.out,HX.out];exact hJ0
         case measure=>have:=HK.out;have:=HM1.out;omega
        |cons p rest=>
         have hx:mStep l.length (outs,p::rest) 23=(outs.set p (k:Int)++[(p:Int)],rest):=by simp[mStep,begins,hlen]
         have HX:=Lib.hid hx;clear hx;have hpk:p<k:=hplt p (by simp);obtain⟨pg,pcap,rfl⟩:=J0.form (by simp[pileInts])
         have hplen:(pileInts (p::rest)).length=rest.length+1:=by simp[pileInts]
         rw[hplen]at J0 hne⊢;obtain⟨-,jl,jm,_,js,jf,jc⟩:=J0.at_;have jc:=jc rest.length (by simp[pileInts])
         have hpv:(pileInts (p::rest)).getD rest.length 0=(p:Int):=by rw[pileInts_cons];simp[pileInts,List.getD]
         rw[hpv]at jc;rw[hplen]at jl;obtain⟨-,_,_,_,_,_,kc⟩:=I1.at_;have kcp:=kc p (by simp[hlen];omega);have I2:=I1.set p (k:Int);rw[fill_old hlen hpk]at I2
         have hlen':(outs.set p (k:Int)).length=k:=by simp[hlen]
         have I3:=I2.set k (p:Int);rw[fill_new hlen']at I3;obtain⟨-,_,_,_,_,_,kc2⟩:=I2.at_;have kck:=kc2 k (by simp[hlen]);have F2:=((Frm.refl (fun j=>j=og) wr).set (j:=p) rfl (.int .i64 (k:Int))).set (j:=k) rfl (.int .i64 (p:Int));have J3:=J0.frm F2 (fun j hj e=>hne (by rw[hj,e]));have b3:=hb.trans (F2.below hb.size (fun j hj e=>by omega));have J4:=J3.cut rest.length (by simp[pileInts])
         have htk:(pileInts (p::rest)).take rest.length=pileInts rest:=by rw[pileInts_cons];simp[pileInts]
         rw[htk]at J4;clear kc kc2 hplen hpv htk J3 I2 hinv hplt
         have hrl:rest.length≤1048576:=by simp only[List.length_cons]at hpl;omega
         go_wp2
         go_roundg m
         case rel=>
          refine⟨k+1,by have:=HK.out;have:=HM1.out;omega,by go_num,?_,?_,hne,b3⟩
          ·rw[HN.out,HX.out,HM1.out];exact I3
          ·rw[HN.out,HX.out];exact J4
         case measure=>have:=HK.out;have:=HM1.out;omega
       ·have hx23:(c0==23)=false:=beq_eq_false_iff_ne.2 h23
        have hbb:c0≠20∧c0≠21∧c0≠22:=by refine⟨?_,?_,?_⟩<;>(rintro rfl;simp[begins]at hbg')
        have hx20:(c0==20)=false:=beq_eq_false_iff_ne.2 hbb.1;have hx21:(c0==21)=false:=beq_eq_false_iff_ne.2 hbb.2.1;have hx22:(c0==22)=false:=beq_eq_false_iff_ne.2 hbb.2.2;clear hbb
        by_cases h11:c0=11
        ·subst h11
         have hx:mStep l.length (outs,pile) 11=(outs++[-1],[]):=by simp[mStep,begins]
         have HX:=Lib.hid hx;clear hx;go_wp2
         go_roundg m
         case rel=>
          refine⟨k+1,by have:=HK.out;have:=HM1.out;omega,by go_num,?_,?_,by simp[Value.ownBlock],hb⟩
          ·rw[HN.out,HX.out,HM1.out];exact I1
          ·rw[HN.out,HX.out];exact Ints.nil _ _ _ _
         case measure=>have:=HK.out;have:=HM1.out;omega
        ·have hx11:(c0==11)=false:=beq_eq_false_iff_ne.2 h11
         have hx:mStep l.length (outs,pile) c0=(outs++[-1],pile):=by simp[mStep,hbg',h23,h11]
         have HX:=Lib.hid hx;clear hx;go_wp2
         go_roundg m
         case rel=>
          refine⟨k+1,by have:=HK.out;have:=HM1.out;omega,by go_num,?_,?_,hne,hb⟩
          ·rw[HN.out,HX.out,HM1.out];exact I1
          ·rw[HN.out,HX.out];exact J0
         case measure=>have:=HK.out;have:=HM1.out;omega
     ·have hkn:k=l.length:=by have:=HK.out;omega
      subst hkn;rw[List.take_length,Nat.sub_self]at I0;simp only[List.replicate_zero,List.append_nil]at I0;go_wp2;go_ret;exact⟨_,rfl,I0,hb⟩
end
section
theorem scan_out {l m:List Int}{e:Int}{f i:Nat}(hf:l.length-i≤f)(h:i<l.length)(he:(i:Int)<e): ∃f',f=f'+1∧scan l m e f i=
 (if l.getD i 0=11 then 0 else if l.getD i 0=1 then 0 else if l.getD i 0=2∨l.getD i 0=3 then 1 else if begins (l.getD i 0)=true then scan l m e f' ((m.getD i 0).toNat+1)else scan l m e f' (i+1)):=by
 obtain⟨f',rfl⟩: ∃f',f=f'+1:=⟨f-1,by omega⟩;refine⟨f',rfl,?_⟩;rw[scan]
 by_cases h11:l.getD i 0=11
 ·rw[if_neg (fun hh=>hh.2.2 h11),if_pos h11]
 ·rw[if_pos ⟨h,he,h11⟩,if_neg h11]
theorem rAuto_any {w:World}{B B2:Nat}{A A2:Option Addr}{c c2 n n2:Nat}{l:List Int}(at_:Nat)(hat:at_<l.length)(hn:n=l.length)(hn2:n2=l.length)(h:RdInts w B .u8 A l)(h2:RdInts w B2 .i64 A2 (matchL l))(hl:l.length≤1048576):
 Calls Tryz.prog 127 #[.slice A n c,.slice A2 n2 c2,.int .i64 at_] w fun r w'=>r= .returned (.int .i8 (autoRef l (matchL l) at_))∧w=w':=by
 subst hn hn2;have hm:=matchL_inv l;unfold autoRef;generalize (mRun l.length l).2=pile at hm;generalize matchL l=m at hm h2⊢;have hml:=hm.len;obtain⟨b,off,rfl,hbB,hbs,hc⟩:=h.cells (by omega);obtain⟨b2,off2,rfl,hbB2,hbs2,hc2⟩:=h2.cells (by omega);have hce:=hc2 at_ (by omega)
 have hele:m.getD at_ 0≤l.length:=by rcases hm.kind at_ _ (get_getD hat)with⟨h1,_⟩|⟨h1,_⟩|⟨y,h1,h2,h3,h4⟩<;>rw[getD_of h1]<;>omega
 generalize m.getD at_ 0=e at hce hele⊢;generalize hR:scan l m e l.length (at_+1)=R;have HR:=Lib.hid hR;clear hR;have HC:=Lib.hid hc;have HC2:=Lib.hid hc2;have HML:=Lib.hid hml;clear hc hc2 hml
 go_enter Tryz.func127,Tryz.ntmps127
 go_wp2
 go_loopg [7] l.length (fun gk iv wr=> ∃i:Nat,iv= .int .i64 i∧i≤l.length+1∧l.length-i≤gk∧scan l m e gk i=R∧w=wr)
 case atStart=>exact⟨at_+1,by go_num,by omega,by omega,HR.out,rfl⟩
 case round=>
  obtain⟨i,rfl,hi,hf,hs,rfl⟩:=hrel;have HS:=Lib.hid hs;clear hs
  by_cases hil:i<l.length
  ·have hci:=HC.out i hil;have hmi:=HC2.out i (by have:=HML.out;omega)
   by_cases hie:(i:Int)<e
   ·obtain⟨f',hf',hsc⟩:=scan_out (m:=m) hf hil hie;rw[HS.out]at hsc;have HF:=Lib.hid hf';clear hf';have hkind:=Lib.hid (hm.kind i _ (get_getD hil));generalize hc0:l.getD i 0=c0 at hci hsc hkind;generalize hm0:m.getD i 0=m0 at hmi hsc;have HM0:=Lib.hid hm0;clear hc0 hm0
    by_cases h11:c0=11
    ·subst h11;rw[if_pos rfl]at hsc;have HSC:=Lib.hid hsc;clear hsc;go_wp2
     all_goals (go_ret;exact⟨by rw[HSC.out];rfl,rfl⟩)
    rw[if_neg h11]at hsc
    have x11:(c0 !=11)=true:=by simp[h11]
    by_cases h1:c0=1
    ·subst h1;rw[if_pos rfl]at hsc;have HSC:=Lib.hid hsc;clear hsc;go_wp2;go_ret;exact⟨by rw[HSC.out];rfl,rfl⟩
    rw[if_neg h1]at hsc;have x1:(c0==1)=false:=beq_eq_false_iff_ne.2 h1
    by_cases h2':c0=2
    ·subst h2';rw[if_pos (.inl rfl)]at hsc;have HSC:=Lib.hid hsc;clear hsc;go_wp2;go_ret;exact⟨by rw[HSC.out];rfl,rfl⟩
    by_cases h3':c0=3
    ·subst h3';rw[if_pos (.inr rfl)]at hsc;have HSC:=Lib.hid hsc;clear hsc;go_wp2;go_ret;exact⟨by rw[HSC.out];rfl,rfl⟩
    rw[if_neg (by omega)]at hsc;have x2:(c0==2)=false:=beq_eq_false_iff_ne.2 h2';have x3:(c0==3)=false:=beq_eq_false_iff_ne.2 h3'
    by_cases hbg:begins c0=true
    ·rw[if_pos hbg]at hsc
     have hmm: ∃y:Nat,m0=(y:Int)∧i<y∧y≤l.length:=by
      rcases hkind.out with⟨_,k1⟩|⟨k1,_⟩|⟨y,k1,k2,k3,k4⟩
      ·rw[k1]at hbg;cases hbg
      ·have:=getD_of k1;rw[HM0.out]at this;exact⟨l.length,this,hil,Nat.le_refl _⟩
      ·have:=getD_of k1;rw[HM0.out]at this
       rcases k4 with⟨k5,_⟩|⟨_,k5,_⟩
       ·exact⟨y,this,k5,by omega⟩
       ·rw[k5]at hbg;simp[begins]at hbg
     obtain⟨y,rfl,hiy,hyl⟩:=hmm;rw[Int.toNat_natCast]at hsc;have HSC:=Lib.hid hsc;clear hsc
     rcases begins_cases hbg with rfl|rfl|rfl
     all_goals
      go_wp2
      go_roundg f'
      case rel=>exact⟨y+1,by go_num,by omega,by have:=HF.out;omega,HSC.out.symm,rfl⟩
      case measure=>have:=HF.out;omega
    ·rw[if_neg hbg]at hsc
     have hbg':begins c0=false:=by simpa using hbg
     have hbb:c0≠20∧c0≠21∧c0≠22:=by refine⟨?_,?_,?_⟩<;>(rintro rfl;simp[begins]at hbg')
     have hx20:(c0==20)=false:=beq_eq_false_iff_ne.2 hbb.1;have hx21:(c0==21)=false:=beq_eq_false_iff_ne.2 hbb.2.1;have hx22:(c0==22)=false:=beq_eq_false_iff_ne.2 hbb.2.2;clear hbb;have HSC:=Lib.hid hsc;clear hsc;go_wp2
     go_roundg f'
     case rel=>exact⟨i+1,by go_num,by omega,by have:=HF.out;omega,HSC.out.symm,rfl⟩
     case measure=>have:=HF.out;omega
   ·have h0:R=0:=by rw[←HS.out];exact scan_end l m e _ _ (by omega)
    have H0:=Lib.hid h0;clear h0;go_wp2;go_ret;exact⟨by rw[H0.out];rfl,rfl⟩
  ·have h0:R=0:=by rw[←HS.out];exact scan_end l m e _ _ (by omega)
   have H0:=Lib.hid h0;clear h0;go_wp2;go_ret;exact⟨by rw[H0.out];rfl,rfl⟩
end
end Go.Proofs.YtllolnkkepacjaaGreat
