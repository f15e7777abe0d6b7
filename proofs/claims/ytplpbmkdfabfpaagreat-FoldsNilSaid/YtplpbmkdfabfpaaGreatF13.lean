/- Lines cut, by the program. -/
import Derived.Test.YtplpbmkdfabfpaaGreatF12
set_option maxRecDepth 100000
set_option maxHeartbeats 4000000
namespace Go.Proofs.YtplpbmkdfabfpaaGreat
open Go.RowKit
def natI (l:List Nat):List Int:=l.map (fun(j:Nat)=>(j:Int))
theorem ownF_apart {a b:Value}(h: ∀j,a.ownBlock=some j→b.ownBlock≠some j):a.ownBlock=none∨a.ownBlock≠b.ownBlock:=by
 cases ha:a.ownBlock with
 |none=>exact .inl rfl
 |some j=>exact .inr (fun e=>h j ha e.symm)
theorem lines_ok {w:World}{p:Nat}{l ws:List Int}{most:Int}(hp:Paper w p l ws most)(hl:l.length≤1048576)(hf:Fine ws)(hm0:0≤most):
 Calls Tryz.prog 23 #[.pointer (some ⟨p,0,none⟩)] w fun r w'=> ∃av wv wl,r= .returned (.tuple #[av,wv])∧Ints w' w.heap.size 3 .i64 av (natI (cutX l ws most))∧Ints w' w.heap.size 3 .i64 wv wl∧Below w.heap.size w w':=by
 obtain⟨A,c,cA,cc,wA,wc,h1,-⟩:=hp.ex;have HF:=Lib.hid hf;have hcl:=clusL_length l;have hpl:=h1.lt;clear hf
 have hm:(clusL l).length≤1048576:=by omega
 go_enter Tryz.func23,Tryz.ntmps23
 go_wp2;have b0:=(Below.refl _ w).alloc (Nat.le_refl _) (.cells #[.pointer (some ⟨p,0,none⟩)] 71);have Q0:=Blk.new w 71 #[.pointer (some ⟨p,0,none⟩)];have bq0:Below (w.heap.size+1) (w.alloc (.cells #[.pointer (some ⟨p,0,none⟩)] 71)) (w.alloc (.cells #[.pointer (some ⟨p,0,none⟩)] 71)):=Below.refl _ _
 have hs0:(w.alloc (.cells #[.pointer (some ⟨p,0,none⟩)] 71)).heap.size=w.heap.size+1:=by simp
 generalize w.alloc (.cells #[.pointer (some ⟨p,0,none⟩)] 71)=W at*;have HS0:=Lib.hid hs0;clear hs0
 go_loopg [5,6,7] (clusL l).length (fun gk av wv kv wr=> ∃(k:Nat) (d:List Nat) (wl:List Int),k+gk=(clusL l).length∧kv= .int .i64 k∧Ints wr (w.heap.size+1) 3 .i64 av (natI d)∧Ints wr (w.heap.size+1) 3 .i64 wv wl∧wl.length=d.length∧(∀j,av.ownBlock=some j→wv.ownBlock≠some j)∧
  d++cutF l ws most (clusL l).length k=cutX l ws most∧Below w.heap.size w wr∧Below (w.heap.size+1) W wr)
 case atStart=>exact⟨0,[],[],by omega,rfl,Ints.nil _ _ _ _,Ints.nil _ _ _ _,rfl,by simp[Value.ownBlock],rfl,b0,bq0⟩
 case round=>
  clear b0 bq0;obtain⟨k,d,wl,hk,rfl,I,J,hwl,hne,hcut,bb,bq⟩:=hrel;have HK:=Lib.hid hk;have HWL:=Lib.hid hwl;have HCUT:=Lib.hid hcut;have HNE:=Lib.hid hne;clear hk hwl hcut hne;have k1:=h1.below bb hpl;have kq:=Q0.below bq (by omega);obtain⟨x0,x1,x2,x3,xf,xl⟩:=k1.c4;obtain⟨q0,qf,ql⟩:=kq.c1;have hpp:=hp.below bb
  by_cases hlt:k<(clusL l).length
  ·have hfo:=fold_ok hpp kq hlt hl HF.out hm0;have hgt:=nextC_gt (l:=l) (ws:=ws) (most:=most) hlt
   have hst:d++k::cutF l ws most (clusL l).length (nextC l ws most k)=cutX l ws most:=by rw[←cutF_step hlt (by omega)];exact HCUT.out
   have hdl:d.length+1≤(clusL l).length:=by have h:=congrArg List.length hst;have h2:=cutF_length (l:=l) (ws:=ws) (most:=most) (clusL l).length 0;simp only[List.length_append,List.length_cons]at h;unfold cutX at h;omega
   have HST:=Lib.hid hst
   have hdI:(natI d).length=d.length:=by simp[natI]
   have HDI:=Lib.hid hdI;have hbs:=bq.size;clear hst hdI;generalize nextC l ws most k=nx at*
   go_upto_region 6 with(go_at_call 47;refine hfo.mono ?_;rintro r3 w3 ⟨⟨v3,rfl⟩,b3⟩)
   have I3:=I.below b3 (Nat.le_refl _);have J3:=J.below b3 (Nat.le_refl _);have hIl:=I.lt;have hJl:=J.lt;have hs3:=b3.size;have bb3:=bb.trans (b3.mono bb.size);have bq3:=bq.trans (b3.mono (by have:=HS0.out;omega));clear x0 x1 x2 x3 xf xl q0 qf ql k1 kq hpp I J bb bq;have hW0:=HS0.out
   have hw3:w.heap.size+1≤w3.heap.size:=by omega
   clear hW0
   go_wp2_with(at_builtin;go_must (refine wpList_appI ei24 rfl rfl rfl (I3.alloc _) rfl (Blk.at_ (by simp)) ?_ ?_ ?_ ?_))
   ·have:=HDI.out;unfold maxLen;omega
   ·have:=HDI.out;omega
   ·first|omega|(simp;omega)
   intro g cap w4 I4 hg4 hgg;have J4:=(J3.alloc (.cells #[.int .i64 k] 3)).kept hg4 (ownF_apart (fun j hj e=>HNE.out j e hj))
   have hJg: ∀j,(Value.slice (some ⟨g,0,none⟩) ((natI d).length+1) cap).ownBlock=some j→u6.ownBlock≠some j:=by
    intro j hj e
    have hgj:g=j:=by simpa[Value.ownBlock]using hj
    subst hgj
    rcases hgg with h|h
    ·exact HNE.out g h e
    ·have:=(hJl g e).2
     have h2:w3.heap.size+1=(w3.alloc (.cells #[.int .i64 k] 3)).heap.size:=by simp
     omega
   have bb4:=(bb3.alloc bb3.size (.cells #[.int .i64 k] 3)).grown hg4 (by have:=bb3.size;simp;omega) (fun j hj=>by have:=(I3.lt j hj).1;omega);have bq4:=(bq3.alloc (by omega) (.cells #[.int .i64 k] 3)).grown hg4 (by simp;omega) (fun j hj=>(I3.lt j hj).1);have hw4:=hg4.size;simp only[World.size_alloc]at hw4;clear I3 J3 hgg hIl hJl
   go_wp2_with(at_builtin;go_must (refine wpList_appI ei24 rfl rfl rfl (J4.alloc _) rfl (Blk.at_ (by simp)) ?_ ?_ ?_ ?_))
   ·have:=HWL.out;unfold maxLen;omega
   ·have:=HWL.out;omega
   ·first|omega|(simp;omega)
   intro g2 cap2 w5 J5 hg5 hgg;have I5:=(I4.alloc (.cells #[.int .i64 v3] 3)).kept hg5 (ownF_apart hJg);have hI4:=I4.lt g rfl
   have hN2: ∀j,(Value.slice (some ⟨g,0,none⟩) ((natI d).length+1) cap).ownBlock=some j→(Value.slice (some ⟨g2,0,none⟩) (wl.length+1) cap2).ownBlock≠some j:=by
    intro j hj e
    have hgj:g=j:=by simpa[Value.ownBlock]using hj
    have hg2j:g2=j:=by simpa[Value.ownBlock]using e
    subst hgj;subst hg2j
    rcases hgg with h|h
    ·exact hJg g2 rfl h
    ·have h2:w4.heap.size+1=(w4.alloc (.cells #[.int .i64 v3] 3)).heap.size:=by simp
     omega
   have bb5:=(bb4.alloc bb4.size (.cells #[.int .i64 v3] 3)).grown hg5 (by have:=bb4.size;simp;omega) (fun j hj=>by have:=(J4.lt j hj).1;omega);have bq5:=(bq4.alloc (by omega) (.cells #[.int .i64 v3] 3)).grown hg5 (by simp;omega) (fun j hj=>(J4.lt j hj).1);go_wp2
   go_roundg ((clusL l).length-nx)
   case rel=>
    refine⟨nx,d++[k],wl++[v3],by omega,rfl,?_,J5,by simp[HWL.out],hN2,?_,bb5,bq5⟩
    ·have e:natI (d++[k])=natI d++[(k:Int)]:=by simp[natI]
     rw[e];exact I5
    ·rw[List.append_assoc];exact HST.out
   case measure=>have:=HK.out;omega
  ·have hkm:(clusL l).length≤k:=by omega
   have hc:=HCUT.out;rw[cutF_end hkm,List.append_nil]at hc;subst hc
   have hkI: ¬((k:Int)<((clusL l).length:Int)):=by omega
   go_wp2
   go_ret2
   exact⟨_,_,rfl,I.base (fun j hj=>by have:=(I.lt j hj).1;omega),⟨wl,J.base (fun j hj=>by have:=(J.lt j hj).1;omega)⟩,bb⟩
theorem cutF_mem {l ws:List Int}{most:Int}: ∀f k x,x∈cutF l ws most f k→x<(clusL l).length
 |0,_,x,h=>by simp[cutF]at h
 |f+1,k,x,h=>by
  rw[cutF]at h
  split at h
  ·rcases List.mem_cons.1 h with rfl|h
   ·assumption
   ·exact cutF_mem f _ x h
  ·simp at h
theorem natI_get {d:List Nat}{j:Nat}(h:j<d.length):(natI d).getD j 0=(d[j]:Nat):=by simp only[natI,List.getD_eq_getElem?_getD,List.getElem?_map,List.getElem?_eq_getElem h];rfl
theorem natI_take {d:List Nat}{f:Nat→Nat}{j:Nat}(h:j<d.length):natI ((d.take (j+1)).map f)=natI ((d.take j).map f)++[((f d[j]:Nat):Int)]:=by rw[List.take_add_one,List.getElem?_eq_getElem h,List.map_append];simp[natI]
theorem Cut_ok {w:World}{B B2:Nat}{A A2:Option Addr}{n c c2:Nat}{l ws:List Int}{most:Int}(hn:n=l.length)(hw:n=ws.length)(h:RdInts w B .u8 A l)(h2:RdInts w B2 .i64 A2 ws)(hc2:n≤c2)(hl:n≤1048576)(hf:Fine ws)(hm0:0≤most)(hm1:most≤1099511627776):
 Calls Tryz.prog 19 #[.slice A n c,.slice A2 n c2,.int .i64 most] w fun r w'=> ∃v,r= .returned (.tuple #[v,.int .i64 0])∧Ints w' w.heap.size 3 .i64 v (natI ((cutX l ws most).map (posC l)))∧Below w.heap.size w w':=by
 have hop:=open_ok (c:=c) hn hw h h2 hc2 hl hf hm0 hm1;have HN:=Lib.hid hn
 have hl':l.length≤1048576:=by omega
 clear hn hw
 go_enter Tryz.func19,Tryz.ntmps19
 go_wp2_with(first
  |(go_at_call 22;refine hop.mono ?_;rintro r1 w1 ⟨p,rfl,hp,hpw,b1⟩)
  |(go_at_call 23;refine(lines_ok hp hl' hf hm0).mono ?_;rintro r2 w2 ⟨av,wv,wl,rfl,I,J,b2⟩;obtain⟨aA,acap,rfl,-,-,-⟩:=I.val))
 obtain⟨A',c',cA,cc,wA,wc,p1,p2,p3,p4⟩:=hp.ex;have rd:=I.rd
 have hlen:(natI (cutX l ws most)).length=(cutX l ws most).length:=by simp[natI]
 have hcl:=clusL_length l;have hcm:(cutX l ws most).length≤(clusL l).length:=cutF_length _ _;have hmem: ∀j (hj:j<(cutX l ws most).length),(cutX l ws most)[j]<(clusL l).length:=fun j hj=>cutF_mem _ _ _ (List.getElem_mem hj);have HMEM:=Lib.hid hmem;rw[hlen];have HLEN:=Lib.hid hlen;clear hlen hmem I J;have hs2:=b2.size;have bw2:=b1.trans (b2.mono b1.size);have hp2:=p1.below b2 p1.lt;have hc3:=p3.below b2 (.inr (Nat.le_refl _));clear p1 p2 p3 p4;generalize hks:cutX l ws most=ks at*;have HKS:=Lib.hid hks;clear hks
 go_loopg [10,32] ks.length (fun gk ov iv wr=> ∃j:Nat,j+gk=ks.length∧iv= .int .i64 j∧Ints wr w2.heap.size 3 .i64 ov (natI ((ks.take j).map (posC l)))∧Below w2.heap.size w2 wr)
 case atStart=>exact⟨0,by omega,rfl,Ints.nil _ _ _ _,Below.refl _ _⟩
 case round=>
  obtain⟨j,hj,rfl,I,b⟩:=hrel;have HJ:=Lib.hid hj;clear hj;have hbs:=b.size
  by_cases hlt:j<ks.length
  ·obtain⟨ka,ko,rfl,_,_,hk⟩:=(rd.below b (.inr (Nat.le_refl _))).at_ (i:=j) (by rw[HLEN.out];exact hlt);rw[natI_get hlt]at hk;have hN:=natI_take (f:=posC l) hlt;have hkm:=HMEM.out j hlt
   have hlen:(natI ((ks.take j).map (posC l))).length≤j:=by simp[natI];omega
   generalize ks[j]=k at hk hN hkm;obtain⟨ca,co,rfl,_,_,hcc⟩:=(hc3.below b (.inr (Nat.le_refl _))).at_ (i:=k) hkm;rw[(posC_lt hkm).1]at hcc;generalize posC l k=pk at hcc hN;generalize hG:natI ((ks.take j).map (posC l))=cs at I hN hlen;have HN:=Lib.hid hN;have HL:=Lib.hid hlen;clear hN hlen hG;obtain⟨x0,x1,x2,x3,xf,xl⟩:=(hp2.below b hp2.lt).c4
   go_wp2_with(at_builtin;go_must (refine wpList_appI ei24 rfl rfl rfl (I.alloc _) rfl (Blk.at_ (by simp)) ?_ ?_ ?_ ?_))
   ·have:=HL.out;unfold maxLen;omega
   ·have:=HL.out;omega
   ·first|omega|(simp;omega)
   intro g cap w3 I3 g3 hg;go_wp2
   go_roundg (ks.length-(j+1))
   case rel=>exact⟨j+1,by have:=HJ.out;omega,by go_num,by rw[HN.out];exact I3,(b.alloc hbs _).grown g3 (by simp;omega) (fun k hk=>(I.lt k hk).1)⟩
   case measure=>have:=HJ.out;omega
  ·have hjl:j=ks.length:=by have:=HJ.out;omega
   subst hjl;rw[List.take_length]at I;go_wp2
   go_ret2
   have hsw:=bw2.size;exact⟨_,rfl,by rw[HKS.out];exact I.base (fun j hj=>by have:=(I.lt j hj).1;omega),bw2.trans (b.mono (by omega))⟩
theorem Cut_len {w:World}{A A2:Option Addr}{n n2 c c2:Nat}{most:Int}(hn:n≠n2):
 Calls Tryz.prog 19 #[.slice A n c,.slice A2 n2 c2,.int .i64 most] w fun r w'=>r= .returned (.tuple #[.slice none 0 0,.int .i64 2])∧w=w':=by
 go_enter Tryz.func19,Tryz.ntmps19
 go_wp2_with(go_at_call 22;refine(open_len hn).mono ?_;rintro r1 w1 ⟨rfl,rfl⟩)
 go_ret2
 exact⟨rfl,rfl⟩
theorem Cut_wide {w:World}{B2:Nat}{A A2:Option Addr}{n c c2:Nat}{ws:List Int}{most:Int}(hw:n=ws.length)(h2:RdInts w B2 .i64 A2 ws)(hl:n≤1048576)(hb:most<0∨1099511627776<most∨ ¬Fine ws):
 Calls Tryz.prog 19 #[.slice A n c,.slice A2 n c2,.int .i64 most] w fun r w'=>r= .returned (.tuple #[.slice none 0 0,.int .i64 230])∧w=w':=by
 have ho:=open_wide (w:=w) (A:=A) (c:=c) (c2:=c2) hw h2 hl hb;clear hb hw
 go_enter Tryz.func19,Tryz.ntmps19
 go_wp2_with(go_at_call 22;refine ho.mono ?_;rintro r1 w1 ⟨rfl,rfl⟩)
 go_ret2
 exact⟨rfl,rfl⟩
end Go.Proofs.YtplpbmkdfabfpaaGreat
