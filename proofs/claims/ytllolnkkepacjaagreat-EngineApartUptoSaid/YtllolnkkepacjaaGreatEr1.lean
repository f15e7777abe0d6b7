/- The reference's resolve walked: with runes and without. -/
import Derived.Test.YtllolnkkepacjaaGreatEv1
import Derived.Test.YtllolnkkepacjaaGreatRe1
import Derived.Test.YtllolnkkepacjaaGreatRs5
import Derived.Test.YtllolnkkepacjaaGreatSp5
import Derived.Test.YtllolnkkepacjaaGreatWk11
set_option maxRecDepth 100000
set_option maxHeartbeats 8000000
namespace Go.Proofs.YtllolnkkepacjaaGreat
open Go.RowKit
attribute [local go_sem] Oper.semAt_some
structure RenvC (w:World) (B5 b14 n c lc oc:Nat) (A lA oA:Option Addr) (base:Int) (L:List (Sq×Value×Value)) (W:World):Prop where
 sq:SqsAt W B5 (.slice oA L.length oc) L
 out:Blk W b14 33 #[.int .i8 base,.slice A n c,.slice lA n lc]
 aw:Aft w W
 res:Blk W (w.heap.size+1) 33 #[.int .i8 0,.slice none 0 0,.slice none 0 0]
section
variable{w W W':World} {B5 b14 n c lc oc:Nat} {A lA oA:Option Addr} {base:Int} {L:List (Sq×Value×Value)}
theorem RenvC.aft (h:RenvC w B5 b14 n c lc oc A lA oA base L W)(a:Aft W W'):RenvC w B5 b14 n c lc oc A lA oA base L W':=⟨h.sq.below a (Nat.le_refl _),h.out.aft a,h.aw.trans a,h.res.aft a⟩
theorem RenvC.put {lg:Nat}(h:RenvC w B5 b14 n c lc oc A lA oA base L W)(F:Frm (fun j=>j=lg) W W')(h5:lg<B5)(ho:b14<lg)(hw:w.heap.size+1<lg):RenvC w B5 b14 n c lc oc A lA oA base L W':=⟨h.sq.frm1 F h5,h.out.frm F (by omega),Below.trans h.aw (F.below h.aw.size (fun j hj e=>by omega)),h.res.frm F (by omega)⟩
end
theorem resolveC_ok {w:World}{B n c rc:Nat}{A pA:Option Addr}{pn pc:Nat}{rest:Int}{cl:List Int}{rA:Option Addr}(hn:n=cl.length)(h:RdInts w B .u8 A cl)(hl:n≤1048576){b:Int}(hb:b= -1∨b=0∨b=1):
 Calls Tryz.prog 54 #[.agg #[.int .u8 rest,.slice pA pn pc],.slice rA 0 rc,.slice A n c,.int .i8 b] w fun r w'=> ∃lA lc,r= .returned (.tuple #[.agg #[.int .i8 (lvlB cl b),.slice A n c,.slice lA n lc],.int .i64 0])∧
  Ints w' w.heap.size 29 .i8 (.slice lA n lc) (levE stpC (lvlB cl b) cl (List.replicate cl.length (-1)))∧Aft w w':=by
 have h0:=h.small;have CL: ∀W,Aft w W→Calls Tryz.prog 83 #[.slice A n c,.int .i8 b] W fun r w'=>r= .returned (.tuple #[.int .i8 (lvlB cl b),.int .i64 0])∧Below W.heap.size W w':=fun W hW=>rPLevel_ok hn (h0.aft hW) (by omega) hb;have hbase2:=lvlB_two cl b;obtain⟨base,hbase⟩: ∃base,lvlB cl b=base:=⟨_,rfl⟩;rw[hbase]at CL hbase2;rw[hbase]
 have CE: ∀W,Aft w W→Calls Tryz.prog 84 #[.int .i8 base,.slice A n c] W fun r w'=> ∃lA lc cA cc mA mc,r= .returned (.tuple #[.agg #[.slice lA n lc,.slice cA n cc,.slice mA n mc],.int .i64 0])∧
  Ints w' W.heap.size 29 .i8 (.slice lA n lc) (exL base cl)∧Ints w' W.heap.size 22 .u8 (.slice cA n cc) (exC base cl)∧Below W.heap.size W w':=fun W hW=>rEx_ok base hn hbase2 (h0.aft hW).small hl
 have hex:=exC_len base cl;have hel:=exL_len base cl;have hq2:=seqsE_ok hbase2 cl;have hech:=seqsE_ech hbase2 cl
 have hlv: ∀s∈seqsE base cl,0≤s.lv∧s.lv≤125:=fun s hs=>by obtain⟨hp,_,hk⟩:=hech.place s hs;obtain⟨a,ea,la,hv,_⟩:=hk 0 hp;obtain⟨_,hr⟩:=(seqsE_mem hbase2 cl (i:=a)).1 (List.mem_flatMap.2 ⟨s,hs,by rw[←ea];exact getD_mem0 _ hp⟩);have:=ex_ok hbase2 cl la hr;omega
 have CS: ∀(W:World) (xA lA:Option Addr) (xc lc:Nat) (B1 B2:Nat),Aft w W→RdInts W B1 .u8 xA (exC base cl)→RdInts W B2 .i8 lA (exL base cl)→Calls Tryz.prog 85 #[.slice A n c,.slice xA n xc,.slice lA n lc,.int .i8 base] W fun r w'=> ∃ov,r= .returned (.tuple #[ov,.int .i64 0])∧SqsOwn w' W.heap.size ov (seqsE base cl)∧Below W.heap.size W w':=
  fun W xA lA xc lc B1 B2 hW r1 r2=>by
   have hg:(keptL cl).any (badK (exL base cl) (exC base cl))=false:=by
    rcases e:(keptL cl).any (badK (exL base cl) (exC base cl))with _|_
    ·rfl
    ·exfalso;unfold seqsL at hq2;rw[if_neg (by rw[hex,hel];omega),if_pos e]at hq2;cases hq2
   have:=r17Seq_ok (c0:=c) (c1:=xc) (c2:=lc) (n:=n) base hn (by rw[hex];exact hn) (by rw[hel];exact hn) (h0.aft hW) r1 r2 hbase2 hl hg
   have e:(leads (rnL (exL base cl) cl).length (nxQ (exL base cl) cl)).map (sqL cl (exC base cl) (exL base cl) base)=seqsE base cl:=by unfold seqsE;rw[seqs_ok hbase2 cl]
   rw[e]at this;exact this
 have HCL:=Lib.hid CL;have HCE:=Lib.hid CE;have HCS:=Lib.hid CS;have HN:=Lib.hid hn;have HX:=Lib.hid hex;have HL:=Lib.hid hel;have HECH:=Lib.hid hech;have HLV:=Lib.hid hlv;have HB2:=Lib.hid hbase2;have HBASE:=Lib.hid hbase;clear CL CE CS hn hex hel hq2 hech hlv hbase2 hb h hbase;obtain⟨W1,hW1⟩: ∃W1,(w.alloc (.cells #[.int .u8 rest,.slice pA pn pc] 25)).alloc (.cells #[.int .i8 0,.slice none 0 0,.slice none 0 0] 33)=W1:=⟨_,rfl⟩
 have X4:Blk W1 w.heap.size 25 #[.int .u8 rest,.slice pA pn pc]:=by rw[←hW1];exact(Blk.new w 25 _).alloc _
 have X8:Blk W1 (w.heap.size+1) 33 #[.int .i8 0,.slice none 0 0,.slice none 0 0]:=by rw[←hW1];exact Blk.at_ (by simp)
 have a1:Aft w W1:=by rw[←hW1];exact((Aft.refl w).alloc _).alloc _
 go_enter Tryz.func54,Tryz.ntmps54
 go_upto_region 1 with(fail)
 clear hW1
 go_upto_region 5 with(first
  |(go_at_call 83;refine(HCL.out _ a1).mono ?_;rintro r2 w2 ⟨rfl,b2'⟩;have a2:Aft w w2:=a1.trans b2')
  |(go_at_call 84;refine(HCE.out _ a2).mono ?_;rintro r3 w3 ⟨lA0,lc0,xA,xc,mA,mc,rfl,IL,IX,b3⟩))
 obtain⟨w4,hw4⟩: ∃w4,(w3.alloc (.cells #[.slice lA0 n lc0,.slice xA n xc,.slice mA n mc] 111)).alloc (.cells #[.int .i8 base,.slice A n c,.slice none 0 0] 33)=w4:=⟨_,rfl⟩
 have X12:Blk w4 w3.heap.size 111 #[.slice lA0 n lc0,.slice xA n xc,.slice mA n mc]:=by rw[←hw4];exact(Blk.new w3 111 _).alloc _
 have X14:Blk w4 (w3.heap.size+1) 33 #[.int .i8 base,.slice A n c,.slice none 0 0]:=by rw[←hw4];exact Blk.at_ (by simp)
 have a3:Aft w w3:=a2.trans b3
 have a4:Aft w w4:=by rw[←hw4];exact(a3.alloc _).alloc _
 have IL4:Ints w4 w.heap.size 29 .i8 (.slice lA0 n lc0) (exL base cl):=by rw[←hw4];exact((IL.base (fun j e=>Nat.le_trans a2.size (IL.lt j e).1)).alloc _).alloc _
 have IX4:Ints w4 w.heap.size 22 .u8 (.slice xA n xc) (exC base cl):=by rw[←hw4];exact((IX.base (fun j e=>Nat.le_trans a2.size (IX.lt j e).1)).alloc _).alloc _
 have X84:Blk w4 (w.heap.size+1) 33 #[.int .i8 0,.slice none 0 0,.slice none 0 0]:=by rw[←hw4];exact(((X8.aft b2').aft b3).alloc _).alloc _
 have hxl: ∀j,(Value.slice xA n xc).ownBlock=some j→j<w3.heap.size:=fun j e=>(IX.lt j e).2;have hll: ∀j,(Value.slice lA0 n lc0).ownBlock=some j→j<w3.heap.size:=fun j e=>(IL.lt j e).2;have hz3:w.heap.size+1<w3.heap.size:=Nat.lt_of_lt_of_le X8.lt (Nat.le_trans b2'.size b3.size)
 have hz4:w4.heap.size≤w3.heap.size+1+1:=by rw[←hw4];simp
 rw[hw4];obtain⟨b12,hb12⟩: ∃b,w3.heap.size=b:=⟨_,rfl⟩;obtain⟨b14,hb14⟩: ∃b,b12+1=b:=⟨_,rfl⟩;rw[hb12]at X12 X14 hxl hll hz3 hz4;rw[hb14]at X14 hz4;rw[hb12,hb14]
 have hb1214:b12<b14:=by omega
 have HXL:=Lib.hid hxl;have HLL0:=Lib.hid hll;clear hw4 hb12 hb14 IL IX a1 a2 b2' b3 a3 X8 X4 hxl hll HCL HCE
 go_loopg [15] n (fun gk iv wr=> ∃(k:Nat) (lv:Value),k+gk=n∧iv= .int .i64 k∧Blk wr b14 33 #[.int .i8 base,.slice A n c,lv]∧Ints wr (b14+1) 29 .i8 lv (List.replicate k (-1))∧Frm (fun j=>j=b14) w4 wr)
 case atStart=>exact⟨0,_,by omega,rfl,X14,Ints.nil _ _ _ _,Frm.refl _ _⟩
 case round=>
  clear X14;obtain⟨k,lv,hk,rfl,X14,I,F⟩:=hrel;have HK:=Lib.hid hk;clear hk;obtain⟨lA,lc,rfl,-,-,-⟩:=I.val
  have hrk:(List.replicate k (-1:Int)).length=k:=by simp
  rw[hrk]at X14 I;have HRK:=Lib.hid hrk;clear hrk;obtain⟨x0,x1,x2,xf,xl⟩:=X14.c3
  by_cases hkn:k<n
  ·have hIne:some b14≠(Value.slice lA k lc).ownBlock:=fun e=>by have:=(I.lt _ e.symm).1;omega
   go_wp2_with(at_builtin;go_must (refine wpList_appI ei35 rfl rfl rfl (I.alloc _) rfl (Blk.at_ (by simp)) ?_ ?_ ?_ ?_))
   ·rw[HRK.out];unfold maxLen;omega
   ·rw[HRK.out];omega
   ·simp;omega
   intro g cap w5 I5 g5 hg5;have B5:=(X14.alloc (.cells #[.int .i8 (-1)] 29)).grown g5 hIne;obtain⟨z0,z1,z2,zf,zl⟩:=B5.c3;have F5:Frm (fun j=>j=b14) w4 w5:=(F.alloc _).grown g5 (fun j e hj=>by have:=(I.lt j e).1;omega);have X6:=B5.set_ 2 (.slice (some ⟨g,0,none⟩) (k+1) cap);have I6:=I5.frm ((Frm.refl (fun j=>j=b14) w5).set (b:=b14) (j:=2) rfl (.slice (some ⟨g,0,none⟩) (k+1) cap)) (fun j e h=>by have:=(I5.lt j e).1;omega);have F6:=F5.set (b:=b14) (j:=2) rfl (.slice (some ⟨g,0,none⟩) (k+1) cap);clear B5 x0 x1 x2 xf xl I5 g5 hg5 F5 I F X14 hIne;go_wp2
   go_roundg (n-(k+1))
   case rel=>exact⟨k+1,_,by have:=HK.out;omega,by go_num,by simpa using X6,by rw[List.replicate_succ'];exact I6,F6⟩
   case measure=>have:=HK.out;omega
  ·have hkn2:k=n:=by have:=HK.out;omega
   clear HK hkn;subst hkn2;obtain⟨n,hnk⟩: ∃n,n=k:=⟨_,rfl⟩;subst hnk;obtain⟨w5,hw5⟩: ∃w5,w5=wr:=⟨_,rfl⟩;subst hw5
   have h14:w.heap.size+1<b14:=by omega
   have a5:Aft w w5:=Below.trans a4 (F.below a4.size (fun j hj e=>by have e:j=b14:=e;omega));have IX5:=IX4.frm F (fun j e h=>by have:=HXL.out j e;have h:j=b14:=h;omega);have IL5:=IL4.frm F (fun j e h=>by have:=HLL0.out j e;have h:j=b14:=h;omega);have X125:=X12.frm F (by omega);have X85:=X84.frm F (by omega);obtain⟨y0,y1,y2,yf,yl⟩:=X125.c3;have hs4:=F.size
   go_upto_region 9 with(go_at_call 85;refine(HCS.out _ xA lA0 xc lc0 _ _ a5 IX5.rd IL5.rd).mono ?_;rintro r6 w6 ⟨ov,rfl,SO,b6⟩;obtain⟨L,hL,hS⟩:=SO;obtain⟨oA,oc,hov⟩:=row_shape hS.row;subst hov)
   have HLL:=Lib.hid hL
   have hLlen:L.length≤n:=by have h1:=congrArg List.length hL;rw[List.length_map]at h1;have h2:(seqsE base cl).length≤cl.length:=(ech_len HECH.out).1;have:=HN.out;omega
   have EV:RenvC w w5.heap.size b14 n c lc oc A lA oA base L w6:=⟨hS,X14.aft b6,a5.trans b6,X85.aft b6⟩;have IL6:Ints w6 w.heap.size 29 .i8 (.slice lA n lc) (List.replicate n (-1)):=(I.aft b6).base (fun j e=>by have:=(I.lt j e).1;omega);have hlg: ∀j,(Value.slice lA n lc).ownBlock=some j→b14<j∧j<w5.heap.size:=fun j e=>⟨(I.lt j e).1,(I.lt j e).2⟩;have HLG:=Lib.hid hlg;obtain⟨f,hf⟩: ∃f:Sq→Sq,f=stpC:=⟨_,rfl⟩
   have hkeep:Keeps f:=by rw[hf];exact keeps_C
   have HKP:=Lib.hid hkeep;have HF:=Lib.hid hf;have h56:=b6.size
   have IL6':Ints w6 w.heap.size 29 .i8 (.slice lA n lc) (putS f (List.replicate cl.length (-1)) ((seqsE base cl).take 0)):=by rw[←HN.out];exact IL6
   clear hL hS X14 X125 X85 X12 X84 IX4 IX5 IL4 IL5 I F b6 y0 y1 y2 yf yl x0 x1 x2 xf xl IL6 hlg hf hkeep HCS a4 HRK;go_wp2
   go_loopg [18] L.length (fun gk iv wr=> ∃k:Nat,k+gk=L.length∧iv= .int .i64 k∧RenvC w w5.heap.size b14 n c lc oc A lA oA base L wr∧Ints wr w.heap.size 29 .i8 (.slice lA n lc) (putS f (List.replicate cl.length (-1)) ((seqsE base cl).take k))∧w6.heap.size≤wr.heap.size)
   case atStart=>exact⟨0,by omega,rfl,EV,IL6',Nat.le_refl _⟩
   case round=>
    clear EV IL6';obtain⟨k,hk,rfl,EV,IL,hsr⟩:=hrel;have HK:=Lib.hid hk;clear hk
    by_cases hkm:k<L.length
    ·obtain⟨og,oc',e,ho1,ho2⟩:=World.ownsRow.form EV.sq.row (by omega)
     injection e with e1 e2 e3
     subst e1 e3;obtain⟨A1,c1,C1,d1,hv1,-,y0,y1,y2,y3,y4,r1,r2⟩:=EV.sq.get (i:=k) (e:=L[k]) (List.getElem?_eq_getElem hkm);have hI1:=(EV.sq.each L[k] (List.getElem_mem hkm)).1;rw[hv1]at hI1;have hlow1: ∀b off,A1=some ⟨b,off,none⟩→w5.heap.size≤b:=fun b off e=>(hI1.addr e).1;clear hv1 hI1
     have hkE:k<(seqsE base cl).length:=by rw[←HLL.out,List.length_map];exact hkm
     have hsE:(seqsE base cl)[k]=L[k].1:=by
      have h1:(L.map (·.1))[k]?=(seqsE base cl)[k]?:=by rw[HLL.out]
      rw[List.getElem?_map,List.getElem?_eq_getElem hkm,List.getElem?_eq_getElem hkE]at h1;exact(Option.some.inj h1).symm
     have hstep:=putS_step (f:=f) (o:=List.replicate cl.length (-1)) hkE;rw[hsE]at hstep;obtain⟨s,hs⟩: ∃s,L[k].1=s:=⟨_,rfl⟩;rw[hs]at y0 y1 y2 y3 y4 r1 r2 hsE hstep
     have hmem:s∈seqsE base cl:=by rw[←hsE];exact List.getElem_mem hkE
     have hch:=HECH.out.chk s hmem;obtain⟨hp0,hpc,hpp⟩:=HECH.out.place s hmem
     have hpn:s.pl.length≤n:=by have h1:s.pl.length≤cl.length:=(ech_len HECH.out).2 s hmem;have:=HN.out;omega
     obtain⟨hlv0,hlv⟩:=HLV.out s hmem
     have hpl: ∀i,i<s.pl.length→ ∃a:Nat,s.pl.getD i 0=a∧a<n:=fun i hi=>by obtain⟨a,ea,la,_⟩:=hpp i hi;exact⟨a,ea,by have:=HN.out;omega⟩
     obtain⟨m1,hm1⟩: ∃m1,s.pl.length=m1:=⟨_,rfl⟩;rw[hpc,hm1]at y1;rw[hm1]at y0 hp0 hpc hpn hpl;have HM1:=Lib.hid hm1;have HPC:=Lib.hid hpc;have HPL:=Lib.hid hpl;have HCH:=Lib.hid hch;have HSTEP:=Lib.hid hstep;obtain⟨Wr,hWr⟩: ∃Wr,Wr=wr:=⟨_,rfl⟩;subst hWr;have hq9:=EV.aw.size;clear hpp hkE hsE hs hmem hm1 hpc hpl hch hstep e2
     go_upto_region 13 with(fail)
     obtain⟨W8,hW8⟩: ∃W8,Wr.alloc (.cells #[.slice A1 m1 c1,.slice C1 m1 d1,.int .i8 s.lv,.int .u8 s.so,.int .u8 s.eo] 87)=W8:=⟨_,rfl⟩;obtain⟨q,hq⟩: ∃q,Wr.heap.size=q:=⟨_,rfl⟩
     have X19:Blk W8 q 87 #[.slice A1 m1 c1,.slice C1 m1 d1,.int .i8 s.lv,.int .u8 s.so,.int .u8 s.eo]:=by rw[←hW8];exact Blk.at_ hq.symm
     have a8:Aft Wr W8:=by rw[←hW8];exact(Aft.refl _).alloc _
     rw[hq,hW8];have HQ:=Lib.hid hq;have r18:=(r1.aft a8).small;have r28:=(r2.aft a8).small;have hWw:=EV.aw.size
     have hA1: ∀b off,A1=some ⟨b,off,none⟩→b≠q:=fun b off e=>by
      have:=r1.small;obtain⟨b2,off2,e2,hb2,_⟩:=this.2 (by rw[HM1.out];omega)
      rw[e]at e2;injection e2 with e2;injection e2 with e3;omega
     clear hW8 y0 y1 y2 y3 y4 r1 r2 hq;obtain⟨x0,x1,x2,x3,x4,xf,xl⟩:=X19.c5
     have CW:Calls Tryz.prog 86 #[.slice C1 m1 d1,.int .u8 s.so] W8 fun r w'=> ∃C d,r= .returned (.slice C m1 d)∧RdInts w' w'.heap.size .u8 C s.wk.cs∧(∀b off,C=some ⟨b,off,none⟩→W8.heap.size≤b)∧Aft W8 w':=by
      refine(rWResolve_ok (c:=d1) r28 HPC.out.symm (by omega) (chk_okC HCH.out).2.2).mono ?_;rintro r w' ⟨v,rfl,I,a⟩;obtain⟨C,d,e,-,-,-⟩:=I.val
      have hl:(weakL s.so s.cs).length=m1:=by unfold weakL;rw[rulesL_len];exact HPC.out
      rw[hl]at e;subst e;exact⟨C,d,rfl,I.rd,fun b off e=>(I.addr e).1,a⟩
     go_upto_region 14 with(go_at_call 86;refine CW.mono ?_;rintro r9 w9 ⟨C9,d9,rfl,rc9,hl9,a9⟩;have X9:=X19.aft a9;obtain⟨x0,x1,x2,x3,x4,xf,xl⟩:=X9.c5)
     have F9:Frm (fun j=>j=q) w9 (w9.setCell ⟨q,1,none⟩ (.slice C9 m1 d9)):=(Frm.refl (fun j=>j=q) w9).set (b:=q) (j:=1) rfl _;have N9:=X9.set_ 1 (.slice C9 m1 d9);obtain⟨w10,hw10⟩: ∃w10,w9.setCell ⟨q,1,none⟩ (.slice C9 m1 d9)=w10:=⟨_,rfl⟩;rw[hw10]at F9 N9⊢
     have N10:Blk w10 q 87 #[.slice A1 m1 c1,.slice C9 m1 d9,.int .i8 s.lv,.int .u8 s.so,.int .u8 s.eo]:=by simpa using N9
     have ha9:Aft Wr w9:=a8.trans a9;have a10:Aft Wr w10:=Below.trans ha9 (F9.below ha9.size (fun j hj e=>by have:=HQ.out;omega));have rp10:=((r18.aft a9).frmA F9 (fun b off e h=>hA1 b off e h)).small;have rc10:=(rc9.frmA F9 (fun b off e h=>by have:=hl9 b off e;have h:b=q:=h;have:=X19.lt;omega)).small;clear hw10 F9 N9 X9 X19 x0 x1 x2 x3 x4 xf xl rc9 ha9 a9 a8 r18 r28 CW;obtain⟨w12,hw12⟩: ∃w12,w12=w10:=⟨_,rfl⟩;subst hw12;obtain⟨N12,a12,rp12⟩:=And.intro N10 (And.intro a10 rp10);have rc12:RdInts w12 w12.heap.size .u8 C9 s.wk.cs:=rc10;have hlow:=hlow1;clear N10 a10 rp10 rc10 hlow1;obtain⟨x0,x1,x2,x3,x4,xf,xl⟩:=N12.c5
     go_upto_region 16 with(fail)
     have hfs:(f s).cs=restL s.lv s.so s.eo s.wk.cs:=by rw[HF.out];rfl
     have hbl:s.wk.cs.length=m1:=by rw[wk_cs];unfold weakL;rw[rulesL_len];exact HPC.out
     have hfl:(f s).cs.length=m1:=by rw[hfs,restL_len];exact hbl
     obtain⟨TS,hTS⟩: ∃TS,(f s).cs=TS:=⟨_,rfl⟩;rw[hTS]at hfl
     have CR:Calls Tryz.prog 88 #[.agg #[.slice A1 m1 c1,.slice C9 m1 d9,.int .i8 s.lv,.int .u8 s.so,.int .u8 s.eo]] w12 fun r w'=> ∃v d,r= .returned (.slice (some ⟨v,0,none⟩) m1 d)∧Ints w' w12.heap.size 22 .u8 (.slice (some ⟨v,0,none⟩) m1 d) TS∧Aft w12 w':=by refine(rRest_ok (d:=d9) (lv:=s.lv) (so:=s.so) (eo:=s.eo) hbl.symm rc12 (by omega) (by omega) ⟨A1,m1,c1,rfl⟩).mono ?_;rintro r w' ⟨v,rfl,I,a⟩;rw[←hfs,hTS]at I;obtain⟨vg,vc,e⟩:=I.form (by omega);rw[hfl]at e;subst e;exact⟨vg,vc,rfl,I,a⟩
     have hvs:valS f s=TS.map (lvC s.lv):=by unfold valS lvsL;rw[hTS]
     have hOl:(putS f (List.replicate cl.length (-1)) ((seqsE base cl).take k)).length=n:=by rw[putS_len,List.length_replicate];exact HN.out.symm
     obtain⟨O,hO⟩: ∃O,putS f (List.replicate cl.length (-1)) ((seqsE base cl).take k)=O:=⟨_,rfl⟩;rw[hO]at IL hOl;have hstep:=HSTEP.out;rw[hO,hvs]at hstep;have HST:=Lib.hid hstep;have HTL:=Lib.hid hfl;have IL12:=IL.aft a12;obtain⟨lg,lc',e⟩:=IL.form (by omega);rw[hOl]at e
     injection e with e1 e2 e3
     subst e1 e3;have hlg:=HLG.out lg rfl;clear hfs hbl hfl rc12 IL hO hvs hstep hOl e2 hTS;have hws12:=a12.le
     go_upto_region 17 with(go_at_call 88;refine CR.mono ?_;rintro r13 w13 ⟨vg,vc,rfl,IV,a13⟩)
     have X13:=N12.aft a13;have ha13:Aft Wr w13:=a12.trans a13;have EV13:=EV.aft ha13;have IL13:=IL12.aft a13;have rp13:=(rp12.aft a13);have hvg:=(IV.lt vg rfl).1;have hq12:q<w12.heap.size:=N12.lt;clear CR N12 IL12 rp12 a12 a13 x0 x1 x2 x3 x4 xf xl EV
     go_loopg [89] m1 (fun gk iv wr=> ∃i:Nat,i+gk=m1∧iv= .int .i64 i∧Ints wr w.heap.size 29 .i8 (.slice (some ⟨lg,0,none⟩) n lc) (putL O (s.pl.take i) ((TS.map (lvC s.lv)).take i))∧Frm (fun j=>j=lg) w13 wr)
     case atStart=>exact⟨0,by omega,rfl,by simpa[putL]using IL13,Frm.refl _ _⟩
     case round=>
      clear IL13;obtain⟨i,hi,rfl,IL,F⟩:=hrel;have HI:=Lib.hid hi;clear hi;have EV1:=EV13.put F (by omega) (by omega) (by omega);have X1:=X13.frm F (by have:=HQ.out;omega)
      by_cases him:i<m1
      ·obtain⟨pa,hpa,hpan⟩:=HPL.out i him;have ht:=putL_take s.pl (TS.map (lvC s.lv)) O i (by rw[HM1.out];exact him) (by rw[List.length_map,HTL.out];exact him)
       have hiT:i<TS.length:=by rw[HTL.out];exact him
       have hmp:(TS.map (lvC s.lv)).getD i 0=lvC s.lv (TS.getD i 0):=by rw[List.getD_eq_getElem?_getD,List.getElem?_map,List.getElem?_eq_getElem hiT,List.getD_eq_getElem?_getD,List.getElem?_eq_getElem hiT];rfl
       rw[hpa,Int.toNat_natCast,hmp]at ht;obtain⟨ab,ao,hA',_,hab,cpa⟩:=rp13.at_ (i:=i) (by rw[HM1.out];exact him);have habl:=hlow ab ao hA';subst hA';rw[hpa]at cpa;have cpa2:=(World.cell?_of_block (a:=⟨ab,ao+i,none⟩) (F.block ab hab (by show ab≠lg;omega))).trans cpa;obtain⟨-,v1,v2,_,v4,v5,v6⟩:=IV.at_;have cv0:=v6 i hiT;have cv:=(World.cell?_of_block (a:=⟨vg,i,none⟩) (F.block vg v4 (by show vg≠lg;omega))).trans cv0;obtain⟨o0,o1,o2,of_,ol⟩:=EV1.out.c3;obtain⟨x0,x1,x2,x3,x4,xf,xl⟩:=X1.c5;obtain⟨l0,l1,l2,_,l4,l5,l6⟩:=IL.at_;have clg:=l6 pa (by rw[←l0];exact hpan)
       have hlcn:n≤lc:=by rw[l0];exact l1
       have hvcn:m1≤vc:=by rw[←HTL.out];exact v1
       obtain⟨x,hx⟩: ∃x,TS.getD i 0=x:=⟨_,rfl⟩;rw[hx]at cv ht;have hlvl:=fun W:World=>rlevel_ok W (l:=s.lv) (c:=x) hlv0 hlv;obtain⟨z,hz⟩: ∃z,lvC s.lv x=z:=⟨_,rfl⟩;rw[hz]at ht hlvl;generalize (putL O (s.pl.take i) ((TS.map (lvC s.lv)).take i)).getD pa 0=y at*;have ILn:=IL.set pa z;rw[←ht]at ILn;have HT:=Lib.hid ILn;have HFF:=Lib.hid F;clear ht hpa cpa cv0 v1 v6 l0 l1 l6 hx hz hmp hiT EV1 X1 o0 o1 ILn IL F;go_wp2
       have nb1:b14≠lg:=by omega
       have nb2:q≠lg:=by have:=HQ.out;omega
       have nb3:ab≠lg:=by omega
       go_region_held3 (fun W=>W.cell? ⟨b14,2,none⟩=some (.slice (some ⟨lg,0,none⟩) n lc)∧W.cell? ⟨q,0,none⟩=some (.slice (some ⟨ab,ao,none⟩) m1 c1)∧W.cell? ⟨ab,ao+i,none⟩=some (.int .i64 pa)∧W.cell? ⟨q,2,none⟩=some (.int .i8 s.lv))
        (first|exact⟨o2,x0,cpa2,x2⟩|exact⟨(World.cell?_setCell_other _ _ _ _ (by simp)).trans o2,(World.cell?_setCell_other _ _ _ _ (by simp)).trans x0,(World.cell?_setCell_other _ _ _ _ (by simp)).trans cpa2,(World.cell?_setCell_other _ _ _ _ (by simp)).trans x2⟩)
        ((go_at_call 89;refine(hlvl _).mono ?_;rintro r1 w1 ⟨rfl,rfl⟩))
       all_goals
        go_wp2
        go_roundg (m1-(i+1))
        case rel=>exact⟨i+1,by have:=HI.out;omega,by go_num,HT.out,HFF.out.drew.set rfl _⟩
        case measure=>have:=HI.out;omega
      ·have him2:i=m1:=by have:=HI.out;omega
       have hfin:putL O (s.pl.take i) ((TS.map (lvC s.lv)).take i)=putS f (List.replicate cl.length (-1)) ((seqsE base cl).take (k+1)):=by rw[List.take_of_length_le (by rw[HM1.out];omega),List.take_of_length_le (by rw[List.length_map,HTL.out];omega)];exact HST.out.symm
       rw[hfin]at IL;have hFs:=F.size;have ha9s:=ha13.le;clear hfin him HI;subst him2;go_wp2
       go_roundg (L.length-(k+1))
       case rel=>exact⟨k+1,by have:=HK.out;omega,by go_num,EV1,IL,by omega⟩
       case measure=>have:=HK.out;omega
    ·have hkL:k=L.length:=by have:=HK.out;omega
     have hfin:putS f (List.replicate cl.length (-1)) ((seqsE base cl).take k)=levE f base cl (List.replicate cl.length (-1)):=by rw[List.take_of_length_le (by rw[←HLL.out,List.length_map];omega)];rfl
     rw[hfin]at IL;obtain⟨o0,o1,o2,of_,ol⟩:=EV.out.c3;obtain⟨z0,z1,z2,zf,zl⟩:=EV.res.c3;have F9:=frm_put3 wr (w.heap.size+1) (.int .i8 base) (.slice A n c) (.slice lA n lc);have N9:=blk_put3 (.int .i8 base) (.slice A n c) (.slice lA n lc) EV.res;have hff:=HF.out;rw[hff]at IL;have hlev:=Lib.hid (show Ints _ _ _ _ _ _ from IL);clear hfin hff IL hkm;go_wp2;refine bodyPost_ret (results_row1 rfl _ _ (w.heap.size+1) 33 _ _ rfl N9 Tryz.underlying33 rfl (by kernel_rfl)) rfl ?_;refine⟨lA,lc,rfl,?_,?_⟩
     ·exact hlev.out.frm F9 (fun j e h=>by have:=(HLG.out j e).1;have h:j=w.heap.size+1:=h;omega)
     ·exact Below.trans EV.aw (F9.below EV.aw.size (fun j hj e=>by omega))
end Go.Proofs.YtllolnkkepacjaaGreat
