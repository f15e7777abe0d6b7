/- A sequence under way: side, within, become. A sequence under way: ahead. A sequence under way: settle. What Resolve answers: the plain law. pairs.Resolve walked. -/
import Derived.Test.YtllolnkkepacjaaGreatR12
import Derived.Test.YtllolnkkepacjaaGreatH6
import Derived.BigQuiet
import Derived.Deep.QuietTactic
import Derived.RangeFuncCalls
import Derived.Deep.RegionHeld3
set_option maxRecDepth 100000
set_option maxHeartbeats 4000000
namespace Go.Proofs.YtllolnkkepacjaaGreat
open Go.RowKit
section
attribute [local go_sem] Oper.semAt_some
def sdL (c:Int):Int:=if c=4∨c=7∨c=3∨c=2 then 2 else if c=1 then 1 else 0
theorem side_ok (w:World)(c:Int):Calls Tryz.prog 154 #[.int .u8 c] w fun e w'=>e= .returned (.int .u8 (sdL c))∧w'=w:=by
 unfold sdL
 by_cases h4:c=4
 ·subst h4
  go_enter Tryz.func154,Tryz.ntmps154
  go_wp2;go_ret;exact⟨rfl,rfl⟩
 by_cases h7:c=7
 ·subst h7
  go_enter Tryz.func154,Tryz.ntmps154
  go_wp2;go_ret;exact⟨rfl,rfl⟩
 by_cases h3:c=3
 ·subst h3
  go_enter Tryz.func154,Tryz.ntmps154
  go_wp2;go_ret;exact⟨rfl,rfl⟩
 by_cases h2:c=2
 ·subst h2
  go_enter Tryz.func154,Tryz.ntmps154
  go_wp2;go_ret;exact⟨rfl,rfl⟩
 by_cases h1:c=1
 ·subst h1
  go_enter Tryz.func154,Tryz.ntmps154
  go_wp2;go_ret;exact⟨rfl,rfl⟩
 ·rw[if_neg (by omega),if_neg h1]
  have q4:(c==4)=false:=by simpa using h4
  have q7:(c==7)=false:=by simpa using h7
  have q3:(c==3)=false:=by simpa using h3
  have q2:(c==2)=false:=by simpa using h2
  have q1:(c==1)=false:=by simpa using h1
  go_enter Tryz.func154,Tryz.ntmps154
  go_wp2;go_ret;exact⟨rfl,rfl⟩
structure QIs (W:World) (b g n cc pc fn fc:Nat) (pA fA:Option Addr) (pl cs fs:List Int) (lv so eo way:Int) (Bp:Nat):Prop where
 blk:Blk W b 127 #[.slice pA n pc,.slice (some ⟨g,0,none⟩) n cc,.int .i8 lv,.int .u8 so,.int .u8 eo,.slice fA fn fc,.int .u8 way]
 ip:RdInts W Bp .i64 pA pl
 ic:Ints W 0 22 .u8 (.slice (some ⟨g,0,none⟩) n cc) cs
 fr:RdInts W Bp .u8 fA fs
 np:pl.length=n
 nf:fs.length=fn
 hb:b≠g
 ap: ∀q off,(pA=some ⟨q,off,none⟩∨fA=some ⟨q,off,none⟩)→q≠g∧q≠b∧q<W.heap.size
section
variable{W W':World} {b g n cc pc fn fc:Nat} {pA fA:Option Addr} {pl cs fs:List Int} {lv so eo way:Int} {Bp:Nat}
theorem QIs.frm {F:Nat→Prop}(h:QIs W b g n cc pc fn fc pA fA pl cs fs lv so eo way Bp)(hF:Frm F W W')(h1: ¬F b)(h2: ¬F g)(h3: ∀q,q≠g→q≠b→q<W.heap.size→ ¬F q):QIs W' b g n cc pc fn fc pA fA pl cs fs lv so eo way Bp:=
 ⟨h.blk.frm hF h1,RdInts.frmA h.ip hF (fun q off e=>by have:=h.ap q off (.inl e);exact h3 q this.1 this.2.1 this.2.2),h.ic.frm hF (fun j e=>(show g=j by simpa[Value.ownBlock]using e)▸h2),
  RdInts.frmA h.fr hF (fun q off e=>by have:=h.ap q off (.inr e);exact h3 q this.1 this.2.1 this.2.2),h.np,h.nf,h.hb,fun q off e=>by have:=h.ap q off e;exact⟨this.1,this.2.1,Nat.lt_of_lt_of_le this.2.2 hF.size⟩⟩
theorem QIs.below {C:Nat}(h:QIs W b g n cc pc fn fc pA fA pl cs fs lv so eo way Bp)(hb:Below C W W')(hC:W.heap.size≤C):QIs W' b g n cc pc fn fc pA fA pl cs fs lv so eo way Bp:=h.frm (Frm.of_below (F:=fun _=>False) (hb.mono hC)) id id (fun _ _ _ _=>id)
theorem QIs.set (h:QIs W b g n cc pc fn fc pA fA pl cs fs lv so eo way Bp)(i:Nat)(x:Int):QIs (W.setCell ⟨g,i,none⟩ (.int .u8 x)) b g n cc pc fn fc pA fA pl (cs.set i x) fs lv so eo way Bp:=by have hF:Frm (fun k=>k=g) W (W.setCell ⟨g,i,none⟩ (.int .u8 x)):=(Frm.refl (fun k=>k=g) W).set rfl _;exact⟨h.blk.frm hF (fun e=>h.hb e),RdInts.frmA h.ip hF (fun q off e=>(h.ap q off (.inl e)).1),h.ic.set i x,RdInts.frmA h.fr hF (fun q off e=>(h.ap q off (.inr e)).1),h.np,h.nf,h.hb,fun q off e=>by have:=h.ap q off e;exact⟨this.1,this.2.1,Nat.lt_of_lt_of_le this.2.2 hF.size⟩⟩
theorem QIs.c7 (h:QIs W b g n cc pc fn fc pA fA pl cs fs lv so eo way Bp):W.cell? ⟨b,0,none⟩=some (.slice pA n pc)∧W.cell? ⟨b,1,none⟩=some (.slice (some ⟨g,0,none⟩) n cc)∧W.cell? ⟨b,2,none⟩=some (.int .i8 lv)∧W.cell? ⟨b,3,none⟩=some (.int .u8 so)∧W.cell? ⟨b,4,none⟩=some (.int .u8 eo)∧
 W.cell? ⟨b,5,none⟩=some (.slice fA fn fc)∧W.cell? ⟨b,6,none⟩=some (.int .u8 way)∧(∀j,W.frozen? ⟨b,j,none⟩=false)∧b<W.heap.size:=
 ⟨h.blk.cell 0,h.blk.cell 1,h.blk.cell 2,h.blk.cell 3,h.blk.cell 4,h.blk.cell 5,h.blk.cell 6,h.blk.frozen,h.blk.lt⟩
end
def wiS (cs:List Int)(way:Int)(o:Nat):Nat→Bool
 |0=>false
 |k+1=>wiS cs way o k||sdL (cs.getD (o+k) 0)==way
def wiA (cs:List Int)(o:Nat):Nat→Bool
 |0=>false
 |k+1=>wiA cs o k||sdL (cs.getD (o+k) 0) !=0
theorem within_ok {w:World}{b g n cc pc fn fc:Nat}{pA fA:Option Addr}{pl cs fs:List Int}{lv so eo way:Int}{Bp:Nat}(h:QIs w b g n cc pc fn fc pA fA pl cs fs lv so eo way Bp){o d:Nat}(hod:o<d)(hd:d<n)(hm:n≤1048576):
 Calls Tryz.prog 112 #[.pointer (some ⟨b,0,none⟩),.agg #[.int .i64 o,.int .i64 d]] w fun e w'=>e= .returned (.tuple #[.bool (wiS cs way (o+1) (d-(o+1))),.bool (wiA cs (o+1) (d-(o+1)))])∧Below w.heap.size w w':=by
 obtain⟨hcl,hcc,_,_,hgs,hgf,hcell⟩:=h.ic.at_;obtain⟨c0,c1,c2,c3,c4,c5,c6,cf,cl⟩:=h.c7;obtain⟨o1,ho1⟩: ∃o1,o+1=o1:=⟨_,rfl⟩;obtain⟨m,hm1⟩: ∃m,d-o1=m:=⟨_,rfl⟩;rw[ho1,hm1]
 have e1:IntKind.i64.wrap ((o:Int)+1)=(o1:Int):=by rw[IntWalk.i64_in _ (by omega)];omega
 have ho2:o1≤d:=by omega
 have hdc:d≤cc:=by omega
 have hne: ¬cc=o1:=by omega
 have hdo:d-o1=m:=hm1;have HCL:=Lib.hid hcl;have HM1:=Lib.hid hm1;have HO1:=Lib.hid ho1;clear hcl ho1 hm1
 go_enter Tryz.func112,Tryz.ntmps112
 go_wp2
 go_quiet (fail)
 go_wp2;have hb0:Below w.heap.size w ((w.alloc (.cells #[.int .i64 o,.int .i64 d] 129)).drewN nq):=below_drewN ((Below.refl _ w).alloc (Nat.le_refl _) _) _;obtain⟨W1,hW1⟩: ∃W1,(w.alloc (.cells #[.int .i64 o,.int .i64 d] 129)).drewN nq=W1:=⟨_,rfl⟩;rw[hW1]at hb0⊢;have hk0: ∀i,i<n→W1.cell? ⟨g,i,none⟩=some (.int .u8 (cs.getD i 0)):=fun i hi=>((bcell hb0).1 g i hgs).trans (hcell i (by have:=HCL.out;omega));have c62:W1.cell? ⟨b,6,none⟩=some (.int .u8 way):=((bcell hb0).1 b 6 cl).trans c6;clear hW1 c0 c1 c2 c3 c4 c5 c6 cf hcell hgf;have HK0:=Lib.hid hk0;clear hk0
 go_loopg [4,5,21] m (fun gk sv av iv wr=> ∃i:Nat,i+gk=m∧iv= .int .i64 i∧sv= .bool (wiS cs way o1 i)∧av= .bool (wiA cs o1 i)∧wr=W1)
 case atStart=>exact⟨0,by omega,rfl,rfl,rfl,rfl⟩
 case round=>
  obtain⟨i,hi,rfl,rfl,rfl,rfl⟩:=hrel;have HI:=Lib.hid hi;clear hi
  by_cases hlt:i<m
  ·obtain⟨x,hx⟩: ∃x,cs.getD (o1+i) 0=x:=⟨_,rfl⟩;have q0:=HK0.out (o1+i) (by omega);rw[hx]at q0
   have hS:wiS cs way o1 (i+1)=(wiS cs way o1 i||sdL x==way):=by rw[←hx];rfl
   have hA:wiA cs o1 (i+1)=(wiA cs o1 i||sdL x !=0):=by rw[←hx];rfl
   have CS: ∀W,Calls Tryz.prog 154 #[.int .u8 x] W fun e w'=>e= .returned (.int .u8 (sdL x))∧w'=W:=fun W=>side_ok W x;obtain⟨k,hk⟩: ∃k,sdL x=k:=⟨_,rfl⟩;rw[hk]at CS hS hA;have HS:=Lib.hid hS;have HA:=Lib.hid hA;clear hS hA hk hx
   rcases hs:wiS cs way o1 i with _|_
   ·rcases ha:wiA cs o1 i with _|_
    ·go_wp2_with(go_at_call 154;refine(CS _).mono ?_;rintro r3 w3 ⟨rfl,rfl⟩)
     go_roundg (m-(i+1))
     case rel=>exact⟨i+1,by omega,by go_num,by rw[HS.out,hs];rfl,by rw[HA.out,ha];rfl,rfl⟩
     case measure=>have:=HI.out;omega
    ·go_wp2_with(go_at_call 154;refine(CS _).mono ?_;rintro r3 w3 ⟨rfl,rfl⟩)
     go_roundg (m-(i+1))
     case rel=>exact⟨i+1,by omega,by go_num,by rw[HS.out,hs];rfl,by rw[HA.out,ha];rfl,rfl⟩
     case measure=>have:=HI.out;omega
   ·rcases ha:wiA cs o1 i with _|_
    ·go_wp2_with(go_at_call 154;refine(CS _).mono ?_;rintro r3 w3 ⟨rfl,rfl⟩)
     go_roundg (m-(i+1))
     case rel=>exact⟨i+1,by omega,by go_num,by rw[HS.out,hs];rfl,by rw[HA.out,ha];rfl,rfl⟩
     case measure=>have:=HI.out;omega
    ·go_wp2_with(go_at_call 154;refine(CS _).mono ?_;rintro r3 w3 ⟨rfl,rfl⟩)
     go_roundg (m-(i+1))
     case rel=>exact⟨i+1,by omega,by go_num,by rw[HS.out,hs];rfl,by rw[HA.out,ha];rfl,rfl⟩
     case measure=>have:=HI.out;omega
  ·have him:i=m:=by have:=HI.out;omega
   subst him;go_wp2
   go_ret2
   exact⟨rfl,hb0⟩
def ahT (cs:List Int)(sos:Int):Nat→Int
 |0=>sos
 |k+1=>if sdL (cs.getD k 0)≠0 then sdL (cs.getD k 0)else ahT cs sos k
def bcT (pl fs:List Int)(c:Int):Nat→Nat→List Int→List Int
 |0,_,cs=>cs
 |d+1,i,cs=>if fs.getD (pl.getD i 0).toNat 0=9 then bcT pl fs c d (i+1) (cs.set i c)else cs
def becL (pl fs:List Int)(n at_:Nat)(c:Int)(cs:List Int):List Int:=bcT pl fs c (n-(at_+1)) (at_+1) (cs.set at_ c)
theorem bcT_length (pl fs:List Int)(c:Int): ∀d i cs,(bcT pl fs c d i cs).length=cs.length
 |0,_,_=>rfl
 |d+1,i,cs=>by
  unfold bcT
  split
  ·rw[bcT_length pl fs c d,List.length_set]
  ·rfl
theorem become_ok {w:World}{b g n cc pc fn fc:Nat}{pA fA:Option Addr}{pl cs fs:List Int}{lv so eo way:Int}{Bp:Nat}(h:QIs w b g n cc pc fn fc pA fA pl cs fs lv so eo way Bp){k:Nat}(hk:k<n)(hm:n≤1048576)(c:Int)(hin: ∀i,i<n→0≤pl.getD i 0∧pl.getD i 0<(fn:Int))(_hfn:fn≤4611686018427387904):
 Calls Tryz.prog 114 #[.pointer (some ⟨b,0,none⟩),.int .i64 k,.int .u8 c] w fun e w'=>e= .returned (.tuple #[])∧QIs w' b g n cc pc fn fc pA fA pl (becL pl fs n k c cs) fs lv so eo way Bp∧Frm (fun j=>j=g) w w':=by
 obtain⟨c0,c1,c2,c3,c4,c5,c6,cf,cl⟩:=h.c7;obtain⟨hcl,hcc,_,_,hgs,hgf,hcell⟩:=h.ic.at_;have hgk:=hcell k (by omega);have hQ1:=h.set k c;obtain⟨C,hC⟩: ∃C,becL pl fs n k c cs=C:=⟨_,rfl⟩;rw[hC];have HC:=Lib.hid hC;have HIN:=Lib.hid hin;have HCL:=Lib.hid hcl;clear hcl hcc hcell hC hin;have F1:Frm (fun j=>j=g) w (w.setCell ⟨g,k,none⟩ (.int .u8 c)):=(Frm.refl (fun j=>j=g) w).set rfl _;obtain⟨W1,hW1⟩: ∃W1,w.setCell ⟨g,k,none⟩ (.int .u8 c)=W1:=⟨_,rfl⟩;rw[hW1]at hQ1 F1;have HW1:=Lib.hid hW1;clear hW1;obtain⟨k1,hk1⟩: ∃k1,k+1=k1:=⟨_,rfl⟩
 have e1:IntKind.i64.wrap ((k:Int)+1)=(k1:Int):=by rw[IntWalk.i64_in _ (by omega)];omega
 have HK1:=Lib.hid hk1
 go_enter Tryz.func114,Tryz.ntmps114
 go_wp2;rw[HW1.out];clear e1 c0 c1 c2 c3 c4 c5 c6 cf cl hgf hgk hgs hk1;obtain⟨dd,hdd⟩: ∃dd,k1+dd=n:=⟨n-k1,by have:=HK1.out;omega⟩;have HDD:=Lib.hid hdd;clear hdd
 go_loopg [6] dd (fun gk iv wr=> ∃(i:Nat) (cs':List Int),i+gk=n∧iv= .int .i64 i∧QIs wr b g n cc pc fn fc pA fA pl cs' fs lv so eo way Bp∧bcT pl fs c (n-i) i cs'=C∧Frm (fun j=>j=g) w wr)
 case atStart=>exact⟨k1,cs.set k c,HDD.out,rfl,hQ1,by rw[←HC.out];unfold becL;rw[HK1.out],F1⟩
 case round=>
  clear hQ1 F1;obtain⟨i,cs',hi,rfl,hQ,hbc,F⟩:=hrel;have HI:=Lib.hid hi;have HBC:=Lib.hid hbc;clear hi hbc;obtain⟨c0,c1,c2,c3,c4,c5,c6,cf,cl⟩:=hQ.c7
  by_cases hlt:i<n
  ·obtain⟨pb,po,rfl,p1,p2,q0⟩:=hQ.ip.at_ (i:=i) (by have:=hQ.np;omega);obtain⟨a,ha⟩: ∃a:Nat,pl.getD i 0=a:=⟨(pl.getD i 0).toNat,by have:=(HIN.out i hlt).1;omega⟩
   have han:a<fn:=by have:=(HIN.out i hlt).2;omega
   obtain⟨fb,fo,rfl,f1,f2,q1⟩:=hQ.fr.at_ (i:=a) (by have:=hQ.nf;omega);obtain⟨x,hx⟩: ∃x,fs.getD a 0=x:=⟨_,rfl⟩;rw[ha]at q0;rw[hx]at q1;obtain⟨d,hd⟩: ∃d,n-i=d+1:=⟨n-i-1,by omega⟩
   have hst:bcT pl fs c (d+1) i cs'=if x=9 then bcT pl fs c d (i+1) (cs'.set i c)else cs':=by rw[←hx];show(if fs.getD (pl.getD i 0).toNat 0=9 then _ else _)=_;rw[ha,Int.toNat_natCast]
   have hbc2:=HBC.out;rw[hd,hst]at hbc2;have HBC2:=Lib.hid hbc2
   have hd1:n-(i+1)=d:=by omega
   have HD1:=Lib.hid hd1;obtain⟨hcl,hcc,_,_,hgs,hgf,hcell⟩:=hQ.ic.at_;have hgi:=hcell i (by omega);clear ha hx hd hst hbc2 hd1 hcl hcell
   by_cases h9:x=9
   ·subst h9;go_wp2
    go_quiet (fail)
    go_wp2;have hF2:Frm (fun j=>j=g) wr (wr.drewN nq):=(Frm.refl (fun j=>j=g) wr).drewN nq
    go_roundg (n-(i+1))
    case rel=>refine⟨i+1,cs'.set i c,by omega,by go_num,(QIs.frm (F:=fun _=>False) hQ ((Frm.refl (fun _=>False) wr).drewN nq) id id (fun _ _ _ _=>id)).set i c,?_,(F.trans hF2 (fun _ _ e=>e)).set rfl _⟩;have:=HBC2.out;rw[if_pos trivial]at this;rw[HD1.out];exact this
    case measure=>have:=HI.out;omega
   ·have hx9:(x==9)=false:=by simpa using h9
    have hC:cs'=C:=by have:=HBC2.out;rw[if_neg h9]at this;exact this
    have HCC:=Lib.hid hC;clear hC;go_wp2
    go_quiet (fail)
    go_wp2
    go_end0
    exact⟨rfl,by rw[←HCC.out];exact QIs.frm (F:=fun _=>False) hQ ((Frm.refl (fun _=>False) wr).drewN nq) id id (fun _ _ _ _=>id),F.drewN nq⟩
  ·have hin:i=n:=by have:=HI.out;omega
   subst hin
   have hC:cs'=C:=by have:=HBC.out;rw[Nat.sub_self]at this;exact this
   have HCC:=Lib.hid hC
   have hd2:decide ((i:Int)<(i:Int))=false:=by simp
   clear hC;go_wp2
   go_quiet (fail)
   go_wp2
   go_end0
   exact⟨rfl,by rw[←HCC.out];exact QIs.frm (F:=fun _=>False) hQ ((Frm.refl (fun _=>False) wr).drewN nq) id id (fun _ _ _ _=>id),F.drewN nq⟩
attribute [local go_sem] Oper.semAt_some
theorem results_cu {fn:Func}{p:Tmp}(h:fn.results=#[.cell p 22])(tmps:Array Value)(w:World)(b:Nat)(v:Int)(hp:tmps.getD p undef= .pointer (some ⟨b,0,none⟩))(hc:w.cell? ⟨b,0,none⟩=some (.int .u8 v)):(results fn tmps).run Tryz.prog w= .ok (.int .u8 v) w:=by
 have hp':tmps[p]?.getD undef= .pointer (some ⟨b,0,none⟩):=by simpa using hp
 have hu:=run_underlying (P:=Tryz.prog) Tryz.underlying22 (w:=w);simp[results,h,hp',asAddr,loadVar,isAgg,hu,hc,go_sem]
def AheadEnd (Y:World)(u:Nat)(cs:List Int)(sos:Int)(k:Nat)(W:World):Prop:=Blk W u 22 #[.int .u8 (ahT cs sos k)]∧Frm (fun i=>i=u∨i=Y.heap.size+1) Y W∧Y.heap.size+1<W.heap.size
theorem ahead_ok {w:World}{b g n cc pc fn fc:Nat}{pA fA:Option Addr}{pl cs fs:List Int}{lv so eo way:Int}{Bp:Nat}(h:QIs w b g n cc pc fn fc pA fA pl cs fs lv so eo way Bp){k:Nat}(hk:k≤n)(hm:n≤1048576):
 Calls Tryz.prog 113 #[.pointer (some ⟨b,0,none⟩),.int .i64 k] w fun e w'=>e= .returned (.int .u8 (ahT cs so k))∧Below w.heap.size w w':=by
 have hcl0:b<w.heap.size:=h.blk.lt;have hgs:g<w.heap.size:=(h.ic.at_).2.2.2.2.1;obtain⟨c0,c1,c2,c3,c4,c5,c6,cf,cl⟩:=h.c7;have hcc:=(h.ic.at_).2.1;have hcl:=(h.ic.at_).1
 have hkc:k≤cc:=by omega
 have HCL:=Lib.hid hcl;have hI0:Ints w 0 22 .u8 (.slice (some ⟨g,0,none⟩) k cc) (cs.take k):=h.ic.cut k (by omega);have hR0:RdInts w w.heap.size .u8 (some ⟨g,0,none⟩) (cs.take k):=hI0.rd
 have htl:(cs.take k).length=k:=by rw[List.length_take];omega
 have hget: ∀i,i<k→(cs.take k).getD i 0=cs.getD i 0:=fun i hi=>by rw[List.getD_eq_getElem?_getD,List.getElem?_take,if_pos hi,←List.getD_eq_getElem?_getD]
 have HTL:=Lib.hid htl;have HG:=Lib.hid hget;clear htl hget hcl hcc hI0;have b0:Below w.heap.size w (w.alloc (.cells #[.int .u8 0] 22)):=(Below.refl _ w).alloc (Nat.le_refl _) _;have X4:Blk (w.alloc (.cells #[.int .u8 0] 22)) w.heap.size 22 #[.int .u8 0]:=Blk.new w 22 _;refine(callsIn_wide (n:=5)).1 ?_;refine callsIn_of_wp_marks Tryz.func113 rfl trivial ?_ rfl;simp only[Tryz.ntmps113,List.size_toArray,List.length_cons,List.length_nil,Nat.reduceAdd,Nat.reduceSub,Array.replicate_succ,Array.replicate_zero,List.push_toArray,List.append_toArray,List.nil_append,List.cons_append];refine wpIn_wide.2 ?_
 go_wp2_with(go_at_call 155;refine BackC_ok.mono ?_;rintro r2 w2 ⟨rfl,B2,b2⟩)
 have hs1:(w.alloc (.cells #[.int .u8 0] 22)).heap.size=w.heap.size+1:=World.size_alloc _ _;rw[hs1]at B2 b2;have Y4:=X4.below b2 (by omega);have bY:=b0.trans (b2.mono (by omega));have QY:=h.below bY (Nat.le_refl _);have RY:=hR0.below bY (.inl (Nat.le_refl _));have hs2:=B2.lt;clear X4 b0 b2 c0 c1 c2 c3 c4 c5 c6 cf cl hR0 hs1;obtain⟨u,hu⟩: ∃u,w.heap.size=u:=⟨_,rfl⟩;rw[hu]at Y4 B2 hs2 RY bY hcl0 hgs⊢;have HU:=Lib.hid hu;clear hu;obtain⟨Y,rfl⟩: ∃Y,Y=w2:=⟨_,rfl⟩
 refine wpIn_wide.1 (wpIn_rangeFunc_break (n:=5) (F:=Fence.wide) rfl (by omega) (gf:=179) (lb:=#[.pointer (some ⟨u+1,0,none⟩)]) rfl trivial (enters_of Tryz.func179 (by kernel_rfl) rfl)
  (encs:=fun j:Nat=>clEnc j ((cs.take k).getD j 0)) (fun _=>rfl) Code.ret
  (fun j W=>(Frm (fun i=>i=Y.heap.size+1) Y W∧Y.heap.size+1<W.heap.size)∧j<k∧ahT cs so k=ahT cs so (j+1))
  (fun j _ W'=>(Frm (fun i=>i=Y.heap.size+1) Y W'∧Y.heap.size+1<W'.heap.size)∧ahT cs so k=ahT cs so j)
  (fun _ _ W'=>AheadEnd Y u cs so k W')
  (fun W=>(Frm (fun i=>i=Y.heap.size+1) Y W∧Y.heap.size+1<W.heap.size)∧ahT cs so k=so) (AheadEnd Y u cs so k)
  ?round ?st1 ?st2 ?call ?fin ?finb ?done ?stop)
 case st1=>rintro j W Wa Wb ⟨⟨h1,h2⟩,h3⟩ hF;exact⟨⟨h1.trans hF (fun _ _ e=>e),by have:=hF.size;omega⟩,h3⟩
 case st2=>rintro j W Wa Wb ⟨h1,h2,h3⟩ hF;exact⟨h1.frm hF (by omega),h2.trans hF (fun _ _ e=>.inr e),by have:=hF.size;omega⟩
 case fin=>rintro Wa Wb ⟨⟨h1,h2⟩,h3⟩ hF;exact⟨⟨h1.trans hF (fun _ _ e=>e),by have:=hF.size;omega⟩,h3⟩
 case finb=>rintro Wa Wb ⟨h1,h2,h3⟩ hF;exact⟨h1.frm hF (by omega),h2.trans hF (fun _ _ e=>.inr e),by have:=hF.size;omega⟩
 case call=>
  intro W1 hF1 hW1 Rdy Dn hsz1 hst hR1 hY
  have:=bwdC_ok (W1:=W1) (bx:=u+1) (yb:=Y.heap.size+1) (n:=k) (c:=cc) (B:=u) (A:=some ⟨g,0,none⟩) (l:=cs.take k) HTL.out.symm (by omega)
   (J:=fun j W=>((Frm (fun i=>i=Y.heap.size+1) Y W∧Y.heap.size+1<W.heap.size)∧ahT cs so k=ahT cs so j)∧Rdy W)
   ⟨⟨⟨hF1.mono (fun _ _ e=>e.elim),hW1⟩,rfl⟩,hR1⟩ (fun j W hJ=>⟨B2.frm hJ.1.1.1 (by omega),Reads.frm RY hJ.1.1.1 (fun i hi _ e=>by omega)⟩)
   (Jx:=fun W=>AheadEnd Y u cs so k W∧Dn W) (d:=4) (by omega) (fun j W hj hJ=> ?_)
  ·refine this.mono ?_;rintro e W2 ⟨hv,(⟨⟨h1,h2⟩,h3⟩|⟨h1,h2⟩)⟩
   ·exact⟨hv,.inl ⟨⟨h1,h2⟩,h3⟩⟩
   ·exact⟨hv,.inr ⟨h1,h2⟩⟩
  ·obtain⟨fn,tmps,asg,bd,hy,hRo⟩:=hY j W ⟨hJ.1.1,hj,hJ.1.2⟩ hJ.2;refine⟨fn,tmps,asg,bd,hy,hRo.mono fun e w' h=> ?_⟩
   rcases h with⟨h1,h2,h3⟩|⟨h1,h2,h3⟩
   ·exact .inl ⟨h1,h2,h3⟩
   ·exact .inr ⟨h1,h2,h3⟩
 case round=>
  rintro j W K hW ⟨⟨hI,hIs⟩,hj,hsc⟩ hK;rw[HG.out j hj];obtain⟨x,hx⟩: ∃x,cs.getD j 0=x:=⟨_,rfl⟩
  have hsj:ahT cs so (j+1)=if sdL x≠0 then sdL x else ahT cs so j:=by rw[←hx];rfl
  rw[hsj]at hsc;have CS: ∀W,Calls Tryz.prog 154 #[.int .u8 x] W fun e w'=>e= .returned (.int .u8 (sdL x))∧w'=W:=fun W=>side_ok W x;obtain⟨sd,hsd⟩: ∃sd,sdL x=sd:=⟨_,rfl⟩;rw[hsd]at CS hsc;have HSC:=Lib.hid hsc;rw[hx];clear hsc hsj hx hsd;unfold clEnc;simp only[List.zip_toArray,List.zip_cons_cons,List.zip_nil_right,List.foldl_toArray,List.foldl_cons,List.foldl_nil,List.setIfInBounds_toArray,List.set_cons_zero,List.set_cons_succ];gi_wp2;refine hK _ _ (Two.refl _ _) ?_;intro V hV;have FV:Frm (fun i=>i=Y.heap.size+1) Y V:=hI.trans hV (fun _ _ e=>e);have hVs:=hV.size;have Z4:=Y4.frm FV (by omega);obtain⟨z0,zf,zl⟩:=Z4.c1;clear hK
  by_cases hs0:sd=0
  ·subst hs0;gi_wp2;refine⟨trivial,(CallsIn.inRound (Y.heap.size+1) (callsIn_wide.2 (CS _))).mono ?_⟩;rintro r3 w3 ⟨rfl,rfl⟩;gi_wp2;refine⟨Two.refl _ _,⟨FV,by omega⟩,?_⟩;have:=HSC.out;rw[if_neg (fun h=>h rfl)]at this;exact this
  ·have hs1:(sd !=0)=true:=by simpa using hs0
   gi_wp2;refine⟨trivial,(CallsIn.inRound (Y.heap.size+1) (callsIn_wide.2 (CS _))).mono ?_⟩;rintro r3 w3 ⟨rfl,rfl⟩;gi_wp2;have FS:Frm (fun i=>i=u) w3 (w3.setCell ⟨u,0,none⟩ (.int .u8 sd)):=(Frm.refl (fun i=>i=u) w3).set rfl _
   have BS:Blk (w3.setCell ⟨u,0,none⟩ (.int .u8 sd)) u 22 #[.int .u8 sd]:=by simpa using Z4.set_ 0 (.int .u8 sd)
   have hsc:=HSC.out;rw[if_pos hs0]at hsc;have hss:=FS.size;refine⟨Two.of_frm FS (by omega) (by omega) (by omega),rfl,by rw[hsc];exact BS,(FV.mono (fun _ _ e=>.inr e)).trans FS (fun _ _ e=>.inl e),by omega⟩
 case done=>
  rintro W ⟨⟨h1,h2⟩,h3⟩ hK;have Z4:=Y4.frm h1 (by omega);obtain⟨z0,zf,zl⟩:=Z4.c1;have QW:=QY.frm (F:=fun i=>i=Y.heap.size+1) h1 (by omega) (by omega) (fun q _ _ hq=>by omega);obtain⟨c0,c1,c2,c3,c4,c5,c6,cf,cl⟩:=QW.c7;go_wp2;have FS:Frm (fun i=>i=u) W (W.setCell ⟨u,0,none⟩ (.int .u8 so)):=(Frm.refl (fun i=>i=u) W).set rfl _
  have BS:Blk (W.setCell ⟨u,0,none⟩ (.int .u8 so)) u 22 #[.int .u8 so]:=by simpa using Z4.set_ 0 (.int .u8 so)
  have hKD:=(FS.block Y.heap.size (by omega) (by omega)).trans hK;generalize W.setCell ⟨u,0,none⟩ (.int .u8 so)=WD at*;have FF:=(Frm.refl (fun i=>i=Y.heap.size) WD).put (k:=Y.heap.size) rfl (.deferred none);refine⟨by simp,.inl ⟨_,_,rfl,run_takeDeferred hKD,?_⟩⟩;refine⟨_,results_cu rfl _ _ u so rfl (BS.frm FF (by omega)).c1.1,by rw[h3],?_⟩;rw[HU.out];have FA:Frm (fun i=>u≤i) Y _:=((h1.mono (F':=fun i=>u≤i) (fun i _ e=>by omega)).trans FS (fun i _ e=>by omega)).trans FF (fun i _ e=>by omega);exact bY.trans (FA.below (by omega) (fun i hi e=>by omega))
 case stop=>rintro W hE hK;refine wpIn_wide.2 ?_;go_wp2;obtain⟨q1,q2,q3⟩:=hE;have FF:=(Frm.refl (fun i=>i=Y.heap.size) W).put (k:=Y.heap.size) rfl (.deferred none);refine⟨by simp,.inl ⟨_,_,rfl,run_takeDeferred hK,?_⟩⟩;refine⟨_,results_cu rfl _ _ u _ rfl (q1.frm FF (by omega)).c1.1,rfl,?_⟩;rw[HU.out];have FA:Frm (fun i=>u≤i) Y _:=(q2.mono (F':=fun i=>u≤i) (fun i _ e=>by omega)).trans FF (fun i _ e=>by omega);exact bY.trans (FA.below (by omega) (fun i hi e=>by omega))
attribute [local go_sem] Oper.semAt_some
def seC (cs:List Int)(way so:Int)(o d:Nat):Int:=if wiS cs way (o+1) (d-(o+1))then way else if wiA cs (o+1) (d-(o+1))then ahT cs so o else 0
def seL (pl fs:List Int)(n:Nat)(way so:Int)(o d:Nat)(cs:List Int):List Int:=if(wiS cs way (o+1) (d-(o+1))||wiA cs (o+1) (d-(o+1)))=true then becL pl fs n d (seC cs way so o d) (becL pl fs n o (seC cs way so o d) cs)else cs
theorem becL_length (pl fs:List Int)(n k:Nat)(c:Int)(cs:List Int):(becL pl fs n k c cs).length=cs.length:=by unfold becL;rw[bcT_length,List.length_set]
theorem seL_length (pl fs:List Int)(n:Nat)(way so:Int)(o d:Nat)(cs:List Int):(seL pl fs n way so o d cs).length=cs.length:=by
 unfold seL;split
 ·rw[becL_length,becL_length]
 ·rfl
theorem settle_ok {w:World}{b g n cc pc fn fc:Nat}{pA fA:Option Addr}{pl cs fs:List Int}{lv so eo way:Int}{Bp:Nat}(h:QIs w b g n cc pc fn fc pA fA pl cs fs lv so eo way Bp){o d:Nat}(hod:o<d)(hd:d<n)(hm:n≤1048576)
 (hin: ∀i,i<n→0≤pl.getD i 0∧pl.getD i 0<(fn:Int)) (hfn:fn≤4611686018427387904):
 Calls Tryz.prog 76 #[.pointer (some ⟨b,0,none⟩),.agg #[.int .i64 o,.int .i64 d]] w fun e w'=>e= .returned (.tuple #[])∧QIs w' b g n cc pc fn fc pA fA pl (seL pl fs n way so o d cs) fs lv so eo way Bp∧Frm (fun j=>j=g) w w':=by
 have F0:Frm (fun _=>False) w (w.alloc (.cells #[.int .i64 o,.int .i64 d] 129)):=(Frm.refl _ w).alloc _;have Q0:=h.frm F0 id id (fun _ _ _ _=>id);have CW:=within_ok Q0 hod hd hm;have CB: ∀(k:Nat) (c:Int) (cs':List Int) (W:World),k<n→QIs W b g n cc pc fn fc pA fA pl cs' fs lv so eo way Bp→_:=fun k c cs' W hk hQ=>become_ok hQ hk hm c hin hfn;have X3:Blk (w.alloc (.cells #[.int .i64 o,.int .i64 d] 129)) w.heap.size 129 #[.int .i64 o,.int .i64 d]:=Blk.new w 129 _;have hgs:g<w.heap.size:=(h.ic.at_).2.2.2.2.1;obtain⟨x0,x1,xf,xl⟩:=X3.c2
 have hS:seL pl fs n way so o d cs=if(wiS cs way (o+1) (d-(o+1))||wiA cs (o+1) (d-(o+1)))=true then becL pl fs n d (seC cs way so o d) (becL pl fs n o (seC cs way so o d) cs)else cs:=rfl
 have hC:seC cs way so o d=if wiS cs way (o+1) (d-(o+1))then way else if wiA cs (o+1) (d-(o+1))then ahT cs so o else 0:=rfl
 obtain⟨Z,hZ⟩: ∃Z,seL pl fs n way so o d cs=Z:=⟨_,rfl⟩;rw[hZ]at hS⊢
 have ho:o<n:=by omega
 rcases hs:wiS cs way (o+1) (d-(o+1))with _|_
 ·rcases ha:wiA cs (o+1) (d-(o+1))with _|_
  ·rw[hs,ha]at hS CW;have hzz:Z=cs:=hS;have HZZ:=Lib.hid hzz;clear hS hC hZ hzz hs ha
   go_enter Tryz.func76,Tryz.ntmps76
   go_wp2_with(go_at_call 112;refine CW.mono ?_;rintro r1 w1 ⟨rfl,b1⟩;have Q1:=Q0.below b1 (Nat.le_refl _);obtain⟨c0,c1,c2,c3,c4,c5,c6,cf,cl⟩:=Q1.c7)
   refine bodyPost_ret (results_none rfl _ _ _) rfl ?_;exact⟨rfl,by rw[HZZ.out];exact Q1,(F0.mono (F':=fun j=>j=g) (fun _ _ e=>e.elim)).trans (Frm.of_below (F:=fun j=>j=g) b1) (fun _ _ e=>e)⟩
  ·rw[hs,ha]at hS CW
   have hcc:seC cs way so o d=ahT cs so o:=by rw[hC,hs,ha];rfl
   obtain⟨x,hx⟩: ∃x,ahT cs so o=x:=⟨_,rfl⟩;rw[hcc,hx]at hS;have hzz:Z=becL pl fs n d x (becL pl fs n o x cs):=hS;have HZZ:=Lib.hid hzz
   have CA: ∀(W:World),QIs W b g n cc pc fn fc pA fA pl cs fs lv so eo way Bp→Calls Tryz.prog 113 #[.pointer (some ⟨b,0,none⟩),.int .i64 o] W fun e w'=>e= .returned (.int .u8 x)∧Below W.heap.size W w':=fun W hQ=>by rw[←hx];exact ahead_ok hQ (by omega) hm
   clear hS hC hZ hzz hs ha hcc hx
   go_enter Tryz.func76,Tryz.ntmps76
   go_wp2_with(first
    |(go_at_call 112;refine CW.mono ?_;rintro r1 w1 ⟨rfl,b1⟩;have Q1:=Q0.below b1 (Nat.le_refl _);obtain⟨c0,c1,c2,c3,c4,c5,c6,cf,cl⟩:=Q1.c7;have X31:=X3.below b1 xl;obtain⟨y0,y1,yf,yl⟩:=X31.c2)
    |(go_at_call 113;refine(CA _ Q1).mono ?_;rintro r2 w2 ⟨rfl,b2⟩;have Q2:=Q1.below b2 (Nat.le_refl _);have X32:=X31.below b2 X31.lt;obtain⟨y20,y21,y2f,y2l⟩:=X32.c2)
    |(go_at_call_of 114 o;refine(CB o x _ _ ho Q2).mono ?_;rintro r3 w3 ⟨rfl,Q3,F3⟩;have X33:=X32.frm F3 (by omega);obtain⟨y30,y31,y3f,y3l⟩:=X33.c2)
    |(go_at_call_of 114 d;refine(CB d x _ _ hd Q3).mono ?_;rintro r4 w4 ⟨rfl,Q4,F4⟩))
   go_end0
   exact⟨rfl,by rw[HZZ.out];exact Q4,((((F0.mono (F':=fun j=>j=g) (fun _ _ e=>e.elim)).trans (Frm.of_below (F:=fun j=>j=g) b1) (fun _ _ e=>e)).trans (Frm.of_below (F:=fun j=>j=g) b2) (fun _ _ e=>e)).trans F3 (fun _ _ e=>e)).trans F4 (fun _ _ e=>e)⟩
 ·rw[hs]at hS CW
  have hcc:seC cs way so o d=way:=by rw[hC,hs];rfl
  rw[hcc]at hS
  have hzz:Z=becL pl fs n d way (becL pl fs n o way cs):=by rw[hS,Bool.true_or,if_pos rfl]
  have HZZ:=Lib.hid hzz;obtain⟨aa,haa⟩: ∃aa,wiA cs (o+1) (d-(o+1))=aa:=⟨_,rfl⟩;rw[haa]at CW;clear hS hC hZ hzz hs hcc haa
  go_enter Tryz.func76,Tryz.ntmps76
  go_wp2_with(first
   |(go_at_call 112;refine CW.mono ?_;rintro r1 w1 ⟨rfl,b1⟩;have Q1:=Q0.below b1 (Nat.le_refl _);obtain⟨c0,c1,c2,c3,c4,c5,c6,cf,cl⟩:=Q1.c7;have X31:=X3.below b1 xl;obtain⟨y0,y1,yf,yl⟩:=X31.c2)
   |(go_at_call_of 114 o;refine(CB o way _ _ ho Q1).mono ?_;rintro r3 w3 ⟨rfl,Q3,F3⟩;have X33:=X31.frm F3 (by omega);obtain⟨y30,y31,y3f,y3l⟩:=X33.c2)
   |(go_at_call_of 114 d;refine(CB d way _ _ hd Q3).mono ?_;rintro r4 w4 ⟨rfl,Q4,F4⟩))
  go_end0
  exact⟨rfl,by rw[HZZ.out];exact Q4,(((F0.mono (F':=fun j=>j=g) (fun _ _ e=>e.elim)).trans (Frm.of_below (F:=fun j=>j=g) b1) (fun _ _ e=>e)).trans F3 (fun _ _ e=>e)).trans F4 (fun _ _ e=>e)⟩
def PSin (p:PS)(k:Nat):Prop:=(∀e∈p.l,0≤e.1∧e.1<(k:Int))∧ ∀e∈p.f,0≤e.1∧e.1<e.2∧e.2<(k:Int)
theorem PSin.mono {p:PS}{k k':Nat}(h:PSin p k)(hk:k≤k'):PSin p k':=⟨fun e he=>by have:=h.1 e he;omega,fun e he=>by have:=h.2 e he;omega⟩
theorem scanK_len {l:List (Int×Int)}{key:Int}{j:Nat}(h:scanK l key l.length=some j):j<l.length:=scanK_lt h
theorem stpM_in {p:PS}{k:Nat}(h:PSin p k)(sd ky:Int):PSin (stpM p ⟨k,sd,ky⟩) (k+1):=by
 unfold stpM
 split
 ·exact h.mono (by omega)
 ·split
  ·refine⟨fun e he=> ?_,fun e he=>by have:=h.2 e he;omega⟩;unfold opL at he
   split at he
   ·have:=h.1 e he;omega
   ·split at he
    ·cases he
    ·rcases List.mem_append.1 he with he|he
     ·have:=h.1 e he;omega
     ·simp at he;subst he;simp only;omega
  ·constructor
   ·intro e he;simp only at he;unfold clL at he
    split at he
    ·have:=h.1 e (List.mem_of_mem_take he);omega
    ·have:=h.1 e he;omega
   ·intro e he;simp only at he;unfold clF at he
    split at he
    ·rename_i j hj
     rcases List.mem_append.1 he with he|he
     ·have:=h.2 e he;omega
     ·simp at he;subst he;have hjl:=scanK_len hj
      have:(p.l.getD j (0,0))∈p.l:=by rw[List.getD_eq_getElem?_getD,List.getElem?_eq_getElem hjl];exact List.getElem_mem hjl
      have:=h.1 _ this;rw[List.getD_eq_getElem?_getD]at this;simp only;omega
    ·have:=h.2 e he;omega
theorem fdT_in (ch:List Chr)(rs:List Int)(s:Sq): ∀k,PSin (fdT ch rs s k) k
 |0=>⟨fun e he=>by simp[fdT,mkT]at he,fun e he=>by simp[fdT,mkT]at he⟩
 |k+1=>by
  rw[fdT_succ];have h:=fdT_in ch rs s k;unfold mk1
  split
  ·simp only
   split
   ·exact stpM_in h _ _
   ·split
    ·exact stpM_in h _ _
    ·exact h.mono (by omega)
  ·exact h.mono (by omega)
theorem findF_in {ch:List Chr}{rs:List Int}{s:Sq}: ∀e∈findF ch rs s,0≤e.1∧e.1<e.2∧e.2<(s.pl.length:Int):=by
 intro e he;unfold findF at he
 split at he
 ·exact(fdT_in ch rs s s.pl.length).2 e ((mem_ssort _).1 he)
 ·cases he
theorem findF_len {ch:List Chr}{rs:List Int}{s:Sq}:(findF ch rs s).length≤s.pl.length:=by
 unfold findF
 split
 ·rw[ssort_length];exact(fdT_ok ch rs s s.pl.length).2.1
 ·simp
def resT (s:Sq)(fs:List Int)(D:List (Int×Int)):Nat→List Int
 |0=>s.cs
 |k+1=>seL s.pl fs s.pl.length (wayL s.lv) s.so (D.getD k (0,0)).1.toNat (D.getD k (0,0)).2.toNat (resT s fs D k)
theorem resT_length (s:Sq)(fs:List Int)(D:List (Int×Int)): ∀k,(resT s fs D k).length=s.cs.length
 |0=>rfl
 |k+1=>by unfold resT;rw[seL_length,resT_length s fs D k]
def resE (rn fn:Nat)(s:Sq):Int:=if mayL rn s≠0 then mayL rn s else mayL fn s
def Sq.zero:Sq:=⟨[],[],0,0,0⟩
def resS (ch:List Chr)(rs fs:List Int)(s:Sq):Sq:=if resE rs.length fs.length s=0 then{s with cs:=resT s fs (findF ch rs s) (findF ch rs s).length}else Sq.zero
end
section
attribute [local go_sem] Oper.semAt_some
theorem BrsAt.rd {W:World}{B:Nat}{v:Value}{D:List (Int×Int)}(h:BrsAt W B v D): ∃A c,v= .slice A D.length c∧RdR brC 2 W W.heap.size A D:=by
 rcases h with⟨rfl,rfl⟩|⟨g,cap,rfl,h2,_⟩
 ·exact⟨none,0,rfl,Reads.none_⟩
 ·exact⟨some ⟨g,0,none⟩,cap,rfl,h2.rd⟩
def SqOwn (W:World)(B:Nat)(v:Value)(s:Sq):Prop:= ∃pv cv,v= .agg (s.is pv cv)∧Ints W B 3 .i64 pv s.pl∧Ints W B 22 .u8 cv s.cs∧ ∀j,pv.ownBlock=some j→cv.ownBlock≠some j
theorem PResolve_ok {w:World}{Bp Br Bf Bs rc fc:Nat}{pv sv:Value}{rest:Int}{ch:List Chr}{rA fA:Option Addr}{rs fs:List Int}{s:Sq}(hP:PropsIs w Bp pv rest ch)(hR:RdInts w Br .i32 rA rs)(hFs:RdInts w Bf .u8 fA fs)(hS:SqIs w Bs sv s)(hn:s.pl.length≤1048576)(hrn:rs.length≤4611686018427387904)(hfn:fs.length≤4611686018427387904):
 Calls Tryz.prog 46 #[.iface 25 pv,.slice rA rs.length rc,.slice fA fs.length fc,sv] w fun r w'=> ∃v,r= .returned (.tuple #[v,.int .i64 (resE rs.length fs.length s)])∧SqOwn w' w.heap.size v (resS ch rs fs s)∧Below w.heap.size w w':=by
 have CF: ∀W,Frm (fun _=>False) w W→Calls Tryz.prog 73 #[.iface 25 pv,.slice rA rs.length rc,sv] W fun r w'=> ∃v,r= .returned (.tuple #[v,.int .i64 (mayL rs.length s)])∧BrsAt w' W.heap.size v (findF ch rs s)∧Below W.heap.size W w':=fun W hF=>PFind_ok (hP.frm hF) (RdInts.frmA hR hF (fun _ _ _=>id)) (hS.frm hF) hn hrn
 replace hFs:=hFs.clip;obtain⟨E,hE⟩: ∃E,resE rs.length fs.length s=E:=⟨_,rfl⟩;obtain⟨S,hSS⟩: ∃S,resS ch rs fs s=S:=⟨_,rfl⟩;rw[hE,hSS];obtain⟨m,hm⟩: ∃m,mayL rs.length s=m:=⟨_,rfl⟩;obtain⟨F,hF⟩: ∃F,findF ch rs s=F:=⟨_,rfl⟩;obtain⟨rn,hrl⟩: ∃rn,rs.length=rn:=⟨_,rfl⟩;obtain⟨fn,hfl⟩: ∃fn,fs.length=fn:=⟨_,rfl⟩;rw[hm,hF,hrl]at CF;rw[hrl,hfl];rw[hfl]at hfn;have HE:=Lib.hid hE;have HSS:=Lib.hid hSS;have HM:=Lib.hid hm;have HF:=Lib.hid hF;have HRL:=Lib.hid hrl;have HFL:=Lib.hid hfl;clear hE hSS hm hF hrl hfl hP hR hrn;obtain⟨A,A2,c,c2,hsv,h1,h2,h3,h4⟩:=hS;replace h1:=h1.clip;replace h2:=h2.clip;obtain⟨n,hnn⟩: ∃n,s.pl.length=n:=⟨_,rfl⟩;obtain⟨n2,hn2⟩: ∃n2,s.cs.length=n2:=⟨_,rfl⟩;rw[hnn,hn2]at hsv;rw[hnn]at hn h3;have HN:=Lib.hid hnn;have HN2:=Lib.hid hn2;subst hsv;simp only[Sq.is]at CF⊢;clear hnn hn2;obtain⟨W1,hW1⟩: ∃W1,(w.alloc (.cells #[.slice A n c,.slice A2 n2 c2,.int .i8 s.lv,.int .u8 s.so,.int .u8 s.eo] 87)).alloc (.cells #[.slice none 0 0,.slice none 0 0,.int .i8 0,.int .u8 0,.int .u8 0] 87)=W1:=⟨_,rfl⟩
 have F1:Frm (fun _=>False) w W1:=by rw[←hW1];exact((Frm.refl _ w).alloc _).alloc _
 have X7:Blk W1 w.heap.size 87 #[.slice A n c,.slice A2 n2 c2,.int .i8 s.lv,.int .u8 s.so,.int .u8 s.eo]:=by rw[←hW1];exact(Blk.new w 87 _).alloc _
 have X8:Blk W1 (w.heap.size+1) 87 #[.slice none 0 0,.slice none 0 0,.int .i8 0,.int .u8 0,.int .u8 0]:=by rw[←hW1];exact Blk.at_ (by simp)
 have CF1:=CF W1 F1
 have hsz1:w.heap.size+1+1=W1.heap.size:=by rw[←hW1];simp
 have HW1:=Lib.hid hW1;obtain⟨x0,x1,x2,x3,x4,xf,xl⟩:=X7.c5;clear hW1 CF
 by_cases hm0:m=0
 ·subst hm0;have hck:=(may_zero HM.out).1;have hp0:=(chk_pos hck).1
  have hEm:E=mayL fn s:=by rw[←HE.out];unfold resE;rw[HM.out,if_neg (fun h=>h rfl),HFL.out]
  obtain⟨ab,ao,rfl,a1,a2,ca⟩:=h1.at_ (i:=n-1) (by have:=HN.out;omega);obtain⟨q,hq⟩: ∃q,s.pl.getD (n-1) 0=q:=⟨_,rfl⟩;rw[hq]at ca
  have hmay:mayL fn s=if(fn:Int)≤q then 2 else 0:=by unfold mayL;rw[if_neg (fun h=>h hck),HN.out,hq]
  have hlast:IntKind.i64.wrap ((n:Int)-1)=((n-1:Nat):Int):=by have:=HN.out;rw[IntWalk.i64_in _ (by omega)];omega
  have hpl:n-1<n:=by have:=HN.out;omega
  have HQ:=Lib.hid hq;have HCK:=Lib.hid hck;clear hq hck hp0
  by_cases hge:(fn:Int)≤q
  ·have hE2:E=2:=by rw[hEm,hmay,if_pos hge]
   have hS2:S=Sq.zero:=by rw[←HSS.out];unfold resS;rw[if_neg (by rw[HE.out,hE2];omega)]
   subst hE2 hS2;clear hEm hmay
   go_enter Tryz.func46,Tryz.ntmps46
   go_upto_region 1 with(fail)
   rw[HW1.out]
   go_wp2_with(go_at_call 73;refine CF1.mono ?_;rintro r1 w1 ⟨lv,rfl,L1,b1⟩;have X71:=X7.below b1 X7.lt;have X81:=X8.below b1 X8.lt;obtain⟨y0,y1,y2,y3,y4,yf,yl⟩:=X71.c5;obtain⟨z0,z1,z2,z3,z4,zf,zl⟩:=X81.c5;have hq1:w1.cell? ⟨ab,ao+(n-1),none⟩=some (.int .i64 q):=((bcell b1).1 ab _ (by omega)).trans (((bcell (F1.below (Nat.le_refl _) (fun _ _=>id))).1 ab _ a1).trans ca))
   have B8:=blk_put5 (.slice none 0 0) (.slice none 0 0) (.int .i8 0) (.int .u8 0) (.int .u8 0) X81;have F8:=frm_put5 w1 (w.heap.size+1) (.slice none 0 0) (.slice none 0 0) (.int .i8 0) (.int .u8 0) (.int .u8 0);generalize ((((w1.setCell ⟨w.heap.size+1,0,none⟩ (.slice none 0 0)).setCell ⟨w.heap.size+1,1,none⟩ (.slice none 0 0)).setCell ⟨w.heap.size+1,2,none⟩ (.int .i8 0)).setCell ⟨w.heap.size+1,3,none⟩ (.int .u8 0)).setCell ⟨w.heap.size+1,4,none⟩ (.int .u8 0)=W8 at*;have bF:Below w.heap.size w W8:=((F1.below (Nat.le_refl _) (fun _ _=>id)).trans (b1.mono (by omega))).trans (F8.below (by have:=b1.size;omega) (fun i hi e=>by omega));refine bodyPost_ret (results_row1 rfl _ _ (w.heap.size+1) 87 _ _ rfl B8 Tryz.underlying87 rfl (by kernel_rfl)) rfl ?_;exact⟨_,rfl,⟨_,_,rfl,Ints.nil _ _ _ _,Ints.nil _ _ _ _,by simp[Value.ownBlock]⟩,bF⟩
  ·have hE2:E=0:=by rw[hEm,hmay,if_neg hge]
   have hS2:S={s with cs:=resT s fs F F.length}:=by rw[←HSS.out];unfold resS;rw[if_pos (by rw[HE.out,hE2]),HF.out]
   subst hE2 hS2;clear hEm
   have hmf:mayL fn s=0:=by rw[hmay,if_neg hge]
   have hin:=(may_zero hmf).2;have hlen:=(chk_pos HCK.out).2;have hFin:=findF_in (ch:=ch) (rs:=rs) (s:=s);have hFlen:=findF_len (ch:=ch) (rs:=rs) (s:=s);rw[HF.out]at hFin hFlen;have HIN:=Lib.hid hin;have HFIN:=Lib.hid hFin
   have hFl:F.length≤1048576:=by have:=HN.out;omega
   have HFLN:=Lib.hid hFlen
   have hnn:n2=n:=by have:=HN.out;have:=HN2.out;omega
   have HNN:=Lib.hid hnn;clear hmay hmf hin hlen hFin hFlen hnn
   go_enter Tryz.func46,Tryz.ntmps46
   go_upto_region 1 with(fail)
   rw[HW1.out]
   go_upto_region 6 with(go_at_call 73;refine CF1.mono ?_;rintro r1 w1 ⟨lv,rfl,L1,b1⟩;have X71:=X7.below b1 X7.lt;have X81:=X8.below b1 X8.lt;obtain⟨y0,y1,y2,y3,y4,yf,yl⟩:=X71.c5;have hq1:w1.cell? ⟨ab,ao+(n-1),none⟩=some (.int .i64 q):=((bcell b1).1 ab _ (by omega)).trans (((bcell (F1.below (Nat.le_refl _) (fun _ _=>id))).1 ab _ a1).trans ca))
   have hc7: ∀W,Frm (fun _=>False) w W→Calls Tryz.prog 74 #[.agg #[.slice (some ⟨ab,ao,none⟩) n c,.slice A2 n2 c2,.int .i8 s.lv,.int .u8 s.so,.int .u8 s.eo]] W fun r w'=> ∃pv cv,r= .returned (.agg #[pv,cv,.int .i8 s.lv,.int .u8 s.so,.int .u8 s.eo])∧Ints w' W.heap.size 3 .i64 pv s.pl∧Ints w' W.heap.size 22 .u8 cv s.cs∧(∀j,pv.ownBlock=some j→cv.ownBlock≠some j)∧Below W.heap.size W w':=fun W hW=>Copy_ok (s:=s) HN.out.symm HN2.out.symm (RdInts.frmA h1 hW (fun _ _ _=>id)) (RdInts.frmA h2 hW (fun _ _ _=>id)) (by omega) (by have:=HNN.out;omega)
   have FW1:Frm (fun _=>False) w w1:=F1.trans (Frm.of_below b1) (fun _ _ h=>h);have FWd:Frm (fun _=>False) w w1.drew:=FW1.drew;have b10:=b1.size;obtain⟨lA,lc,rfl,lR⟩:=L1.rd;clear x0 x1 x2 x3 x4 xf xl CF1 hq1
   go_region_held3 (fun W=>W.cell? ⟨w.heap.size,0,none⟩=some (.slice (some ⟨ab,ao,none⟩) n c)∧W.cell? ⟨w.heap.size,1,none⟩=some (.slice A2 n2 c2)∧W.cell? ⟨w.heap.size,2,none⟩=some (.int .i8 s.lv)∧W.cell? ⟨w.heap.size,3,none⟩=some (.int .u8 s.so)∧W.cell? ⟨w.heap.size,4,none⟩=some (.int .u8 s.eo)∧Frm (fun _=>False) w W) (first|(refine⟨?_,?_,?_,?_,?_,?_⟩<;>assumption)|(refine⟨?_,?_,?_,?_,?_,?_⟩<;>first|exact Frm.alloc (by assumption) _|(rw[World.cell?_alloc_lt _ _ _ (by assumption)];assumption)))
    (first
     |(go_at_call 74;refine(hc7 _ (by assumption)).mono ?_;rintro r2 w2 ⟨pv2,cv2,rfl,I1,I2,hap,b2⟩;have q0:=((bcell b2).1 w.heap.size 0 yl).trans y0;have q1:=((bcell b2).1 w.heap.size 1 yl).trans y1;have q2:=((bcell b2).1 w.heap.size 2 yl).trans y2;have q3:=((bcell b2).1 w.heap.size 3 yl).trans y3;have q4:=((bcell b2).1 w.heap.size 4 yl).trans y4;have yl2:w.heap.size<w2.heap.size:=Nat.lt_of_lt_of_le yl b2.size;have FW2:Frm (fun _=>False) w w2:=FWd.trans (Frm.of_below b2) (fun _ _ h=>h))
     |(go_at_call 75;refine(Way_ok _ s.lv).mono ?_;rintro r3 w3 ⟨rfl,rfl⟩))
   rename_i hHeld
   clear hHeld q0 q1 q2 q3 q4 y0 y1 y2 y3 y4 yf hc7
   have hnpos:0<n:=by omega
   obtain⟨gp,pc2,rfl⟩:=I1.form (by have:=HN.out;omega);obtain⟨g,cc2,rfl⟩:=I2.form (by have:=HN2.out;have:=HNN.out;omega);rw[HN.out]at I1;rw[HN2.out,HNN.out]at I2;rw[HN.out,HN2.out,HNN.out];have hgp:=I1.lt gp rfl;have hgg:=I2.lt g rfl;have hpg:gp≠g:=fun e=>hap gp rfl (by rw[e];rfl);have hsd:w1.drew.heap.size=w1.heap.size:=rfl;rw[hsd]at hgp hgg;have b22:Below w1.heap.size w1 w2:=⟨b2.os,b2.tape,b2.output,b2.size,b2.block⟩;have X82:=X81.below b22 X81.lt;have X822:=X82.alloc (.cells #[.slice (some ⟨gp,0,none⟩) n pc2,.slice (some ⟨g,0,none⟩) n cc2,.int .i8 s.lv,.int .u8 s.so,.int .u8 s.eo,.slice fA fn fc,.int .u8 (wayL s.lv)] 127);have lR2:=((lR.below b22 (.inl (Nat.le_refl _))).alloc (.cells #[.slice (some ⟨gp,0,none⟩) n pc2,.slice (some ⟨g,0,none⟩) n cc2,.int .i8 s.lv,.int .u8 s.so,.int .u8 s.eo,.slice fA fn fc,.int .u8 (wayL s.lv)] 127));have hfr:=RdInts.frmA hFs FW2 (fun _ _ _=>id)
   have hs10:w.heap.size+1+1≤w1.heap.size:=by omega
   have Q0:QIs (w2.alloc (.cells #[.slice (some ⟨gp,0,none⟩) n pc2,.slice (some ⟨g,0,none⟩) n cc2,.int .i8 s.lv,.int .u8 s.so,.int .u8 s.eo,.slice fA fn fc,.int .u8 (wayL s.lv)] 127)) w2.heap.size g n cc2 pc2 fn fc (some ⟨gp,0,none⟩) fA s.pl s.cs fs s.lv s.so s.eo (wayL s.lv) w2.heap.size:=by
    refine⟨Blk.new w2 127 _,(I1.rd.alloc _),(I2.base (fun _ _=>Nat.zero_le _)).alloc _,((hfr.alloc _).more (by have:=FW2.size;omega)),HN.out,HFL.out,by omega,?_⟩;rintro q off (e|e)
    ·injection e with e
     injection e with e
     subst e;exact⟨hpg,by omega,by rw[World.size_alloc];omega⟩
    ·have:q<w.heap.size:=by
      obtain⟨b',off',e2,h5,_⟩:=hFs.2 (by have:=HFL.out;have:=(HIN.out 0 (by have:=HN.out;omega));omega);rw[e]at e2
      injection e2 with e2
      injection e2 with e2
      omega
     exact⟨by omega,by omega,by rw[World.size_alloc];omega⟩
   obtain⟨WB,hWB⟩: ∃WB,w2.alloc (.cells #[.slice (some ⟨gp,0,none⟩) n pc2,.slice (some ⟨g,0,none⟩) n cc2,.int .i8 s.lv,.int .u8 s.so,.int .u8 s.eo,.slice fA fn fc,.int .u8 (wayL s.lv)] 127)=WB:=⟨_,rfl⟩;rw[hWB]at Q0 X822 lR2
   have I1B:Ints WB w1.heap.size 3 .i64 (.slice (some ⟨gp,0,none⟩) n pc2) s.pl:=by rw[←hWB];exact I1.alloc _
   have bWB:Below w.heap.size w WB:=by rw[←hWB];exact(FW2.alloc _).below (Nat.le_refl _) (fun _ _=>id)
   have hWs:w2.heap.size<WB.heap.size:=by rw[←hWB];simp
   have HWB:=Lib.hid hWB;clear hWB I1 I2 lR hfr hap;obtain⟨fl,hfll⟩: ∃fl,F.length=fl:=⟨_,rfl⟩;rw[hfll]at hFl⊢;have HFLL:=Lib.hid hfll;clear hfll;go_wp2;rw[HWB.out];have hQs:QIs WB w2.heap.size g n cc2 pc2 fn fc (some ⟨gp,0,none⟩) fA s.pl (resT s fs F 0) fs s.lv s.so s.eo (wayL s.lv) w2.heap.size:=Q0
   go_loopg [48] fl (fun gk kv wr=> ∃k:Nat,k+gk=fl∧kv= .int .i64 k∧QIs wr w2.heap.size g n cc2 pc2 fn fc (some ⟨gp,0,none⟩) fA s.pl (resT s fs F k) fs s.lv s.so s.eo (wayL s.lv) w2.heap.size∧Frm (fun j=>j=g) WB wr)
   case atStart=>exact⟨0,by omega,rfl,hQs,Frm.refl _ _⟩
   case round=>
    clear hQs Q0;obtain⟨k,hk,rfl,Q,Fg⟩:=hrel;have HK:=Lib.hid hk;clear hk;have hFs2:=Fg.size
    by_cases hlt:k<fl
    ·obtain⟨x,hx⟩: ∃x,F[k]?=some x:=⟨_,List.getElem?_eq_getElem (by have:=HFLL.out;omega)⟩
     have hgd:F.getD k (0,0)=x:=by rw[List.getD_eq_getElem?_getD,hx];rfl
     have hxm:x∈F:=List.mem_of_getElem? hx;obtain⟨hx1,hx2,hx3⟩:=HFIN.out x hxm;have lRk:RdR brC 2 wr w1.heap.size lA F:=Reads.frm lR2 Fg (fun j hj _ e=>by omega);obtain⟨lb,lo,rfl,l1,l2,lcl⟩:=lRk.at_ encB hx (by omega);have u0:=lcl 0 _ rfl;have u1:=lcl 1 _ rfl;rw[Nat.add_zero]at u0;rw[←Nat.add_assoc]at u1;obtain⟨o,ho⟩: ∃o:Nat,x.1=o:=⟨x.1.toNat,by omega⟩;obtain⟨d,hd⟩: ∃d:Nat,x.2=d:=⟨x.2.toNat,by omega⟩
     have hnx:resT s fs F (k+1)=seL s.pl fs n (wayL s.lv) s.so o d (resT s fs F k):=by show seL s.pl fs s.pl.length (wayL s.lv) s.so (F.getD k (0,0)).1.toNat (F.getD k (0,0)).2.toNat (resT s fs F k)=_;rw[hgd,ho,hd,HN.out,Int.toNat_natCast,Int.toNat_natCast]
     rw[ho]at u0;rw[hd]at u1;have FA:Frm (fun _=>False) wr (wr.alloc (.cells #[.int .i64 o,.int .i64 d] 129)):=(Frm.refl _ wr).alloc _;have CS:=settle_ok (Q.frm FA id id (fun _ _ _ _=>id)) (o:=o) (d:=d) (by omega) (by have:=HN.out;omega) hn (fun i hi=>HIN.out i (by have:=HN.out;omega)) hfn;have HNX:=Lib.hid hnx;clear hx hgd hxm hx1 hx2 hx3 lRk lcl ho hd hnx
     go_wp2_with(go_at_call 76;refine CS.mono ?_;rintro r5 w5 ⟨rfl,Q5,F5⟩)
     go_roundg (fl-(k+1))
     case rel=>exact⟨k+1,by have:=HK.out;omega,by go_num,by rw[HNX.out];exact Q5,(Fg.trans (FA.mono (F':=fun j=>j=g) (fun _ _ e=>e.elim)) (fun _ _ e=>e)).trans F5 (fun _ _ e=>e)⟩
     case measure=>have:=HK.out;omega
    ·have hkf:k=fl:=by have:=HK.out;omega
     subst hkf;obtain⟨c0,c1,c2',c3,c4,c5,c6,cf,cl⟩:=Q.c7;have X83:=X822.frm Fg (by omega);obtain⟨z0,z1,z2,z3,z4,zf,zl⟩:=X83.c5;go_wp2;have B8:=blk_put5 (.slice (some ⟨gp,0,none⟩) n pc2) (.slice (some ⟨g,0,none⟩) n cc2) (.int .i8 s.lv) (.int .u8 s.so) (.int .u8 s.eo) X83;have F8:=frm_put5 wr (w.heap.size+1) (.slice (some ⟨gp,0,none⟩) n pc2) (.slice (some ⟨g,0,none⟩) n cc2) (.int .i8 s.lv) (.int .u8 s.so) (.int .u8 s.eo);generalize ((((wr.setCell ⟨w.heap.size+1,0,none⟩ (.slice (some ⟨gp,0,none⟩) n pc2)).setCell ⟨w.heap.size+1,1,none⟩ (.slice (some ⟨g,0,none⟩) n cc2)).setCell ⟨w.heap.size+1,2,none⟩ (.int .i8 s.lv)).setCell ⟨w.heap.size+1,3,none⟩ (.int .u8 s.so)).setCell ⟨w.heap.size+1,4,none⟩ (.int .u8 s.eo)=W8 at*;refine bodyPost_ret (results_row1 rfl _ _ (w.heap.size+1) 87 _ _ rfl B8 Tryz.underlying87 rfl (by kernel_rfl)) rfl ?_;have bF:Below w.heap.size w W8:=(bWB.trans (Fg.below (by omega) (fun i hi e=>by omega))).trans (F8.below (by omega) (fun i hi e=>by omega));refine⟨_,rfl,⟨_,_,rfl,?_,?_,?_⟩,bF⟩
     ·exact((I1B.frm Fg (fun j e=>by have:gp=j:=by simpa[Value.ownBlock]using e
                                     omega)).frm F8 (fun j e=>by have:gp=j:=by simpa[Value.ownBlock]using e
                                                                 omega)).base (fun j e=>by have:gp=j:=by simpa[Value.ownBlock]using e
                                                                                           omega)
     ·rw[HFLL.out]
      exact(Q.ic.frm F8 (fun j e=>by have:g=j:=by simpa[Value.ownBlock]using e
                                     omega)).base (fun j e=>by have:g=j:=by simpa[Value.ownBlock]using e
                                                               omega)
     ·intro j e e2
      have h5:gp=j:=by simpa[Value.ownBlock]using e
      have h6:g=j:=by simpa[Value.ownBlock]using e2
      omega
 ·have hEm:E=m:=by rw[←HE.out];unfold resE;rw[HM.out,if_pos hm0]
  have hS2:S=Sq.zero:=by rw[←HSS.out];unfold resS;rw[if_neg (by rw[HE.out,hEm];exact hm0)]
  subst hEm hS2
  have hm1:(E !=0)=true:=by simpa using hm0
  go_enter Tryz.func46,Tryz.ntmps46
  go_upto_region 1 with(fail)
  rw[HW1.out]
  go_wp2_with(go_at_call 73;refine CF1.mono ?_;rintro r1 w1 ⟨lv,rfl,L1,b1⟩;have X81:=X8.below b1 X8.lt;obtain⟨z0,z1,z2,z3,z4,zf,zl⟩:=X81.c5)
  have B8:=blk_put5 (.slice none 0 0) (.slice none 0 0) (.int .i8 0) (.int .u8 0) (.int .u8 0) X81;have F8:=frm_put5 w1 (w.heap.size+1) (.slice none 0 0) (.slice none 0 0) (.int .i8 0) (.int .u8 0) (.int .u8 0);generalize ((((w1.setCell ⟨w.heap.size+1,0,none⟩ (.slice none 0 0)).setCell ⟨w.heap.size+1,1,none⟩ (.slice none 0 0)).setCell ⟨w.heap.size+1,2,none⟩ (.int .i8 0)).setCell ⟨w.heap.size+1,3,none⟩ (.int .u8 0)).setCell ⟨w.heap.size+1,4,none⟩ (.int .u8 0)=W8 at*;have bF:Below w.heap.size w W8:=((F1.below (Nat.le_refl _) (fun _ _=>id)).trans (b1.mono (by omega))).trans (F8.below (by have:=b1.size;omega) (fun i hi e=>by omega));refine bodyPost_ret (results_row1 rfl _ _ (w.heap.size+1) 87 _ _ rfl B8 Tryz.underlying87 rfl (by kernel_rfl)) rfl ?_;exact⟨_,rfl,⟨_,_,rfl,Ints.nil _ _ _ _,Ints.nil _ _ _ _,by simp[Value.ownBlock]⟩,bF⟩
end
end Go.Proofs.YtllolnkkepacjaaGreat
