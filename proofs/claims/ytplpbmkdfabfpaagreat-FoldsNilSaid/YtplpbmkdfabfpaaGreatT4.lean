/- Level runs: the plain word; the number of those of one level. Level runs: what the iterator tells, round by round. Level runs: what a text holds; the level of a kept character. A sequence of some runs: the plain word; what the program makes of runs. -/
import Derived.Test.YtplpbmkdfabfpaaGreatP1
import Derived.WalkLawsBesides
import Derived.Test.YtplpbmkdfabfpaaGreatRng3
import Derived.RangeFuncLeaves
import Derived.TacticsInMore
import Derived.LoopNIn
import Derived.LoopIn
import Derived.Sort.LoopGhostIn
import Derived.BigRegionIn
import Derived.Deep.RegionHeld3
import Derived.Deep.RegionLaw
set_option maxRecDepth 100000
set_option maxHeartbeats 2000000
namespace Go.Proofs.YtplpbmkdfabfpaaGreat
open Go.RowKit
def lvAt (lv:List Int)(a:Int):Int:=lv.getD a.toNat 0
def spanN (lv:List Int)(v:Int):List Int→Nat
 |[]=>0
 |a::t=>if lvAt lv a=v then spanN lv v t+1 else 0
theorem spanN_le (lv:List Int)(v:Int): ∀t,spanN lv v t≤t.length
 |[]=>Nat.le_refl _
 |a::t=>by
  have:=spanN_le lv v t;unfold spanN
  split<;>simp<;>omega
theorem spanN_in (lv:List Int)(v:Int): ∀(t:List Int) (k:Nat),k<spanN lv v t→lvAt lv (t.getD k 0)=v
 |[],k,h=>by simp[spanN]at h
 |a::t,k,h=>by
  unfold spanN at h
  split at h
  ·cases k with
   |zero=>simpa
   |succ k=>simpa using spanN_in lv v t k (by omega)
  ·omega
theorem spanN_out (lv:List Int)(v:Int): ∀(t:List Int),spanN lv v t<t.length→lvAt lv (t.getD (spanN lv v t) 0)≠v
 |[],h=>by simp at h
 |a::t,h=>by
  unfold spanN at h⊢
  split at h
  ·rename_i e
   rw[if_pos e]
   simpa using spanN_out lv v t (by simpa using h)
  ·rename_i e
   rw[if_neg e]
   simpa using e
theorem spanN_is {lv:List Int}{v:Int}{t:List Int}{j:Nat}(h1: ∀k,k<j→lvAt lv (t.getD k 0)=v)(h2:j≤t.length)(h3:j<t.length→lvAt lv (t.getD j 0)≠v):spanN lv v t=j:=by
 rcases Nat.lt_trichotomy (spanN lv v t) j with h|h|h
 ·exact absurd (h1 _ h) (spanN_out lv v t (by omega))
 ·exact h
 ·exact absurd (spanN_in lv v t j h) (h3 (by have:=spanN_le lv v t;omega))
def grp (lv:List Int):List Int→List (List Int)
 |[]=>[]
 |a::t=>(a::t.take (spanN lv (lvAt lv a) t))::grp lv (t.drop (spanN lv (lvAt lv a) t))
termination_by l=>l.length
decreasing_by simp;omega
def firstN (lv:List Int)(v:Int)(t:List Int):Int:=if spanN lv v t<t.length then(spanN lv v t:Int)else-1
theorem other_ok {w:World}{bo bf oc a f n:Nat}{OA:Option Addr}{B:Nat}{lv:List Int}(hn:n=lv.length)(ho:Blk w bo 41 #[.slice OA n oc])(hO:RdInts w B .i8 OA lv)(hf:Blk w bf 3 #[.int .i64 f])
 (ha:a<n) (hff:f<n):
 Calls Tryz.prog 109 #[.int .i64 a,.pointer (some ⟨bo,0,none⟩),.pointer (some ⟨bf,0,none⟩)] w fun r w'=>r= .returned (.bool (lv.getD a 0 !=lv.getD f 0))∧ ∃m,w'=w.drewN m:=by
 obtain⟨b,off,rfl,_,_,hc⟩:=hO.at_ (i:=a) (by omega);obtain⟨b2,off2,e2,_,_,hc2⟩:=hO.at_ (i:=f) (by omega)
 injection e2 with e2
 injection e2 with e3 e4 e5
 subst e3 e4;clear e5;generalize lv.getD a 0=x at hc;generalize lv.getD f 0=y at hc2;obtain⟨x0,xf,xl⟩:=ho.c1;obtain⟨y0,yf,yl⟩:=hf.c1;have HN:=Lib.hid hn;clear hn
 go_enter Tryz.func109,Tryz.ntmps109
 go_wp2_with(go_quiet (fail))
 go_ret;exact⟨rfl,_,rfl⟩
theorem index_runs {w:World}{bo bf oc f n nn c:Nat}{A OA:Option Addr}{B B2:Nat}{lv ks:List Int}(hn:n=lv.length)(hnn:nn=ks.length)(h:RdInts w B .i64 A ks)(ho:Blk w bo 41 #[.slice OA n oc])(hO:RdInts w B2 .i8 OA lv)(hf:Blk w bf 3 #[.int .i64 f])
 (hks: ∀k,k<nn→ ∃a:Nat,ks.getD k 0=a∧a<n) (hff:f<n) (hl:nn≤8388608):
 Calls Tryz.prog 73 #[.slice A nn c,.func (.func 109) #[] #[.pointer (some ⟨bo,0,none⟩),.pointer (some ⟨bf,0,none⟩)]] w fun r w'=>r= .returned (.int .i64 (firstN lv (lvAt lv f) ks))∧ ∃m,w'=w.drewN m:=by
 have HN:=Lib.hid hn;have HNN:=Lib.hid hnn;clear hn hnn
 go_enter Tryz.func73,Tryz.ntmps73
 go_wp2
 go_loopg [8] nn (fun gk iv wr=> ∃j:Nat,j+gk=nn∧iv= .int .i64 j∧(∀k,k<j→lvAt lv (ks.getD k 0)=lvAt lv f)∧ ∃m,wr=w.drewN m)
 case atStart=>exact⟨0,by omega,rfl,by omega,0,rfl⟩
 case round=>
  obtain⟨j,hj,rfl,hs,m,rfl⟩:=hrel;have HJ:=Lib.hid hj;have HS:=Lib.hid hs;clear hj hs
  by_cases hlt:j<nn
  ·obtain⟨ab,off,rfl,_,_,hc⟩:=(show RdInts (w.drewN m) B .i64 A ks from h).at_ (i:=j) (by have:=HNN.out;omega);obtain⟨a,hx,ha⟩:=hks j hlt;rw[hx]at hc;have HX:=Lib.hid hx;clear hx;have hno:=other_ok (w:=w.drewN m) (a:=a) (f:=f) HN.out ho hO hf ha hff;have hlv:lv.getD f 0=lvAt lv f:=rfl;rw[hlv]at hno
   have hla:lv.getD a 0=lvAt lv (ks.getD j 0):=by unfold lvAt;rw[HX.out];rfl
   rw[hla]at hno
   by_cases hb:lvAt lv (ks.getD j 0)=lvAt lv f
   ·have hbb:(lvAt lv (ks.getD j 0) !=lvAt lv f)=false:=bne_eq_false_iff_eq.2 hb;rw[hbb]at hno;have HB:=Lib.hid hb;clear hb hbb hla hlv
    go_wp2_with(go_at_call 109;refine hno.mono ?_;rintro r1 w1 ⟨rfl,m1,rfl⟩)
    go_roundg (nn-(j+1))
    case rel=>exact⟨j+1,by have:=HJ.out;omega,by go_num,fun k hk=>by
     by_cases e:k=j
     ·subst e;exact HB.out
     ·exact HS.out k (by omega),m+m1,by simp⟩
    case measure=>have:=HJ.out;omega
   ·have hbb:(lvAt lv (ks.getD j 0) !=lvAt lv f)=true:=bne_iff_ne.2 hb;rw[hbb]at hno;have HB:=Lib.hid hb;clear hb hbb hla hlv
    go_wp2_with(go_at_call 109;refine hno.mono ?_;rintro r1 w1 ⟨rfl,m1,rfl⟩)
    go_ret;have e:spanN lv (lvAt lv f) ks=j:=spanN_is HS.out (by have:=HNN.out;omega) (fun _=>HB.out)
    have e2:firstN lv (lvAt lv f) ks=j:=by unfold firstN;rw[e,if_pos (by have:=HNN.out;omega)]
    rw[e2];exact⟨rfl,m+m1,by simp⟩
  ·have hjl:j=nn:=by have:=HJ.out;omega
   subst hjl;go_wp2;go_ret;have e:spanN lv (lvAt lv f) ks=j:=spanN_is HS.out (by have:=HNN.out;omega) (fun h=>by have:=HNN.out;omega)
   have e2:firstN lv (lvAt lv f) ks= -1:=by unfold firstN;rw[e,if_neg (by have:=HNN.out;omega)]
   rw[e2];exact⟨rfl,m,rfl⟩
@[go_sem] theorem eql35_nil (w:World) (a:Option Addr) (n c:Nat):(binOp .eql 41 (.slice a n c) (.slice none 0 0)).run Tryz.prog w= .ok (.bool a.isNone) w:=_root_.Go.Lib.run_eql_slice_nil w 41 46 a n c 0 0 Tryz.underlying41
theorem CloneL_ok {w:World}{B:Nat}{A:Option Addr}{n c:Nat}{l:List Int}(hn:n=l.length)(h:RdInts w B .i8 A l)(hl:n≤8388608):
 Calls Tryz.prog 49 #[.slice A n c] w fun r w'=> ∃v,r= .returned v∧Ints w' w.heap.size 46 .i8 v l∧Below w.heap.size w w':=by
 have HN:=Lib.hid hn;clear hn
 rcases A with _|ad
 ·have hl0:l=[]:=by
   rcases l with _|⟨x,l⟩
   ·rfl
   ·obtain⟨b,off,e,-⟩:=h.cells (by simp);cases e
  go_enter Tryz.func49,Tryz.ntmps49
  go_wp2;go_ret;exact⟨_,rfl,by rw[hl0];exact Ints.nil _ _ _ _,Below.refl _ _⟩
 ·have b0:=(Below.refl w.heap.size w).alloc (Nat.le_refl _) (.cells #[] 46)
  have o0:Ints (w.alloc (.cells #[] 46)) w.heap.size 46 .i8 (.slice (some ⟨w.heap.size,0,none⟩) 0 0) []:=⟨by simp,.inr ⟨w.heap.size,0,#[],rfl,Nat.le_refl _,Blk.new w 46 #[],Nat.le_refl _,by simp,rfl,rfl⟩⟩
  go_enter Tryz.func49,Tryz.ntmps49
  go_wp2_with(at_builtin;go_must (refine wpList_appIs ei35 rfl rfl rfl o0 HN.out rfl (h.alloc _) ?_ ?_ ?_ ?_))
  ·have:=HN.out;simp;unfold maxLen;omega
  ·have:=HN.out;simp;omega
  ·simp
  intro v1 w1 I1 g1 hv1
  have b1:=b0.grown g1 (by simp) (fun k hk=>by have:w.heap.size=k:=by simpa[Value.ownBlock]using hk
                                               omega)
  have I1:Ints w1 w.heap.size 46 .i8 v1 l:=I1;go_wp2;go_ret;exact⟨v1,rfl,I1,b1⟩
attribute [local go_sem] Oper.semAt_some
theorem spanN_pos {lv t:List Int}(h:0<t.length):1≤spanN lv (lvAt lv (t.getD 0 0)) t:=by
 cases t with
 |nil=>simp at h
 |cons a t=>simp[spanN]
theorem grp_pos {lv t:List Int}(h:0<t.length):grp lv t=t.take (spanN lv (lvAt lv (t.getD 0 0)) t)::grp lv (t.drop (spanN lv (lvAt lv (t.getD 0 0)) t)):=by
 cases t with
 |nil=>simp at h
 |cons a t=>
  rw[grp];simp[spanN]
theorem grp_nil (lv:List Int):grp lv []=[]:=by rw[grp]
structure Rn where
 f:Nat
 t:Nat
 v:Int
deriving Inhabited
def Rn.cells (r:Rn):List Value:=[.int .i64 r.f,.int .i64 r.t,.int .i8 r.v]
def Rn.encs (r:Rn):Array Value:=#[.agg #[.int .i64 r.f,.int .i64 r.t,.int .i8 r.v]]
def toRn (lv g:List Int):Rn:=⟨(g.getD 0 0).toNat,(g.getD (g.length-1) 0).toNat+1,lvAt lv (g.getD 0 0)⟩
def runL (lv ks:List Int):List Rn:=(grp lv ks).map (toRn lv)
theorem keptT_mem {l:List Int}: ∀{k:Nat} {x:Int},x∈keptT l k↔ ∃a:Nat,x=a∧a<k∧remC (l.getD a 0)=false
 |0,x=>by simp[keptT]
 |k+1,x=>by
  unfold keptT;have ih:= @keptT_mem l k x
  by_cases h:remC (l.getD k 0)=true
  ·rw[if_pos h,ih];constructor
   ·rintro⟨a,e,h1,h2⟩;exact⟨a,e,by omega,h2⟩
   ·rintro⟨a,e,h1,h2⟩;refine⟨a,e,?_,h2⟩
    have:a≠k:=by rintro rfl;rw[h]at h2;cases h2
    omega
  ·rw[if_neg h,List.mem_append,ih];constructor
   ·rintro(⟨a,e,h1,h2⟩|h1)
    ·exact⟨a,e,by omega,h2⟩
    ·simp at h1;exact⟨k,h1,by omega,by simpa using h⟩
   ·rintro⟨a,e,h1,h2⟩
    by_cases hk:a=k
    ·right;simp[e,hk]
    ·left;exact⟨a,e,by omega,h2⟩
theorem keptL_in {l:List Int}{k:Nat}(hk:k<(keptL l).length): ∃a:Nat,(keptL l).getD k 0=a∧a<l.length∧remC (l.getD a 0)=false:=by refine keptT_mem.1 ?_;rw[List.getD_eq_getElem?_getD,List.getElem?_eq_getElem hk];exact List.getElem_mem hk
theorem RdInts.drop {w:World}{B:Nat}{k:IntKind}{A:Option Addr}{l:List Int}(h:RdInts w B k A l){b off:Nat}(hA:A=some ⟨b,off,none⟩)(n:Nat):RdInts w B k (some ⟨b,off+n,none⟩) (l.drop n):=by
 refine⟨by simp,fun h0=> ?_⟩;obtain⟨b',off',e,h1,h2,hc⟩:=h.2 (by simp at h0;omega);rw[hA]at e
 injection e with e
 injection e with e1 e2 e3
 subst e1 e2;refine⟨b,off+n,rfl,h1,h2,fun j u hj=> ?_⟩;rw[Nat.add_assoc];exact hc (n+j) u (by rw[List.map_drop,List.getElem?_drop]at hj;exact hj)
theorem Runs_ok {w:World}{A A2:Option Addr}{n c n2 c2:Nat}:
 Calls Tryz.prog 82 #[.slice A n c,.slice A2 n2 c2] w fun r w'=>r= .returned (.func (.func 108) #[] #[.pointer (some ⟨w.heap.size,0,none⟩),.pointer (some ⟨w.heap.size+1,0,none⟩)])∧
  Blk w' w.heap.size 37 #[.slice A n c]∧Blk w' (w.heap.size+1) 41 #[.slice A2 n2 c2]∧Below w.heap.size w w':=by
 go_enter Tryz.func82,Tryz.ntmps82
 go_wp2;go_ret;have h2:=Blk.new (w.alloc (.cells #[.slice A n c] 37)) 41 #[.slice A2 n2 c2];rw[World.size_alloc]at h2;exact⟨rfl,(Blk.new w 37 _).alloc _,h2,((Below.refl _ w).alloc (Nat.le_refl _) _).alloc (by simp) _⟩
theorem Kept_n {w:World}{B:Nat}{A:Option Addr}{c n:Nat}{l:List Int}(hn:n=l.length)(h:RdInts w B .u8 A l)(hl:n≤8388608):
 Calls Tryz.prog 81 #[.slice A n c] w fun r w'=> ∃v,r= .returned v∧Ints w' w.heap.size 3 .i64 v (keptL l)∧Below w.heap.size w w':=by
 subst hn;exact Kept_ok h hl
theorem Ints.addr {w:World}{B e n c:Nat}{k:IntKind}{A:Option Addr}{l:List Int}(h:Ints w B e k (.slice A n c) l){b off:Nat}(hA:A=some ⟨b,off,none⟩):B≤b∧b<w.heap.size:=h.lt b (by rw[hA];rfl)
structure Tells (J:Nat→(Nat→Prop)→World→Prop):Prop where
 lt: ∀k S W,J k S W→ ∀j,S j→j<W.heap.size
 frm: ∀k S W W',J k S W→Frm (fun _=>False) W W'→J k S W'
theorem iter_ok {W1:World}{b1 b2 yb n n2 c c2:Nat}{B B2:Nat}{A A2:Option Addr}{cl lv ks:List Int}(hn:n=cl.length)(hn2:n2=lv.length)(he:n=n2)(hks:ks=keptL cl)(h1:Blk W1 b1 37 #[.slice A n c])(h2:Blk W1 b2 41 #[.slice A2 n2 c2])
 (hr:RdInts W1 B .u8 A cl) (hr2:RdInts W1 B2 .i8 A2 lv) (hl:n≤8388608)
 {J:Nat→(Nat→Prop)→World→Prop} (T:Tells J) {Jx:World→Prop} {S0:Nat→Prop} (h0:J 0 S0 W1) {d:Nat} (hd:1≤d)
 (hY: ∀k S W (hk:k<(runL lv ks).length),J k S W→YieldAt Fence.wide (d-1) Tryz.prog yb ((runL lv ks)[k]).encs W fun e W'=>(e= .returned (.bool true)∧ ∃S',J (k+1) S' W'∧Frm S W W'∧ ∀j,S' j→S j∨W.heap.size≤j)∨(e= .returned (.bool false)∧Jx W')):
 CallsIn Fence.wide d Tryz.prog 108 #[.func (.yield yb) #[] #[],.pointer (some ⟨b1,0,none⟩),.pointer (some ⟨b2,0,none⟩)] W1 fun e W'=>(∃v,e= .returned v)∧((∃S,J (runL lv ks).length S W')∨Jx W'):=by
 subst he;have HN:=Lib.hid hn;have HKS:=Lib.hid hks;have HN2:=Lib.hid hn2;have b0:Below W1.heap.size W1 W1:=Below.refl _ _;clear hn hn2 hks;obtain⟨x0,xf,xl⟩:=h1.c1;obtain⟨y0,yf,yl⟩:=h2.c1;refine callsIn_of_wp Tryz.func108 rfl trivial ?_ rfl;simp only[Tryz.ntmps108,List.size_toArray,List.length_cons,List.length_nil,Nat.reduceAdd,Nat.reduceSub,Array.replicate_succ,Array.replicate_zero,List.push_toArray,List.append_toArray,List.nil_append,List.cons_append];have hE:((n:Int) !=(n:Int))=false:=bne_self_eq_false _;refine wpIn_wide.2 ?_
 go_wp2_with(first
  |(go_at_call 49;refine(CloneL_ok HN2.out hr2 (by omega)).mono ?_;rintro r1 w1 ⟨ov,rfl,IO,bO⟩;obtain⟨oA,oc,rfl,ho1,ho2,hoR⟩:=IO.val;obtain⟨z0,zf,zl⟩:=(h1.below bO xl).c1)
  |(go_at_call 81
    have F1:=(Frm.of_below (F:=fun _=>False) bO).alloc (.cells #[.slice oA lv.length oc] 41)
    refine(Kept_n (l:=cl) (B:=B) HN.out (hr.frmA F1 (fun _ _ _=>id)) hl).mono ?_;rintro r2 w2 ⟨kv,rfl,IK,bK⟩;rw[←HKS.out]at IK))
 have F2:Frm (fun _=>False) W1 w2:=F1.trans (Frm.of_below bK) (fun _ _ h=>h)
 have hsz:w1.heap.size<w2.heap.size:=by have:=bK.size;simp at this;omega
 have BO:Blk w2 w1.heap.size 41 #[.slice oA lv.length oc]:=(Blk.new w1 41 _).below bK (by simp);have RO:RdInts w2 w1.heap.size .i8 oA lv:=(hoR.alloc _).below bK (.inl (by simp));have HB:=Lib.hid bO.size;obtain⟨kA,kc,rfl,hk1,hk2,RK⟩:=IK.val
 have hkb: ∀b off,kA=some ⟨b,off,none⟩→w1.heap.size<b∧b<w2.heap.size:=fun b off e=>by have:=IK.addr e;simp at this;omega
 have hob: ∀b off,oA=some ⟨b,off,none⟩→W1.heap.size≤b∧b<w1.heap.size:=fun b off e=>IO.addr e
 have hK: ∀k,k<ks.length→ ∃a:Nat,ks.getD k 0=a∧a<n:=fun k hk=>by rw[HKS.out]at hk⊢;obtain⟨a,e,h,_⟩:=keptL_in hk;exact⟨a,e,by have:=HN.out;omega⟩
 have hklen:ks.length≤n:=by rw[HKS.out];have:=keptT_length cl cl.length;have:=HN.out;unfold keptL;omega
 have hJ2:J 0 S0 w2:=T.frm _ _ _ _ h0 F2;have hS2: ∀j,S0 j→j<W1.heap.size:=T.lt _ _ _ h0;clear h1 h2 hr hr2 x0 xf xl y0 yf yl z0 zf zl IO bO F1 bK hE b0 hoR IK h0 F2;refine(wpIn_wide (n:=d)).1 ?_
 gi_loopw [5] (fun kv wr=> ∃(k:Nat) (S:Nat→Prop) (t:List Int) (A':Option Addr) (c':Nat),kv= .slice A' t.length c'∧J k S wr∧(∃dn,grp lv ks=dn++grp lv t∧dn.length=k)∧(∀k,k<t.length→ ∃a:Nat,t.getD k 0=a∧a<n)∧t.length≤n∧
  t.length≤c'∧c'≤maxLen∧RdInts wr w2.heap.size .i64 A' t∧(0<t.length→ ∀b off,A'=some ⟨b,off,none⟩→w1.heap.size<b∧b<w2.heap.size)∧Blk wr w1.heap.size 41 #[.slice oA lv.length oc]∧RdInts wr w1.heap.size .i8 oA lv∧(∀b,S b→b<W1.heap.size∨w2.heap.size≤b)∧w2.heap.size≤wr.heap.size) (fun kv _=>match kv with|.slice _ n _=>n|_=>0)
 case atStart=>exact⟨0,S0,ks,kA,kc,rfl,hJ2,⟨[],rfl,rfl⟩,hK,hklen,hk1,hk2,RK,fun _=>hkb,BO,RO,fun b hb=>.inl (hS2 b hb),Nat.le_refl _⟩
 case round=>
  clear RK BO RO hk1 hk2 hkb hJ2 hK hklen;obtain⟨k,S,t,A',c',rfl,hJ,hdn,hK,htn,hc1,hc2,RK,hkb,BO,RO,hS,hsz2⟩:=hrel
  rcases Nat.eq_zero_or_pos t.length with h0|hpos
  ·have ht:t=[]:=List.eq_nil_of_length_eq_zero h0;subst ht;obtain⟨dn,hd1,rfl⟩:=hdn
   have hkl:dn.length=(runL lv ks).length:=by unfold runL;rw[hd1,grp_nil];simp
   rw[hkl]at hJ;clear hd1 hkl;gi_wp2
   go_end0
   exact⟨⟨_,rfl⟩,.inl ⟨_,hJ⟩⟩
  ·have hN:=grp_pos (lv:=lv) hpos;have hN1:=spanN_pos (lv:=lv) hpos;have hN2:=spanN_le lv (lvAt lv (t.getD 0 0)) t;obtain⟨a,ha0,ha⟩:=hK 0 hpos;obtain⟨g,off,rfl,hgB,hgs,hc⟩:=RK.cells hpos;have c0:=hc 0 hpos;rw[ha0]at hN hN1 hN2 c0;rw[Nat.add_zero]at c0;have HA0:=Lib.hid ha0
   have hfi:firstN lv (lvAt lv (a:Int)) t=if spanN lv (lvAt lv (a:Int)) t<t.length then(spanN lv (lvAt lv (a:Int)) t:Int)else-1:=rfl
   generalize hNN:spanN lv (lvAt lv (a:Int)) t=N at*;clear ha0;have hNt:N≤t.length:=hN2;obtain⟨e,he0,he⟩:=hK (N-1) (by omega);have cN:=hc (N-1) (by omega);rw[he0]at cN;have HE0:=Lib.hid he0;obtain⟨ob,oo,rfl,ho1,ho2,co⟩:=RO.at_ (i:=a) (by have:=HN2.out;omega);have hla:lv.getD a 0=lvAt lv (a:Int):=rfl;rw[hla]at co
   have hw1:IntKind.i64.wrap ((N:Int)-1)=((N-1:Nat):Int):=by rw[IntWalk.i64_in _ (by omega)];omega
   have hw2:IntKind.i64.wrap ((e:Int)+1)=((e+1:Nat):Int):=by rw[IntWalk.i64_in _ (by omega)];omega
   clear he0 hla;obtain⟨p0,pf,pl⟩:=BO.c1
   have hal:a<lv.length:=by have:=HN2.out;omega
   obtain⟨dn,hd1,rfl⟩:=hdn
   have hkl:dn.length<(runL lv ks).length:=by unfold runL;rw[hd1,hN];simp
   have hen:((runL lv ks)[dn.length]).encs=#[.agg #[.int .i64 (a:Int),.int .i64 ((e:Int)+1),.int .i8 (lvAt lv (a:Int))]]:=by
    have e1:(runL lv ks)[dn.length]=toRn lv (t.take N):=by simp only[runL,hd1,hN];simp
    have e2:(t.take N).getD 0 0=(a:Int):=by rw[←HA0.out];simp only[List.getD_eq_getElem?_getD,List.getElem?_take];rw[if_pos (by omega)]
    have e3:(t.take N).getD ((t.take N).length-1) 0=(e:Int):=by rw[←HE0.out,List.length_take,Nat.min_eq_left hNt];simp only[List.getD_eq_getElem?_getD,List.getElem?_take];rw[if_pos (by omega)]
    rw[e1];unfold toRn Rn.encs;rw[e2,e3];simp
   have hdn': ∃d',grp lv ks=d'++grp lv (t.drop N)∧d'.length=dn.length+1:=⟨dn++[t.take N],by rw[hd1,hN];simp,by simp⟩;have HD:=Lib.hid hdn';have HD1:=Lib.hid hd1;clear hd1 hdn' hc hN
   have hIR: ∀W,W=wr.alloc (.cells #[.int .i64 a] 3)→Calls Tryz.prog 73 #[.slice (some ⟨g,off,none⟩) t.length c',.func (.func 109) #[] #[.pointer (some ⟨w1.heap.size,0,none⟩),.pointer (some ⟨wr.heap.size,0,none⟩)]] W fun r w'=>r= .returned (.int .i64 (firstN lv (lvAt lv (a:Int)) t))∧ ∃m,w'=W.drewN m:=by rintro W rfl;exact index_runs (OA:=some ⟨ob,oo,none⟩) (n:=lv.length) rfl rfl (RK.alloc _) (BO.alloc _) (RO.alloc _) (Blk.new _ _ _) (fun k hk=>by obtain⟨x,h1,h2⟩:=hK k hk;exact⟨x,h1,by have:=HN2.out;omega⟩) (by have:=HN2.out;omega) (by omega)
   by_cases hlt:N<t.length
   ·rw[if_pos hlt]at hfi;rw[hfi]at hIR;gi_wp2;refine⟨trivial,callsIn_wide.2 ((hIR _ rfl).mono ?_)⟩;rintro r1 w3 ⟨rfl,m,rfl⟩;have hJ3:J dn.length S ((wr.alloc (.cells #[.int .i64 a] 3)).drewN (m+1)):=T.frm _ _ _ _ hJ (((Frm.refl _ wr).alloc _).drewN _);obtain⟨fn,tmps,assign,body,hy,hR⟩:=hY dn.length S _ hkl hJ3;rw[hen]at hy;clear hen;gi_wp2
    have hR2:RoundIn Fence.wide (d-1) Tryz.prog yb fn tmps assign body ((wr.alloc (.cells #[.int .i64 a] 3)).drewN (m+1)) (fun e W'=> ∃bb,e= .returned (.bool bb)∧
     ((bb=true∧ ∃S',J (dn.length+1) S' W'∧Frm S ((wr.alloc (.cells #[.int .i64 a] 3)).drewN (m+1)) W'∧ ∀j,S' j→S j∨((wr.alloc (.cells #[.int .i64 a] 3)).drewN (m+1)).heap.size≤j)∨(bb=false∧Jx W'))):=hR.mono (fun e W' h=>by
     rcases h with⟨h1,h2⟩|⟨h1,h2⟩
     ·exact⟨true,h1,.inl ⟨rfl,h2⟩⟩
     ·exact⟨false,h1,.inr ⟨rfl,h2⟩⟩)
    clear hR;refine wpIn_region_mid 13 (by kernel_rfl) (by kernel_rfl) rfl rfl ?_;simp only[List.take_succ_cons,List.take_zero]
    repeat(refine still_plain rfl rfl ?_;intro K hK;go_wp2)
    refine wpStill_nil ?_;intro K hK;gi_wp2;refine hR2.mono ?_;rintro e3 W3 ⟨bb,rfl,hbb⟩;gi_wp2;simp only[List.drop_succ_cons,List.drop_zero]
    repeat(refine still_plain rfl rfl ?_;intro K hK;go_wp2)
    refine wpStill_nil ?_
    rcases hbb with⟨rfl,S',hJ4,hF4,hS4⟩|⟨rfl,hx⟩
    ·gi_wp2
     go_roundw
     case rel=>
      have hz:((wr.alloc (.cells #[.int .i64 a] 3)).drewN (m+1)).heap.size=wr.heap.size+1:=World.size_alloc _ _;have hbs:w1.heap.size+1≤w2.heap.size:=hsz
      have hw1S: ¬S w1.heap.size:=fun h=>by have:=hS _ h;have:=HB.out;omega
      have hgS: ¬S g:=fun h=>by have:=hS _ h;have:=hkb hpos g off rfl;have:=HB.out;omega
      have hoS: ¬S ob:=fun h=>by have:=hS _ h;have:=hob ob oo rfl;omega
      have hld:t.length-N=(t.drop N).length:=by simp
      refine⟨dn.length+1,S',t.drop N,some ⟨g,off+N,none⟩,c'-N,by rw[←hld],hJ4,?_,?_,by simp;omega,by simp;omega,by omega,?_,?_,?_,?_,?_,?_⟩
      ·obtain⟨d',h1,h2⟩:=HD.out;exact⟨d',h1,h2⟩
      ·intro j hj;obtain⟨x,h1,h2⟩:=hK (N+j) (by simp at hj;omega);exact⟨x,by rw[←h1];simp[List.getD_eq_getElem?_getD],h2⟩
      ·exact(RdInts.frmA (Reads.drewN (RK.alloc _) (m+1)) hF4 (fun b o e=>by injection e with e;injection e with e1 e2;subst e1;exact hgS)).drop rfl N
      ·rintro _ b o e;injection e with e;injection e with e1 e2;subst e1;exact hkb hpos g off rfl
      ·exact((BO.alloc _).drewN (m+1)).frm hF4 hw1S
      ·exact RdInts.frmA (Reads.drewN (RO.alloc _) (m+1)) hF4 (fun b o e=>by injection e with e;injection e with e1 e2;subst e1;exact hoS)
      ·intro b hb
       rcases hS4 b hb with h|h
       ·exact hS b h
       ·right;omega
      ·have:=hF4.size;omega
     case measure=>simp;omega
    ·gi_wp2;refine bodyPost_ret (results_none (by kernel_rfl) _ _ _) rfl ?_;exact⟨⟨_,rfl⟩,.inr hx⟩
   ·obtain rfl:N=t.length:=by omega
    rw[if_neg hlt]at hfi;rw[hfi]at hIR;gi_wp2;refine⟨trivial,callsIn_wide.2 ((hIR _ rfl).mono ?_)⟩;rintro r1 w3 ⟨rfl,m,rfl⟩;have hJ3:J dn.length S ((wr.alloc (.cells #[.int .i64 a] 3)).drewN (m+1)):=T.frm _ _ _ _ hJ (((Frm.refl _ wr).alloc _).drewN _);obtain⟨fn,tmps,assign,body,hy,hR⟩:=hY dn.length S _ hkl hJ3;rw[hen]at hy;clear hen;gi_wp2
    have hR2:RoundIn Fence.wide (d-1) Tryz.prog yb fn tmps assign body ((wr.alloc (.cells #[.int .i64 a] 3)).drewN (m+1)) (fun e W'=> ∃bb,e= .returned (.bool bb)∧
     ((bb=true∧ ∃S',J (dn.length+1) S' W'∧Frm S ((wr.alloc (.cells #[.int .i64 a] 3)).drewN (m+1)) W'∧ ∀j,S' j→S j∨((wr.alloc (.cells #[.int .i64 a] 3)).drewN (m+1)).heap.size≤j)∨(bb=false∧Jx W'))):=hR.mono (fun e W' h=>by
     rcases h with⟨h1,h2⟩|⟨h1,h2⟩
     ·exact⟨true,h1,.inl ⟨rfl,h2⟩⟩
     ·exact⟨false,h1,.inr ⟨rfl,h2⟩⟩)
    clear hR;refine wpIn_region_mid 13 (by kernel_rfl) (by kernel_rfl) rfl rfl ?_;simp only[List.take_succ_cons,List.take_zero]
    repeat(refine still_plain rfl rfl ?_;intro K hK;go_wp2)
    refine wpStill_nil ?_;intro K hK;gi_wp2;refine hR2.mono ?_;rintro e3 W3 ⟨bb,rfl,hbb⟩;gi_wp2;simp only[List.drop_succ_cons,List.drop_zero]
    repeat(refine still_plain rfl rfl ?_;intro K hK;go_wp2)
    refine wpStill_nil ?_
    rcases hbb with⟨rfl,S',hJ4,hF4,hS4⟩|⟨rfl,hx⟩
    ·gi_wp2
     go_roundw
     case rel=>
      have hz:((wr.alloc (.cells #[.int .i64 a] 3)).drewN (m+1)).heap.size=wr.heap.size+1:=World.size_alloc _ _;have hbs:w1.heap.size+1≤w2.heap.size:=hsz
      have hw1S: ¬S w1.heap.size:=fun h=>by have:=hS _ h;have:=HB.out;omega
      have hoS: ¬S ob:=fun h=>by have:=hS _ h;have:=hob ob oo rfl;omega
      refine⟨dn.length+1,S',[],if c'=t.length then some ⟨g,off,none⟩else some ⟨g,off+t.length,none⟩,c'-t.length,by simp,hJ4,?_,fun k hk=>by simp at hk,by simp,by simp,by omega,⟨rfl,fun h=>by simp at h⟩,fun h=>by simp at h,?_,?_,?_,?_⟩
      ·obtain⟨d',h1,h2⟩:=HD.out;rw[List.drop_length]at h1;exact⟨d',h1,h2⟩
      ·exact((BO.alloc _).drewN (m+1)).frm hF4 hw1S
      ·exact RdInts.frmA (Reads.drewN (RO.alloc _) (m+1)) hF4 (fun b o e=>by injection e with e;injection e with e1 e2;subst e1;exact hoS)
      ·intro b hb
       rcases hS4 b hb with h|h
       ·exact hS b h
       ·right;omega
      ·have:=hF4.size;omega
     case measure=>simp;omega
    ·gi_wp2;refine bodyPost_ret (results_none (by kernel_rfl) _ _ _) rfl ?_;exact⟨⟨_,rfl⟩,.inr hx⟩
theorem Blk.c7 {w:World}{g:Nat}{t:TypeId}{a b c d e f i:Value}(h:Blk w g t #[a,b,c,d,e,f,i]):w.cell? ⟨g,0,none⟩=some a∧w.cell? ⟨g,1,none⟩=some b∧w.cell? ⟨g,2,none⟩=some c∧w.cell? ⟨g,3,none⟩=some d∧w.cell? ⟨g,4,none⟩=some e∧w.cell? ⟨g,5,none⟩=some f∧w.cell? ⟨g,6,none⟩=some i∧(∀j,w.frozen? ⟨g,j,none⟩=false)∧g<w.heap.size:=⟨by rw[h.cell];rfl,by rw[h.cell];rfl,by rw[h.cell];rfl,by rw[h.cell];rfl,by rw[h.cell];rfl,by rw[h.cell];rfl,by rw[h.cell];rfl,h.frozen,h.lt⟩
structure Txt where
 cl:List Int
 nw:List Int
 lv:List Int
 base:Int
 ks:List Int
 ix:List Int
 mt:List Int
structure TextAt (w:World) (tb:Nat) (x:Txt) (n m:Nat) (A0 A1 A2 A4 A5 A6:Option Addr) (c0 c1 c2 c4 c5 c6:Nat):Prop where
 blk:Blk w tb 160 #[.slice A0 n c0,.slice A1 n c1,.slice A2 n c2,.int .i8 x.base,.slice A4 m c4,.slice A5 n c5,.slice A6 n c6]
 cl:RdInts w w.heap.size .u8 A0 x.cl
 nw:RdInts w w.heap.size .u8 A1 x.nw
 lv:RdInts w w.heap.size .i8 A2 x.lv
 ks:RdInts w w.heap.size .i64 A4 x.ks
 ix:RdInts w w.heap.size .i64 A5 x.ix
 mt:RdInts w w.heap.size .i64 A6 x.mt
theorem TextAt.below {w w':World}{tb:Nat}{x:Txt}{n m:Nat}{A0 A1 A2 A4 A5 A6:Option Addr}{c0 c1 c2 c4 c5 c6:Nat}(h:TextAt w tb x n m A0 A1 A2 A4 A5 A6 c0 c1 c2 c4 c5 c6){C:Nat}(hb:Below C w w')(hC:w.heap.size≤C):
 TextAt w' tb x n m A0 A1 A2 A4 A5 A6 c0 c1 c2 c4 c5 c6:=
 ⟨h.blk.below hb (Nat.lt_of_lt_of_le h.blk.lt hC),(h.cl.below hb (.inr hC)).more hb.size,(h.nw.below hb (.inr hC)).more hb.size,(h.lv.below hb (.inr hC)).more hb.size,(h.ks.below hb (.inr hC)).more hb.size,(h.ix.below hb (.inr hC)).more hb.size,(h.mt.below hb (.inr hC)).more hb.size⟩
theorem TextAt.drewN {w:World}{tb:Nat}{x:Txt}{n m:Nat}{A0 A1 A2 A4 A5 A6:Option Addr}{c0 c1 c2 c4 c5 c6:Nat}(h:TextAt w tb x n m A0 A1 A2 A4 A5 A6 c0 c1 c2 c4 c5 c6)(j:Nat):TextAt (w.drewN j) tb x n m A0 A1 A2 A4 A5 A6 c0 c1 c2 c4 c5 c6:=⟨h.blk.drewN j,h.cl,h.nw,h.lv,h.ks,h.ix,h.mt⟩
def lvK (x:Txt)(k:Int):Int:=if k<0 then x.base else if(x.ks.length:Int)≤k then x.base else lvAt x.lv (x.ks.getD k.toNat 0)
theorem level_ok {w:World}{tb:Nat}{x:Txt}{n m:Nat}{A0 A1 A2 A4 A5 A6:Option Addr}{c0 c1 c2 c4 c5 c6:Nat}(h:TextAt w tb x n m A0 A1 A2 A4 A5 A6 c0 c1 c2 c4 c5 c6)(hn:n=x.lv.length)(hm:m=x.ks.length)
 (hks: ∀k,k<m→ ∃a:Nat,x.ks.getD k 0=a∧a<n) (k:Int):
 Calls Tryz.prog 110 #[.pointer (some ⟨tb,0,none⟩),.int .i64 k] w fun r w'=>r= .returned (.int .i8 (lvK x k))∧ ∃d,w'=w.drewN d:=by
 obtain⟨x0,x1,x2,x3,x4,x5,x6,xf,xl⟩:=h.blk.c7;have HN:=Lib.hid hn;have HM:=Lib.hid hm;clear hn hm
 by_cases h0:k<0
 ·have e:lvK x k=x.base:=by unfold lvK;rw[if_pos h0]
  rw[e];clear e
  go_enter Tryz.func110,Tryz.ntmps110
  go_wp2;go_ret;exact⟨rfl,0,rfl⟩
 ·by_cases h1:(m:Int)≤k
  ·have e:lvK x k=x.base:=by unfold lvK;rw[if_neg h0,if_pos (by rw[←HM.out];exact h1)]
   rw[e];clear e
   go_enter Tryz.func110,Tryz.ntmps110
   go_wp2;go_ret;exact⟨rfl,0,rfl⟩
  ·obtain⟨j,rfl⟩: ∃j:Nat,k=j:=⟨k.toNat,by omega⟩
   have hj:j<m:=by omega
   have hja:j<x.ks.length:=by rw[←HM.out];exact hj
   obtain⟨a,ha,han⟩:=hks j hj;obtain⟨b4,o4,rfl,_,_,hc4⟩:=h.ks.at_ hja;obtain⟨b2,o2,rfl,_,_,hc2⟩:=h.lv.at_ (i:=a) (by have:=HN.out;omega)
   have e:lvK x (j:Int)=lvAt x.lv (a:Int):=by unfold lvK;rw[if_neg h0,if_neg (by rw[←HM.out];exact h1),←ha];rfl
   have e2:x.lv.getD a 0=lvAt x.lv (a:Int):=rfl;rw[e];rw[e2]at hc2;rw[ha]at hc4
   have h1': ¬(m≤j):=by omega
   clear e e2 h h0 ha hja
   go_enter Tryz.func110,Tryz.ntmps110
   go_wp2_with(go_quiet (fail))
   go_ret;exact⟨rfl,_,rfl⟩
def rangeP (cl:List Int)(f:Nat):Nat→List Int
 |0=>[]
 |k+1=>if remC (cl.getD (f+k) 0)=true then rangeP cl f k else rangeP cl f k++[((f+k:Nat):Int)]
theorem rangeP_length (cl:List Int)(f:Nat): ∀k,(rangeP cl f k).length≤k
 |0=>by simp[rangeP]
 |k+1=>by
  have:=rangeP_length cl f k;unfold rangeP
  split<;>simp<;>omega
def runP (cl:List Int)(r:Rn):List Int:=rangeP cl r.f (r.t-r.f)
def seqT (cl:List Int)(rs:List Rn)(i:Nat):List Int:=(rs.take i).flatMap (runP cl)
def totT (rs:List Rn)(i:Nat):Nat:=((rs.take i).map (fun r=>r.t-r.f)).sum
def seqP (cl:List Int)(rs:List Rn):List Int:=rs.flatMap (runP cl)
def clsP (nw ps:List Int):List Int:=ps.map (fun a=>clsC (lvAt nw a))
theorem clsP_length (nw ps:List Int):(clsP nw ps).length=ps.length:=by simp[clsP]
theorem clsP_snoc (nw ps:List Int)(a:Int):clsP nw (ps++[a])=clsP nw ps++[clsC (lvAt nw a)]:=by simp[clsP]
theorem flat_length (cl:List Int): ∀rs:List Rn,(rs.flatMap (runP cl)).length≤(rs.map (fun r=>r.t-r.f)).sum
 |[]=>by simp
 |r::rs=>by
  have h1:=flat_length cl rs;have h2:(runP cl r).length≤r.t-r.f:=rangeP_length cl r.f (r.t-r.f);rw[List.flatMap_cons,List.length_append,List.map_cons,List.sum_cons];omega
theorem seqT_length (cl:List Int)(rs:List Rn)(i:Nat):(seqT cl rs i).length≤totT rs i:=flat_length cl _
theorem sum_take_le: ∀(l:List Nat) (i:Nat),(l.take i).sum≤l.sum
 |[],i=>by simp
 |a::l,0=>by simp
 |a::l,i+1=>by have:=sum_take_le l i;simp;omega
theorem totT_le (rs:List Rn)(i:Nat):totT rs i≤totT rs rs.length:=by unfold totT;rw[List.take_length,List.map_take];exact sum_take_le _ _
theorem totT_succ {rs:List Rn}{i:Nat}(h:i<rs.length):totT rs (i+1)=totT rs i+(rs[i].t-rs[i].f):=by unfold totT;rw[List.take_succ_eq_append_getElem h,List.map_append,List.sum_append];rfl
theorem seqT_succ {rs:List Rn}{i:Nat}(cl:List Int)(h:i<rs.length):seqT cl rs (i+1)=seqT cl rs i++runP cl rs[i]:=by unfold seqT;rw[List.take_succ_eq_append_getElem h,List.flatMap_append,List.flatMap_singleton]
structure Sq where
 pl:List Int
 cs:List Int
 lv:Int
 so:Int
 eo:Int
deriving Inhabited
def Sq.is (s:Sq)(pv cv:Value):Array Value:=#[pv,cv,.int .i8 s.lv,.int .u8 s.so,.int .u8 s.eo]
def behindL (x:Txt)(last:Int):Int:=if(begI (lvAt x.cl last) && (lvAt x.mt last==(x.cl.length:Int)))=true then x.base else lvK x (lvAt x.ix last+1)
def sqOf (x:Txt)(ps:List Int)(l0:Int):Sq:=⟨ps,clsP x.nw ps,l0,wayL (max l0 (lvK x (lvAt x.ix (ps.getD 0 0)-1))),wayL (max l0 (behindL x (ps.getD (ps.length-1) 0)))⟩
def seqOf (x:Txt)(rs:List Rn):Sq:=sqOf x (seqP x.cl rs) (rs.getD 0 default).v
theorem rn_cells: ∀(rs:List Rn) (i j:Nat),i<rs.length→j<3→(rs.flatMap Rn.cells)[i*3+j]?=((rs.getD i default).cells)[j]?
 |[],i,j,h,_=>by simp at h
 |r::rs,0,j,_,hj=>by
  have:(r::rs).flatMap Rn.cells=r.cells++rs.flatMap Rn.cells:=by simp
  rw[this,List.getElem?_append_left (by simp[Rn.cells];omega)];simp
 |r::rs,i+1,j,h,hj=>by
  have e:(r::rs).flatMap Rn.cells=r.cells++rs.flatMap Rn.cells:=by simp
  rw[e,List.getElem?_append_right (by simp[Rn.cells];omega)];have:=rn_cells rs i j (by simpa using h) hj;simp only[Rn.cells,List.length_cons,List.length_nil]at this⊢;rw[show(i+1)*3+j-(0+1+1+1)=i*3+j by omega]
  simpa using this
def RdRuns (w:World)(B:Nat)(A:Option Addr)(rs:List Rn):Prop:=Reads w B 3 A rs.length (rs.flatMap Rn.cells)
theorem RdRuns.at_ {w:World}{B:Nat}{A:Option Addr}{rs:List Rn}(h:RdRuns w B A rs){i:Nat}(hi:i<rs.length):
 ∃b off,A=some ⟨b,off,none⟩∧b<B∧b<w.heap.size∧w.cell? ⟨b,off+i*3,none⟩=some (.int .i64 (rs.getD i default).f)∧w.cell? ⟨b,off+i*3+1,none⟩=some (.int .i64 (rs.getD i default).t)∧
  w.cell? ⟨b,off+i*3+2,none⟩=some (.int .i8 (rs.getD i default).v):=by
 obtain⟨b,off,hA,hb,hs,hc⟩:=h.2 (by omega);exact⟨b,off,hA,hb,hs,hc (i*3) _ (rn_cells rs i 0 hi (by omega)),hc (i*3+1) _ (rn_cells rs i 1 hi (by omega)),hc (i*3+2) _ (rn_cells rs i 2 hi (by omega))⟩
theorem RdRuns.below {w w':World}{B C:Nat}{A:Option Addr}{rs:List Rn}(h:RdRuns w B A rs)(hb:Below C w w')(hC:B≤C∨w.heap.size≤C):RdRuns w' B A rs:=Reads.below h hb hC
theorem step_appI {P:Program}{ops:Array Oper}{o:Oper}{a:Act}{w:World}{K:Act→World→Prop}{Q:Exit→Act→World→Prop}{E:Prop}{t e:TypeId}{k:IntKind}{bytes:Nat}(T:ElemI P t e k bytes)
 (hg:o.guard=none) (s x:Operand) (hop:o.op=Op.call {callee:=Callee.builtin Builtin.append,args:=#[s,x],argTypes:=#[t,t]})
 {base:Nat} {v:Value} {l:List Int} (hs:a.eval s=v) (hown:Ints w base e k v l) {q:Nat} {y:Int} (hx:a.eval x= .slice (some ⟨q,0,none⟩) 1 1) (hk:Blk w q e #[.int k y])
 (h63:l.length+1≤maxLen) (hbytes:(l.length+1)*bytes≤140737488355328) (hbase:base≤w.heap.size)
 (hK: ∀g cap w',Ints w' base e k (.slice (some ⟨g,0,none⟩) (l.length+1) cap) (l++[y])→w.grownBy w' v.ownBlock→(v.ownBlock=some g∨g=w.heap.size)→
  K (a.put o.dst (.slice (some ⟨g,0,none⟩) (l.length+1) cap)) w'):
 if Region.wanted o (yielded ops a.tmps)=true then Oper.wp P o a w K Q else E:=by
 have hw:Region.wanted o (yielded ops a.tmps)=true:=by simp[Region.wanted,hg]
 rw[if_pos hw];obtain⟨v',w',hrun,r1,r2,r3⟩:=run_app T.t (w:=w) (c:=1) o.type hown (Reads.blk hk (by simp)) (by simp[Value.oneCell']) h63 hbytes hbase;obtain⟨g,cap,rfl,_,_⟩:=r1.form (by omega);unfold Oper.wp;simp[execOp,hop,resolve,invoke,builtin,hs,hx,hrun,Result.andThen];refine hK g cap w' (by unfold Ints;simpa using r1) r2 ?_
 rcases r3 with r3|r3
 ·exact .inl r3.symm
 ·right;simpa[Value.ownBlock]using r3
end Go.Proofs.YtplpbmkdfabfpaaGreat
