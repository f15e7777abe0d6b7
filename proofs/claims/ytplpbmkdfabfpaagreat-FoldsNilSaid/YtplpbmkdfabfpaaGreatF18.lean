/- Two places that follow one another from the right to the left. -/
import Derived.Test.YtplpbmkdfabfpaaGreatF13
set_option maxRecDepth 100000
set_option maxHeartbeats 2000000
namespace Go.Proofs.YtplpbmkdfabfpaaGreat
open Go.RowKit
def gapR (l:List Int)(a:Nat):Nat→Bool
 |0=>true
 |k+1=>if k<a then true else gapR l a k && remC (l.getD k 0)
def flwB (l v:List Int)(far near:Nat):Bool:=decide (near<far) && (v.getD near 0==v.getD far 0) && ((v.getD near 0).tmod 2==1) && gapR l (near+1) far
theorem gapR_iff {l:List Int}{a:Nat}: ∀b,gapR l a b=true↔ ∀i,a≤i→i<b→remC (l.getD i 0)=true
 |0=>by simp[gapR]
 |k+1=>by
  have ih:=gapR_iff (l:=l) (a:=a) k;rw[gapR]
  split
  ·simp only[true_iff];intro i h1 h2;omega
  ·rw[Bool.and_eq_true,ih];constructor
   ·rintro⟨h1,h2⟩ i h3 h4
    by_cases e:i=k
    ·subst e;exact h2
    ·exact h1 i h3 (by omega)
   ·intro h;exact⟨fun i h1 h2=>h i h1 (by omega),h k (by omega) (by omega)⟩
theorem gapR_map {l:List Int}{a b:Nat}(hb:b≤l.length):gapR (l.map clsC) a b=gapR l a b:=by
 rw[Bool.eq_iff_iff,gapR_iff,gapR_iff];constructor
 ·intro h i h1 h2;have:=h i h1 h2
  rwa [getD_map_cls l (by omega),remC_clsC]at this
 ·intro h i h1 h2;rw[getD_map_cls l (by omega),remC_clsC];exact h i h1 h2
theorem flwB_map {l v:List Int}{far near:Nat}(h:far≤l.length):flwB (l.map clsC) v far near=flwB l v far near:=by unfold flwB;rw[gapR_map h]
theorem RdInts.sub {w:World}{B b off:Nat}{k:IntKind}{l:List Int}(h:RdInts w B k (some ⟨b,off,none⟩) l){a e:Nat}(hae:a≤e)(he:e≤l.length):RdInts w B k (some ⟨b,off+a,none⟩) ((l.drop a).take (e-a)):=by
 have hlen:((l.drop a).take (e-a)).length=e-a:=by simp;omega
 refine⟨by simp,fun hn=> ?_⟩;obtain⟨b',off',e',hb,hs,hc⟩:=h.2 (by omega);cases e';refine⟨_,_,rfl,hb,hs,fun j u hu=> ?_⟩;rw[Nat.add_assoc];refine hc (a+j) u ?_;rw[List.getElem?_map]at hu⊢;rw[List.getElem?_take]at hu
 split at hu
 ·rwa [List.getElem?_drop]at hu
 ·simp at hu
theorem sub_get {l:List Int}{a e j:Nat}(hj:j<e-a):((l.drop a).take (e-a)).getD j 0=l.getD (a+j) 0:=by simp only[List.getD_eq_getElem?_getD,List.getElem?_take,if_pos hj,List.getElem?_drop]
theorem keptC_ok (w:World)(x:Int):Calls Tryz.prog 71 #[.int .u8 x] w fun r w'=>r= .returned (.bool (!remC x))∧w=w':=by
 go_enter Tryz.func71,Tryz.ntmps71
 go_wp2_with(go_at_call 53;refine(Removed_ok _ _).mono ?_;rintro r1 w1 ⟨rfl,rfl⟩)
 go_ret;exact⟨rfl,rfl⟩
theorem index_kept {w:World}{B:Nat}{A:Option Addr}{n c:Nat}{xs:List Int}(hn:n=xs.length)(h:RdInts w B .u8 A xs)(hl:n≤1048576):
 Calls Tryz.prog 104 #[.slice A n c,.func (.func 71) #[] #[]] w fun r w'=> ∃z,r= .returned (.int .i64 z)∧((∀k,k<xs.length→remC (xs.getD k 0)=true)↔z= -1)∧ -1≤z∧w=w':=by
 have HN:=Lib.hid hn;clear hn
 go_enter Tryz.func104,Tryz.ntmps104
 go_wp2
 go_loopg [8] n (fun gk iv wr=> ∃j:Nat,j+gk=n∧iv= .int .i64 j∧(∀k,k<j→remC (xs.getD k 0)=true)∧wr=w)
 case atStart=>exact⟨0,by omega,rfl,by omega,rfl⟩
 case round=>
  obtain⟨j,hj,rfl,hf,e⟩:=hrel;subst wr;have HJ:=Lib.hid hj;have HF:=Lib.hid hf;clear hj hf
  by_cases hlt:j<n
  ·obtain⟨ab,off,rfl,_,_,hc⟩:=h.at_ (i:=j) (by have:=HN.out;omega);generalize hx:xs.getD j 0=x at hc;have HX:=Lib.hid hx;clear hx;cases hb:remC x
   ·go_wp2_with(go_at_call 71;refine(keptC_ok _ _).mono ?_;rintro r1 w1 ⟨rfl,rfl⟩)
    go_ret;refine⟨_,rfl,⟨fun e=> ?_,fun e=>by omega⟩,by omega,rfl⟩;have:=e j (by have:=HN.out;omega);rw[HX.out,hb]at this;cases this
   ·go_wp2_with(go_at_call 71;refine(keptC_ok _ _).mono ?_;rintro r1 w1 ⟨rfl,rfl⟩)
    go_roundg (n-(j+1))
    case rel=>exact⟨j+1,by have:=HJ.out;omega,by go_num,fun k hk=>by
     by_cases e:k=j
     ·subst e;rw[HX.out];exact hb
     ·exact HF.out k (by omega),rfl⟩
    case measure=>have:=HJ.out;omega
  ·have hI: ¬((j:Int)<(n:Int)):=by have:=HJ.out;omega
   go_wp2;go_ret;exact⟨_,rfl,⟨fun _=>rfl,fun _ k hk=>HF.out k (by have:=HN.out;have:=HJ.out;omega)⟩,by omega,rfl⟩
theorem contains_kept {w:World}{B:Nat}{A:Option Addr}{n c:Nat}{xs:List Int}(hn:n=xs.length)(h:RdInts w B .u8 A xs)(hl:n≤1048576):
 Calls Tryz.prog 70 #[.slice A n c,.func (.func 71) #[] #[]] w fun r w'=> ∃b,r= .returned (.bool b)∧((∀k,k<xs.length→remC (xs.getD k 0)=true)↔b=false)∧w=w':=by
 have HN:=Lib.hid hn;clear hn
 go_enter Tryz.func70,Tryz.ntmps70
 go_wp2_with(go_at_call 104;refine(index_kept HN.out h hl).mono ?_;rintro r1 w1 ⟨z,rfl,hz,hz1,rfl⟩)
 go_ret;refine⟨_,rfl,?_,rfl⟩;rw[hz];simp;omega
theorem gapR_sub {l:List Int}{a e:Nat}(hae:a≤e)(he:e≤l.length):(∀k,k<((l.drop a).take (e-a)).length→remC (((l.drop a).take (e-a)).getD k 0)=true)↔gapR l a e=true:=by
 have hlen:((l.drop a).take (e-a)).length=e-a:=by simp;omega
 rw[hlen,gapR_iff];constructor
 ·intro h i h1 h2;have:=h (i-a) (by omega);rw[sub_get (by omega)]at this
  rwa [show a+(i-a)=i by omega]at this
 ·intro h k hk;rw[sub_get hk];exact h _ (by omega) (by omega)
theorem follows_ok {w:World}{B B2:Nat}{A V:Option Addr}{n n2 c cv:Nat}{l v:List Int}{far near:Nat}(hn:n=l.length)(hv:n2=v.length)(hnn:n2=n)(h:RdInts w B .u8 A l)(h2:RdInts w B2 .i8 V v)(hc:n≤c)(hl:n≤1048576)(hf:far<n)(hr:near<n):
 Calls Tryz.prog 41 #[.slice A n c,.slice V n2 cv,.int .i64 far,.int .i64 near] w fun r w'=>r= .returned (.bool (flwB l v far near))∧ ∃m,w'=w.drewN m:=by
 subst hnn;have HN:=Lib.hid (And.intro hn hv);clear hn hv
 by_cases hnf:far≤near
 ·have h1:decide (near<far)=false:=by simp;omega
  have h1':decide ((far:Int)≤(near:Int))=true:=by simp;omega
  unfold flwB;rw[h1];clear h1
  go_enter Tryz.func41,Tryz.ntmps41
  go_wp2_with(go_quiet (fail))
  go_ret;exact⟨rfl,⟨_,rfl⟩⟩
 ·have h1:decide (near<far)=true:=by simp;omega
  have h1':decide ((far:Int)≤(near:Int))=false:=by simp;omega
  obtain⟨vb,vo,rfl,_,_,hcv⟩:=h2.cells (by have:=HN.out;omega);have c1:=hcv near (by have:=HN.out;omega);have c2:=hcv far (by have:=HN.out;omega);have e:flwB l v far near=(decide (near<far) && (v.getD near 0==v.getD far 0) && ((v.getD near 0).tmod 2==1) && gapR l (near+1) far):=rfl;rw[e,h1];clear hcv h1 e;generalize v.getD near 0=x at*;generalize v.getD far 0=y at*
  have hfI:(far:Int)<(n2:Int):=by omega
  have hrI:(near:Int)<(n2:Int):=by omega
  by_cases hxy:x=y
  ·subst hxy
   by_cases hm:x.tmod 2=1
   ·have HM:=Lib.hid hm
    have hm1:(x.tmod 2 !=1)=false:=by simp[hm]
    have hm2:(x.tmod 2==1)=true:=by simp[hm]
    rw[hm2];clear hm hm2;obtain⟨ab,ao,rfl,_,_,_⟩:=h.cells (by have:=HN.out;omega)
    have hsub: ∀nq,Calls Tryz.prog 70 #[.slice (some ⟨ab,ao+(near+1),none⟩) (far-(near+1)) (c-(near+1)),.func (.func 71) #[] #[]] (w.drewN nq) fun r w'=> ∃b,r= .returned (.bool b)∧(gapR l (near+1) far=true↔b=false)∧w.drewN nq=w':=fun nq=>by have hh:RdInts (w.drewN nq) B .u8 (some ⟨ab,ao,none⟩) l:=h;have hx:=contains_kept (w:=w.drewN nq) (c:=c-(near+1)) (by simp;have:=HN.out;omega:far-(near+1)=((l.drop (near+1)).take (far-(near+1))).length) (RdInts.sub hh (a:=near+1) (e:=far) (by omega) (by have:=HN.out;omega)) (by omega);refine hx.mono ?_;rintro r w' ⟨b,h1,h2,h3⟩;exact⟨b,h1,(gapR_sub (by omega) (by have:=HN.out;omega)).symm.trans h2,h3⟩
    have hrb:(near:Int)≤1048576:=by omega
    have hq1:(near:Int)+1≤(far:Int):=by omega
    have hq2:(far:Int)≤(c:Int):=by omega
    have hq3:((far:Int)-((near:Int)+1)).toNat=far-(near+1):=by omega
    have hq4:((near:Int)+1).toNat=near+1:=by omega
    have hq5:near+1≤far:=by omega
    have hq6:far≤c:=by omega
    have hq7:(0:Int)≤(near:Int)+1:=by omega
    go_enter Tryz.func41,Tryz.ntmps41
    go_wp2_with(first
     |(go_quiet (fail))
     |(go_at_call 70;refine(hsub _).mono ?_;rintro r3 w3 ⟨b,rfl,hb,rfl⟩))
    go_ret;refine⟨?_,⟨_,rfl⟩⟩;cases b
    ·rw[hb.2 rfl];simp
    ·have:gapR l (near+1) far=false:=by
      cases hg:gapR l (near+1) far
      ·rfl
      ·exact absurd (hb.1 hg) (by simp)
     rw[this];simp
   ·have hm1:(x.tmod 2 !=1)=true:=by simp[hm]
    have hm2:(x.tmod 2==1)=false:=by simp[hm]
    rw[hm2];clear hm hm2
    go_enter Tryz.func41,Tryz.ntmps41
    go_wp2_with(go_quiet (fail))
    go_ret;exact⟨by simp,⟨_,rfl⟩⟩
  ·have hx1:(x !=y)=true:=by simp[hxy]
   have hx2:(x==y)=false:=by simp[hxy]
   rw[hx2];clear hxy hx2
   go_enter Tryz.func41,Tryz.ntmps41
   go_wp2_with(go_quiet (fail))
   go_ret;exact⟨by simp,⟨_,rfl⟩⟩
end Go.Proofs.YtplpbmkdfabfpaaGreat
