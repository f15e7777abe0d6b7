/- What Marks refuses. -/
import Derived.Test.YtplpbmkdfabfpaaGreatF21
import Derived.Deep.CutRange
import Derived.Deep.CutBlock
set_option maxRecDepth 100000
set_option maxHeartbeats 2000000
namespace Go.Proofs.YtplpbmkdfabfpaaGreat
open Go.RowKit
def MetIs (M os:List Int)(n k:Nat):Prop:=M.length=n∧ ∀p,p<n→(M.getD p 0=0∨M.getD p 0=1)∧(M.getD p 0=1↔ ∃i,i<k∧os.getD i 0=(p:Int))
theorem MetIs.start (os:List Int)(n:Nat):MetIs (List.replicate n 0) os n 0:=by
 refine⟨by simp,fun p hp=> ?_⟩
 have:(List.replicate n (0:Int)).getD p 0=0:=by
  rw[List.getD_eq_getElem?_getD,List.getElem?_replicate]
  split<;>rfl
 rw[this];exact⟨.inl rfl,by simp⟩
theorem MetIs.next {M os:List Int}{n k p:Nat}(h:MetIs M os n k)(hp:p<n)(e:os.getD k 0=(p:Int)):MetIs (M.set p 1) os n (k+1):=by
 refine⟨by simp[h.1],fun q hq=> ?_⟩;have hM:=h.1;rw[getD_set (by omega)]
 by_cases hqp:q=p
 ·rw[if_pos hqp];exact⟨.inr rfl,fun _=>⟨k,by omega,by rw[hqp];exact e⟩,fun _=>rfl⟩
 ·rw[if_neg hqp];obtain⟨h1,h2⟩:=h.2 q hq;refine⟨h1,h2.trans ⟨fun⟨i,hi,he⟩=>⟨i,by omega,he⟩,fun⟨i,hi,he⟩=> ?_⟩⟩
  by_cases hik:i=k
  ·subst hik;rw[e]at he;omega
  ·exact⟨i,by omega,he⟩
theorem GoodO.next {M os:List Int}{n k p:Nat}(h:GoodO n os k)(hM:MetIs M os n k)(hp:p<n)(e:os.getD k 0=(p:Int))(h0:M.getD p 0≠1):GoodO n os (k+1):=by
 intro i hi
 by_cases hik:i=k
 ·subst hik;rw[e];refine⟨by omega,fun j hj he=>h0 ((hM.2 p hp).2.2 ⟨j,hj,he⟩)⟩
 ·exact h i (by omega)
theorem Marks_len {w:World}{A V O:Option Addr}{n n2 n3 c cv co:Nat}(hn:n2≠n):
 Calls Tryz.prog 20 #[.slice A n c,.slice V n2 cv,.slice O n3 co] w fun r w'=>r= .returned (.tuple #[.slice none 0 0,.int .i64 2])∧w=w':=by
 have h1:((n2:Int) !=(n:Int))=true:=by simp;omega
 go_enter Tryz.func20,Tryz.ntmps20
 go_wp2
 go_ret2
 exact⟨rfl,rfl⟩
theorem Marks_bad {w:World}{B3:Nat}{A V O:Option Addr}{n n2 o c cv co:Nat}{os:List Int}(hnn:n2=n)(ho:o=os.length)(h3:RdInts w B3 .i64 O os)(hl:n≤1048576)(hol:o≤1048576)(hbad: ¬GoodO n os o):
 Calls Tryz.prog 20 #[.slice A n c,.slice V n2 cv,.slice O o co] w fun r w'=>r= .returned (.tuple #[.slice none 0 0,.int .i64 2])∧Below w.heap.size w w':=by
 subst hnn;have HO:=Lib.hid ho;have HB:=Lib.hid hbad;clear ho hbad
 go_enter Tryz.func20,Tryz.ntmps20
 go_wp2_with(at_make;go_must (refine wpList_mkI ei24 w.heap.size rfl rfl n2 rfl rfl rfl rfl ?_ ?_ (Nat.le_refl _) ?_))
 ·omega
 ·unfold maxLen;omega
 intro w1 I1 g1;have b1:=(Below.refl w.heap.size w).grown g1 (Nat.le_refl _) (by simp);have hs1:=b1.size;go_wp2
 go_loopg [25] o (fun gk iv wr=> ∃(k:Nat) (M:List Int),k+gk=o∧iv= .int .i64 k∧GoodO n2 os k∧MetIs M os n2 k∧Ints wr w.heap.size 3 .i64 (.slice (some ⟨w.heap.size,0,none⟩) n2 n2) M∧Below w.heap.size w wr)
 case atStart=>exact⟨0,_,by omega,rfl,fun i hi=>by omega,MetIs.start _ _,I1,b1⟩
 case round=>
  obtain⟨k,M,hk,rfl,hg,hM,I,b⟩:=hrel;have HK:=Lib.hid hk;have HG:=Lib.hid hg;have HM:=Lib.hid hM;clear hk hg hM
  by_cases hlt:k<o
  ·obtain⟨oa,oo,rfl,_,_,hc⟩:=(h3.below b (.inr (Nat.le_refl _))).at_ (i:=k) (by rw[←HO.out];exact hlt);generalize hx:os.getD k 0=x at hc;have HX:=Lib.hid hx;clear hx
   by_cases hx0:x<0
   ·go_wp2
    go_ret2
    exact⟨rfl,b⟩
   ·have hx0':0≤x:=by omega
    by_cases hxn:(n2:Int)≤x
    ·go_wp2
     go_ret2
     exact⟨rfl,b⟩
    ·obtain⟨p,rfl⟩:=Int.eq_ofNat_of_zero_le hx0'
     have hpn:p<n2:=by omega
     obtain⟨hMl,_,_,hgd,hgr,hfr,hce⟩:=I.at_;have hMn:=HM.out.1;have hcp:=hce p (by omega);have hp:=HM.out.2 p hpn;have HXP:=Lib.hid hp;have HML:=Lib.hid hMl;clear hce hx0 hx0' hxn hMl hMn hp;have hz:M.getD p 0=0∨M.getD p 0=1:=HXP.out.1;generalize hmz:M.getD p 0=z at*;have HMZ:=Lib.hid hmz;clear hmz
     have hpI:(p:Int)<(n2:Int):=by omega
     rcases hz with rfl|rfl
     ·go_wp2
      go_roundg (o-(k+1))
      case rel=>exact⟨k+1,M.set p 1,by have:=HK.out;omega,by go_num,HG.out.next HM.out hpn HX.out (by rw[HMZ.out];omega),HM.out.next hpn HX.out,I.set p 1,b.setCell (Nat.le_refl _) _⟩
      case measure=>have:=HK.out;omega
     ·go_wp2
      go_ret2
      exact⟨rfl,b⟩
  ·exact absurd (show GoodO n2 os o by have:=HK.out;have e:k=o:=by omega
                                       rw[←e];exact HG.out) HB.out
end Go.Proofs.YtplpbmkdfabfpaaGreat
