/- The program's rules W1 to W7 walked: what stands ahead and behind, and the simple passes. The program's rules W1 and W4 walked. The program's rule W5: rows of ET, as one pass; walked. -/
import Derived.Test.YtllolnkkepacjaaGreatWk2
import Derived.Great.Walk
import Derived.Deep.CutBlock
import Derived.WalkMore
set_option maxRecDepth 100000
set_option maxHeartbeats 8000000
namespace Go.Proofs.YtllolnkkepacjaaGreat
open Go.RowKit
section
attribute [local go_sem] Oper.semAt_some
structure WkAt (W:World) (B q g n cap:Nat) (sos:Int) (l:List Int):Prop where
 hd:Blk W q 195 #[.slice (some ⟨g,0,none⟩) n cap,.int .u8 sos]
 row:Ints W B 22 .u8 (.slice (some ⟨g,0,none⟩) n cap) l
section
variable{W:World} {B q g n cap:Nat} {sos:Int} {l:List Int}
theorem WkAt.ne (h:WkAt W B q g n cap sos l):q≠g:=by
 obtain⟨rfl,_⟩:=h.row.at_;obtain⟨cur,_,hb,_⟩:=own_blk h.row;rintro rfl;have h1:=h.hd;unfold Blk at h1 hb;rw[hb]at h1
 injection h1 with h1
 injection h1 with _ h2 _
 exact absurd h2 (by decide)
theorem WkAt.len (h:WkAt W B q g n cap sos l):n=l.length:=h.row.at_.1
theorem WkAt.cell (h:WkAt W B q g n cap sos l){k:Nat}(hk:k<n):W.cell? ⟨g,k,none⟩=some (.int .u8 (l.getD k 0)):=by have:=h.row.at_;exact this.2.2.2.2.2.2 k (by rw[←this.1];exact hk)
theorem WkAt.free (h:WkAt W B q g n cap sos l): ∀j,W.frozen? ⟨g,j,none⟩=false:=h.row.at_.2.2.2.2.2.1
theorem WkAt.lt (h:WkAt W B q g n cap sos l):g<W.heap.size:=h.row.at_.2.2.2.2.1
theorem WkAt.caps (h:WkAt W B q g n cap sos l):n≤cap∧cap≤maxLen:=by have:=h.row.at_;exact⟨by rw[this.1];exact this.2.1,this.2.2.1⟩
theorem WkAt.set (h:WkAt W B q g n cap sos l)(i:Nat)(x:Int):WkAt (W.setCell ⟨g,i,none⟩ (.int .u8 x)) B q g n cap sos (l.set i x):=⟨h.hd.far (p:=⟨g,i,none⟩) h.ne _,h.row.set i x⟩
end
theorem wahead_ok {W:World}{B q g n cap:Nat}{sos:Int}{l:List Int}(h:WkAt W B q g n cap sos l){k:Nat}(hk:k<n)(hl:n≤1099511627776):
 Calls Tryz.prog 156 #[.pointer (some ⟨q,0,none⟩),.int .i64 k] W fun e w'=>e= .returned (.int .u8 (if k=0 then sos else l.getD (k-1) 0))∧w'=W:=by
 obtain⟨x0,x1,xf,xl⟩:=h.hd.c2
 by_cases h0:k=0
 ·subst h0
  go_enter Tryz.func156,Tryz.ntmps156
  go_wp2;go_ret;exact⟨rfl,rfl⟩
 ·rw[if_neg h0];have hc:=h.cell (k:=k-1) (by omega);have hlt:=h.lt
  have hm:((k:Int)-1)=((k-1:Nat):Int):=by omega
  have hk1:k-1<n:=by omega
  have hk0:((k:Int)==0)=false:=by simp;omega
  obtain⟨x,hx⟩: ∃x,l.getD (k-1) 0=x:=⟨_,rfl⟩;rw[hx]at hc⊢;clear hx h
  go_enter Tryz.func156,Tryz.ntmps156
  go_wp2;go_ret;exact⟨rfl,rfl⟩
theorem behind_ok {W:World}{B q g n cap:Nat}{sos:Int}{l:List Int}(h:WkAt W B q g n cap sos l){k:Nat}(hk:k<n)(hl:n≤1099511627776):
 Calls Tryz.prog 157 #[.pointer (some ⟨q,0,none⟩),.int .i64 k] W fun e w'=>e= .returned (.int .u8 (l.getD (k+1) 0))∧w'=W:=by
 obtain⟨x0,x1,xf,xl⟩:=h.hd.c2;have hlen:=h.len
 by_cases h0:k+1=n
 ·have hz:l.getD (k+1) 0=0:=by rw[List.getD_eq_getElem?_getD,List.getElem?_eq_none (by omega)];rfl
  rw[hz]
  have he:((k:Int)+1==(n:Int))=true:=by simp;omega
  clear hlen hz h
  go_enter Tryz.func157,Tryz.ntmps157
  go_wp2;go_ret;exact⟨rfl,rfl⟩
 ·have hc:=h.cell (k:=k+1) (by omega);have hlt:=h.lt
  have he:((k:Int)+1==(n:Int))=false:=by simp;omega
  have hk1:k+1<n:=by omega
  obtain⟨x,hx⟩: ∃x,l.getD (k+1) 0=x:=⟨_,rfl⟩;rw[hx]at hc⊢;clear hx h hlen h0
  go_enter Tryz.func157,Tryz.ntmps157
  go_wp2;go_ret;exact⟨rfl,rfl⟩
theorem letters_ok {W:World}{B q g n cap:Nat}{sos:Int}{l:List Int}(h:WkAt W B q g n cap sos l)(hl:n≤1099511627776):
 Calls Tryz.prog 117 #[.pointer (some ⟨q,0,none⟩)] W fun e w'=>e= .returned (.tuple #[])∧WkAt w' B q g n cap sos (passW g3 0 l)∧Frm (fun j=>j=g) W w':=by
 obtain⟨x0,x1,xf,xl⟩:=h.hd.c2;have hlen:=Lib.hid h.len
 go_enter Tryz.func117,Tryz.ntmps117
 go_upto_region 1 with(fail)
 go_loopg [9] n (fun gk iv wr=> ∃k:Nat,k+gk=n∧iv= .int .i64 k∧WkAt wr B q g n cap sos (curW g3 0 l k)∧Frm (fun j=>j=g) W wr)
 case atStart=>exact⟨0,by omega,rfl,by rw[curW_zero];exact h,Frm.refl _ _⟩
 case round=>
  obtain⟨k,hk,rfl,I,F⟩:=hrel
  by_cases hkn:k<n
  ·have hkl:k<l.length:=by have:=hlen.out;omega
   have hc:=I.cell hkn;rw[curW_ge _ l (by omega) (Nat.le_refl k)]at hc;obtain⟨y0,y1,yf,yl⟩:=I.hd.c2;have hfr:=I.free;have hlt:=I.lt;obtain⟨hc1,hc2⟩:=I.caps;have hset:=curW_set (g:=g3) 0 l hkl;have hsame:=curW_same (g:=g3) 0 l hkl;have hst:=stW_succ (g:=g3) 0 l k hkl;obtain⟨c,hcc⟩: ∃c,l.getD k 0=c:=⟨_,rfl⟩;obtain⟨s,hs⟩: ∃s,stW g3 0 l k=s:=⟨_,rfl⟩;obtain⟨r,hr⟩: ∃r,l.drop (k+1)=r:=⟨_,rfl⟩;rw[hcc,hs,hr]at hset hsame hst;rw[hcc]at hc;clear hcc hs hr
   rcases h3:(c==3)with _|_
   ·have h3':c≠3:=by simpa using h3
    have hv:(g3 s c r).1=c:=by unfold g3;simp only;rw[if_neg h3']
    have HS:=Lib.hid (hsame hv);clear hset hsame hst hv;go_wp2
    go_roundg (n-(k+1))
    case rel=>exact⟨k+1,by omega,by go_num,by rw[←HS.out];exact I,F⟩
    case measure=>omega
   ·have h3':c=3:=by simpa using h3
    subst h3'
    have hv:(g3 s 3 r).1=2:=by rfl
    rw[hv]at hset;have HS:=Lib.hid hset;clear hset hsame hst hv;go_wp2
    go_roundg (n-(k+1))
    case rel=>exact⟨k+1,by omega,by go_num,by rw[←HS.out];exact I.set k 2,F.set rfl _⟩
    case measure=>omega
  ·have hkk:curW g3 0 l k=passW g3 0 l:=curW_end 0 l (by have:=hlen.out;omega);rw[hkk]at I;go_wp2;refine Go.Great.bodyPost_end0 rfl rfl ?_;exact⟨rfl,I,F⟩
theorem others_ok {W:World}{B q g n cap:Nat}{sos:Int}{l:List Int}(h:WkAt W B q g n cap sos l)(hl:n≤1099511627776):
 Calls Tryz.prog 120 #[.pointer (some ⟨q,0,none⟩)] W fun e w'=>e= .returned (.tuple #[])∧WkAt w' B q g n cap sos (passW g6 0 l)∧Frm (fun j=>j=g) W w':=by
 obtain⟨x0,x1,xf,xl⟩:=h.hd.c2;have hlen:=Lib.hid h.len
 go_enter Tryz.func120,Tryz.ntmps120
 go_upto_region 1 with(fail)
 go_loopg [9] n (fun gk iv wr=> ∃k:Nat,k+gk=n∧iv= .int .i64 k∧WkAt wr B q g n cap sos (curW g6 0 l k)∧Frm (fun j=>j=g) W wr)
 case atStart=>exact⟨0,by omega,rfl,by rw[curW_zero];exact h,Frm.refl _ _⟩
 case round=>
  obtain⟨k,hk,rfl,I,F⟩:=hrel
  by_cases hkn:k<n
  ·have hkl:k<l.length:=by have:=hlen.out;omega
   have hc:=I.cell hkn;rw[curW_ge _ l (by omega) (Nat.le_refl k)]at hc;obtain⟨y0,y1,yf,yl⟩:=I.hd.c2;have hfr:=I.free;have hlt:=I.lt;obtain⟨hc1,hc2⟩:=I.caps;have hset:=curW_set (g:=g6) 0 l hkl;have hsame:=curW_same (g:=g6) 0 l hkl;have hst:=stW_succ (g:=g6) 0 l k hkl;obtain⟨c,hcc⟩: ∃c,l.getD k 0=c:=⟨_,rfl⟩;obtain⟨s,hs⟩: ∃s,stW g6 0 l k=s:=⟨_,rfl⟩;obtain⟨r,hr⟩: ∃r,l.drop (k+1)=r:=⟨_,rfl⟩;rw[hcc,hs,hr]at hset hsame hst;rw[hcc]at hc;clear hcc hs hr
   by_cases hc6:c=5∨c=6∨c=8
   ·rcases hc6 with rfl|rfl|rfl
    ·have hv:(g6 s 5 r).1=14:=by rfl
     rw[hv]at hset;have HS:=Lib.hid hset;clear hset hsame hst hv;go_wp2
     go_roundg (n-(k+1))
     case rel=>exact⟨k+1,by omega,by go_num,by rw[←HS.out];exact I.set k 14,F.set rfl _⟩
     case measure=>omega
    ·have hv:(g6 s 6 r).1=14:=by rfl
     rw[hv]at hset;have HS:=Lib.hid hset;clear hset hsame hst hv;go_wp2
     go_roundg (n-(k+1))
     case rel=>exact⟨k+1,by omega,by go_num,by rw[←HS.out];exact I.set k 14,F.set rfl _⟩
     case measure=>omega
    ·have hv:(g6 s 8 r).1=14:=by rfl
     rw[hv]at hset;have HS:=Lib.hid hset;clear hset hsame hst hv;go_wp2
     go_roundg (n-(k+1))
     case rel=>exact⟨k+1,by omega,by go_num,by rw[←HS.out];exact I.set k 14,F.set rfl _⟩
     case measure=>omega
   ·have e5:(c==5)=false:=by simp;omega
    have e6:(c==6)=false:=by simp;omega
    have e8:(c==8)=false:=by simp;omega
    have hv:(g6 s c r).1=c:=by unfold g6;simp only;rw[if_neg hc6]
    have HS:=Lib.hid (hsame hv);clear hset hsame hst hv;go_wp2
    go_roundg (n-(k+1))
    case rel=>exact⟨k+1,by omega,by go_num,by rw[←HS.out];exact I,F⟩
    case measure=>omega
  ·have hkk:curW g6 0 l k=passW g6 0 l:=curW_end 0 l (by have:=hlen.out;omega);rw[hkk]at I;go_wp2;refine Go.Great.bodyPost_end0 rfl rfl ?_;exact⟨rfl,I,F⟩
theorem arabic_ok {W:World}{B q g n cap:Nat}{sos:Int}{l:List Int}(h:WkAt W B q g n cap sos l)(hl:n≤1099511627776):
 Calls Tryz.prog 116 #[.pointer (some ⟨q,0,none⟩)] W fun e w'=>e= .returned (.tuple #[])∧WkAt w' B q g n cap sos (passW g2 sos l)∧Frm (fun j=>j=g) W w':=by
 obtain⟨x0,x1,xf,xl⟩:=h.hd.c2;have hlen:=Lib.hid h.len
 go_enter Tryz.func116,Tryz.ntmps116
 go_upto_region 2 with(fail)
 go_loopg [2,14] n (fun gk sv iv wr=> ∃k:Nat,k+gk=n∧iv= .int .i64 k∧sv= .int .u8 (stW g2 sos l k)∧WkAt wr B q g n cap sos (curW g2 sos l k)∧Frm (fun j=>j=g) W wr)
 case atStart=>exact⟨0,by omega,rfl,by unfold stW;rcases l with _|_<;>rfl,by rw[curW_zero];exact h,Frm.refl _ _⟩
 case round=>
  obtain⟨k,hk,rfl,rfl,I,F⟩:=hrel
  by_cases hkn:k<n
  ·have hkl:k<l.length:=by have:=hlen.out;omega
   have hc:=I.cell hkn;rw[curW_ge _ l (by omega) (Nat.le_refl k)]at hc;obtain⟨y0,y1,yf,yl⟩:=I.hd.c2;have hfr:=I.free;have hlt:=I.lt;obtain⟨hc1,hc2⟩:=I.caps;have hset:=curW_set (g:=g2) sos l hkl;have hsame:=curW_same (g:=g2) sos l hkl;have hst:=stW_succ (g:=g2) sos l k hkl;obtain⟨c,hcc⟩: ∃c,l.getD k 0=c:=⟨_,rfl⟩;obtain⟨s,hs⟩: ∃s,stW g2 sos l k=s:=⟨_,rfl⟩;obtain⟨r,hr⟩: ∃r,l.drop (k+1)=r:=⟨_,rfl⟩;rw[hcc,hs,hr]at hset hsame hst;rw[hcc]at hc;rw[hs];clear hcc hs hr
   by_cases hcs:c=1∨c=2∨c=3
   ·rcases hcs with rfl|rfl|rfl
    ·have hv:(g2 s 1 r).1=1:=by simp[g2]
     have hw:(g2 s 1 r).2=1:=by simp[g2]
     have HS:=Lib.hid (hsame hv);rw[hw]at hst;have HT:=Lib.hid hst;clear hset hsame hst hv hw;go_wp2
     go_roundg (n-(k+1))
     case rel=>exact⟨k+1,by omega,by go_num,by rw[HT.out],by rw[←HS.out];exact I,F⟩
     case measure=>omega
    ·have hv:(g2 s 2 r).1=2:=by simp[g2]
     have hw:(g2 s 2 r).2=2:=by simp[g2]
     have HS:=Lib.hid (hsame hv);rw[hw]at hst;have HT:=Lib.hid hst;clear hset hsame hst hv hw;go_wp2
     go_roundg (n-(k+1))
     case rel=>exact⟨k+1,by omega,by go_num,by rw[HT.out],by rw[←HS.out];exact I,F⟩
     case measure=>omega
    ·have hv:(g2 s 3 r).1=3:=by simp[g2]
     have hw:(g2 s 3 r).2=3:=by simp[g2]
     have HS:=Lib.hid (hsame hv);rw[hw]at hst;have HT:=Lib.hid hst;clear hset hsame hst hv hw;go_wp2
     go_roundg (n-(k+1))
     case rel=>exact⟨k+1,by omega,by go_num,by rw[HT.out],by rw[←HS.out];exact I,F⟩
     case measure=>omega
   ·by_cases h4:c=4
    ·subst h4
     rcases hss:(s==3)with _|_
     ·have hs2:s≠3:=by simpa using hss
      have hv:(g2 s 4 r).1=4:=by simp[g2,hs2]
      have hw:(g2 s 4 r).2=s:=by simp[g2,hs2]
      have HS:=Lib.hid (hsame hv);rw[hw]at hst;have HT:=Lib.hid hst;clear hset hsame hst hv hw;go_wp2
      go_roundg (n-(k+1))
      case rel=>exact⟨k+1,by omega,by go_num,by rw[HT.out],by rw[←HS.out];exact I,F⟩
      case measure=>omega
     ·have hs2:s=3:=by simpa using hss
      subst hs2
      have hv:(g2 3 4 r).1=7:=by simp[g2]
      have hw:(g2 3 4 r).2=3:=by simp[g2]
      rw[hv]at hset;have HS:=Lib.hid hset;rw[hw]at hst;have HT:=Lib.hid hst;clear hset hsame hst hv hw;go_wp2
      go_roundg (n-(k+1))
      case rel=>exact⟨k+1,by omega,by go_num,by rw[HT.out],by rw[←HS.out];exact I.set k 7,F.set rfl _⟩
      case measure=>omega
    ·have e1:(c==1)=false:=by simp;omega
     have e2:(c==2)=false:=by simp;omega
     have e3:(c==3)=false:=by simp;omega
     have e4:(c==4)=false:=by simp;omega
     have hv:(g2 s c r).1=c:=by unfold g2;simp only;first|rw[if_neg (by omega)]|rw[if_neg hcs]
     have hw:(g2 s c r).2=s:=by unfold g2;simp only;first|rw[if_neg (by omega)]|rw[if_neg hcs]
     have HS:=Lib.hid (hsame hv);rw[hw]at hst;have HT:=Lib.hid hst;clear hset hsame hst hv hw;go_wp2
     go_roundg (n-(k+1))
     case rel=>exact⟨k+1,by omega,by go_num,by rw[HT.out],by rw[←HS.out];exact I,F⟩
     case measure=>omega
  ·have hkk:curW g2 sos l k=passW g2 sos l:=curW_end sos l (by have:=hlen.out;omega);rw[hkk]at I;go_wp2;refine Go.Great.bodyPost_end0 rfl rfl ?_;exact⟨rfl,I,F⟩
theorem european_ok {W:World}{B q g n cap:Nat}{sos:Int}{l:List Int}(h:WkAt W B q g n cap sos l)(hl:n≤1099511627776):
 Calls Tryz.prog 121 #[.pointer (some ⟨q,0,none⟩)] W fun e w'=>e= .returned (.tuple #[])∧WkAt w' B q g n cap sos (passW g7 sos l)∧Frm (fun j=>j=g) W w':=by
 obtain⟨x0,x1,xf,xl⟩:=h.hd.c2;have hlen:=Lib.hid h.len
 go_enter Tryz.func121,Tryz.ntmps121
 go_upto_region 2 with(fail)
 go_loopg [2,14] n (fun gk sv iv wr=> ∃k:Nat,k+gk=n∧iv= .int .i64 k∧sv= .int .u8 (stW g7 sos l k)∧WkAt wr B q g n cap sos (curW g7 sos l k)∧Frm (fun j=>j=g) W wr)
 case atStart=>exact⟨0,by omega,rfl,by unfold stW;rcases l with _|_<;>rfl,by rw[curW_zero];exact h,Frm.refl _ _⟩
 case round=>
  obtain⟨k,hk,rfl,rfl,I,F⟩:=hrel
  by_cases hkn:k<n
  ·have hkl:k<l.length:=by have:=hlen.out;omega
   have hc:=I.cell hkn;rw[curW_ge _ l (by omega) (Nat.le_refl k)]at hc;obtain⟨y0,y1,yf,yl⟩:=I.hd.c2;have hfr:=I.free;have hlt:=I.lt;obtain⟨hc1,hc2⟩:=I.caps;have hset:=curW_set (g:=g7) sos l hkl;have hsame:=curW_same (g:=g7) sos l hkl;have hst:=stW_succ (g:=g7) sos l k hkl;obtain⟨c,hcc⟩: ∃c,l.getD k 0=c:=⟨_,rfl⟩;obtain⟨s,hs⟩: ∃s,stW g7 sos l k=s:=⟨_,rfl⟩;obtain⟨r,hr⟩: ∃r,l.drop (k+1)=r:=⟨_,rfl⟩;rw[hcc,hs,hr]at hset hsame hst;rw[hcc]at hc;rw[hs];clear hcc hs hr
   by_cases hcs:c=1∨c=2
   ·rcases hcs with rfl|rfl
    ·have hv:(g7 s 1 r).1=1:=by simp[g7]
     have hw:(g7 s 1 r).2=1:=by simp[g7]
     have HS:=Lib.hid (hsame hv);rw[hw]at hst;have HT:=Lib.hid hst;clear hset hsame hst hv hw;go_wp2
     go_roundg (n-(k+1))
     case rel=>exact⟨k+1,by omega,by go_num,by rw[HT.out],by rw[←HS.out];exact I,F⟩
     case measure=>omega
    ·have hv:(g7 s 2 r).1=2:=by simp[g7]
     have hw:(g7 s 2 r).2=2:=by simp[g7]
     have HS:=Lib.hid (hsame hv);rw[hw]at hst;have HT:=Lib.hid hst;clear hset hsame hst hv hw;go_wp2
     go_roundg (n-(k+1))
     case rel=>exact⟨k+1,by omega,by go_num,by rw[HT.out],by rw[←HS.out];exact I,F⟩
     case measure=>omega
   ·by_cases h4:c=4
    ·subst h4
     rcases hss:(s==1)with _|_
     ·have hs2:s≠1:=by simpa using hss
      have hv:(g7 s 4 r).1=4:=by simp[g7,hs2]
      have hw:(g7 s 4 r).2=s:=by simp[g7,hs2]
      have HS:=Lib.hid (hsame hv);rw[hw]at hst;have HT:=Lib.hid hst;clear hset hsame hst hv hw;go_wp2
      go_roundg (n-(k+1))
      case rel=>exact⟨k+1,by omega,by go_num,by rw[HT.out],by rw[←HS.out];exact I,F⟩
      case measure=>omega
     ·have hs2:s=1:=by simpa using hss
      subst hs2
      have hv:(g7 1 4 r).1=1:=by simp[g7]
      have hw:(g7 1 4 r).2=1:=by simp[g7]
      rw[hv]at hset;have HS:=Lib.hid hset;rw[hw]at hst;have HT:=Lib.hid hst;clear hset hsame hst hv hw;go_wp2
      go_roundg (n-(k+1))
      case rel=>exact⟨k+1,by omega,by go_num,by rw[HT.out],by rw[←HS.out];exact I.set k 1,F.set rfl _⟩
      case measure=>omega
    ·have e1:(c==1)=false:=by simp;omega
     have e2:(c==2)=false:=by simp;omega
     have e4:(c==4)=false:=by simp;omega
     have hv:(g7 s c r).1=c:=by unfold g7;simp only;first|rw[if_neg (by omega)]|rw[if_neg hcs]
     have hw:(g7 s c r).2=s:=by unfold g7;simp only;first|rw[if_neg (by omega)]|rw[if_neg hcs]
     have HS:=Lib.hid (hsame hv);rw[hw]at hst;have HT:=Lib.hid hst;clear hset hsame hst hv hw;go_wp2
     go_roundg (n-(k+1))
     case rel=>exact⟨k+1,by omega,by go_num,by rw[HT.out],by rw[←HS.out];exact I,F⟩
     case measure=>omega
  ·have hkk:curW g7 sos l k=passW g7 sos l:=curW_end sos l (by have:=hlen.out;omega);rw[hkk]at I;go_wp2;refine Go.Great.bodyPost_end0 rfl rfl ?_;exact⟨rfl,I,F⟩
end
section
attribute [local go_sem] Oper.semAt_some
theorem marks_ok {W:World}{B q g n cap:Nat}{sos:Int}{l:List Int}(h:WkAt W B q g n cap sos l)(hl:n≤1099511627776):
 Calls Tryz.prog 115 #[.pointer (some ⟨q,0,none⟩)] W fun e w'=>e= .returned (.tuple #[])∧WkAt w' B q g n cap sos (passW g1 sos l)∧Frm (fun j=>j=g) W w':=by
 obtain⟨x0,x1,xf,xl⟩:=h.hd.c2;have hlen:=Lib.hid h.len
 go_enter Tryz.func115,Tryz.ntmps115
 go_upto_region 1 with(fail)
 go_loopg [10] n (fun gk iv wr=> ∃k:Nat,k+gk=n∧iv= .int .i64 k∧WkAt wr B q g n cap sos (curW g1 sos l k)∧Frm (fun j=>j=g) W wr)
 case atStart=>exact⟨0,by omega,rfl,by rw[curW_zero];exact h,Frm.refl _ _⟩
 case round=>
  obtain⟨k,hk,rfl,I,F⟩:=hrel
  by_cases hkn:k<n
  ·have hkl:k<l.length:=by have:=hlen.out;omega
   have hc:=I.cell hkn;rw[curW_ge _ l (by omega) (Nat.le_refl k)]at hc;obtain⟨y0,y1,yf,yl⟩:=I.hd.c2;have hfr:=I.free;have hlt:=I.lt;obtain⟨hc1,hc2⟩:=I.caps;have hset:=curW_set (g:=g1) sos l hkl;have hsame:=curW_same (g:=g1) sos l hkl;have hst:=st1 sos l k (by omega);have CA:=wahead_ok I hkn hl
   have hah:(if k=0 then sos else(curW g1 sos l k).getD (k-1) 0)=stW g1 sos l k:=by
    rw[hst]
    split
    ·rfl
    ·exact curW_lt sos l (by omega) (by omega)
   rw[hah]at CA;obtain⟨c,hcc⟩: ∃c,l.getD k 0=c:=⟨_,rfl⟩;obtain⟨s,hs⟩: ∃s,stW g1 sos l k=s:=⟨_,rfl⟩;obtain⟨r,hr⟩: ∃r,l.drop (k+1)=r:=⟨_,rfl⟩;rw[hcc,hs,hr]at hset hsame;rw[hcc]at hc;rw[hs]at CA;clear hcc hs hr hst hah
   by_cases h9:c=9
   ·subst h9
    rcases hi:isoK s with _|_
    ·have hv:(g1 s 9 r).1=s:=by simp[g1,hi]
     rw[hv]at hset;have HS:=Lib.hid hset
     have e0:(s==20)=false:=by simp[isoK]at hi;simp;omega
     have e1:(s==21)=false:=by simp[isoK]at hi;simp;omega
     have e2:(s==22)=false:=by simp[isoK]at hi;simp;omega
     have e3:(s==23)=false:=by simp[isoK]at hi;simp;omega
     clear hset hsame hv hi
     go_wp2_with(go_at_call 156;refine CA.mono ?_;rintro r5 w5 ⟨rfl,h5⟩;replace h5:=h5.symm;subst h5)
     go_roundg (n-(k+1))
     case rel=>exact⟨k+1,by omega,by go_num,by rw[←HS.out];exact I.set k s,F.set rfl _⟩
     case measure=>omega
    ·have hv:(g1 s 9 r).1=14:=by simp[g1,hi]
     rw[hv]at hset;have HS:=Lib.hid hset
     have hi4:s=20∨s=21∨s=22∨s=23:=by simp[isoK]at hi;omega
     clear hset hsame hv hi
     rcases hi4 with rfl|rfl|rfl|rfl
     all_goals
      go_wp2_with(go_at_call 156;refine CA.mono ?_;rintro r5 w5 ⟨rfl,h5⟩;replace h5:=h5.symm;subst h5)
      go_roundg (n-(k+1))
      case rel=>exact⟨k+1,by omega,by go_num,by rw[←HS.out];exact I.set k 14,F.set rfl _⟩
      case measure=>omega
   ·have hv:(g1 s c r).1=c:=by unfold g1;rw[if_neg h9]
    have HS:=Lib.hid (hsame hv);have e9:(c !=9)=true:=bne_iff_ne.2 h9;clear hset hsame hv;go_wp2
    go_roundg (n-(k+1))
    case rel=>exact⟨k+1,by omega,by go_num,by rw[←HS.out];exact I,F⟩
    case measure=>omega
  ·have hkk:curW g1 sos l k=passW g1 sos l:=curW_end sos l (by have:=hlen.out;omega);rw[hkk]at I;go_wp2;refine Go.Great.bodyPost_end0 rfl rfl ?_;exact⟨rfl,I,F⟩
theorem between_ok {W:World}{B q g n cap:Nat}{sos:Int}{l:List Int}(h:WkAt W B q g n cap sos l)(hl:n≤1099511627776):
 Calls Tryz.prog 118 #[.pointer (some ⟨q,0,none⟩)] W fun e w'=>e= .returned (.tuple #[])∧WkAt w' B q g n cap sos (passW g4 0 l)∧Frm (fun j=>j=g) W w':=by
 obtain⟨x0,x1,xf,xl⟩:=h.hd.c2;have hlen:=Lib.hid h.len
 go_enter Tryz.func118,Tryz.ntmps118
 go_upto_region 1 with(fail)
 go_loopg [10] n (fun gk iv wr=> ∃k:Nat,k+gk=n∧iv= .int .i64 k∧WkAt wr B q g n cap sos (curW g4 0 l k)∧Frm (fun j=>j=g) W wr)
 case atStart=>exact⟨0,by omega,rfl,by rw[curW_zero];exact h,Frm.refl _ _⟩
 case round=>
  obtain⟨k,hk,rfl,I,F⟩:=hrel
  by_cases hkn:k<n
  ·have hkl:k<l.length:=by have:=hlen.out;omega
   have hc:=I.cell hkn;rw[curW_ge _ l (by omega) (Nat.le_refl k)]at hc;obtain⟨y0,y1,yf,yl⟩:=I.hd.c2;have hfr:=I.free;have hlt:=I.lt;obtain⟨hc1,hc2⟩:=I.caps;have hset:=curW_set (g:=g4) 0 l hkl;have hsame:=curW_same (g:=g4) 0 l hkl;have hst:=st4 l k (by omega);have CA:=wahead_ok I hkn hl;have CB:=behind_ok I hkn hl;rw[curW_ge _ l (by omega) (Nat.le_succ k),nx_head]at CB;obtain⟨c,hcc⟩: ∃c,l.getD k 0=c:=⟨_,rfl⟩;rw[hcc]at hc hset hsame
   have H0:k=0→stW g4 0 l k=0:=fun e=>by rw[hst];unfold prK;rw[if_pos e]
   have hah: ¬k=0→(if k=0 then sos else(curW g4 0 l k).getD (k-1) 0)=stW g4 0 l k:=fun e=>by rw[hst];unfold prK;rw[if_neg e,if_neg e];exact curW_lt 0 l (by omega) (by omega)
   obtain⟨y,hy⟩: ∃y,(l.drop (k+1)).headD 0=y:=⟨_,rfl⟩;obtain⟨s,hs⟩: ∃s,stW g4 0 l k=s:=⟨_,rfl⟩
   have hval:(g4 s c (l.drop (k+1))).1=if(c=5∨c=8)∧s=y∧(s=4∨(s=7∧c=8))then s else c:=by unfold g4;rw[hy];split<;>rfl
   rw[hs]at hset hsame H0 hah;rw[hval]at hset hsame;rw[hy]at CB;clear hcc hs hst hy hval
   by_cases h58:c=5∨c=8
   ·by_cases h0:k=0
    ·have HS:=Lib.hid (hsame (if_neg (by have:=H0 h0;omega)));clear hset hsame CA CB hah H0;subst h0
     rcases h58 with rfl|rfl
     all_goals
      go_wp2
      go_roundg (n-1)
      case rel=>exact⟨1,by omega,by go_num,by rw[←HS.out];exact I,F⟩
      case measure=>omega
    ·have hk0:((k:Int)==0)=false:=by simp;omega
     rw[hah h0]at CA;clear hah H0
     by_cases hyes:s=y∧(s=4∨(s=7∧c=8))
     ·obtain⟨rfl,hv⟩:=hyes;rw[if_pos ⟨h58,rfl,hv⟩]at hset;have HS:=Lib.hid hset;clear hset hsame
      rcases hv with rfl|⟨rfl,rfl⟩
      ·rcases h58 with rfl|rfl
       all_goals
        go_wp2_with(first
         |(go_at_call 156;refine CA.mono ?_;rintro r5 w5 ⟨rfl,h5⟩;replace h5:=h5.symm;subst h5)
         |(go_at_call 157;refine CB.mono ?_;rintro r6 w6 ⟨rfl,h6⟩;replace h6:=h6.symm;subst h6))
        go_roundg (n-(k+1))
        case rel=>exact⟨k+1,by omega,by go_num,by rw[←HS.out];exact I.set k 4,F.set rfl _⟩
        case measure=>omega
      ·clear h58
       go_wp2_with(first
        |(go_at_call 156;refine CA.mono ?_;rintro r5 w5 ⟨rfl,h5⟩;replace h5:=h5.symm;subst h5)
        |(go_at_call 157;refine CB.mono ?_;rintro r6 w6 ⟨rfl,h6⟩;replace h6:=h6.symm;subst h6))
       go_roundg (n-(k+1))
       case rel=>exact⟨k+1,by omega,by go_num,by rw[←HS.out];exact I.set k 7,F.set rfl _⟩
       case measure=>omega
     ·have HS:=Lib.hid (hsame (if_neg (fun e=>hyes e.2)));clear hset hsame
      have hcase:(s !=y)=true∨(s=y∧(s==4)=false∧(s==7)=false)∨(s=y∧s=7∧c=5):=by
       by_cases h1:s=y
       ·by_cases h2:s=7
        ·exact .inr (.inr ⟨h1,h2,by omega⟩)
        ·exact .inr (.inl ⟨h1,by simp;omega,by simp;omega⟩)
       ·exact .inl (bne_iff_ne.2 h1)
      clear hyes
      rcases hcase with h1|⟨rfl,h2,h3⟩|⟨rfl,rfl,rfl⟩
      ·rcases h58 with rfl|rfl
       all_goals
        go_wp2_with(first
         |(go_at_call 156;refine CA.mono ?_;rintro r5 w5 ⟨rfl,h5⟩;replace h5:=h5.symm;subst h5)
         |(go_at_call 157;refine CB.mono ?_;rintro r6 w6 ⟨rfl,h6⟩;replace h6:=h6.symm;subst h6))
        go_roundg (n-(k+1))
        case rel=>exact⟨k+1,by omega,by go_num,by rw[←HS.out];exact I,F⟩
        case measure=>omega
      ·have hss:(s !=s)=false:=bne_self_eq_false s
       rcases h58 with rfl|rfl
       all_goals
        go_wp2_with(first
         |(go_at_call 156;refine CA.mono ?_;rintro r5 w5 ⟨rfl,h5⟩;replace h5:=h5.symm;subst h5)
         |(go_at_call 157;refine CB.mono ?_;rintro r6 w6 ⟨rfl,h6⟩;replace h6:=h6.symm;subst h6))
        go_roundg (n-(k+1))
        case rel=>exact⟨k+1,by omega,by go_num,by rw[←HS.out];exact I,F⟩
        case measure=>omega
      ·clear h58
       go_wp2_with(first
        |(go_at_call 156;refine CA.mono ?_;rintro r5 w5 ⟨rfl,h5⟩;replace h5:=h5.symm;subst h5)
        |(go_at_call 157;refine CB.mono ?_;rintro r6 w6 ⟨rfl,h6⟩;replace h6:=h6.symm;subst h6))
       go_roundg (n-(k+1))
       case rel=>exact⟨k+1,by omega,by go_num,by rw[←HS.out];exact I,F⟩
       case measure=>omega
   ·have HS:=Lib.hid (hsame (if_neg (fun e=>h58 e.1)));have e5:(c !=5)=true:=bne_iff_ne.2 (by omega);have e8:(c !=8)=true:=bne_iff_ne.2 (by omega);clear hset hsame CA CB hah H0;go_wp2
    go_roundg (n-(k+1))
    case rel=>exact⟨k+1,by omega,by go_num,by rw[←HS.out];exact I,F⟩
    case measure=>omega
  ·have hkk:curW g4 0 l k=passW g4 0 l:=curW_end 0 l (by have:=hlen.out;omega);rw[hkk]at I;go_wp2;refine Go.Great.bodyPost_end0 rfl rfl ?_;exact⟨rfl,I,F⟩
end
section
attribute [local go_sem] Oper.semAt_some
structure RowE (l:List Int) (k t:Nat):Prop where
 lt:k<t
 le:t≤l.length
 all: ∀j,k≤j→j<t→l.getD j 0=6
 stop:t<l.length→l.getD t 0≠6
theorem drop_cons {l:List Int}{m:Nat}(h:m<l.length):l.drop m=l.getD m 0::l.drop (m+1):=by rw[List.drop_eq_getElem_cons h,List.getD_eq_getElem?_getD,List.getElem?_eq_getElem h];rfl
theorem RowE.nx {l:List Int}{k t:Nat}(h:RowE l k t): ∀(d m:Nat),t-m≤d→k≤m→m<t→nxE (l.drop (m+1))=if t<l.length then l.getD t 0 else 0
 |0,m,h1,_,h3=>by omega
 |d+1,m,h1,h2,h3=>by
  have hle:=h.le
  by_cases he:m+1=t
  ·rw[he]
   by_cases ht:t<l.length
   ·rw[drop_cons ht,if_pos ht];unfold nxE;rw[if_neg (h.stop ht)]
   ·rw[if_neg ht,List.drop_eq_nil_of_le (by omega)];rfl
  ·rw[drop_cons (show m+1<l.length by omega)];unfold nxE;rw[if_pos (h.all (m+1) (by omega) (by omega))];exact RowE.nx h d (m+1) (by omega) (by omega) (by omega)
theorem RowE.nx' {l:List Int}{k t:Nat}(h:RowE l k t){m:Nat}(h1:k≤m)(h2:m<t):nxE (l.drop (m+1))=if t<l.length then l.getD t 0 else 0:=h.nx _ m (Nat.le_refl _) h1 h2
theorem RowE.yes {l:List Int}{k t:Nat}(h:RowE l k t)(hc:stW g5 0 l k=4∨(t<l.length∧l.getD t 0=4)): ∀(d m:Nat),m-k≤d→k≤m→m<t→(stW g5 0 l m=4∨(t<l.length∧l.getD t 0=4))∧g5 (stW g5 0 l m) (l.getD m 0) (l.drop (m+1))=(4,4):=by
 have val: ∀m,k≤m→m<t→(stW g5 0 l m=4∨(t<l.length∧l.getD t 0=4))→g5 (stW g5 0 l m) (l.getD m 0) (l.drop (m+1))=(4,4):=fun m h1 h2 h3=>by
  unfold g5;rw[if_pos (h.all m h1 h2),if_pos]
  rcases h3 with h3|⟨h3,h4⟩
  ·exact .inl h3
  ·right;rw[h.nx' h1 h2,if_pos h3,h4]
 intro d
 induction d with
 |zero=>
  intro m h1 h2 h3
  have:m=k:=by omega
  subst this;exact⟨hc,val _ (Nat.le_refl _) h3 hc⟩
 |succ d ih=>
  intro m h1 h2 h3
  by_cases he:m=k
  ·subst he;exact⟨hc,val _ (Nat.le_refl _) h3 hc⟩
  ·obtain⟨i1,i2⟩:=ih (m-1) (by omega) (by omega) (by omega);have hs:=stW_succ (g:=g5) 0 l (m-1) (by have:=h.le;omega);rw[i2,show m-1+1=m by omega]at hs;exact⟨.inl hs,val m h2 h3 (.inl hs)⟩
theorem RowE.yes' {l:List Int}{k t:Nat}(h:RowE l k t)(hc:stW g5 0 l k=4∨(t<l.length∧l.getD t 0=4)){m:Nat}(h1:k≤m)(h2:m<t):(g5 (stW g5 0 l m) (l.getD m 0) (l.drop (m+1))).1=4:=by rw[(h.yes hc _ m (Nat.le_refl _) h1 h2).2]
theorem RowE.no {l:List Int}{k t:Nat}(h:RowE l k t)(hc: ¬(stW g5 0 l k=4∨(t<l.length∧l.getD t 0=4))): ∀(d m:Nat),m-k≤d→k≤m→m≤t→stW g5 0 l m=stW g5 0 l k∧curW g5 0 l k=curW g5 0 l m
 |0,m,h1,h2,_=>by
  have:m=k:=by omega
  subst this;exact⟨rfl,rfl⟩
 |d+1,m,h1,h2,h3=>by
  by_cases he:m=k
  ·subst he;exact⟨rfl,rfl⟩
  ·obtain⟨i1,i2⟩:=RowE.no h hc d (m-1) (by omega) (by omega) (by omega)
   have hl:m-1<l.length:=by have:=h.le;omega
   have hv:g5 (stW g5 0 l (m-1)) (l.getD (m-1) 0) (l.drop (m-1+1))=(6,stW g5 0 l k):=by
    rw[i1,h.all _ (by omega) (by omega)];show(if(6:Int)=6 then(if stW g5 0 l k=4∨nxE (l.drop (m-1+1))=4 then((4:Int),(4:Int))else(6,stW g5 0 l k))else _)=_;rw[if_pos rfl,if_neg];rintro(e|e)
    ·exact hc (.inl e)
    ·rw[h.nx' (by omega) (by omega)]at e
     split at e
     ·exact hc (.inr ⟨by assumption,e⟩)
     ·cases e
   have hs:=stW_succ (g:=g5) 0 l (m-1) hl;have hsame:=curW_same (g:=g5) 0 l hl;rw[hv,show m-1+1=m by omega]at hs;rw[hv,show m-1+1=m by omega]at hsame;exact⟨hs,i2.trans (hsame (h.all _ (by omega) (by omega)).symm)⟩
theorem RowE.no' {l:List Int}{k t:Nat}(h:RowE l k t)(hc: ¬(stW g5 0 l k=4∨(t<l.length∧l.getD t 0=4))):curW g5 0 l k=curW g5 0 l t:=(h.no hc _ t (Nat.le_refl _) (Nat.le_of_lt h.lt) (Nat.le_refl _)).2
def HdE (l:List Int)(k:Nat):Prop:=k=0∨(k<l.length→l.getD k 0=6→stW g5 0 l k=(passW g5 0 l).getD (k-1) 0)
theorem HdE.next {l:List Int}{k:Nat}(hk:k<l.length)(hc:l.getD k 0≠6):HdE l (k+1):=by right;intro _ _;rw[stW_succ _ _ _ hk,Nat.add_sub_cancel,scan_at _ _ _ hk];unfold g5;rw[if_neg hc]
theorem HdE.past {l:List Int}{k t:Nat}(h:RowE l k t):HdE l t:=.inr fun h1 h2=>absurd h2 (h.stop h1)
theorem ends5_ok {W:World}{B q g n cap:Nat}{sos:Int}{l:List Int}(h:WkAt W B q g n cap sos l)(hl:n≤1099511627776):
 Calls Tryz.prog 119 #[.pointer (some ⟨q,0,none⟩)] W fun e w'=>e= .returned (.tuple #[])∧WkAt w' B q g n cap sos (passW g5 0 l)∧Frm (fun j=>j=g) W w':=by
 obtain⟨x0,x1,xf,xl⟩:=h.hd.c2;have hlen:=Lib.hid h.len
 go_enter Tryz.func119,Tryz.ntmps119
 go_upto_region 1 with(fail)
 go_loopg [2] n (fun gk iv wr=> ∃k:Nat,k+gk=n∧iv= .int .i64 k∧WkAt wr B q g n cap sos (curW g5 0 l k)∧Frm (fun j=>j=g) W wr∧HdE l k)
 case atStart=>exact⟨0,by omega,rfl,by rw[curW_zero];exact h,Frm.refl _ _,.inl rfl⟩
 case round=>
  obtain⟨k,hk,rfl,I,F,E⟩:=hrel;obtain⟨y0,y1,yf,yl⟩:=I.hd.c2
  by_cases hkn:k<n
  ·have hkl:k<l.length:=by have:=hlen.out;omega
   have hc:=I.cell hkn;rw[curW_ge _ l (by omega) (Nat.le_refl k)]at hc;have hfr:=I.free;have hlt:=I.lt;obtain⟨hc1,hc2⟩:=I.caps
   by_cases h6:l.getD k 0=6
   ·rw[h6]at hc;obtain⟨W0,hW0⟩: ∃W0,W0=wr:=⟨_,rfl⟩;subst hW0;have hln:=hlen.out
    have E2:0<k→(curW g5 0 l k).getD (k-1) 0=stW g5 0 l k:=fun h0=>by
     rw[curW_lt 0 l (by omega) (by omega)]
     rcases E with e|e
     ·omega
     ·exact(e hkl h6).symm
    have hcell: ∀j,k≤j→j<n→W0.cell? ⟨g,j,none⟩=some (.int .u8 (l.getD j 0)):=fun j h1 h2=>by
     have:=I.cell h2
     rwa [curW_ge _ l (by omega) h1]at this
    have hprev:0<k→W0.cell? ⟨g,k-1,none⟩=some (.int .u8 (stW g5 0 l k)):=fun h0=>by
     have:=I.cell (k:=k-1) (by omega)
     rwa [E2 h0]at this
    clear E E2;have HI:=Lib.hid (And.intro I F);clear I F hln;go_wp2
    go_step3
    go_upto_block 2 with(first|go_step3)
    go_cut [3] from 23 to 41 (fun tv wx=> ∃t:Nat,RowE l k t∧tv= .int .i64 t∧wx=W0)
    case first=>
     go_wp2_with(fail)
     go_loopg [3] (n-k) (fun gk2 tv wq=> ∃t:Nat,t+gk2=n∧k≤t∧tv= .int .i64 t∧(∀j,k≤j→j<t→l.getD j 0=6)∧wq=W0)
     case atStart=>exact⟨k,by omega,Nat.le_refl _,rfl,fun j h1 h2=>by omega,rfl⟩
     case round=>
      obtain⟨t,ht,hkt,rfl,hall,hw⟩:=hrel;subst hw
      by_cases htn:t<n
      ·have hct:=hcell t hkt htn
       have htz:((t:Int)==(n:Int))=false:=by simp;omega
       by_cases hx6:l.getD t 0=6
       ·rw[hx6]at hct;have HA:=Lib.hid hall;clear hall hcell hprev;go_wp2
        go_roundg (n-(t+1))
        case rel=>exact⟨t+1,by omega,by omega,by go_num,fun j h1 h2=>(by
         by_cases e:j=t
         ·subst e;exact hx6
         ·exact HA.out j h1 (by omega)),rfl⟩
        case measure=>omega
       ·have hR:RowE l k t:=⟨by
         by_cases e:t=k
         ·subst e;exact absurd h6 hx6
         ·omega,by have:=hlen.out;omega,hall,fun _=>hx6⟩
        obtain⟨x,hx⟩: ∃x,l.getD t 0=x:=⟨_,rfl⟩;rw[hx]at hct hx6;have e6:(x !=6)=true:=bne_iff_ne.2 hx6;have HR:=Lib.hid hR;clear hall hcell hprev hx hR;go_wp2;go_meet;exact⟨t,HR.out,rfl,rfl⟩
      ·have hte:t=n:=by omega
       have hR:RowE l k t:=⟨by omega,by have:=hlen.out;omega,hall,fun e=>by have:=hlen.out;omega⟩;have HR:=Lib.hid hR;clear ht hall hcell hprev hR;subst hte;go_wp2;go_meet;exact⟨t,HR.out,rfl,rfl⟩
    case rest=>
     obtain⟨t,hR,rfl,hw⟩:=hcut;subst hw;have hkt:=hR.lt;have htl:=hR.le;have HR:=Lib.hid hR;have hln:=hlen.out
     have htn:t≤n:=by omega
     obtain⟨p,hp⟩: ∃p,stW g5 0 l k=p:=⟨_,rfl⟩;obtain⟨x,hx⟩: ∃x,l.getD t 0=x:=⟨_,rfl⟩
     have h0p:k=0→p=0:=fun e=>by subst e;rw[←hp];unfold stW;rcases l with _|_<;>rfl
     obtain⟨bb,hbb⟩: ∃b,decide (p=4∨(t<n∧x=4))=b:=⟨_,rfl⟩
     have hyes:bb=true→(stW g5 0 l k=4∨(t<l.length∧l.getD t 0=4)):=fun e=>by rw[hp,hx,←hln];rw[←hbb]at e;exact of_decide_eq_true e
     have hno:bb=false→ ¬(stW g5 0 l k=4∨(t<l.length∧l.getD t 0=4)):=fun e=>by rw[hp,hx,←hln];rw[←hbb]at e;exact of_decide_eq_false e
     have hct:t<n→wc.cell? ⟨g,t,none⟩=some (.int .u8 x):=fun e=>by rw[←hx];exact hcell t (by omega) e
     rw[hp]at hprev;have HY:=Lib.hid hyes;have HO:=Lib.hid hno;clear hyes hno hR hp hx hcell hln
     go_upto_region 7 with(fail)
     go_cut [73] from 42 to 73 (fun bv wx=>bv= .bool bb∧wx=wc)
     case first=>
      have hkm:0<k→((k:Int)-1)=((k-1:Nat):Int):=fun _=>by omega
      have hcase:(k=0∧t=n)∨(k=0∧t<n)∨(0<k∧p=4)∨(0<k∧(p==4)=false∧t=n)∨(0<k∧(p==4)=false∧t<n):=by by_cases h1:k=0<;>by_cases h2:t=n<;>by_cases h3:p=4<;>simp[h1,h2,h3]<;>omega
      rcases hcase with⟨h1,h2⟩|⟨h1,h2⟩|⟨h1,h2⟩|⟨h1,h2,h3⟩|⟨h1,h2,h3⟩
      ·have hb0:bb=false:=by rw[←hbb];have:=h0p h1;simp;omega
       have hkd:decide ((0:Int)<(k:Int))=false:=decide_eq_false (by omega);have hkd2:decide (0<k)=false:=decide_eq_false (by omega)
       have hkd3: ¬0<k:=by omega
       have htd:decide ((t:Int)<(n:Int))=false:=decide_eq_false (by omega);have htd2:decide (t<n)=false:=decide_eq_false (by omega)
       have htd3: ¬t<n:=by omega
       subst hb0;clear hbb hct hprev hkm h0p h1 h2;go_wp2;go_meet;exact⟨rfl,rfl⟩
      ·have hx4:bb=(x==4):=by rw[←hbb,Bool.eq_iff_iff];have:=h0p h1;simp;omega
       have hkd:decide ((0:Int)<(k:Int))=false:=decide_eq_false (by omega);have hkd2:decide (0<k)=false:=decide_eq_false (by omega)
       have hkd3: ¬0<k:=by omega
       have c1:=hct h2;subst hx4;clear hbb hct hprev hkm h0p h1;go_wp2;go_meet;exact⟨rfl,rfl⟩
      ·have hb0:bb=true:=by rw[←hbb];simp[h2]
       have hkd:decide ((0:Int)<(k:Int))=true:=decide_eq_true (by omega);have c1:=hprev h1;have hk1:=hkm h1
       have hk2:k-1<n:=by omega
       subst hb0 h2;clear hbb hct hprev hkm h0p;go_wp2;go_meet;exact⟨rfl,rfl⟩
      ·have hb0:bb=false:=by rw[←hbb];simp at h2;simp;omega
       have hkd:decide ((0:Int)<(k:Int))=true:=decide_eq_true (by omega);have htd:decide ((t:Int)<(n:Int))=false:=decide_eq_false (by omega);have htd2:decide (t<n)=false:=decide_eq_false (by omega)
       have htd3: ¬t<n:=by omega
       have c1:=hprev h1;have hk1:=hkm h1
       have hk2:k-1<n:=by omega
       subst hb0;clear hbb hct hprev hkm h0p h3;go_wp2;go_meet;exact⟨rfl,rfl⟩
      ·have hx4:bb=(x==4):=by rw[←hbb,Bool.eq_iff_iff];simp at h2;simp;omega
       have hkd:decide ((0:Int)<(k:Int))=true:=decide_eq_true (by omega);have c1:=hprev h1;have c2:=hct h3;have hk1:=hkm h1
       have hk2:k-1<n:=by omega
       subst hx4;clear hbb hct hprev hkm h0p;go_wp2;go_meet;exact⟨rfl,rfl⟩
     case rest=>
      obtain⟨rfl,hw⟩:=hcut;subst hw;clear hct hprev h0p hbb;have HP:=Lib.hid (HdE.past HR.out);obtain⟨I,F⟩:=HI.out
      rcases bb with _|_
      ·have hcu:=HR.out.no' (HO.out rfl);rw[hcu]at I;clear hcu HI;go_wp2
       go_roundg (n-t)
       case rel=>exact⟨t,by omega,rfl,I,F,HP.out⟩
       case measure=>omega
      ·have hy:=HY.out rfl;have hval:=fun m (h1:k≤m) (h2:m<t)=>HR.out.yes' hy h1 h2;clear HI hy;obtain⟨W0,hW0⟩: ∃W0,W0=wc:=⟨_,rfl⟩;subst hW0
       go_upto_region 9 with(fail)
       go_loopg [4] (t-k) (fun gk3 mv wq=> ∃m:Nat,m+gk3=t∧k≤m∧mv= .int .i64 m∧WkAt wq B q g n cap sos (curW g5 0 l m)∧Frm (fun j=>j=g) W wq)
       case atStart=>exact⟨k,by omega,Nat.le_refl _,rfl,I,F⟩
       case round=>
        clear I F;obtain⟨m,hm,hkm,rfl,I,F⟩:=hrel;obtain⟨z0,z1,zf,zl⟩:=I.hd.c2;have hfr:=I.free;have hlt:=I.lt
        by_cases hmt:m<t
        ·have hset:=curW_set (g:=g5) 0 l (show m<l.length by omega);rw[hval m hkm hmt]at hset;have HS:=Lib.hid hset;have hcm:=I.cell (k:=m) (by omega);clear hset hval;go_wp2
         go_roundg (t-(m+1))
         case rel=>exact⟨m+1,by omega,by omega,by go_num,by rw[←HS.out];exact I.set m 4,F.set rfl _⟩
         case measure=>omega
        ·have hme:m=t:=by omega
         clear hm hval;subst hme;go_wp2;rw[Exit.noGoto_normal];go_wp2
         go_roundg (n-m)
         case rel=>exact⟨m,by omega,rfl,I,F,HP.out⟩
         case measure=>omega
   ·have hsame:=curW_same (g:=g5) 0 l hkl (by unfold g5;rw[if_neg h6]);have HS:=Lib.hid hsame;have HE:=Lib.hid (HdE.next hkl h6);obtain⟨c,hcc⟩: ∃c,l.getD k 0=c:=⟨_,rfl⟩;rw[hcc]at hc h6;have e6:(c !=6)=true:=bne_iff_ne.2 h6;clear hsame hcc E;go_wp2
    go_step3
    go_wp2;rw[Exit.noGoto_exit];go_wp2
    go_roundg (n-(k+1))
    case rel=>exact⟨k+1,by omega,by go_num,by rw[←HS.out];exact I,F,HE.out⟩
    case measure=>omega
  ·have hkk:curW g5 0 l k=passW g5 0 l:=curW_end 0 l (by have:=hlen.out;omega);rw[hkk]at I;clear E;go_wp2;refine Go.Great.bodyPost_end0 rfl rfl ?_;exact⟨rfl,I,F⟩
end
end Go.Proofs.YtllolnkkepacjaaGreat
