/- A list cloned; a part of a list turned round. -/
import Derived.Test.YtplpbmkdfabfpaaGreatF13
import Derived.WalkLawsBesides
set_option maxRecDepth 100000
set_option maxHeartbeats 2000000
namespace Go.Proofs.YtplpbmkdfabfpaaGreat
open Go.RowKit
@[go_sem] theorem eql24_nil (w:World) (a:Option Addr) (n c:Nat):(binOp .eql 29 (.slice a n c) (.slice none 0 0)).run Tryz.prog w= .ok (.bool a.isNone) w:=_root_.Go.Lib.run_eql_slice_nil w 29 3 a n c 0 0 Tryz.underlying29
theorem Clone_ok {w:World}{B:Nat}{A:Option Addr}{n c:Nat}{l:List Int}(hn:n=l.length)(h:RdInts w B .i64 A l)(hl:n≤1048576):
 Calls Tryz.prog 40 #[.slice A n c] w fun r w'=> ∃v,r= .returned v∧Ints w' w.heap.size 3 .i64 v l∧Below w.heap.size w w':=by
 have HN:=Lib.hid hn;clear hn
 rcases A with _|ad
 ·have hl0:l=[]:=by
   rcases l with _|⟨x,l⟩
   ·rfl
   ·obtain⟨b,off,e,-⟩:=h.cells (by simp);cases e
  go_enter Tryz.func40,Tryz.ntmps40
  go_wp2;go_ret;exact⟨_,rfl,by rw[hl0];exact Ints.nil _ _ _ _,Below.refl _ _⟩
 ·have b0:=(Below.refl w.heap.size w).alloc (Nat.le_refl _) (.cells #[] 3)
  have o0:Ints (w.alloc (.cells #[] 3)) w.heap.size 3 .i64 (.slice (some ⟨w.heap.size,0,none⟩) 0 0) []:=⟨by simp,.inr ⟨w.heap.size,0,#[],rfl,Nat.le_refl _,Blk.new w 3 #[],Nat.le_refl _,by simp,rfl,rfl⟩⟩
  go_enter Tryz.func40,Tryz.ntmps40
  go_wp2_with(at_builtin;go_must (refine wpList_appIs ei24 rfl rfl rfl o0 HN.out rfl (h.alloc _) ?_ ?_ ?_ ?_))
  ·have:=HN.out;simp;unfold maxLen;omega
  ·have:=HN.out;simp;omega
  ·simp
  intro v1 w1 I1 g1 hv1
  have b1:=b0.grown g1 (by simp) (fun k hk=>by have:w.heap.size=k:=by simpa[Value.ownBlock]using hk
                                               omega)
  have I1:Ints w1 w.heap.size 3 .i64 v1 l:=I1;go_wp2;go_ret;exact⟨v1,rfl,I1,b1⟩
def swapAt (xs:List Int)(f m i k:Nat):Int:=if f≤k∧k<f+m∧(k-f<i∨m-1-(k-f)<i)then xs.getD (f+(m-1-(k-f))) 0 else xs.getD k 0
theorem getD_set {ys:List Int}{a k:Nat}{x:Int}(ha:a<ys.length):(ys.set a x).getD k 0=if k=a then x else ys.getD k 0:=by
 simp only[List.getD_eq_getElem?_getD,List.getElem?_set]
 by_cases h:k=a
 ·subst h;simp[ha]
 ·rw[if_neg (fun e=>h e.symm),if_neg h]
theorem swap_step {xs ys:List Int}{f m i j:Nat}(hfm:f+m≤xs.length)(hlen:ys.length=xs.length)(hj:j=m-1-i)(hij:i<j)(hy: ∀k,k<xs.length→ys.getD k 0=swapAt xs f m i k):
 ∀k,k<xs.length→((ys.set (f+i) (ys.getD (f+j) 0)).set (f+j) (ys.getD (f+i) 0)).getD k 0=swapAt xs f m (i+1) k:=by
 intro k hk
 have e1:ys.getD (f+j) 0=xs.getD (f+j) 0:=by rw[hy _ (by omega)];unfold swapAt;rw[if_neg (by omega)]
 have e2:ys.getD (f+i) 0=xs.getD (f+i) 0:=by rw[hy _ (by omega)];unfold swapAt;rw[if_neg (by omega)]
 rw[getD_set (by rw[List.length_set];omega),e2]
 by_cases h1:k=f+j
 ·rw[if_pos h1];unfold swapAt;rw[if_pos (by omega),show f+(m-1-(k-f))=f+i by omega]
 ·rw[if_neg h1,getD_set (by omega),e1]
  by_cases h2:k=f+i
  ·rw[if_pos h2];unfold swapAt;rw[if_pos (by omega),show f+(m-1-(k-f))=f+j by omega]
  ·rw[if_neg h2,hy k hk];unfold swapAt
   by_cases h3:f≤k∧k<f+m∧(k-f<i∨m-1-(k-f)<i)
   ·rw[if_pos h3,if_pos (by omega)]
   ·rw[if_neg h3,if_neg (by omega)]
theorem swap_end {xs:List Int}{f m i k:Nat}(h1:m-1-i≤i)(h2:2*i≤m):swapAt xs f m i k=swapAt xs f m m k:=by
 unfold swapAt
 by_cases h3:f≤k∧k<f+m∧(k-f<i∨m-1-(k-f)<i)
 ·rw[if_pos h3,if_pos (by omega)]
 ·rw[if_neg h3]
  split
  ·rw[show f+(m-1-(k-f))=k by omega]
  ·rfl
theorem Reverse_ok {w:World}{D g n cap f m c:Nat}{xs:List Int}(hI:Ints w D 3 .i64 (.slice (some ⟨g,0,none⟩) n cap) xs)(hfm:f+m≤xs.length)(hm:0<m)(hl:xs.length≤1048576):
 Calls Tryz.prog 42 #[.slice (some ⟨g,f,none⟩) m c] w fun r w'=>r= .returned (.tuple #[])∧(∃ys,Ints w' D 3 .i64 (.slice (some ⟨g,0,none⟩) n cap) ys∧ys.length=xs.length∧ ∀k,k<xs.length→ys.getD k 0=swapAt xs f m m k)∧Frm (fun k=>k=g) w w':=by
 have hml:m≤1048576:=by omega
 go_enter Tryz.func42,Tryz.ntmps42
 go_wp2
 go_loopg [2,3] m (fun gk iv jv wr=> ∃(i:Nat) (ys:List Int),i+gk=m∧iv= .int .i64 i∧jv= .int .i64 ((m:Int)-1-i)∧Ints wr D 3 .i64 (.slice (some ⟨g,0,none⟩) n cap) ys∧ys.length=xs.length∧(∀k,k<xs.length→ys.getD k 0=swapAt xs f m i k)∧2*i≤m∧Frm (fun k=>k=g) w wr)
 case atStart=>refine⟨0,xs,by omega,rfl,by simp,hI,rfl,fun k hk=> ?_,by omega,Frm.refl _ _⟩;unfold swapAt;rw[if_neg (by omega)]
 case round=>
  obtain⟨i,ys,hi,rfl,rfl,I,hlen,hy,h2i,F⟩:=hrel;have HI:=Lib.hid hi;have HLEN:=Lib.hid hlen;have HY:=Lib.hid hy;clear hi hlen hy;obtain⟨j,hj⟩: ∃j:Nat,(m:Int)-1-i=(j:Int):=⟨m-1-i,by have:=HI.out;omega⟩
  have hjn:j=m-1-i:=by omega
  rw[hj];have HJ:=Lib.hid (And.intro hj hjn);clear hj hjn
  by_cases hij:i<j
  ·obtain⟨-,_,_,_,hgr,hfr,hce⟩:=I.at_;have c1:=hce (f+i) (by have:=HLEN.out;have:=HJ.out.2;omega);have c2:=hce (f+j) (by have:=HLEN.out;have:=HJ.out.2;omega);have hst:=swap_step hfm HLEN.out HJ.out.2 hij HY.out;have I2:=((I.set (f+i) (ys.getD (f+j) 0)).set (f+j) (ys.getD (f+i) 0)).drew;have F2:=((F.set (b:=g) (j:=f+i) rfl (.int .i64 (ys.getD (f+j) 0))).set (b:=g) (j:=f+j) rfl (.int .i64 (ys.getD (f+i) 0))).drew
   have hne:f+i≠f+j:=by omega
   have HST:=Lib.hid hst
   have hjmI:(j:Int)<(m:Int):=by have:=HJ.out.2;omega
   have himI:(i:Int)<(m:Int):=by omega
   clear hce hst I;generalize hX:ys.getD (f+i) 0=x at*;generalize hY:ys.getD (f+j) 0=y at*;have HX:=Lib.hid (And.intro hX hY);clear hX hY
   go_upto_region 3 with(fail)
   go_region
   go_wp2
   go_roundg (m-(i+1))
   case rel=>exact⟨i+1,_,by have:=HI.out;omega,by go_num,by have:=HJ.out.1;go_num,I2,by simp[HLEN.out],HST.out,by have:=HJ.out.2;omega,F2⟩
   case measure=>have:=HI.out;have:=HJ.out.2;omega
  ·have hI: ¬((i:Int)<(j:Int)):=by omega
   go_wp2
   first|go_end0|go_ret
   refine⟨rfl,⟨ys,I,HLEN.out,fun k hk=> ?_⟩,F⟩;rw[←List.getD_eq_getElem?_getD,HY.out k hk];exact swap_end (by have:=HJ.out.2;omega) h2i
end Go.Proofs.YtplpbmkdfabfpaaGreat
