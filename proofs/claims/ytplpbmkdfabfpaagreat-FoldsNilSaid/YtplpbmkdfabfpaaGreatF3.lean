/- Where lines may begin, by both. -/
import Derived.Test.YtplpbmkdfabfpaaGreatF2
set_option maxRecDepth 100000
set_option maxHeartbeats 1000000
namespace Go.Proofs.YtplpbmkdfabfpaaGreat
open Go.RowKit
theorem clusT_mem (l:List Int): ∀k,∀x∈clusT l k,0≤x∧x<k
 |0,x,h=>by simp[clusT]at h
 |k+1,x,h=>by
  have ih:=clusT_mem l k x;unfold clusT at h
  split at h
  ·rw[List.mem_append]at h
   rcases h with h|h
   ·have:=ih h;omega
   ·simp at h;omega
  ·have:=ih h;omega
theorem getD_mem {α:Type}{l:List α}{d:α}{i:Nat}(h:i<l.length):l.getD i d∈l:=by rw[List.getD_eq_getElem?_getD,List.getElem?_eq_getElem h];exact List.getElem_mem _
theorem clusL_in (l:List Int){i:Nat}(h:i<(clusL l).length):0≤(clusL l).getD i 0∧(clusL l).getD i 0<l.length:=clusT_mem l _ _ (getD_mem h)
theorem clusL_length (l:List Int):(clusL l).length≤l.length:=clusT_length l _
def brkB (l cs:List Int)(k:Nat):Bool:=k==0||(l.getD (cs.getD k 0).toNat 0 !=13 && blkC (l.getD (cs.getD (k-1) 0).toNat 0))
def brkT (l cs:List Int):Nat→List Int
 |0=>[]
 |k+1=>if brkB l cs k=true then brkT l cs k++[cs.getD k 0]else brkT l cs k
def brkL (l:List Int):List Int:=brkT l (clusL l) (clusL l).length
theorem brkT_length (l cs:List Int): ∀k,(brkT l cs k).length≤k
 |0=>by simp[brkT]
 |k+1=>by
  have:=brkT_length l cs k;unfold brkT
  split<;>simp<;>omega
theorem getD_map_cls (l:List Int){i:Nat}(h:i<l.length):(l.map clsC).getD i 0=clsC (l.getD i 0):=by simp only[List.getD_eq_getElem?_getD,List.getElem?_map,List.getElem?_eq_getElem h];rfl
theorem brkB_map (l:List Int){k:Nat}(hk:k<(clusL l).length):brkB (l.map clsC) (clusL l) k=brkB l (clusL l) k:=by
 have h1:=clusL_in l hk;have h2:=clusL_in l (i:=k-1) (by omega);unfold brkB;rw[getD_map_cls l (by omega),getD_map_cls l (by omega),blkC_clsC]
 have:(clsC (l.getD ((clusL l).getD k 0).toNat 0) !=13)=(l.getD ((clusL l).getD k 0).toNat 0 !=13):=by rw[Bool.eq_iff_iff];simp only[bne_iff_ne,ne_eq];rw[clsC_eq (by omega) (by omega) (by omega)]
 rw[this]
theorem brkL_map (l:List Int):brkL (l.map clsC)=brkL l:=by
 unfold brkL;rw[clusL_map]
 have: ∀k,k≤(clusL l).length→brkT (l.map clsC) (clusL l) k=brkT l (clusL l) k:=by
  intro k
  induction k with
  |zero=>intro _;rfl
  |succ k ih=>
   intro hk;simp only[brkT,brkB_map l (k:=k) (by omega),ih (by omega)]
 exact this _ (Nat.le_refl _)
theorem breaks_ok {w:World}{B B2:Nat}{A A2:Option Addr}{n m c c2:Nat}{l cs:List Int}{k:Nat}(hn:n=l.length)(hm:m=cs.length)(h:RdInts w B .u8 A l)(h2:RdInts w B2 .i64 A2 cs)(hk:k<cs.length)(hl:cs.length≤1048576)
 (hin: ∀i,i<cs.length→0≤cs.getD i 0∧cs.getD i 0<l.length):
 Calls Tryz.prog 43 #[.slice A n c,.slice A2 m c2,.int .i64 k] w fun r w'=>r= .returned (.bool (brkB l cs k))∧w=w':=by
 have HN:=Lib.hid hn;have HM:=Lib.hid hm;clear hn hm
 rcases k with _|j
 ·go_enter Tryz.func43,Tryz.ntmps43
  go_wp2;go_ret;exact⟨rfl,rfl⟩
 ·have e:brkB l cs (j+1)=(l.getD (cs.getD (j+1) 0).toNat 0 !=13 && blkC (l.getD (cs.getD j 0).toNat 0)):=by simp[brkB]
  obtain⟨p1,hp1,hq1⟩: ∃p:Nat,cs.getD (j+1) 0=(p:Int)∧p<l.length:=⟨(cs.getD (j+1) 0).toNat,by have:=hin _ hk;omega,by have:=hin _ hk;omega⟩;obtain⟨p0,hp0,hq0⟩: ∃p:Nat,cs.getD j 0=(p:Int)∧p<l.length:=⟨(cs.getD j 0).toNat,by have:=hin j (by omega);omega,by have:=hin j (by omega);omega⟩;obtain⟨ab,off,rfl,_,hlt,hc⟩:=h.cells (by omega);obtain⟨bb,of2,rfl,_,hlt2,hc2⟩:=h2.cells (by omega);have k1:=hc2 _ hk;have k0:=hc2 j (by omega);have x1:=hc p1 hq1;have x0:=hc p0 hq0;rw[hp1]at k1;rw[hp0]at k0;rw[hp1,hp0]at e;simp only[Int.toNat_natCast]at e;clear hc hc2 hp1 hp0 hin;rw[e];generalize l.getD p1 0=v1 at x1;generalize l.getD p0 0=v0 at x0
  have hp1n:(p1:Int)<n:=by have:=HN.out;omega
  have hp0n:(p0:Int)<n:=by have:=HN.out;omega
  have hjm:(j:Int)+1<m:=by have:=HM.out;omega
  have hjm0:(j:Int)<m:=by omega
  have hjb:(j:Int)≤1048576:=by omega
  clear e hk
  go_enter Tryz.func43,Tryz.ntmps43
  go_wp2_with(go_at_call 72;refine(blankF_ok _ _).mono ?_;rintro r1 w1 ⟨rfl,rfl⟩)
  all_goals (go_ret;exact⟨by simp[bne, *],rfl⟩)
end Go.Proofs.YtplpbmkdfabfpaaGreat
