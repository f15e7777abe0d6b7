/- The classes that come in, as they are read. -/
import Derived.Test.YtllolnkkepacjaaGreatKit3
import Derived.OpenShut
namespace Go.Proofs.YtllolnkkepacjaaGreat
open Go.RowKit
theorem rd_of_row {k:IntKind}{w:World}{a:Option Addr}{len cap:Nat}{zs:List Int}(h:(a=none∧len=0∧cap=0∧zs=[])∨
 ∃x,a=some x∧len≤cap∧cap≤maxLen∧zs.length=cap∧(∀i,i<zs.length→w.cell? (x.add i)=some (.int k (zs.getD i 0)))∧ ∀n∈zs,(Lit.int k n).wf=true):
 ∃l:List Int,l.length=len∧len≤cap∧cap≤maxLen∧RdInts w w.heap.size k a l∧ ∀n∈l,(Lit.int k n).wf=true:=by
 rcases h with⟨rfl,rfl,rfl,rfl⟩|⟨x,rfl,h1,h2,h3,h4,h5⟩
 ·exact⟨[],rfl,by simp,by simp,Reads.none_,by simp⟩
 ·refine⟨zs.take len,by simp;omega,h1,h2,?_,fun n hn=>h5 n (List.mem_of_mem_take hn)⟩
  rcases Nat.eq_zero_or_pos len with h0|h0
  ·subst h0;exact⟨by simp,fun h=>by simp at h⟩
  ·obtain⟨b,off,rfl,hc⟩:=ints_at h4 (by omega);refine⟨by simp,fun _=>⟨b,off,rfl,?_,?_,fun j u hu=> ?_⟩⟩
   ·exact World.block_lt_of_cell? _ _ (hc 0 (by omega))
   ·exact World.block_lt_of_cell? _ _ (hc 0 (by omega))
   ·have hj:j<len:=by
     have:=(List.getElem?_eq_some_iff.1 hu).1;simp at this;omega
    rw[hc j (by omega)];rw[List.getElem?_map,List.getElem?_take,if_pos hj]at hu;simp only[Option.map_eq_some_iff]at hu;obtain⟨y,hy,rfl⟩:=hu;simp[List.getD,hy]
theorem RdInts.take {w:World}{B:Nat}{k:IntKind}{A:Option Addr}{l:List Int}(h:RdInts w B k A l)(n:Nat):RdInts w B k A (l.take n):=by
 refine⟨by simp,fun hn=> ?_⟩;simp only[List.length_take]at hn;obtain⟨b,off,hA,hb,hs,hc⟩:=h.2 (by omega);refine⟨b,off,hA,hb,hs,fun j u hu=>hc j u ?_⟩;rw[List.getElem?_map,List.getElem?_take]at hu
 split at hu
 ·rw[List.getElem?_map];exact hu
 ·simp at hu
end Go.Proofs.YtllolnkkepacjaaGreat
