/- The marks that ranges over functions leave with a call. -/
import Derived.Test.YtplpbmkdfabfpaaGreatH6
import Derived.RangeFuncLeaves
namespace Go.Proofs.YtplpbmkdfabfpaaGreat
open Go.RowKit
attribute [local go_sem] Oper.semAt_some
def marksOf (qs:List Nat):List Deferred:=qs.map (fun q=>{target:=.collected q,args:=#[]})
structure Marks (D:Nat) (qs:List Nat) (W:World):Prop where
 nodup:qs.Nodup
 each: ∀q∈qs,D≤q∧W.heap[q]?=some (.deferred (some []))
theorem leaves_marks {F:Fence}{n D:Nat}{P:Program}{fn:Func}{tmps:Array Value}{R:Ending→World→Prop}: ∀(qs:List Nat) (W:World),Marks D qs W→
 (∀W',Frm (fun k=>k∈qs) W W'→ ∃v,(results fn tmps).run P W'= .ok v W'∧R (.returned v) W')→LeavesInM F n P fn tmps R (marksOf qs) .returning W
 |[],W,_,h=>h W (Frm.refl _ _)
 |q::qs,W,hm,h=>by
  have hK:=(hm.each q (by simp)).2;obtain⟨hq,hnd⟩:=List.nodup_cons.1 hm.nodup;refine⟨by simp,.inl ⟨q,_,rfl,run_takeDeferred hK,leaves_marks qs _ ⟨hnd,fun q' hq'=>⟨(hm.each q' (by simp[hq'])).1,(World.putObj_heap_other (fun e=>hq (by rw[←e];exact hq'))).trans (hm.each q' (by simp[hq'])).2⟩⟩ fun W' hF=> ?_⟩⟩;exact h W' (((Frm.refl (fun k=>k∈q::qs) W).put (k:=q) (by simp) (.deferred none)).trans hF (fun k _ hk=>List.mem_cons_of_mem _ hk))
theorem Marks.keep {D:Nat}{qs:List Nat}{W W':World}{F:Nat→Prop}(h:Marks D qs W)(hF:Frm F W W')(hn: ∀q∈qs,¬F q):Marks D qs W':=⟨h.nodup,fun q hq=>⟨(h.each q hq).1,(hF.block q (Array.getElem?_eq_some_iff.1 (h.each q hq).2).1 (hn q hq)).trans (h.each q hq).2⟩⟩
theorem results_cellb {fn:Func}{p:Tmp}(h:fn.results=#[.cell p 4])(tmps:Array Value)(w:World)(b:Nat)(v:Value)(hp:tmps.getD p undef= .pointer (some ⟨b,0,none⟩))(hc:w.cell? ⟨b,0,none⟩=some v):(results fn tmps).run Tryz.prog w= .ok v w:=by
 have hp':tmps[p]?.getD undef= .pointer (some ⟨b,0,none⟩):=by simpa using hp
 have hu:=run_underlying (P:=Tryz.prog) Tryz.underlying4 (w:=w);simp[results,h,hp',asAddr,loadVar,isAgg,hu,hc,go_sem]
end Go.Proofs.YtplpbmkdfabfpaaGreat
