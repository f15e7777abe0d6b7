/- What the second form's bound gives of a slice that comes in. -/
import Derived.Test.YtllolnkkepacjaaGreatRows
namespace Go.Proofs.YtllolnkkepacjaaGreat
theorem bulk_one {H:Type}(d:DataW H):1≤Rows.uptoBulk d:=by
 cases d with
 |lit l=>cases l<;>simp[Rows.uptoBulk]
 |nil=>simp[Rows.uptoBulk]
 |ptr d=>simp[Rows.uptoBulk]
 |slice elems spare=>simp[Rows.uptoBulk]
 |agg parts=>simp[Rows.uptoBulk]
 |iface t d=>simp[Rows.uptoBulk]
 |map entries=>simp[Rows.uptoBulk]
 |held h=>simp[Rows.uptoBulk]
theorem bulk_part {H:Type}{d:DataW H}: ∀{l:List (DataW H)},d∈l→Rows.uptoBulk d≤Rows.uptoBulkAll l
 |[],h=>by cases h
 |x::r,h=>by
  simp only[Rows.uptoBulkAll]
  rcases List.mem_cons.1 h with rfl|h
  ·omega
  ·have:=bulk_part h;omega
theorem bulk_length {H:Type}: ∀l:List (DataW H),l.length≤Rows.uptoBulkAll l
 |[]=>by simp
 |x::r=>by
  have h1:=bulk_one x;have h2:=bulk_length r;simp only[Rows.uptoBulkAll,List.length_cons];omega
theorem slice_small {H:Type}{l:List (DataW H)}{d:DataW H}{es sp:List (DataW H)}(hk:Rows.uptoSmall H l=true)(hm:d∈l)(hd:d= .slice es sp):es.length+sp.length≤1048576:=by have h:Rows.uptoBulkAll l≤1048576:=of_decide_eq_true hk;have h1:=bulk_part hm;have h2:=bulk_length es;have h3:=bulk_length sp;rw[hd]at h1;simp only[Rows.uptoBulk]at h1;omega
end Go.Proofs.YtllolnkkepacjaaGreat
