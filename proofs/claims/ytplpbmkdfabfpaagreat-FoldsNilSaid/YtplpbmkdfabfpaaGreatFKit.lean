/- Small words on memory: blocks, slices that read as lists. -/
import Derived.Test.YtplpbmkdfabfpaaGreatKit3
import Derived.WalkKit
import Derived.WalkSpells
import Derived.WalkLawsBesides
import Derived.BigRegion
import Derived.BigQuiet
import Derived.Deep.QuietTactic
import Derived.StillTailTactics
import Derived.Lib.Hide
import Derived.Deep.Draws
import Derived.Deep.AppendLies
import Derived.Maps.AppendAt
import Derived.Laws.OwnMore
import Derived.Deep.LoopGhost
import Derived.Deep.DeepCutAuto
import Derived.Deep.DeepMust
import Derived.Deep.DeepFit
namespace Go.Proofs.YtplpbmkdfabfpaaGreat
open Go.RowKit
section
variable{w w':World} {g:Nat} {t:TypeId} {cs:Array Value}
end
section
variable{P:Program} {ops:Array Oper} {w:World}
end
section
variable{F F':Nat→Prop} {w w1 w':World}
end
theorem block_of_add (a:Addr)(n:Nat):(a.add n).block=a.block:=by unfold Addr.add;split<;>rfl
theorem add_of_add (a:Addr)(i j:Nat):(a.add i).add j=a.add (i+j):=by
 unfold Addr.add
 by_cases hi:i=0<;>by_cases hj:j=0<;>simp[hi,hj,Nat.add_assoc]
section
variable{w w':World} {B B' size n:Nat} {A:Option Addr} {xs:List Value}
end
section
variable{P:Program}
end
section
variable{w w':World}
theorem blk_put4 {g:Nat}{t:TypeId}{a' b' c' d':Value}(a b c d:Value)(h:Blk w g t #[a',b',c',d']):Blk ((((w.setCell ⟨g,0,none⟩ a).setCell ⟨g,1,none⟩ b).setCell ⟨g,2,none⟩ c).setCell ⟨g,3,none⟩ d) g t #[a,b,c,d]:=by simpa using((((h.set_ 0 a).set_ 1 b).set_ 2 c).set_ 3 d)
theorem frm_put4 (w:World)(g:Nat)(a b c d:Value):Frm (fun k=>k=g) w ((((w.setCell ⟨g,0,none⟩ a).setCell ⟨g,1,none⟩ b).setCell ⟨g,2,none⟩ c).setCell ⟨g,3,none⟩ d):=(((((Frm.refl (fun k=>k=g) w).set rfl a).set rfl b).set rfl c).set rfl d)
theorem blk_put6 {g:Nat}{t:TypeId}{a' b' c' d' e' f':Value}(a b c d e f:Value)(h:Blk w g t #[a',b',c',d',e',f']):Blk ((((((w.setCell ⟨g,0,none⟩ a).setCell ⟨g,1,none⟩ b).setCell ⟨g,2,none⟩ c).setCell ⟨g,3,none⟩ d).setCell ⟨g,4,none⟩ e).setCell ⟨g,5,none⟩ f) g t #[a,b,c,d,e,f]:=by simpa using((((((h.set_ 0 a).set_ 1 b).set_ 2 c).set_ 3 d).set_ 4 e).set_ 5 f)
theorem frm_put6 (w:World)(g:Nat)(a b c d e f:Value):Frm (fun k=>k=g) w ((((((w.setCell ⟨g,0,none⟩ a).setCell ⟨g,1,none⟩ b).setCell ⟨g,2,none⟩ c).setCell ⟨g,3,none⟩ d).setCell ⟨g,4,none⟩ e).setCell ⟨g,5,none⟩ f):=(((((((Frm.refl (fun k=>k=g) w).set rfl a).set rfl b).set rfl c).set rfl d).set rfl e).set rfl f)
end
end Go.Proofs.YtplpbmkdfabfpaaGreat
