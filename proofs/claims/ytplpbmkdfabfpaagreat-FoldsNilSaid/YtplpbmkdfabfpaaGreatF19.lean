/- Two places that follow one another, by the reference. -/
import Derived.Test.YtplpbmkdfabfpaaGreatF18
namespace Go.Proofs.YtplpbmkdfabfpaaGreat
open Go.RowKit
theorem gapR_step {l:List Int}{a j:Nat}(haj:a≤j):gapR l a (j+1)=(gapR l a j && remC (l.getD j 0)):=by rw[gapR,if_neg (by omega)]
theorem gapR_self {l:List Int}{a:Nat}:gapR l a a=true:=by rw[gapR_iff];intro i h1 h2;omega
theorem gapR_false {l:List Int}{a j b:Nat}(h1:a≤j)(h2:j<b)(h:remC (l.getD j 0)=false):gapR l a b=false:=by
 cases hg:gapR l a b
 ·rfl
 ·rw[gapR_iff]at hg;have:=hg j h1 h2;rw[h]at this;cases this
end Go.Proofs.YtplpbmkdfabfpaaGreat
