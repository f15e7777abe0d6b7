/- Classes: which are removed, which begin a cluster, which are blank; the small functions that ask. -/
import Derived.Test.YtplpbmkdfabfpaaGreatFKit
import Derived.Test.YtplpbmkdfabfpaaGreatP1
set_option maxRecDepth 100000
set_option maxHeartbeats 1000000
namespace Go.Proofs.YtplpbmkdfabfpaaGreat
open Go.RowKit
def begC (c:Int):Bool:=c !=9 && !remC c
def blkC (c:Int):Bool:=c==13||c==12||c==11
theorem remC_clsC (c:Int):remC (clsC c)=remC c:=by
 unfold clsC
 split
 ·rw[show remC 14=false from rfl,eq_comm,remC_false];omega
 ·split
  ·rw[show remC 14=false from rfl,eq_comm,remC_false];omega
  ·rfl
theorem begC_clsC (c:Int):begC (clsC c)=begC c:=by
 unfold begC;rw[remC_clsC];congr 1;unfold clsC
 split
 ·simp only[bne];congr 1;simp;omega
 ·split
  ·simp only[bne];congr 1;simp;omega
  ·rfl
theorem blkC_clsC (c:Int):blkC (clsC c)=blkC c:=by
 unfold clsC
 split
 ·rw[show blkC 14=false from rfl,eq_comm];simp[blkC];omega
 ·split
  ·rw[show blkC 14=false from rfl,eq_comm];simp[blkC];omega
  ·rfl
theorem clsC_eq {c d:Int}(h1:1≤d)(h2:d≤23)(h3:d≠14):clsC c=d↔c=d:=by
 unfold clsC
 split
 ·omega
 ·split<;>omega
theorem begins_ok (w:World)(c:Int):Calls Tryz.prog 27 #[.int .u8 c] w fun r w'=>r= .returned (.bool (begC c))∧w=w':=by
 go_enter Tryz.func27,Tryz.ntmps27
 go_wp2_with(go_at_call 53;refine(Removed_ok _ _).mono ?_;rintro r1 w1 ⟨rfl,rfl⟩)
 all_goals (go_ret;exact⟨by simp[begC, *],rfl⟩)
theorem blankF_ok (w:World)(c:Int):Calls Tryz.prog 72 #[.int .u8 c] w fun r w'=>r= .returned (.bool (blkC c))∧w=w':=by
 go_enter Tryz.func72,Tryz.ntmps72
 go_wp2
 all_goals (go_ret;exact⟨by simp[blkC, *],rfl⟩)
end Go.Proofs.YtplpbmkdfabfpaaGreat
