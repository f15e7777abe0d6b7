/- A fold: the small functions. -/
import Derived.Test.YtplpbmkdfabfpaaGreatF9
import Derived.Deep.RegionHeld3
import Derived.Deep.RegionWith
set_option maxRecDepth 100000
set_option maxHeartbeats 2000000
namespace Go.Proofs.YtplpbmkdfabfpaaGreat
open Go.RowKit
theorem same_of {P:Program}{f:FuncId}{args:Array Value}{w:World}{v:Value}(h:Calls P f args w fun e w'=>e= .returned v∧w=w'):Calls P f args w fun e w'=>e= .returned v∧w'=w:=h.mono fun _ _ h=>⟨h.1,h.2.symm⟩
theorem open_len {w:World}{A A2:Option Addr}{n n2 c c2:Nat}{most:Int}(hn:n≠n2):
 Calls Tryz.prog 22 #[.slice A n c,.slice A2 n2 c2,.int .i64 most] w fun r w'=>r= .returned (.tuple #[.pointer none,.int .i64 2])∧w=w':=by
 have h1:((n:Int) !=(n2:Int))=true:=by simp;omega
 go_enter Tryz.func22,Tryz.ntmps22
 go_wp2
 go_ret2
 exact⟨rfl,rfl⟩
theorem open_wide {w:World}{B2:Nat}{A A2:Option Addr}{n c c2:Nat}{ws:List Int}{most:Int}(hw:n=ws.length)(h2:RdInts w B2 .i64 A2 ws)(hl:n≤1048576)(hb:most<0∨1099511627776<most∨ ¬Fine ws):
 Calls Tryz.prog 22 #[.slice A n c,.slice A2 n c2,.int .i64 most] w fun r w'=>r= .returned (.tuple #[.pointer none,.int .i64 230])∧w=w':=by
 have HW:=Lib.hid hw;clear hw
 by_cases hm0:most<0
 ·go_enter Tryz.func22,Tryz.ntmps22
  go_wp2
  go_ret2
  exact⟨rfl,rfl⟩
 ·by_cases hm1:1099511627776<most
  ·go_enter Tryz.func22,Tryz.ntmps22
   go_wp2
   go_ret2
   exact⟨rfl,rfl⟩
  ·have hf: ¬Fine ws:=(hb.resolve_left hm0).resolve_left hm1;have HF:=Lib.hid hf
   have hm0':0≤most:=by omega
   have hm1':most≤1099511627776:=by omega
   clear hb hf hm0 hm1
   go_enter Tryz.func22,Tryz.ntmps22
   go_wp2_with(go_at_call 44;refine(contains_bad HW.out h2 hl).mono ?_;rintro r1 w1 ⟨z,rfl,hz,rfl⟩;obtain rfl:z=true:=by cases z<;>first|rfl|exact absurd (hz.2 rfl) HF.out)
   go_ret2
   exact⟨rfl,rfl⟩
theorem mayF_ok {w:World}{q p:Nat}{l ws:List Int}{most:Int}{k:Nat}(hq:Blk w q 71 #[.pointer (some ⟨p,0,none⟩)])(hp:Paper w p l ws most)(hk:k<(clusL l).length)(hl:l.length≤1048576):
 Calls Tryz.prog 46 #[.int .i64 k,.pointer (some ⟨q,0,none⟩)] w fun r w'=>r= .returned (.bool (mayJ l k))∧Below w.heap.size w w':=by
 obtain⟨A,c,cA,cc,wA,wc,h1,⟨B,h2⟩,h3,h4⟩:=hp.ex;have hcl:=clusL_length l;have hbk: ∀W,W.drewN 0=W.drewN 0→RdInts W B .u8 A l→RdInts W w.heap.size .i64 cA (clusL l)→Calls Tryz.prog 43 #[.slice A l.length c,.slice cA (clusL l).length cc,.int .i64 k] W fun r w'=>r= .returned (.bool (brkB l (clusL l) k))∧W=w':=fun W _ a b=>breaks_ok rfl rfl a b hk (by omega) (fun i hi=>clusL_in l hi);obtain⟨x0,x1,x2,x3,xf,xl⟩:=h1.c4;obtain⟨y0,yf,yl⟩:=hq.c1;have e:mayJ l k=brkB l (clusL l) k:=rfl;rw[e];clear e
 go_enter Tryz.func46,Tryz.ntmps46
 go_wp2_with(go_quiet ((go_at_call 43;exact Calls.quiet_of_same (same_of (hbk _ rfl h2 h3)))))
 go_ret;exact⟨rfl,⟨rfl,rfl,rfl,Nat.le_refl _,fun _ _=>rfl⟩⟩
end Go.Proofs.YtplpbmkdfabfpaaGreat
