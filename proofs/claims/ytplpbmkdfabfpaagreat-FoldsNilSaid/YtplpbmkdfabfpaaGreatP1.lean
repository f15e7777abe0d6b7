/- Classes: which are removed, which begin a cluster, which are blank; the small functions that ask. Clusters, by both. Chapter 17's small functions; kept characters, by both. -/
import Derived.Test.YtplpbmkdfabfpaaGreatKit3
set_option maxRecDepth 100000
set_option maxHeartbeats 1000000
namespace Go.Proofs.YtplpbmkdfabfpaaGreat
open Go.RowKit
def remC (c:Int):Bool:=c==15||c==17||c==16||c==18||c==19||c==10
def clsC (c:Int):Int:=if c<1 then 14 else if 23<c then 14 else c
theorem ei24:ElemI Tryz.prog 29 3 .i64 8:=ElemI.mk' Tryz.underlying29 (by kernel_rfl)
theorem ei22:ElemI Tryz.prog 37 22 .u8 1:=ElemI.mk' Tryz.underlying37 (by kernel_rfl)
theorem ei35:ElemI Tryz.prog 41 46 .i8 1:=ElemI.mk' Tryz.underlying41 (by kernel_rfl)
theorem remC_false {c:Int}:remC c=false↔c≠15∧c≠17∧c≠16∧c≠18∧c≠19∧c≠10:=by simp[remC,and_assoc]
theorem Removed_ok (w:World)(c:Int):Calls Tryz.prog 53 #[.int .u8 c] w fun r w'=>r= .returned (.bool (remC c))∧w=w':=by
 go_enter Tryz.func53,Tryz.ntmps53
 go_wp2
 all_goals (go_ret;exact⟨by simp[remC, *],rfl⟩)
theorem rClass_ok (w:World)(c:Int):Calls Tryz.prog 16 #[.int .u8 c] w fun r w'=>r= .returned (.int .u8 (clsC c))∧w=w':=by
 go_enter Tryz.func16,Tryz.ntmps16
 go_wp2
 all_goals (go_ret;refine⟨congrArg (fun z=>Ending.returned (Value.int .u8 z)) ?_,rfl⟩;unfold clsC;(repeat' split)<;>omega)
theorem take_map_succ {f:Int→Int}{l:List Int}{j:Nat}(h:j<l.length):(l.take (j+1)).map f=(l.take j).map f++[f (l.getD j 0)]:=by rw[List.take_add_one,List.getElem?_eq_getElem h,List.map_append];congr 1;simp[List.getD_eq_getElem?_getD,h]
def begI (c:Int):Bool:=c==20||c==21||c==22
def wayL (l:Int):Int:=if l<0 then 0 else if 126<l then 0 else if l % 2=0 then 1 else 2
theorem begI_ok (w:World)(c:Int):Calls Tryz.prog 83 #[.int .u8 c] w fun r w'=>r= .returned (.bool (begI c))∧w=w':=by
 go_enter Tryz.func83,Tryz.ntmps83
 go_wp2
 all_goals (go_ret;exact⟨by simp[begI, *],rfl⟩)
theorem known_ok (w:World)(c:Int):Calls Tryz.prog 103 #[.int .u8 c] w fun r w'=>r= .returned (.int .u8 (clsC c))∧w=w':=by
 go_enter Tryz.func103,Tryz.ntmps103
 go_wp2
 all_goals (go_ret;refine⟨congrArg (fun z=>Ending.returned (Value.int .u8 z)) ?_,rfl⟩;unfold clsC;(repeat' split)<;>omega)
theorem Way_ok (w:World)(l:Int):Calls Tryz.prog 63 #[.int .i8 l] w fun r w'=>r= .returned (.int .u8 (wayL l))∧w=w':=by
 unfold wayL
 by_cases h0:l<0
 ·rw[if_pos h0]
  go_enter Tryz.func63,Tryz.ntmps63
  go_wp2;go_ret;exact⟨rfl,rfl⟩
 ·rw[if_neg h0]
  have h0':0≤l:=by omega
  by_cases h1:126<l
  ·rw[if_pos h1]
   go_enter Tryz.func63,Tryz.ntmps63
   go_wp2;go_ret;exact⟨rfl,rfl⟩
  ·rw[if_neg h1]
   have h1':l≤126:=by omega
   by_cases h2:l % 2=0
   ·rw[if_pos h2]
    have h3:(l % 2==0)=true:=by simp[h2]
    clear h0 h1 h2
    go_enter Tryz.func63,Tryz.ntmps63
    go_wp2;go_ret;exact⟨rfl,rfl⟩
   ·rw[if_neg h2]
    have h3:(l % 2==0)=false:=by simp[h2]
    clear h0 h1 h2
    go_enter Tryz.func63,Tryz.ntmps63
    go_wp2;go_ret;exact⟨rfl,rfl⟩
def keptT (l:List Int):Nat→List Int
 |0=>[]
 |k+1=>if remC (l.getD k 0)=true then keptT l k else keptT l k++[(k:Int)]
def keptL (l:List Int):List Int:=keptT l l.length
theorem keptT_length (l:List Int): ∀k,(keptT l k).length≤k
 |0=>by simp[keptT]
 |k+1=>by
  have:=keptT_length l k;unfold keptT
  split<;>simp<;>omega
theorem Kept_ok {w:World}{B:Nat}{A:Option Addr}{c:Nat}{l:List Int}(h:RdInts w B .u8 A l)(hl:l.length≤8388608):
 Calls Tryz.prog 81 #[.slice A l.length c] w fun r w'=> ∃v,r= .returned v∧Ints w' w.heap.size 3 .i64 v (keptL l)∧Below w.heap.size w w':=by
 go_enter Tryz.func81,Tryz.ntmps81
 go_wp2
 go_loopg [3,8] l.length (fun gk ov iv wr=> ∃j:Nat,j+gk=l.length∧iv= .int .i64 j∧Ints wr w.heap.size 3 .i64 ov (keptT l j)∧Below w.heap.size w wr)
 case atStart=>exact⟨0,by omega,rfl,Ints.nil _ _ _ _,Below.refl _ _⟩
 case round=>
  obtain⟨j,hj,rfl,I,b⟩:=hrel;have HJ:=Lib.hid hj;clear hj
  by_cases hlt:j<l.length
  ·obtain⟨ab,off,rfl,_,_,hc⟩:=(h.below b (.inr (Nat.le_refl _))).at_ hlt
   have hN:keptT l (j+1)=if remC (l.getD j 0)=true then keptT l j else keptT l j++[(j:Int)]:=rfl
   have hlen:=keptT_length l j;generalize l.getD j 0=x at hc hN;generalize hC:keptT l j=cs at I hN hlen;have HN:=Lib.hid hN;have HL:=Lib.hid hlen;clear hN hlen hC;have hbs:=b.size;cases hb:remC x
   ·go_wp2_with(first
     |(go_at_call 53;refine(Removed_ok _ _).mono ?_;rintro r1 w1 ⟨rfl,rfl⟩)
     |(at_builtin;go_must (refine wpList_appI ei24 rfl rfl rfl (I.alloc _) rfl (Blk.at_ (by simp)) ?_ ?_ ?_ ?_)))
    ·have:=HL.out;unfold maxLen;omega
    ·have:=HL.out;omega
    ·first|omega|(simp;omega)
    intro g cap w2 I2 g2 hg;go_wp2
    go_roundg (l.length-(j+1))
    case rel=>exact⟨j+1,by have:=HJ.out;omega,by go_num,by rw[HN.out,hb,if_neg (by simp)];exact I2,(b.alloc hbs _).grown g2 (by simp;omega) (fun k hk=>(I.lt k hk).1)⟩
    case measure=>have:=HJ.out;omega
   ·go_wp2_with(go_at_call 53;refine(Removed_ok _ _).mono ?_;rintro r1 w1 ⟨rfl,rfl⟩)
    go_roundg (l.length-(j+1))
    case rel=>exact⟨j+1,by have:=HJ.out;omega,by go_num,by rw[HN.out,hb,if_pos rfl];exact I,b⟩
    case measure=>have:=HJ.out;omega
  ·have hjl:j=l.length:=by have:=HJ.out;omega
   subst hjl;go_wp2;go_ret;exact⟨_,rfl,I,b⟩
end Go.Proofs.YtplpbmkdfabfpaaGreat
