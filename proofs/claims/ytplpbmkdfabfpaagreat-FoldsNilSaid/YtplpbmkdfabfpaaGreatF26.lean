/- The laws' own check that the program lives. -/
import Derived.Test.YtplpbmkdfabfpaaGreatF23
import Derived.Test.YtplpbmkdfabfpaaGreatF4
set_option maxRecDepth 100000
set_option maxHeartbeats 4000000
namespace Go.Proofs.YtplpbmkdfabfpaaGreat
open Go.RowKit
def litC:List Int:=[1,1,13,2,9,1]
def litW:List Int:=[1,1,1,1,0,1]
def litL:List Int:=[0,0,0,1,1,0]
def litO:List Int:=[0,1,2,4,3,5]
theorem lit_cut:natI ((cutX litC litW 2).map (posC litC))=[0,3]:=by decide
theorem lit_mrk:mrkT litC litL litO 6=[0,1,2,3,4,5]:=by decide
theorem lit_brk:brkL litC=[0,3]:=by decide
theorem lit_clus:(clusL litC).length=5:=by decide
theorem lit_fine:Fine litW:=by unfold Fine;decide
theorem lit_good:GoodO 6 litO 6:=by unfold GoodO;decide
theorem rd_blk {w:World}{g:Nat}{t:TypeId}{k:IntKind}{l:List Int}(h:Blk w g t (l.map (.int k)).toArray):RdInts w w.heap.size k (some ⟨g,0,none⟩) l:=by
 have:=Reads.blk (n:=l.length) (size:=1) h (by simp)
 simpa[RdInts]using this
theorem awake_ok (w:World):Calls Tryz.prog 7 #[] w fun r w'=>r= .returned (.bool true)∧Below w.heap.size w w':=by
 have C0:Blk ((w.alloc (.cells #[.int .u8 1,.int .u8 1,.int .u8 13,.int .u8 2,.int .u8 9,.int .u8 1] 22)).alloc (.cells #[.int .i64 1,.int .i64 1,.int .i64 1,.int .i64 1,.int .i64 0,.int .i64 1] 3)) w.heap.size 22 (litC.map (.int .u8)).toArray:=(Blk.new w 22 _).alloc _;have W0:Blk ((w.alloc (.cells #[.int .u8 1,.int .u8 1,.int .u8 13,.int .u8 2,.int .u8 9,.int .u8 1] 22)).alloc (.cells #[.int .i64 1,.int .i64 1,.int .i64 1,.int .i64 1,.int .i64 0,.int .i64 1] 3)) (w.heap.size+1) 3 (litW.map (.int .i64)).toArray:=Blk.at_ (by simp);have rc:=rd_blk C0;have rw_:=rd_blk W0;have b0:=((Below.refl _ w).alloc (Nat.le_refl _) (.cells #[.int .u8 1,.int .u8 1,.int .u8 13,.int .u8 2,.int .u8 9,.int .u8 1] 22)).alloc (by simp) (.cells #[.int .i64 1,.int .i64 1,.int .i64 1,.int .i64 1,.int .i64 0,.int .i64 1] 3)
 go_enter Tryz.func7,Tryz.ntmps7
 go_upto_region 4 with(go_at_call 19;refine(Cut_ok (n:=6) (c:=6) (c2:=6) (l:=litC) (ws:=litW) rfl rfl rc rw_ (Nat.le_refl _) (by omega) lit_fine (by omega) (by omega)).mono ?_;rintro r1 w1 ⟨v1,rfl,I1,b1⟩;rw[lit_cut]at I1)
 have b01:=b0.trans (b1.mono b0.size);have rc1:=rc.below b1 (.inr (Nat.le_refl _));have hs1:=b01.size;obtain⟨g1,cap1,rfl⟩:=I1.form (by simp);have X3:Blk ((w1.alloc (.cells #[.int .i8 0,.int .i8 0,.int .i8 0,.int .i8 1,.int .i8 1,.int .i8 0] 46)).alloc (.cells #[.int .i64 0,.int .i64 1,.int .i64 2,.int .i64 4,.int .i64 3,.int .i64 5] 3)) w1.heap.size 46 (litL.map (.int .i8)).toArray:=(Blk.new w1 46 _).alloc _;have O3:Blk ((w1.alloc (.cells #[.int .i8 0,.int .i8 0,.int .i8 0,.int .i8 1,.int .i8 1,.int .i8 0] 46)).alloc (.cells #[.int .i64 0,.int .i64 1,.int .i64 2,.int .i64 4,.int .i64 3,.int .i64 5] 3)) (w1.heap.size+1) 3 (litO.map (.int .i64)).toArray:=Blk.at_ (by simp);have rl:=rd_blk X3;have ro:=rd_blk O3;have b12:=((Below.refl _ w1).alloc (Nat.le_refl _) (.cells #[.int .i8 0,.int .i8 0,.int .i8 0,.int .i8 1,.int .i8 1,.int .i8 0] 46)).alloc (by simp) (.cells #[.int .i64 0,.int .i64 1,.int .i64 2,.int .i64 4,.int .i64 3,.int .i64 5] 3);have rc2:=rc1.below b12 (.inr (Nat.le_refl _));have I2:=I1.below b12 (Nat.le_refl _);clear I1 rc rw_ C0 W0
 go_upto_region 5 with(go_at_call 20;refine(Marks_ok (n:=6) (n2:=6) (o:=6) (c:=6) (l:=litC) (v:=litL) (os:=litO) rfl rfl rfl rfl rc2 rl ro (Nat.le_refl _) (by omega) (by omega) lit_good).mono ?_;rintro r2 w2 ⟨v2,rfl,J2,b2⟩;rw[lit_mrk]at J2)
 have b02:=(b01.trans (b12.mono hs1)).trans (b2.mono (b01.trans (b12.mono hs1)).size);obtain⟨g2,cap2,rfl⟩:=J2.form (by simp);have I3:=I2.below b2 (Nat.le_refl _);have rc3:=rc2.below b2 (.inr (Nat.le_refl _));clear I2 rc1 rc2 rl ro X3 O3 b1 b12 b2 b0 b01
 go_upto_region 6 with(go_at_call 21;refine(Breaks_ok (c:=6) (l:=litC) rc3 (by decide)).mono ?_;rintro r3 w3 ⟨v3,rfl,K3,b3⟩;rw[lit_brk]at K3)
 obtain⟨g3,cap3,rfl⟩:=K3.form (by simp);have I4:=I3.below b3 (Nat.le_refl _);have J4:=J2.below b3 (Nat.le_refl _);have rc4:=rc3.below b3 (.inr (Nat.le_refl _));have b03:=b02.trans (b3.mono b02.size);clear I3 J2 rc3 b02 b3 hs1;obtain⟨-,_,_,_,_,_,hi⟩:=I4.at_;obtain⟨-,_,_,_,_,_,hj⟩:=J4.at_;obtain⟨-,_,_,_,_,_,hk⟩:=K3.at_;have i1:=hi 1 (by decide);have j3:=hj 3 (by decide);have j4:=hj 4 (by decide);have k1:=hk 1 (by decide);simp only[List.getD_eq_getElem?_getD,List.getElem?_cons_succ,List.getElem?_cons_zero,Option.getD_some]at i1 j3 j4 k1;clear hi hj hk I4 J4 K3
 go_wp2_with(go_at_call 10;refine(Clusters_ok (c:=6) (l:=litC) rc4 (by decide)).mono ?_;rintro r5 w5 ⟨v5,rfl,L5,b5⟩;obtain⟨A5,c5,rfl,-,-,-⟩:=L5.val;rw[lit_clus])
 go_ret;exact⟨rfl,b03.trans (b5.mono b03.size)⟩
end Go.Proofs.YtplpbmkdfabfpaaGreat
