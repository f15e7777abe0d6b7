/- SpansChecks: what holds between its steps. -/
import Derived.Test.YthifeccmbojcdaaH2
import Derived.Test.YthifeccmbojcdaaH6
import Derived.Test.YthifeccmbojcdaaG1
namespace Go.Proofs.Ythifeccmbojcdaa
open Go.RowKit

/-- The two sequences that came in, boxed; the world that was there. -/
structure HdA (w : World) (va vb : Array Value) (W : World) : Prop where
  a : Blk W w.heap.size 58 va
  b : Blk W (w.heap.size + 1) 58 vb
  bel : Below w.heap.size w W

section
variable {w W W' : World} {va vb : Array Value}
theorem HdA.size (h : HdA w va vb W) : w.heap.size + 2 ≤ W.heap.size := h.b.lt
theorem HdA.aft (h : HdA w va vb W) (k : Aft W W') : HdA w va vb W' := ⟨h.a.aft k, h.b.aft k, h.bel.trans (Below.mono k h.bel.size)⟩
theorem HdA.drew (h : HdA w va vb W) : HdA w va vb W.drew := ⟨h.a, h.b, h.bel.drew⟩
theorem HdA.alloc (h : HdA w va vb W) (o : Obj) : HdA w va vb (W.alloc o) := h.aft ((Aft.refl W).alloc o)
theorem HdA.grown {row : Option Nat} (h : HdA w va vb W) (hg : W.grownBy W' row) (hr : ∀ k, row = some k → w.heap.size + 2 ≤ k) : HdA w va vb W' :=
  ⟨h.a.grown hg (fun e => by have := hr _ e.symm; omega), h.b.grown hg (fun e => by have := hr _ e.symm; omega), h.bel.grown hg h.bel.size (fun k e => by have := hr k e; omega)⟩
theorem HdA.frm {F : Nat → Prop} (h : HdA w va vb W) (hf : Frm F W W') (hF : ∀ k, k < w.heap.size + 2 → ¬ F k) : HdA w va vb W' :=
  ⟨h.a.frm hf (hF _ (by omega)), h.b.frm hf (hF _ (by omega)), h.bel.trans (hf.below h.bel.size (fun k hk => hF k (by omega)))⟩
end

section
variable {w W0 W W' : World} {va vb : Array Value}
theorem HdA.belOf (_ : HdA w va vb W0) (h : HdA w va vb W) : Below w.heap.size w W := h.bel
theorem HdA.sizeOf (_ : HdA w va vb W0) (h : HdA w va vb W) : w.heap.size + 2 ≤ W.heap.size := h.size
theorem HdA.put5 (_ : HdA w va vb W0) {g : Nat} {a b c d e : Value} (h : HdA w va vb W) (hg : w.heap.size + 2 ≤ g) : HdA w va vb (((((W.setCell ⟨g, 0, none⟩ a).setCell ⟨g, 1, none⟩ b).setCell ⟨g, 2, none⟩ c).setCell ⟨g, 3, none⟩ d).setCell ⟨g, 4, none⟩ e) :=
  h.frm (frm_put5 W g a b c d e) (fun k hk e => by omega)
theorem HdA.aftOf (_ : HdA w va vb W0) (h : HdA w va vb W) (k : Aft W W') : HdA w va vb W' := h.aft k
theorem HdA.grownOf (_ : HdA w va vb W0) {row : Option Nat} (h : HdA w va vb W) (hg : W.grownBy W' row) (hr : ∀ k, row = some k → w.heap.size + 2 ≤ k) : HdA w va vb W' := h.grown hg hr
end

theorem lent17_n {w : World} {B m : Nat} {A : Option Addr} {c : Nat} {l : List Int} (hm : m = l.length) (h : RdInts w B .u8 A l) (hl : m ≤ 140737488351232) :
    Calls Try.prog 28 #[.slice A m c] w fun r w' => ∃ g cap, r = .returned (.slice (some ⟨g, 0, none⟩) m cap) ∧ Ints w' w.heap.size 38 .u8 (.slice (some ⟨g, 0, none⟩) (m + 2) cap) (l ++ [77, 78]) ∧ Below w.heap.size w w' := by
  subst hm
  exact lent17_ok h hl
theorem kept17_n {w : World} {B D m : Nat} {A : Option Addr} {c g cap : Nat} {l : List Int} (hm : m = l.length) (hI : Ints w D 38 .u8 (.slice (some ⟨g, 0, none⟩) (m + 2) cap) (l ++ [77, 78])) (h : RdInts w B .u8 A l) (hl : m ≤ 140737488351232) :
    Calls Try.prog 32 #[.slice (some ⟨g, 0, none⟩) m cap, .slice A m c] w fun r w' => r = .returned (.bool true) ∧ Below w.heap.size w w' := by
  subst hm
  exact kept17_ok hI h hl

abbrev zero5 : Array Value := #[.slice none 0 0, .slice none 0 0, .int .i8 0, .int .u8 0, .int .u8 0]

/-- x: the first sequence's copy, with one number and two classes behind its end. -/
structure XIs (D g pg pc cg cc n m : Nat) (s : Sq) (W : World) : Prop where
  bx : Blk W g 58 #[.slice (some ⟨pg, 0, none⟩) n pc, .slice (some ⟨cg, 0, none⟩) m cc, .int .i8 s.lv, .int .u8 s.so, .int .u8 s.eo]
  ip : Ints W D 3 .i64 (.slice (some ⟨pg, 0, none⟩) (n + 1) pc) (s.pl ++ [-7])
  ic : Ints W D 38 .u8 (.slice (some ⟨cg, 0, none⟩) (m + 2) cc) (s.cs ++ [77, 78])
  hg : D ≤ g
section
variable {W W' : World} {D g pg pc cg cc n m : Nat} {s : Sq}
theorem XIs.aft (h : XIs D g pg pc cg cc n m s W) (k : Aft W W') : XIs D g pg pc cg cc n m s W' := ⟨h.bx.aft k, h.ip.aft k, h.ic.aft k, h.hg⟩
theorem XIs.frm {F : Nat → Prop} (h : XIs D g pg pc cg cc n m s W) (hf : Frm F W W') (h1 : ¬ F g) (h2 : ¬ F pg) (h3 : ¬ F cg) : XIs D g pg pc cg cc n m s W' :=
  ⟨h.bx.frm hf h1, h.ip.frm hf (fun j e => by injection e with e; subst e; exact h2), h.ic.frm hf (fun j e => by injection e with e; subst e; exact h3), h.hg⟩
theorem XIs.rp (hn : n = s.pl.length) (h : XIs D g pg pc cg cc n m s W) : RdInts W W.heap.size .i64 (some ⟨pg, 0, none⟩) s.pl := by
  subst hn
  have := h.ip.cut s.pl.length (by simp)
  rw [List.take_left] at this
  exact this.rd
theorem XIs.rc (hm : m = s.cs.length) (h : XIs D g pg pc cg cc n m s W) : RdInts W W.heap.size .u8 (some ⟨cg, 0, none⟩) s.cs := by
  subst hm
  have := h.ic.cut s.cs.length (by simp)
  rw [List.take_left] at this
  exact this.rd
theorem XIs.new (hp : Ints W D 3 .i64 (.slice (some ⟨pg, 0, none⟩) (n + 1) pc) (s.pl ++ [-7])) (hc : Ints W D 38 .u8 (.slice (some ⟨cg, 0, none⟩) (m + 2) cc) (s.cs ++ [77, 78])) (hg : D ≤ W.heap.size) :
    XIs D W.heap.size pg pc cg cc n m s (W.alloc (.cells #[.slice (some ⟨pg, 0, none⟩) n pc, .slice (some ⟨cg, 0, none⟩) m cc, .int .i8 s.lv, .int .u8 s.so, .int .u8 s.eo] 58)) :=
  ⟨Blk.new _ _ _, hp.alloc _, hc.alloc _, hg⟩
/-- The five stores of x. -/
theorem XIs.lay (hb : Blk W g 58 zero5) (hp : Ints W D 3 .i64 (.slice (some ⟨pg, 0, none⟩) (n + 1) pc) (s.pl ++ [-7])) (hc : Ints W D 38 .u8 (.slice (some ⟨cg, 0, none⟩) (m + 2) cc) (s.cs ++ [77, 78])) (hg : D ≤ g) :
    XIs D g pg pc cg cc n m s (((((W.setCell ⟨g, 0, none⟩ (.slice (some ⟨pg, 0, none⟩) n pc)).setCell ⟨g, 1, none⟩ (.slice (some ⟨cg, 0, none⟩) m cc)).setCell ⟨g, 2, none⟩ (.int .i8 s.lv)).setCell ⟨g, 3, none⟩ (.int .u8 s.so)).setCell ⟨g, 4, none⟩ (.int .u8 s.eo)) := by
  have F := frm_put5 W g (.slice (some ⟨pg, 0, none⟩) n pc) (.slice (some ⟨cg, 0, none⟩) m cc) (.int .i8 s.lv) (.int .u8 s.so) (.int .u8 s.eo)
  refine ⟨blk_put5 _ _ _ _ _ hb, hp.frm F (fun j e => ?_), hc.frm F (fun j e => ?_), hg⟩
  · injection e with e; subst e; exact hp.ne_blk hb (by decide)
  · injection e with e; subst e; exact hc.ne_blk hb (by decide)
end

/-- c and d: a copy of the sequence in blocks of its own. -/
structure CIs (D g : Nat) (pv cv : Value) (s : Sq) (W : World) : Prop where
  bx : Blk W g 58 #[pv, cv, .int .i8 s.lv, .int .u8 s.so, .int .u8 s.eo]
  ip : Ints W D 3 .i64 pv s.pl
  ic : Ints W D 38 .u8 cv s.cs
  hg : D ≤ g
section
variable {W W' : World} {D g : Nat} {pv cv : Value} {s : Sq}
theorem CIs.aft (h : CIs D g pv cv s W) (k : Aft W W') : CIs D g pv cv s W' := ⟨h.bx.aft k, h.ip.aft k, h.ic.aft k, h.hg⟩
theorem CIs.frm {F : Nat → Prop} (h : CIs D g pv cv s W) (hf : Frm F W W') (h1 : ¬ F g) (h2 : ∀ j, pv.ownBlock = some j → ¬ F j) (h3 : ∀ j, cv.ownBlock = some j → ¬ F j) : CIs D g pv cv s W' :=
  ⟨h.bx.frm hf h1, h.ip.frm hf h2, h.ic.frm hf h3, h.hg⟩
theorem CIs.lay (hb : Blk W g 58 zero5) (hp : Ints W D 3 .i64 pv s.pl) (hc : Ints W D 38 .u8 cv s.cs) (hg : D ≤ g) :
    CIs D g pv cv s (((((W.setCell ⟨g, 0, none⟩ pv).setCell ⟨g, 1, none⟩ cv).setCell ⟨g, 2, none⟩ (.int .i8 s.lv)).setCell ⟨g, 3, none⟩ (.int .u8 s.so)).setCell ⟨g, 4, none⟩ (.int .u8 s.eo)) := by
  have F := frm_put5 W g pv cv (.int .i8 s.lv) (.int .u8 s.so) (.int .u8 s.eo)
  refine ⟨blk_put5 _ _ _ _ _ hb, hp.frm F (fun j e => ?_), hc.frm F (fun j e => ?_), hg⟩
  · intro e2; subst e2; exact hp.own_ne hb (by decide) e.symm
  · intro e2; subst e2; exact hc.own_ne hb (by decide) e.symm
end

theorem Aft.put5 {a W : World} {g : Nat} (h : Aft a W) (hg : a.heap.size ≤ g) (x0 x1 x2 x3 x4 : Value) : Aft a (((((W.setCell ⟨g, 0, none⟩ x0).setCell ⟨g, 1, none⟩ x1).setCell ⟨g, 2, none⟩ x2).setCell ⟨g, 3, none⟩ x3).setCell ⟨g, 4, none⟩ x4) :=
  ((((Below.setCell h (p := ⟨g, 0, none⟩) hg x0).setCell (p := ⟨g, 1, none⟩) hg x1).setCell (p := ⟨g, 2, none⟩) hg x2).setCell (p := ⟨g, 3, none⟩) hg x3).setCell (p := ⟨g, 4, none⟩) hg x4

theorem two_new {X W : World} (a : Aft ((X.alloc (.cells zero5 58)).alloc (.cells zero5 58)) W) : Blk W X.heap.size 58 zero5 ∧ Blk W (X.heap.size + 1) 58 zero5 :=
  ⟨((Blk.new X 58 zero5).alloc _).aft a, (Blk.at_ (by simp) : Blk ((X.alloc (.cells zero5 58)).alloc (.cells zero5 58)) (X.heap.size + 1) 58 zero5).aft a⟩

theorem two_new_d {X W : World} (a : Aft ((X.alloc (.cells zero5 58)).alloc (.cells zero5 58)).drew W) : Blk W X.heap.size 58 zero5 ∧ Blk W (X.heap.size + 1) 58 zero5 :=
  ⟨((Blk.new X 58 zero5).alloc _).drew.aft a, (Blk.at_ (by simp) : Blk ((X.alloc (.cells zero5 58)).alloc (.cells zero5 58)) (X.heap.size + 1) 58 zero5).drew.aft a⟩

/-- c and d, apart. -/
structure TwoIs (D t6 t7 : Nat) (p6 c6 p7 c7 : Value) (s : Sq) (W : World) : Prop where
  c : CIs D t6 p6 c6 s W
  d : CIs D t7 p7 c7 s W
  ne : t6 ≠ t7
  ap : ∀ j, p6.ownBlock = some j → p7.ownBlock ≠ some j
  ac : ∀ j, c6.ownBlock = some j → c7.ownBlock ≠ some j
end Go.Proofs.Ythifeccmbojcdaa
