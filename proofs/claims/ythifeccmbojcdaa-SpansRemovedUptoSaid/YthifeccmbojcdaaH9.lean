/- SpansChecks: the two copies, in whatever order their blocks were made. -/
import Derived.Test.YthifeccmbojcdaaH7
namespace Go.Proofs.Ythifeccmbojcdaa
open Go.RowKit

/-- The rows of two copies. -/
structure Pre (D : Nat) (p6 c6 p7 c7 : Value) (s : Sq) (W : World) : Prop where
  ip6 : Ints W D 3 .i64 p6 s.pl
  ic6 : Ints W D 38 .u8 c6 s.cs
  ip7 : Ints W D 3 .i64 p7 s.pl
  ic7 : Ints W D 38 .u8 c7 s.cs
  ap : ∀ j, p6.ownBlock = some j → p7.ownBlock ≠ some j
  ac : ∀ j, c6.ownBlock = some j → c7.ownBlock ≠ some j

theorem Pre.of {W2 W3 : World} {D X Y : Nat} {p6 c6 p7 c7 : Value} {s : Sq} (h : Ints W2 X 3 .i64 p6 s.pl) (h' : Ints W2 X 38 .u8 c6 s.cs) (k : Ints W3 Y 3 .i64 p7 s.pl) (k' : Ints W3 Y 38 .u8 c7 s.cs) (a : Aft W2 W3)
    (hX : D ≤ X) (hY : W2.heap.size ≤ Y) (hD : D ≤ Y) : Pre D p6 c6 p7 c7 s W3 :=
  ⟨(h.aft a).base (fun j e => Nat.le_trans hX (h.lt j e).1), (h'.aft a).base (fun j e => Nat.le_trans hX (h'.lt j e).1), k.base (fun j e => Nat.le_trans hD (k.lt j e).1), k'.base (fun j e => Nat.le_trans hD (k'.lt j e).1),
    fun j e1 e2 => by have := (h.lt j e1).2; have := (k.lt j e2).1; omega, fun j e1 e2 => by have := (h'.lt j e1).2; have := (k'.lt j e2).1; omega⟩

/-- The five stores of a copy. -/
def put5 (W : World) (g : Nat) (p c : Value) (s : Sq) : World := ((((W.setCell ⟨g, 0, none⟩ p).setCell ⟨g, 1, none⟩ c).setCell ⟨g, 2, none⟩ (.int .i8 s.lv)).setCell ⟨g, 3, none⟩ (.int .u8 s.so)).setCell ⟨g, 4, none⟩ (.int .u8 s.eo)
/-- A copy's block. -/
abbrev cell5 (p c : Value) (s : Sq) : Obj := .cells #[p, c, .int .i8 s.lv, .int .u8 s.so, .int .u8 s.eo] 58

section
variable {W : World} {D g6 g7 : Nat} {p6 c6 p7 c7 : Value} {s : Sq}
theorem Pre.aft {W' : World} (h : Pre D p6 c6 p7 c7 s W) (k : Aft W W') : Pre D p6 c6 p7 c7 s W' := ⟨h.ip6.aft k, h.ic6.aft k, h.ip7.aft k, h.ic7.aft k, h.ap, h.ac⟩
theorem Pre.put {p c : Value} {g : Nat} {cs : Array Value} (h : Pre D p6 c6 p7 c7 s W) (hb : Blk W g 58 cs) : Pre D p6 c6 p7 c7 s (put5 W g p c s) := by
  have F := frm_put5 W g p c (.int .i8 s.lv) (.int .u8 s.so) (.int .u8 s.eo)
  refine ⟨h.ip6.frm F ?_, h.ic6.frm F ?_, h.ip7.frm F ?_, h.ic7.frm F ?_, h.ap, h.ac⟩
  · intro j e e2; subst e2; exact h.ip6.own_ne hb (by decide) e.symm
  · intro j e e2; subst e2; exact h.ic6.own_ne hb (by decide) e.symm
  · intro j e e2; subst e2; exact h.ip7.own_ne hb (by decide) e.symm
  · intro j e e2; subst e2; exact h.ic7.own_ne hb (by decide) e.symm
theorem Pre.two (h : Pre D p6 c6 p7 c7 s W) (h6 : Blk W g6 58 #[p6, c6, .int .i8 s.lv, .int .u8 s.so, .int .u8 s.eo]) (h7 : Blk W g7 58 #[p7, c7, .int .i8 s.lv, .int .u8 s.so, .int .u8 s.eo]) (d6 : D ≤ g6) (d7 : D ≤ g7) (hne : g6 ≠ g7) :
    TwoIs D g6 g7 p6 c6 p7 c7 s W := ⟨⟨h6, h.ip6, h.ic6, d6⟩, ⟨h7, h.ip7, h.ic7, d7⟩, hne, h.ap, h.ac⟩
theorem Blk.put (hb : Blk W g6 58 zero5) (p c : Value) : Blk (put5 W g6 p c s) g6 58 #[p, c, .int .i8 s.lv, .int .u8 s.so, .int .u8 s.eo] := blk_put5 _ _ _ _ _ hb
theorem Blk.put_far {cs : Array Value} {p c : Value} (hb : Blk W g6 58 cs) (hne : g6 ≠ g7) : Blk (put5 W g7 p c s) g6 58 cs := hb.frm (frm_put5 W g7 p c _ _ _) hne
theorem put_size (p c : Value) : (put5 W g6 p c s).heap.size = W.heap.size := by unfold put5; simp
/-- Both were stored into. -/
theorem Pre.pp (h : Pre D p6 c6 p7 c7 s W) (h6 : Blk W g6 58 zero5) (h7 : Blk W g7 58 zero5) (d6 : D ≤ g6) (d7 : D ≤ g7) (hne : g6 ≠ g7) : TwoIs D g6 g7 p6 c6 p7 c7 s (put5 (put5 W g6 p6 c6 s) g7 p7 c7 s) :=
  ((h.put h6).put (h7.put_far hne.symm)).two ((h6.put p6 c6).put_far hne) ((h7.put_far hne.symm).put p7 c7) d6 d7 hne
theorem Pre.pp' (h : Pre D p6 c6 p7 c7 s W) (h6 : Blk W g6 58 zero5) (h7 : Blk W g7 58 zero5) (d6 : D ≤ g6) (d7 : D ≤ g7) (hne : g6 ≠ g7) : TwoIs D g6 g7 p6 c6 p7 c7 s (put5 (put5 W g7 p7 c7 s) g6 p6 c6 s) :=
  ((h.put h7).put (h6.put_far hne)).two ((h6.put_far hne).put p6 c6) ((h7.put p7 c7).put_far hne.symm) d6 d7 hne
theorem Pre.pa (h : Pre D p6 c6 p7 c7 s W) (h6 : Blk W g6 58 zero5) (d6 : D ≤ g6) (d7 : D ≤ W.heap.size) : TwoIs D g6 W.heap.size p6 c6 p7 c7 s ((put5 W g6 p6 c6 s).alloc (cell5 p7 c7 s)) :=
  ((h.put h6).aft ((Aft.refl _).alloc _)).two ((h6.put p6 c6).alloc _) (Blk.at_ (put_size _ _).symm) d6 d7 (by have := h6.lt; omega)
theorem Pre.ap_ (h : Pre D p6 c6 p7 c7 s W) (h7 : Blk W g7 58 zero5) (d7 : D ≤ g7) (d6 : D ≤ W.heap.size) : TwoIs D W.heap.size g7 p6 c6 p7 c7 s ((put5 W g7 p7 c7 s).alloc (cell5 p6 c6 s)) :=
  ((h.put h7).aft ((Aft.refl _).alloc _)).two (Blk.at_ (put_size _ _).symm) ((h7.put p7 c7).alloc _) d6 d7 (by have := h7.lt; omega)
theorem Pre.aa (h : Pre D p6 c6 p7 c7 s W) (d : D ≤ W.heap.size) : TwoIs D W.heap.size (W.heap.size + 1) p6 c6 p7 c7 s ((W.alloc (cell5 p6 c6 s)).alloc (cell5 p7 c7 s)) :=
  (h.aft (((Aft.refl _).alloc _).alloc _)).two ((Blk.new _ _ _).alloc _) (Blk.at_ (by simp)) d (by omega) (by omega)
theorem Pre.aa' (h : Pre D p6 c6 p7 c7 s W) (d : D ≤ W.heap.size) : TwoIs D (W.heap.size + 1) W.heap.size p6 c6 p7 c7 s ((W.alloc (cell5 p7 c7 s)).alloc (cell5 p6 c6 s)) :=
  (h.aft (((Aft.refl _).alloc _).alloc _)).two (Blk.at_ (by simp)) ((Blk.new _ _ _).alloc _) (by omega) d (by omega)
end

/-- The first copy's rows were written or grown: x and the second copy stand. -/
structure Run (w : World) (va vb : Array Value) (t5 pg pc cg cc n m t6 t7 : Nat) (p7 c7 : Value) (s : Sq) (p6 c6 : Value) (lp lc : List Int) (D D2 : Nat) (W : World) : Prop where
  hd : HdA w va vb W
  x : XIs D t5 pg pc cg cc n m s W
  d : CIs D2 t7 p7 c7 s W
  bx : Blk W t6 58 #[p6, c6, .int .i8 s.lv, .int .u8 s.so, .int .u8 s.eo]
  ip : Ints W D2 3 .i64 p6 lp
  ic : Ints W D2 38 .u8 c6 lc
  hD : w.heap.size + 2 ≤ D
  h6 : D2 ≤ t6
  ne : t6 ≠ t7
  le5 : t5 < D2
  lep : pg < D2
  lec : cg < D2
  le : D ≤ D2
  ap : ∀ j, p6.ownBlock = some j → p7.ownBlock ≠ some j
  ac : ∀ j, c6.ownBlock = some j → c7.ownBlock ≠ some j

section
variable {W W3 : World} {g6 g7 n m e6 f6 e7 f7 : Nat} {A6 C6 A7 C7 : Option Addr} {pl cs : List Int} {lv so eo : Int}
theorem Pre.l1 (h : Pre W.heap.size (.slice A6 n e6) (.slice C6 m f6) (.slice A7 n e7) (.slice C7 m f7) ⟨pl, cs, lv, so, eo⟩ W3) (a : Aft W W3) (h6 : Blk W3 g6 58 zero5) (d6 : W.heap.size ≤ g6) (h7 : Blk W3 g7 58 zero5) (d7 : W.heap.size ≤ g7) (hne : g6 ≠ g7) :
    ∃ t6 t7 A6' e6' C6' f6' A7' e7' C7' f7', Value.pointer (some ⟨g6, 0, none⟩) = Value.pointer (some ⟨t6, 0, none⟩) ∧ Value.pointer (some ⟨g7, 0, none⟩) = Value.pointer (some ⟨t7, 0, none⟩) ∧ Aft W ((((((((((W3.setCell ⟨g6, 0, none⟩ (.slice A6 n e6)).setCell ⟨g6, 1, none⟩ (.slice C6 m f6)).setCell ⟨g6, 2, none⟩ (.int .i8 lv)).setCell ⟨g6, 3, none⟩ (.int .u8 so)).setCell ⟨g6, 4, none⟩ (.int .u8 eo)).setCell ⟨g7, 0, none⟩ (.slice A7 n e7)).setCell ⟨g7, 1, none⟩ (.slice C7 m f7)).setCell ⟨g7, 2, none⟩ (.int .i8 lv)).setCell ⟨g7, 3, none⟩ (.int .u8 so)).setCell ⟨g7, 4, none⟩ (.int .u8 eo)) ∧ TwoIs W.heap.size t6 t7 (.slice A6' n e6') (.slice C6' m f6') (.slice A7' n e7') (.slice C7' m f7') ⟨pl, cs, lv, so, eo⟩ ((((((((((W3.setCell ⟨g6, 0, none⟩ (.slice A6 n e6)).setCell ⟨g6, 1, none⟩ (.slice C6 m f6)).setCell ⟨g6, 2, none⟩ (.int .i8 lv)).setCell ⟨g6, 3, none⟩ (.int .u8 so)).setCell ⟨g6, 4, none⟩ (.int .u8 eo)).setCell ⟨g7, 0, none⟩ (.slice A7 n e7)).setCell ⟨g7, 1, none⟩ (.slice C7 m f7)).setCell ⟨g7, 2, none⟩ (.int .i8 lv)).setCell ⟨g7, 3, none⟩ (.int .u8 so)).setCell ⟨g7, 4, none⟩ (.int .u8 eo)) :=
  ⟨_, _, A6, e6, C6, f6, A7, e7, C7, f7, rfl, rfl, (a.put5 d6 _ _ _ _ _).put5 d7 _ _ _ _ _, h.pp h6 h7 d6 d7 hne⟩
theorem Pre.l2 (h : Pre W.heap.size (.slice A6 n e6) (.slice C6 m f6) (.slice A7 n e7) (.slice C7 m f7) ⟨pl, cs, lv, so, eo⟩ W3) (a : Aft W W3) (h6 : Blk W3 g6 58 zero5) (d6 : W.heap.size ≤ g6) (h7 : Blk W3 g7 58 zero5) (d7 : W.heap.size ≤ g7) (hne : g6 ≠ g7) :
    ∃ t6 t7 A6' e6' C6' f6' A7' e7' C7' f7', Value.pointer (some ⟨g6, 0, none⟩) = Value.pointer (some ⟨t6, 0, none⟩) ∧ Value.pointer (some ⟨g7, 0, none⟩) = Value.pointer (some ⟨t7, 0, none⟩) ∧ Aft W ((((((((((W3.setCell ⟨g7, 0, none⟩ (.slice A7 n e7)).setCell ⟨g7, 1, none⟩ (.slice C7 m f7)).setCell ⟨g7, 2, none⟩ (.int .i8 lv)).setCell ⟨g7, 3, none⟩ (.int .u8 so)).setCell ⟨g7, 4, none⟩ (.int .u8 eo)).setCell ⟨g6, 0, none⟩ (.slice A6 n e6)).setCell ⟨g6, 1, none⟩ (.slice C6 m f6)).setCell ⟨g6, 2, none⟩ (.int .i8 lv)).setCell ⟨g6, 3, none⟩ (.int .u8 so)).setCell ⟨g6, 4, none⟩ (.int .u8 eo)) ∧ TwoIs W.heap.size t6 t7 (.slice A6' n e6') (.slice C6' m f6') (.slice A7' n e7') (.slice C7' m f7') ⟨pl, cs, lv, so, eo⟩ ((((((((((W3.setCell ⟨g7, 0, none⟩ (.slice A7 n e7)).setCell ⟨g7, 1, none⟩ (.slice C7 m f7)).setCell ⟨g7, 2, none⟩ (.int .i8 lv)).setCell ⟨g7, 3, none⟩ (.int .u8 so)).setCell ⟨g7, 4, none⟩ (.int .u8 eo)).setCell ⟨g6, 0, none⟩ (.slice A6 n e6)).setCell ⟨g6, 1, none⟩ (.slice C6 m f6)).setCell ⟨g6, 2, none⟩ (.int .i8 lv)).setCell ⟨g6, 3, none⟩ (.int .u8 so)).setCell ⟨g6, 4, none⟩ (.int .u8 eo)) :=
  ⟨_, _, A6, e6, C6, f6, A7, e7, C7, f7, rfl, rfl, (a.put5 d7 _ _ _ _ _).put5 d6 _ _ _ _ _, h.pp' h6 h7 d6 d7 hne⟩
theorem Pre.l3 (h : Pre W.heap.size (.slice A6 n e6) (.slice C6 m f6) (.slice A7 n e7) (.slice C7 m f7) ⟨pl, cs, lv, so, eo⟩ W3) (a : Aft W W3) (h6 : Blk W3 g6 58 zero5) (d6 : W.heap.size ≤ g6) :
    ∃ t6 t7 A6' e6' C6' f6' A7' e7' C7' f7', Value.pointer (some ⟨g6, 0, none⟩) = Value.pointer (some ⟨t6, 0, none⟩) ∧ Value.pointer (some ⟨W3.heap.size, 0, none⟩) = Value.pointer (some ⟨t7, 0, none⟩) ∧ Aft W ((((((W3.setCell ⟨g6, 0, none⟩ (.slice A6 n e6)).setCell ⟨g6, 1, none⟩ (.slice C6 m f6)).setCell ⟨g6, 2, none⟩ (.int .i8 lv)).setCell ⟨g6, 3, none⟩ (.int .u8 so)).setCell ⟨g6, 4, none⟩ (.int .u8 eo)).alloc (.cells #[.slice A7 n e7, .slice C7 m f7, .int .i8 lv, .int .u8 so, .int .u8 eo] 58)) ∧ TwoIs W.heap.size t6 t7 (.slice A6' n e6') (.slice C6' m f6') (.slice A7' n e7') (.slice C7' m f7') ⟨pl, cs, lv, so, eo⟩ ((((((W3.setCell ⟨g6, 0, none⟩ (.slice A6 n e6)).setCell ⟨g6, 1, none⟩ (.slice C6 m f6)).setCell ⟨g6, 2, none⟩ (.int .i8 lv)).setCell ⟨g6, 3, none⟩ (.int .u8 so)).setCell ⟨g6, 4, none⟩ (.int .u8 eo)).alloc (.cells #[.slice A7 n e7, .slice C7 m f7, .int .i8 lv, .int .u8 so, .int .u8 eo] 58)) :=
  ⟨_, _, A6, e6, C6, f6, A7, e7, C7, f7, rfl, rfl, (a.put5 d6 _ _ _ _ _).alloc _, h.pa h6 d6 a.le⟩
theorem Pre.l4 (h : Pre W.heap.size (.slice A6 n e6) (.slice C6 m f6) (.slice A7 n e7) (.slice C7 m f7) ⟨pl, cs, lv, so, eo⟩ W3) (a : Aft W W3) (h7 : Blk W3 g7 58 zero5) (d7 : W.heap.size ≤ g7) :
    ∃ t6 t7 A6' e6' C6' f6' A7' e7' C7' f7', Value.pointer (some ⟨W3.heap.size, 0, none⟩) = Value.pointer (some ⟨t6, 0, none⟩) ∧ Value.pointer (some ⟨g7, 0, none⟩) = Value.pointer (some ⟨t7, 0, none⟩) ∧ Aft W ((((((W3.setCell ⟨g7, 0, none⟩ (.slice A7 n e7)).setCell ⟨g7, 1, none⟩ (.slice C7 m f7)).setCell ⟨g7, 2, none⟩ (.int .i8 lv)).setCell ⟨g7, 3, none⟩ (.int .u8 so)).setCell ⟨g7, 4, none⟩ (.int .u8 eo)).alloc (.cells #[.slice A6 n e6, .slice C6 m f6, .int .i8 lv, .int .u8 so, .int .u8 eo] 58)) ∧ TwoIs W.heap.size t6 t7 (.slice A6' n e6') (.slice C6' m f6') (.slice A7' n e7') (.slice C7' m f7') ⟨pl, cs, lv, so, eo⟩ ((((((W3.setCell ⟨g7, 0, none⟩ (.slice A7 n e7)).setCell ⟨g7, 1, none⟩ (.slice C7 m f7)).setCell ⟨g7, 2, none⟩ (.int .i8 lv)).setCell ⟨g7, 3, none⟩ (.int .u8 so)).setCell ⟨g7, 4, none⟩ (.int .u8 eo)).alloc (.cells #[.slice A6 n e6, .slice C6 m f6, .int .i8 lv, .int .u8 so, .int .u8 eo] 58)) :=
  ⟨_, _, A6, e6, C6, f6, A7, e7, C7, f7, rfl, rfl, (a.put5 d7 _ _ _ _ _).alloc _, h.ap_ h7 d7 a.le⟩
theorem Pre.l5 (h : Pre W.heap.size (.slice A6 n e6) (.slice C6 m f6) (.slice A7 n e7) (.slice C7 m f7) ⟨pl, cs, lv, so, eo⟩ W3) (a : Aft W W3)  :
    ∃ t6 t7 A6' e6' C6' f6' A7' e7' C7' f7', Value.pointer (some ⟨W3.heap.size, 0, none⟩) = Value.pointer (some ⟨t6, 0, none⟩) ∧ Value.pointer (some ⟨W3.heap.size + 1, 0, none⟩) = Value.pointer (some ⟨t7, 0, none⟩) ∧ Aft W ((W3.alloc (.cells #[.slice A6 n e6, .slice C6 m f6, .int .i8 lv, .int .u8 so, .int .u8 eo] 58)).alloc (.cells #[.slice A7 n e7, .slice C7 m f7, .int .i8 lv, .int .u8 so, .int .u8 eo] 58)) ∧ TwoIs W.heap.size t6 t7 (.slice A6' n e6') (.slice C6' m f6') (.slice A7' n e7') (.slice C7' m f7') ⟨pl, cs, lv, so, eo⟩ ((W3.alloc (.cells #[.slice A6 n e6, .slice C6 m f6, .int .i8 lv, .int .u8 so, .int .u8 eo] 58)).alloc (.cells #[.slice A7 n e7, .slice C7 m f7, .int .i8 lv, .int .u8 so, .int .u8 eo] 58)) :=
  ⟨_, _, A6, e6, C6, f6, A7, e7, C7, f7, rfl, rfl, (a.alloc _).alloc _, h.aa a.le⟩
theorem Pre.l6 (h : Pre W.heap.size (.slice A6 n e6) (.slice C6 m f6) (.slice A7 n e7) (.slice C7 m f7) ⟨pl, cs, lv, so, eo⟩ W3) (a : Aft W W3)  :
    ∃ t6 t7 A6' e6' C6' f6' A7' e7' C7' f7', Value.pointer (some ⟨W3.heap.size + 1, 0, none⟩) = Value.pointer (some ⟨t6, 0, none⟩) ∧ Value.pointer (some ⟨W3.heap.size, 0, none⟩) = Value.pointer (some ⟨t7, 0, none⟩) ∧ Aft W ((W3.alloc (.cells #[.slice A7 n e7, .slice C7 m f7, .int .i8 lv, .int .u8 so, .int .u8 eo] 58)).alloc (.cells #[.slice A6 n e6, .slice C6 m f6, .int .i8 lv, .int .u8 so, .int .u8 eo] 58)) ∧ TwoIs W.heap.size t6 t7 (.slice A6' n e6') (.slice C6' m f6') (.slice A7' n e7') (.slice C7' m f7') ⟨pl, cs, lv, so, eo⟩ ((W3.alloc (.cells #[.slice A7 n e7, .slice C7 m f7, .int .i8 lv, .int .u8 so, .int .u8 eo] 58)).alloc (.cells #[.slice A6 n e6, .slice C6 m f6, .int .i8 lv, .int .u8 so, .int .u8 eo] 58)) :=
  ⟨_, _, A6, e6, C6, f6, A7, e7, C7, f7, rfl, rfl, (a.alloc _).alloc _, h.aa' a.le⟩
end
end Go.Proofs.Ythifeccmbojcdaa
