/- SpansChecks: the first copy is written and grown; all else stands. -/
import Derived.Test.YthifeccmbojcdaaH9
namespace Go.Proofs.Ythifeccmbojcdaa
open Go.RowKit

theorem Ints.ne_ints {w : World} {B B' g n c : Nat} {e e' : TypeId} {k k' : IntKind} {l l' : List Int} {v : Value} (h : Ints w B e k (.slice (some ⟨g, 0, none⟩) n c) l) (h' : Ints w B' e' k' v l') (hne : e' ≠ e) : some g ≠ v.ownBlock := by
  obtain ⟨rfl, _⟩ := h.at_
  obtain ⟨cur, _, h2, _⟩ := own_blk h
  exact h'.own_ne h2 hne
theorem Ints.ne_own {w : World} {B B' : Nat} {e e' : TypeId} {k k' : IntKind} {l l' : List Int} {v v' : Value} (h : Ints w B e k v l) (h' : Ints w B' e' k' v' l') (hne : e' ≠ e) : ∀ j, v.ownBlock = some j → v'.ownBlock ≠ some j := by
  intro j hj
  rcases h.cases' with ⟨rfl, _⟩ | ⟨g, cap, rfl⟩
  · cases hj
  · injection hj with hj
    subst hj
    exact fun e => h.ne_ints h' hne e.symm

/-- All but the first copy. -/
structure Fix (w : World) (va vb : Array Value) (t5 pg pc cg cc n m t7 : Nat) (p7 c7 : Value) (s : Sq) (D D2 : Nat) (W : World) : Prop where
  hd : HdA w va vb W
  x : XIs D t5 pg pc cg cc n m s W
  d : CIs D2 t7 p7 c7 s W
  hD : w.heap.size + 2 ≤ D
  le5 : t5 < D2
  lep : pg < D2
  lec : cg < D2
  le : D ≤ D2
section
variable {w W W' : World} {va vb : Array Value} {t5 pg pc cg cc n m t7 : Nat} {p7 c7 : Value} {s : Sq} {D D2 : Nat}
theorem Fix.frm {F : Nat → Prop} (h : Fix w va vb t5 pg pc cg cc n m t7 p7 c7 s D D2 W) (hf : Frm F W W') (hF : ∀ k, F k → D2 ≤ k ∧ k ≠ t7 ∧ p7.ownBlock ≠ some k ∧ c7.ownBlock ≠ some k) : Fix w va vb t5 pg pc cg cc n m t7 p7 c7 s D D2 W' :=
  have no : ∀ k, k < D2 → ¬ F k := fun k hk hf => by have := (hF k hf).1; omega
  ⟨h.hd.frm hf (fun k hk => no k (by have := h.hD; have := h.le; omega)), h.x.frm hf (no _ h.le5) (no _ h.lep) (no _ h.lec),
    h.d.frm hf (fun e => (hF _ e).2.1 rfl) (fun j e1 e2 => (hF j e2).2.2.1 e1) (fun j e1 e2 => (hF j e2).2.2.2 e1), h.hD, h.le5, h.lep, h.lec, h.le⟩
theorem Fix.aft (h : Fix w va vb t5 pg pc cg cc n m t7 p7 c7 s D D2 W) (k : Aft W W') : Fix w va vb t5 pg pc cg cc n m t7 p7 c7 s D D2 W' :=
  ⟨h.hd.aft k, h.x.aft k, h.d.aft k, h.hD, h.le5, h.lep, h.lec, h.le⟩
end

/-- The first copy's block and rows, apart from the second's. -/
structure Cp (D2 t6 t7 : Nat) (p7 c7 : Value) (s : Sq) (p6 c6 : Value) (lp lc : List Int) (W : World) : Prop where
  bx : Blk W t6 58 #[p6, c6, .int .i8 s.lv, .int .u8 s.so, .int .u8 s.eo]
  ip : Ints W D2 3 .i64 p6 lp
  ic : Ints W D2 38 .u8 c6 lc
  h6 : D2 ≤ t6
  ne : t6 ≠ t7
  ap : ∀ j, p6.ownBlock = some j → p7.ownBlock ≠ some j
  ac : ∀ j, c6.ownBlock = some j → c7.ownBlock ≠ some j

section
variable {w W W' : World} {va vb : Array Value} {t5 pg pc cg cc n m t6 t7 : Nat} {p6 c6 p7 c7 : Value} {s : Sq} {D D2 : Nat} {lp lc : List Int}
/-- What may be written: the first copy's own blocks. -/
theorem Cp.far (h : Fix w va vb t5 pg pc cg cc n m t7 p7 c7 s D D2 W) (k : Cp D2 t6 t7 p7 c7 s p6 c6 lp lc W) : ∀ j, (p6.ownBlock = some j ∨ c6.ownBlock = some j ∨ j = t6) → D2 ≤ j ∧ j ≠ t7 ∧ p7.ownBlock ≠ some j ∧ c7.ownBlock ≠ some j := by
  rintro j (e | e | rfl)
  · exact ⟨(k.ip.lt j e).1, fun e2 => k.ip.own_ne h.d.bx (by decide) (e2 ▸ e.symm), k.ap j e, k.ip.ne_own h.d.ic (by decide) j e⟩
  · exact ⟨(k.ic.lt j e).1, fun e2 => k.ic.own_ne h.d.bx (by decide) (e2 ▸ e.symm), k.ic.ne_own h.d.ip (by decide) j e, k.ac j e⟩
  · exact ⟨k.h6, k.ne, fun e => h.d.ip.own_ne k.bx (by decide) e.symm, fun e => h.d.ic.own_ne k.bx (by decide) e.symm⟩
theorem Cp.start {t : Sq} {DX : Nat} (h : TwoIs D2 t6 t7 p6 c6 p7 c7 s W) (X : XIs DX t5 pg pc cg cc n m t W) : Cp D2 t6 t7 p7 c7 s p6 c6 s.pl s.cs W :=
  have _ := X.hg
  ⟨h.c.bx, h.c.ip, h.c.ic, h.c.hg, h.ne, h.ap, h.ac⟩
theorem Cp.aft (k : Cp D2 t6 t7 p7 c7 s p6 c6 lp lc W) (a : Aft W W') : Cp D2 t6 t7 p7 c7 s p6 c6 lp lc W' := ⟨k.bx.aft a, k.ip.aft a, k.ic.aft a, k.h6, k.ne, k.ap, k.ac⟩
theorem Cp.setp {g q e : Nat} (k : Cp D2 t6 t7 p7 c7 s (.slice (some ⟨g, 0, none⟩) q e) c6 lp lc W) (i : Nat) (x : Int) : Cp D2 t6 t7 p7 c7 s (.slice (some ⟨g, 0, none⟩) q e) c6 (lp.set i x) lc (W.setCell ⟨g, i, none⟩ (.int .i64 x)) := by
  have F := (Frm.refl (fun j => j = g) W).set (b := g) (j := i) rfl (.int .i64 x)
  exact ⟨k.bx.frm F (fun e => k.ip.ne_blk k.bx (by decide) e.symm), k.ip.set i x, k.ic.frm F (fun j e1 e2 => k.ip.ne_ints k.ic (by decide) (e2 ▸ e1.symm)), k.h6, k.ne, k.ap, k.ac⟩
theorem Cp.setc {g q e : Nat} (k : Cp D2 t6 t7 p7 c7 s p6 (.slice (some ⟨g, 0, none⟩) q e) lp lc W) (i : Nat) (x : Int) : Cp D2 t6 t7 p7 c7 s p6 (.slice (some ⟨g, 0, none⟩) q e) lp (lc.set i x) (W.setCell ⟨g, i, none⟩ (.int .u8 x)) := by
  have F := (Frm.refl (fun j => j = g) W).set (b := g) (j := i) rfl (.int .u8 x)
  exact ⟨k.bx.frm F (fun e => k.ic.ne_blk k.bx (by decide) e.symm), k.ip.frm F (fun j e1 e2 => k.ic.ne_ints k.ip (by decide) (e2 ▸ e1.symm)), k.ic.set i x, k.h6, k.ne, k.ap, k.ac⟩
theorem Fix.setp {g q e : Nat} (h : Fix w va vb t5 pg pc cg cc n m t7 p7 c7 s D D2 W) (k : Cp D2 t6 t7 p7 c7 s (.slice (some ⟨g, 0, none⟩) q e) c6 lp lc W) (i : Nat) (x : Int) : Fix w va vb t5 pg pc cg cc n m t7 p7 c7 s D D2 (W.setCell ⟨g, i, none⟩ (.int .i64 x)) :=
  h.frm ((Frm.refl (fun j => j = g) W).set (b := g) (j := i) rfl (.int .i64 x)) (fun j e => Cp.far h k j (.inl (by subst e; rfl)))
theorem Fix.setc {g q e : Nat} (h : Fix w va vb t5 pg pc cg cc n m t7 p7 c7 s D D2 W) (k : Cp D2 t6 t7 p7 c7 s p6 (.slice (some ⟨g, 0, none⟩) q e) lp lc W) (i : Nat) (x : Int) : Fix w va vb t5 pg pc cg cc n m t7 p7 c7 s D D2 (W.setCell ⟨g, i, none⟩ (.int .u8 x)) :=
  h.frm ((Frm.refl (fun j => j = g) W).set (b := g) (j := i) rfl (.int .u8 x)) (fun j e => Cp.far h k j (.inr (.inl (by subst e; rfl))))
end

/-- Between the two appends. -/
structure Tri (W0 : World) (p6 c6 : Value) (D2 t6 : Nat) (s : Sq) (vp vc : Value) (lp lc : List Int) (W : World) : Prop where
  ip : Ints W D2 3 .i64 vp lp
  ic : Ints W D2 38 .u8 vc lc
  bx : Blk W t6 58 #[p6, c6, .int .i8 s.lv, .int .u8 s.so, .int .u8 s.eo]
  fr : Frm (fun k => p6.ownBlock = some k ∨ c6.ownBlock = some k) W0 W
  op : vp.ownBlock = p6.ownBlock ∨ ∃ j, vp.ownBlock = some j ∧ W0.heap.size ≤ j
  oc : vc.ownBlock = c6.ownBlock ∨ ∃ j, vc.ownBlock = some j ∧ W0.heap.size ≤ j
section
variable {W0 W W' : World} {p6 c6 vp vc v' : Value} {D2 t6 : Nat} {s : Sq} {lp lc l : List Int}
theorem Tri.alloc (T : Tri W0 p6 c6 D2 t6 s vp vc lp lc W) (o : Obj) : Tri W0 p6 c6 D2 t6 s vp vc lp lc (W.alloc o) := ⟨T.ip.alloc o, T.ic.alloc o, T.bx.alloc o, T.fr.alloc o, T.op, T.oc⟩
theorem Tri.drew (T : Tri W0 p6 c6 D2 t6 s vp vc lp lc W) : Tri W0 p6 c6 D2 t6 s vp vc lp lc W.drew := ⟨T.ip, T.ic, T.bx, T.fr.drew, T.op, T.oc⟩
theorem own_or {a b : Value} {N M : Nat} (h : a.ownBlock = b.ownBlock ∨ a.ownBlock = some M) (k : b.ownBlock = c6.ownBlock ∨ ∃ j, b.ownBlock = some j ∧ N ≤ j) (hM : N ≤ M) : a.ownBlock = c6.ownBlock ∨ ∃ j, a.ownBlock = some j ∧ N ≤ j := by
  rcases h with h | h
  · rw [h]; exact k
  · exact .inr ⟨M, h, hM⟩
theorem Tri.p (T : Tri W0 p6 c6 D2 t6 s vp vc lp lc W) (I : Ints W' D2 3 .i64 v' (lp ++ l)) (g : W.grownBy W' vp.ownBlock) (hv : v'.ownBlock = vp.ownBlock ∨ v'.ownBlock = some W.heap.size) : Tri W0 p6 c6 D2 t6 s v' vc (lp ++ l) lc W' := by
  refine ⟨I, T.ic.kept g ?_, T.bx.grown g (T.ip.own_ne T.bx (by decide)), T.fr.grown g ?_, own_or hv T.op T.fr.size, T.oc⟩
  · rcases h : vc.ownBlock with _ | j
    · exact .inl rfl
    · exact .inr (fun e => T.ic.ne_own T.ip (by decide) j h e.symm)
  · rintro k e hk
    rcases T.op with h | ⟨j, h, h1⟩
    · exact .inl (h ▸ e)
    · rw [h] at e; injection e with e; omega
theorem Tri.c (T : Tri W0 p6 c6 D2 t6 s vp vc lp lc W) (I : Ints W' D2 38 .u8 v' (lc ++ l)) (g : W.grownBy W' vc.ownBlock) (hv : v'.ownBlock = vc.ownBlock ∨ v'.ownBlock = some W.heap.size) : Tri W0 p6 c6 D2 t6 s vp v' lp (lc ++ l) W' := by
  refine ⟨T.ip.kept g ?_, I, T.bx.grown g (T.ic.own_ne T.bx (by decide)), T.fr.grown g ?_, T.op, own_or hv T.oc T.fr.size⟩
  · rcases h : vp.ownBlock with _ | j
    · exact .inl rfl
    · exact .inr (fun e => T.ip.ne_own T.ic (by decide) j h e.symm)
  · rintro k e hk
    rcases T.oc with h | ⟨j, h, h1⟩
    · exact .inr (h ▸ e)
    · rw [h] at e; injection e with e; omega
theorem Tri.start {t7 : Nat} {p7 c7 : Value} (k : Cp D2 t6 t7 p7 c7 s p6 c6 lp lc W) : Tri W p6 c6 D2 t6 s p6 c6 lp lc W := ⟨k.ip, k.ic, k.bx, Frm.refl _ _, .inl rfl, .inl rfl⟩
end

section
variable {w W0 W : World} {va vb : Array Value} {t5 pg pc cg cc n m t6 t7 : Nat} {p6 c6 p7 c7 vp vc : Value} {s : Sq} {D D2 : Nat} {l0 l1 lp lc : List Int}
/-- Both were appended to; the fields are stored. -/
theorem Tri.done (h : Fix w va vb t5 pg pc cg cc n m t7 p7 c7 s D D2 W0) (k : Cp D2 t6 t7 p7 c7 s p6 c6 l0 l1 W0) (T : Tri W0 p6 c6 D2 t6 s vp vc lp lc W) :
    Fix w va vb t5 pg pc cg cc n m t7 p7 c7 s D D2 ((W.setCell ⟨t6, 0, none⟩ vp).setCell ⟨t6, 1, none⟩ vc) ∧ Cp D2 t6 t7 p7 c7 s vp vc lp lc ((W.setCell ⟨t6, 0, none⟩ vp).setCell ⟨t6, 1, none⟩ vc) := by
  have F0 : Frm (fun j => j = t6) W ((W.setCell ⟨t6, 0, none⟩ vp).setCell ⟨t6, 1, none⟩ vc) := ((Frm.refl (fun j => j = t6) W).set (b := t6) (j := 0) rfl vp).set (b := t6) (j := 1) rfl vc
  have B1 := (T.bx.set_ 0 vp).set_ 1 vc
  have B2 : Blk ((W.setCell ⟨t6, 0, none⟩ vp).setCell ⟨t6, 1, none⟩ vc) t6 58 #[vp, vc, .int .i8 s.lv, .int .u8 s.so, .int .u8 s.eo] := by simpa using B1
  have hFix : Fix w va vb t5 pg pc cg cc n m t7 p7 c7 s D D2 ((W.setCell ⟨t6, 0, none⟩ vp).setCell ⟨t6, 1, none⟩ vc) := by
    refine (h.frm T.fr (fun j e => Cp.far h k j ?_)).frm F0 (fun j e => Cp.far h k j (.inr (.inr e)))
    rcases e with e | e
    · exact .inl e
    · exact .inr (.inl e)
  refine ⟨hFix, B2, T.ip.frm F0 (fun j e1 e2 => T.ip.own_ne T.bx (by decide) (e2 ▸ e1.symm)), T.ic.frm F0 (fun j e1 e2 => T.ic.own_ne T.bx (by decide) (e2 ▸ e1.symm)), k.h6, k.ne, ?_, ?_⟩
  · intro j e
    rcases T.op with e2 | ⟨i, e2, h2⟩
    · exact k.ap j (e2 ▸ e)
    · intro e3
      rw [e2] at e; injection e with e
      have := (h.d.ip.lt j e3).2; omega
  · intro j e
    rcases T.oc with e2 | ⟨i, e2, h2⟩
    · exact k.ac j (e2 ▸ e)
    · intro e3
      rw [e2] at e; injection e with e
      have := (h.d.ic.lt j e3).2; omega
end
end Go.Proofs.Ythifeccmbojcdaa
