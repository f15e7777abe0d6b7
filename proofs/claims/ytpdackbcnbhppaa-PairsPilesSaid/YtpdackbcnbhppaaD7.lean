/- Two piles of the program and two of the reference, apart from one another. -/
import Derived.Test.YtpdackbcnbhppaaD5
import Derived.Test.YtpdackbcnbhppaaD6
import Derived.Test.YtpdackbcnbhppaaR5
import Derived.Laws.BitsAll
namespace Go.Proofs.Ytpdackbcnbhppaa
open Go.RowKit

theorem wrap_small (n : Int) (h0 : 0 ≤ n) (h1 : n < 9223372036854775808) : IntKind.i64.wrap n = n := by
  have e : IntKind.i64.bits = 64 := rfl
  unfold IntKind.wrap
  simp only [e]
  have h2 : n % 2 ^ 64 = n := Int.emod_eq_of_lt h0 (by omega)
  rw [h2, if_neg]
  simp
  omega
theorem bits_and_low (z : Int) (j : Nat) (hj : j ≤ 62) : bits .and .i64 z ((2 ^ j - 1 : Nat) : Int) = z % ((2 ^ j : Nat) : Int) := by
  have hp : 2 ^ j ≤ 2 ^ 62 := Nat.pow_le_pow_right (by omega) hj
  have hp0 : 0 < 2 ^ j := Nat.pow_pos (by omega)
  show IntKind.i64.wrap (((BitVec.ofInt 64 z &&& BitVec.ofInt 64 ((2 ^ j - 1 : Nat) : Int)).toNat : Nat) : Int) = _
  rw [BitVec.toNat_and, BitVec.toNat_ofInt, BitVec.ofInt_natCast, BitVec.toNat_ofNat, Nat.mod_eq_of_lt (a := 2 ^ j - 1) (by omega), Nat.and_two_pow_sub_one_eq_mod]
  have hlt : (z % ((2 ^ 64 : Nat) : Int)).toNat % 2 ^ j < 2 ^ j := Nat.mod_lt _ hp0
  rw [wrap_small _ (by omega) (by omega)]
  have hz : 0 ≤ z % ((2 ^ 64 : Nat) : Int) := Int.emod_nonneg _ (by decide)
  rw [Int.natCast_emod, Int.toNat_of_nonneg hz]
  refine Int.emod_emod_of_dvd z ?_
  exact_mod_cast Nat.pow_dvd_pow 2 (show j ≤ 64 by omega)
theorem and1 (z : Int) : bits .and .i64 z 1 = z % 2 := bits_and_low z 1 (by omega)

/-- A pile of the program, a pile of the reference. -/
structure PP where
  b : Nat
  vl : Value
  vf : Value
  l : List (Int × Int)
  f : List (Int × Int)
  ov : Bool
structure RR where
  x0 : Value
  x1 : Value
  x2 : Value
  l : List (Int × Int)
  f : List (Int × Int)
  ov : Bool
def RR.pv (r : RR) : Value := .agg #[r.x0, r.x1, r.x2]
def PP.F (p : PP) (j : Nat) : Prop := PilF p.b p.vl p.vf j
def upd {α : Type} (p : Nat → α) (k : Nat) (x : α) : Nat → α := fun j => if j = k then x else p j
theorem upd_at {α : Type} (p : Nat → α) (k : Nat) (x : α) : upd p k x k = x := if_pos rfl
theorem upd_ne {α : Type} (p : Nat → α) {j k : Nat} (x : α) (h : j ≠ k) : upd p k x j = p j := if_neg h

structure St (W : World) (B u q : Nat) (p : Nat → PP) (r : Nat → RR) : Prop where
  pil : ∀ k, k < 2 → Pil W B (p k).b (p k).vl (p k).vf (p k).l (p k).f (p k).ov
  rp : ∀ k, k < 2 → RPil W (r k).pv (r k).l (r k).f (r k).ov
  arr : Blk W u 83 #[.pointer (some ⟨(p 0).b, 0, none⟩), .pointer (some ⟨(p 1).b, 0, none⟩)]
  ref : Blk W q 87 #[(r 0).x0, (r 0).x1, (r 0).x2, (r 1).x0, (r 1).x1, (r 1).x2]
  uq : u ≠ q
  hu : B ≤ u
  hq : B ≤ q
  apP : ∀ k, k < 2 → ∀ j, (p k).F j → j ≠ u ∧ j ≠ q ∧ (∀ i, i < 2 → ¬ rAd (r i).pv j) ∧ ∀ i, i < 2 → i ≠ k → ¬ (p i).F j
  apR : ∀ k, k < 2 → ∀ j, rAd (r k).pv j → j ≠ u ∧ j ≠ q ∧ j < W.heap.size

section
variable {W W' : World} {B u q : Nat} {p : Nat → PP} {r : Nat → RR}
theorem St.frm {F : Nat → Prop} (h : St W B u q p r) (hf : Frm F W W') (hu : ¬ F u) (hq : ¬ F q) (hP : ∀ k, k < 2 → ∀ j, (p k).F j → ¬ F j) (hR : ∀ k, k < 2 → ∀ j, rAd (r k).pv j → ¬ F j) : St W' B u q p r :=
  ⟨fun k hk => (h.pil k hk).frm hf (hP k hk), fun k hk => (h.rp k hk).apart hf (hR k hk), h.arr.frm hf hu, h.ref.frm hf hq, h.uq, h.hu, h.hq, h.apP,
    fun k hk j hj => by have := h.apR k hk j hj; have := hf.size; omega⟩
theorem St.aft (h : St W B u q p r) (ha : Aft W W') : St W' B u q p r := h.frm (F := fun _ => False) (Frm.of_below ha) (fun h => h) (fun h => h) (fun _ _ _ _ h => h) (fun _ _ _ _ h => h)
theorem St.cellP (h : St W B u q p r) {k : Nat} (hk : k < 2) : W.cell? ⟨u, k, none⟩ = some (.pointer (some ⟨(p k).b, 0, none⟩)) := by
  rw [h.arr.cell]
  match k, hk with
  | 0, _ => rfl
  | 1, _ => rfl
theorem St.cellR (h : St W B u q p r) {k : Nat} (hk : k < 2) : W.cell? ⟨q, k * 3, none⟩ = some (r k).x0 ∧ W.cell? ⟨q, k * 3 + 1, none⟩ = some (r k).x1 ∧ W.cell? ⟨q, k * 3 + 2, none⟩ = some (r k).x2 := by
  rw [h.ref.cell, h.ref.cell, h.ref.cell]
  match k, hk with
  | 0, _ => exact ⟨rfl, rfl, rfl⟩
  | 1, _ => exact ⟨rfl, rfl, rfl⟩
theorem St.old (h : St W B u q p r) {k : Nat} (hk : k < 2) {j : Nat} (hj : (p k).F j) : B ≤ j ∧ j < W.heap.size := (h.pil k hk).lt j hj
/-- The program has done something with a pile. -/
theorem St.prog {k : Nat} (hk : k < 2) (h : St W B u q p r) (x : PP) (hb : x.b = (p k).b) (hF : Frm (p k).F W W') (hx : Pil W' B x.b x.vl x.vf x.l x.f x.ov) (hn : ∀ j, x.F j → (p k).F j ∨ W.heap.size ≤ j) : St W' B u q (upd p k x) r := by
  have hbb : ∀ i, (upd p k x i).b = (p i).b := by
    intro i
    unfold upd
    split
    · rename_i e; rw [e]; exact hb
    · rfl
  refine ⟨fun i hi => ?_, fun i hi => (h.rp i hi).apart hF (fun j hj hj2 => (h.apP k hk j hj2).2.2.1 i hi hj), ?_, h.ref.frm hF (fun e => (h.apP k hk q e).2.1 rfl), h.uq, h.hu, h.hq, fun i hi j hj => ?_, fun i hi j hj => ?_⟩
  · by_cases e : i = k
    · rw [e, upd_at]; exact hx
    · rw [upd_ne _ _ e]
      exact (h.pil i hi).frm hF (fun j hj hj2 => (h.apP k hk j hj2).2.2.2 i hi e hj)
  · rw [hbb, hbb]
    exact h.arr.frm hF (fun e => (h.apP k hk u e).1 rfl)
  · by_cases e : i = k
    · rw [e, upd_at] at hj
      rcases hn j hj with h1 | h1
      · obtain ⟨a1, a2, a3, a4⟩ := h.apP k hk j h1
        exact ⟨a1, a2, a3, fun i' hi' hne => by rw [e] at hne; rw [upd_ne _ _ hne]; exact a4 i' hi' hne⟩
      · have := h.arr.lt
        have := h.ref.lt
        refine ⟨by omega, by omega, fun i' hi' h2 => ?_, fun i' hi' hne h2 => ?_⟩
        · have := (h.apR i' hi' j h2).2.2; omega
        · rw [e] at hne
          rw [upd_ne _ _ hne] at h2
          have := h.old hi' h2; omega
    · rw [upd_ne _ _ e] at hj
      obtain ⟨a1, a2, a3, a4⟩ := h.apP i hi j hj
      refine ⟨a1, a2, a3, fun i' hi' hne h2 => ?_⟩
      by_cases e2 : i' = k
      · rw [e2, upd_at] at h2
        rcases hn j h2 with h1 | h1
        · exact a4 k hk (fun h => e h.symm) h1
        · have := h.old hi hj; omega
      · rw [upd_ne _ _ e2] at h2
        exact a4 i' hi' hne h2
  · have := h.apR i hi j hj
    have := hF.size
    omega
/-- A pile of the reference is stored. -/
theorem St.refs {k : Nat} (hk : k < 2) (h : St W B u q p r) (x : RR) (hx : RPil W x.pv x.l x.f x.ov) (hn : ∀ j, rAd x.pv j → j < W.heap.size ∧ j ≠ u ∧ j ≠ q ∧ ∀ i, i < 2 → ¬ (p i).F j) :
    St (((W.setCell ⟨q, k * 3, none⟩ x.x0).setCell ⟨q, k * 3 + 1, none⟩ x.x1).setCell ⟨q, k * 3 + 2, none⟩ x.x2) B u q p (upd r k x) ∧
      Frm (fun j => j = q) W (((W.setCell ⟨q, k * 3, none⟩ x.x0).setCell ⟨q, k * 3 + 1, none⟩ x.x1).setCell ⟨q, k * 3 + 2, none⟩ x.x2) := by
  have hF : Frm (fun j => j = q) W (((W.setCell ⟨q, k * 3, none⟩ x.x0).setCell ⟨q, k * 3 + 1, none⟩ x.x1).setCell ⟨q, k * 3 + 2, none⟩ x.x2) := (((Frm.refl (fun j => j = q) W).set rfl _).set rfl _).set rfl _
  have hR := ((h.ref.set_ (k * 3) x.x0).set_ (k * 3 + 1) x.x1).set_ (k * 3 + 2) x.x2
  have hs := hF.size
  refine ⟨⟨fun i hi => (h.pil i hi).frm hF (fun j hj e => (h.apP i hi j hj).2.1 e), fun i hi => ?_, h.arr.frm hF h.uq, ?_, h.uq, h.hu, h.hq, fun i hi j hj => ?_, fun i hi j hj => ?_⟩, hF⟩
  · by_cases e : i = k
    · rw [e, upd_at]; exact hx.apart hF (fun j hj e => (hn j hj).2.2.1 e)
    · rw [upd_ne _ _ e]; exact (h.rp i hi).apart hF (fun j hj e => (h.apR i hi j hj).2.1 e)
  · match k, hk with
    | 0, _ => simpa [upd] using hR
    | 1, _ => simpa [upd] using hR
  · obtain ⟨a1, a2, a3, a4⟩ := h.apP i hi j hj
    refine ⟨a1, a2, fun i' hi' h2 => ?_, a4⟩
    by_cases e : i' = k
    · rw [e, upd_at] at h2; exact (hn j h2).2.2.2 i hi hj
    · rw [upd_ne _ _ e] at h2; exact a3 i' hi' h2
  · by_cases e : i = k
    · rw [e, upd_at] at hj; have := hn j hj; omega
    · rw [upd_ne _ _ e] at hj; have := h.apR i hi j hj; omega
end

theorem Pclose_any {w : World} {B b : Nat} {vl vf : Value} {l f : List (Int × Int)} {ov : Bool} (a k : Int) (h : Pil w B b vl vf l f ov) (hov : ov = true → l = []) (hl : l.length ≤ 1048576) (hf : f.length ≤ 1048576) :
    Calls Try.prog 41 #[.pointer (some ⟨b, 0, none⟩), .int .i64 a, .int .i32 k] w fun r w' => r = .returned (.tuple #[.agg #[.int .i64 (clB l a k).1, .int .i64 (clB l a k).2], .bool (clI l k)]) ∧ ∃ vl' vf', Pil w' B b vl' vf' (clL l k) (clF l f a k) ov ∧ Frm (PilF b vl vf) w w' ∧
      ∀ j, PilF b vl' vf' j → PilF b vl vf j ∨ w.heap.size ≤ j := by
  cases ov
  · refine (Pclose_live a k h hl hf).mono ?_
    rintro r w' ⟨rfl, vl', vf', h1, h2, h3, h4⟩
    refine ⟨rfl, vl', vf', h1, h2, fun j hj => ?_⟩
    rcases hj with e | e | e
    · exact .inl (.inl e)
    · exact .inl (.inr (.inl (h3 j e)))
    · rcases h4 j e with e | e
      · exact .inl (.inr (.inr e))
      · exact .inr e
  · have e := hov rfl
    subst e
    refine (Pclose_over a k h).mono ?_
    rintro r w' ⟨rfl, b⟩
    exact ⟨rfl, vl, vf, h.below b (Nat.le_refl _), Frm.of_below b, fun j hj => .inl hj⟩
theorem Popen_any {w : World} {B b : Nat} {vl vf : Value} {l f : List (Int × Int)} {ov : Bool} (a k : Int) (h : Pil w B b vl vf l f ov) :
    Calls Try.prog 43 #[.pointer (some ⟨b, 0, none⟩), .int .i64 a, .int .i32 k] w fun r w' => r = .returned (.int .i64 (opE l ov)) ∧ ∃ vl', Pil w' B b vl' vf (opL l ov a k) f (opV l ov) ∧ Frm (PilF b vl vf) w w' ∧
      ∀ j, PilF b vl' vf j → PilF b vl vf j ∨ w.heap.size ≤ j := by
  refine (Popen_ok a k h).mono ?_
  rintro r w' ⟨rfl, vl', h1, h2, h3⟩
  refine ⟨rfl, vl', h1, h2, fun j hj => ?_⟩
  rcases hj with e | e | e
  · exact .inl (.inl e)
  · rcases h3 j e with e | e
    · exact .inl (.inr (.inl e))
    · exact .inr e
  · exact .inl (.inr (.inr e))

/-- Both have the same brackets. -/
structure Cons (n : Nat) (p : Nat → PP) (r : Nat → RR) : Prop where
  el : ∀ k, k < 2 → (r k).l = (p k).l
  ef : ∀ k, k < 2 → (r k).f = (p k).f
  eo : ∀ k, k < 2 → (r k).ov = (p k).ov
  ll : ∀ k, k < 2 → (p k).l.length ≤ 63
  fl : ∀ k, k < 2 → (p k).f.length ≤ n
  ol : ∀ k, k < 2 → (p k).ov = true → (p k).l = []
theorem Cons.step {n k : Nat} {p : Nat → PP} {r : Nat → RR} (h : Cons n p r) (_hk : k < 2) (x : PP) (y : RR) (h1 : y.l = x.l) (h2 : y.f = x.f) (h3 : y.ov = x.ov) (h4 : x.l.length ≤ 63) (h5 : x.f.length ≤ n + 1) (h6 : x.ov = true → x.l = []) : Cons (n + 1) (upd p k x) (upd r k y) := by
  refine ⟨fun i hi => ?_, fun i hi => ?_, fun i hi => ?_, fun i hi => ?_, fun i hi => ?_, fun i hi => ?_⟩ <;> by_cases e : i = k
  all_goals first
    | (rw [e, upd_at, upd_at]; first | exact h1 | exact h2 | exact h3)
    | (rw [upd_ne _ _ e, upd_ne _ _ e]; first | exact h.el i hi | exact h.ef i hi | exact h.eo i hi)
    | (rw [e, upd_at]; first | exact h4 | exact h5)
    | (rw [upd_ne _ _ e]; first | exact h.ll i hi | (have := h.fl i hi; omega) | exact h.ol i hi)
    | (rw [e, upd_at]; exact h6)
theorem clLn (l : List (Int × Int)) (k : Int) : (clL l k).length ≤ l.length := by
  unfold clL; split
  · exact List.length_take_le' _ _
  · exact Nat.le_refl _
theorem clFn (l f : List (Int × Int)) (a k : Int) : (clF l f a k).length ≤ f.length + 1 := by
  unfold clF; split
  · simp
  · omega
theorem opLn {l : List (Int × Int)} (ov : Bool) (a k : Int) (h : l.length ≤ 63) : (opL l ov a k).length ≤ 63 := by
  unfold opL; split
  · exact h
  · split
    · simp
    · simp; omega
theorem opLov {l : List (Int × Int)} {ov : Bool} (a k : Int) (h : ov = true → l = []) : opV l ov = true → opL l ov a k = [] := by
  intro e
  unfold opL
  by_cases h1 : ov = true
  · rw [if_pos h1]; exact h h1
  · rw [if_neg h1]
    unfold opV at e
    have h2 : ov = false := by simpa using h1
    rw [h2] at e
    simp at e
    rw [if_pos e]
theorem clLov {l : List (Int × Int)} {ov : Bool} (k : Int) (h : ov = true → l = []) : ov = true → clL l k = [] := by
  intro e
  have := clLn l k
  rw [h e] at this
  exact List.eq_nil_of_length_eq_zero (by simpa [h e] using this)
end Go.Proofs.Ytpdackbcnbhppaa
