/- Explicit as a plain function. -/
import Derived.Test.YtfelcmppopibcaaS2
import Derived.Test.YtfelcmppopibcaaS4
namespace Go.Proofs.Ytfelcmppopibcaa

/-- k steps: the stack, the levels, the classes. -/
def runS (base : Int) (l : List Int) (au : Nat → Int) : Nat → SS × List Int × List Int
  | 0 => (⟨[⟨base, 0, false⟩], 0, 0, 0⟩, [], [])
  | k + 1 =>
    ((stepS base (runS base l au k).1 (l.getD k 0) (au k)).s, (runS base l au k).2.1 ++ [(stepS base (runS base l au k).1 (l.getD k 0) (au k)).lv],
      (runS base l au k).2.2 ++ [(stepS base (runS base l au k).1 (l.getD k 0) (au k)).cl])

def auP (l : List Int) (k : Nat) : Int := (autosL l (matchL l)).getD (k + 1) 0
def auR (l : List Int) (k : Nat) : Int := if l.getD k 0 = 22 then autoRef l (matchL l) k else 0

theorem runS_len (base : Int) (l : List Int) (au : Nat → Int) (k : Nat) : (runS base l au k).2.1.length = k ∧ (runS base l au k).2.2.length = k := by
  induction k with
  | zero => simp [runS]
  | succ k ih => simp [runS, ih.1, ih.2]
theorem runS_wf {base : Int} (hb : base = 0 ∨ base = 1) (l : List Int) (au : Nat → Int) (k : Nat) :
    WF base (runS base l au k).1 ∧ (runS base l au k).1.i ≤ k ∧ (runS base l au k).1.m ≤ k := by
  induction k with
  | zero => exact ⟨WF.start hb, by simp [runS], by simp [runS]⟩
  | succ k ih =>
    obtain ⟨h1, h2, h3⟩ := ih
    obtain ⟨e1, e2, e3⟩ := h1.step (l.getD k 0) (au k)
    refine ⟨e1, ?_, ?_⟩
    · show (stepS _ _ _ _).s.i ≤ _
      push_cast; omega
    · show (stepS _ _ _ _).s.m ≤ _
      push_cast; omega

/-- What is told of an FSI's text counts at an FSI alone. -/
theorem stepS_auto {base : Int} {s : SS} {c a a' : Int} (h : c = 22 → a = a') : stepS base s c a = stepS base s c a' := by
  unfold stepS
  by_cases h22 : c = 22
  · rw [h h22]
  · simp only [h22, if_false]
theorem runS_auto {base : Int} {l : List Int} {au au' : Nat → Int} {n : Nat} (h : ∀ k, k < n → l.getD k 0 = 22 → au k = au' k) : ∀ k, k ≤ n → runS base l au k = runS base l au' k
  | 0, _ => rfl
  | k + 1, hk => by
    have ih := runS_auto (base := base) h k (by omega)
    simp only [runS, ih, stepS_auto (h k (by omega))]
theorem au_same (base : Int) (l : List Int) : runS base l (auP l) l.length = runS base l (auR l) l.length := by
  refine runS_auto (n := l.length) (fun k hk h22 => ?_) _ (Nat.le_refl _)
  unfold auP auR
  rw [if_pos h22, autosL_getD _ _ _ (by omega), ← auto_eq hk (by rw [h22]; rfl)]
end Go.Proofs.Ytfelcmppopibcaa
