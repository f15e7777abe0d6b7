/- A text's stretches of one level, and what is laid: the plain law. -/
import Derived.Test.YtaekdnfpgkfjkaaDoorL3
import Derived.Test.YtaekdnfpgkfjkaaDoorL1
namespace Go.Proofs.YtaekdnfpgkfjkaaDoor
open Go.RowKit

/-- Where character k begins. -/
def bAt (s : ByteArray) (k : Nat) : Nat := if k < (chs s).length then ((chs s).getD k default).b else s.size
def seg (s : ByteArray) (i j : Nat) : List UInt8 := (((chs s).drop i).take (j - i)).flatMap (cut s)
theorem seg_nil (s : ByteArray) (i : Nat) : seg s i i = [] := by simp [seg]
theorem seg_snoc {s : ByteArray} {i j : Nat} (h : i ≤ j) (hj : j < (chs s).length) : seg s i (j + 1) = seg s i j ++ cut s ((chs s).getD j default) := by
  unfold seg
  rw [show j + 1 - i = (j - i) + 1 by omega, List.take_succ_eq_append_getElem (by simp; omega), List.flatMap_append]
  congr 1
  rw [List.flatMap_cons, List.flatMap_nil, List.append_nil, List.getElem_drop, getD_at default (by omega)]
  congr 2
  omega
theorem bAt_next {s : ByteArray} {k : Nat} (h : k < (chs s).length) : ((chs s).getD k default).b + ((chs s).getD k default).n = bAt s (k + 1) := chA_next s 0 k h
theorem bAt_lt {s : ByteArray} {k : Nat} (h : k < (chs s).length) : bAt s k = ((chs s).getD k default).b := if_pos h
theorem bAt_le (s : ByteArray) (k : Nat) : bAt s k ≤ s.size := by
  unfold bAt
  split
  · rename_i h
    have := chA_mem s 0 _ (getD_mem0 default h)
    unfold chs at *
    omega
  · exact Nat.le_refl _
theorem bAt_mono {s : ByteArray} {i j : Nat} (h : i ≤ j) : bAt s i ≤ bAt s j := by
  induction j with
  | zero => have : i = 0 := by omega
            subst this; exact Nat.le_refl _
  | succ j ih =>
    by_cases e : i = j + 1
    · subst e; exact Nat.le_refl _
    · have h1 := ih (by omega)
      by_cases hj : j < (chs s).length
      · have := bAt_next hj
        rw [bAt_lt hj] at h1
        omega
      · have h2 : bAt s (j + 1) = s.size := if_neg (by omega)
        rw [h2]; exact bAt_le s i
theorem seg_ext {s : ByteArray} {i : Nat} : ∀ {j : Nat}, i ≤ j → j ≤ (chs s).length → s.extract (bAt s i) (bAt s j) = txt (seg s i j) := by
  intro j
  induction j with
  | zero =>
    intro h _
    have : i = 0 := by omega
    subst this
    rw [seg_nil]
    apply ByteArray.ext
    simp [txt]
  | succ j ih =>
    intro h hj
    by_cases e : i = j + 1
    · subst e
      rw [seg_nil]
      apply ByteArray.ext
      simp [txt]
    · have h1 := ih (by omega) (by omega)
      rw [seg_snoc (by omega) (by omega), ← txt_app, ← h1, bAt_next (by omega), ← bAt_lt (by omega : j < (chs s).length)]
      have a1 := bAt_mono (s := s) (show i ≤ j by omega)
      have a2 := bAt_mono (s := s) (show j ≤ j + 1 by omega)
      apply ByteArray.ext
      simp [Nat.min_eq_left a1, Nat.max_eq_right a2]

structure Gs where
  done : List (List UInt8 × Int)
  d : List UInt8
  l : Int
  is : Bool
/-- One character more. -/
def grS (g : Gs) (c : List UInt8) (l : Int) : Gs :=
  if l = -1 ∨ (g.is = true ∧ l = g.l) then { g with d := g.d ++ c }
  else if g.is = false then { g with d := g.d ++ c, l := l, is := true }
  else ⟨g.done ++ [(g.d, g.l)], c, l, true⟩
/-- The stretches of the first k. -/
def stT (b : Int) (s : ByteArray) (ls : List Int) : Nat → Gs
  | 0 => ⟨[], [], b, false⟩
  | k + 1 => grS (stT b s ls k) (cut s ((chs s).getD k default)) (ls.getD k 0)
def grL (g : Gs) : List (List UInt8 × Int) := g.done ++ [(g.d, g.l)]
def strL (b : Int) (s : ByteArray) (ls : List Int) (k : Nat) : List (List UInt8 × Int) := if k = 0 then [] else grL (stT b s ls k)
theorem strL_succ (b : Int) (s : ByteArray) (ls : List Int) (k : Nat) : strL b s ls (k + 1) = grL (stT b s ls (k + 1)) := if_neg (by omega)
theorem grS_fst (g : Gs) (c : List UInt8) (l : Int) : (grL (grS g c l)).flatMap (·.1) = (grL g).flatMap (·.1) ++ c := by
  unfold grS grL
  (repeat' split) <;> simp
theorem grS_len (g : Gs) (c : List UInt8) (l : Int) : (grL (grS g c l)).length ≤ (grL g).length + 1 := by
  unfold grS grL
  (repeat' split) <;> simp
theorem stT_fst (b : Int) (s : ByteArray) (ls : List Int) : ∀ k, k ≤ (chs s).length → (grL (stT b s ls k)).flatMap (·.1) = seg s 0 k
  | 0, _ => by rw [seg_nil]; rfl
  | k + 1, h => by
    unfold stT
    rw [grS_fst, stT_fst b s ls k (by omega), seg_snoc (by omega) (by omega)]
theorem stT_len (b : Int) (s : ByteArray) (ls : List Int) : ∀ k, (grL (stT b s ls k)).length ≤ k + 1
  | 0 => Nat.le_refl _
  | k + 1 => by
    unfold stT
    have := grS_len (stT b s ls k) (cut s ((chs s).getD k default)) (ls.getD k 0)
    have := stT_len b s ls k
    omega
theorem strL_len (b : Int) (s : ByteArray) (ls : List Int) (k : Nat) : (strL b s ls k).length ≤ k + 1 := by
  unfold strL
  split
  · simp
  · exact stT_len b s ls k
theorem stT_done0 (b : Int) (s : ByteArray) (ls : List Int) : ∀ k, (stT b s ls k).is = false → (stT b s ls k).done = [] ∧ (stT b s ls k).l = b
  | 0, _ => ⟨rfl, rfl⟩
  | k + 1, h => by
    unfold stT at h ⊢
    have ih := stT_done0 b s ls k
    generalize stT b s ls k = g at *
    unfold grS at h ⊢
    split at h
    · rename_i hc
      rw [if_pos hc]
      exact ih h
    · split at h <;> cases h
theorem seg_len (s : ByteArray) (k : Nat) : (seg s 0 k).length ≤ s.size := by
  unfold seg
  have h2 := fm_take_len (cut s) (chs s) k
  have h3 := all_len s 0
  unfold chs at h2 ⊢
  simp only [List.drop_zero, Nat.sub_zero]
  omega

def encB (r : Int) : List UInt8 := (Utf8.encode r).data.toList
theorem txt_enc (r : Int) : txt (encB r) = Utf8.encode r := txt_of _
/-- The marks ahead. -/
def ahT (b : Int) : Nat → List UInt8
  | 0 => []
  | n + 1 => ahT b n ++ if (b + 1 + n) % 2 = 1 then encB 8238 else encB 8237
def bhT : Nat → List UInt8
  | 0 => []
  | n + 1 => bhT n ++ encB 8236
/-- A stretch with its marks. -/
def laidL (b : Int) (g : List UInt8 × Int) : List UInt8 :=
  if g.2 = b then encB (8206 + b) ++ g.1 ++ encB (8206 + b) else ahT b (g.2 - b).toNat ++ g.1 ++ bhT (g.2 - b).toNat
theorem encB_len (r : Int) : (encB r).length ≤ 4 := encode_size_le r
theorem ahT_len (b : Int) : ∀ n, (ahT b n).length ≤ 4 * n
  | 0 => Nat.le_refl _
  | n + 1 => by
    have := ahT_len b n
    have h1 := encB_len 8238
    have h2 := encB_len 8237
    unfold ahT
    rw [List.length_append]
    split <;> omega
theorem bhT_len : ∀ n, (bhT n).length ≤ 4 * n
  | 0 => Nat.le_refl _
  | n + 1 => by
    have := bhT_len n
    have h1 := encB_len 8236
    unfold bhT
    rw [List.length_append]
    omega
theorem laidL_len {b : Int} {g : List UInt8 × Int} (hb : 0 ≤ b) (hg : g.2 ≤ 125) : (laidL b g).length ≤ g.1.length + 1000 := by
  unfold laidL
  have h1 := encB_len (8206 + b)
  have h2 := ahT_len b (g.2 - b).toNat
  have h3 := bhT_len (g.2 - b).toNat
  split <;> simp only [List.length_append] <;> omega
def layL (b : Int) (gs : List (List UInt8 × Int)) : List UInt8 := gs.flatMap (laidL b)
theorem layL_len {b : Int} (hb : 0 ≤ b) : ∀ (gs : List (List UInt8 × Int)), (∀ g ∈ gs, g.2 ≤ 125) → (layL b gs).length ≤ (gs.flatMap (·.1)).length + 1000 * gs.length
  | [], _ => by simp [layL]
  | g :: gs, h => by
    have ih := layL_len hb gs (fun x hx => h x (List.mem_cons_of_mem _ hx))
    have h1 := laidL_len (b := b) hb (h g List.mem_cons_self)
    unfold layL at *
    rw [List.flatMap_cons, List.length_append, List.flatMap_cons, List.length_append, List.length_cons]
    omega
/-- Levels that may be. -/
def LvOk (b : Int) (ls : List Int) : Prop := ∀ l ∈ ls, l = -1 ∨ (b ≤ l ∧ l ≤ 125)
theorem lvOk_of {b : Int} : ∀ {cs ls : List Int}, cs.length = ls.length → hadO b cs ls = true → LvOk b ls
  | [], [], _, _ => fun _ h => by cases h
  | c :: cs, l :: ls, hl, h => by
    unfold hadO at h
    simp only [Bool.and_eq_true] at h
    have ih := lvOk_of (b := b) (cs := cs) (ls := ls) (by simpa using hl) h.2
    intro x hx
    rcases List.mem_cons.1 hx with rfl | hx
    · have h1 := h.1
      unfold hadC at h1
      split at h1
      · left; simpa using h1
      · right
        simp only [Bool.and_eq_true, decide_eq_true_eq] at h1
        exact ⟨h1.1.1.1, h1.1.1.2⟩
    · exact ih x hx
theorem stT_lv {b : Int} {s : ByteArray} {ls : List Int} (hb : b ≤ 125) (hL : LvOk b ls) : ∀ k, k ≤ ls.length → ∀ g ∈ grL (stT b s ls k), b ≤ g.2 ∧ g.2 ≤ 125
  | 0, _, g, hg => by
    simp [grL, stT] at hg
    subst hg
    exact ⟨Int.le_refl _, hb⟩
  | k + 1, hk, g, hg => by
    have ih := stT_lv (s := s) hb hL k (by omega)
    have hl := hL _ (getD_mem0 0 (show k < ls.length by omega))
    unfold stT at hg
    generalize stT b s ls k = G at *
    generalize ls.getD k 0 = l at *
    unfold grS grL at hg
    unfold grL at ih
    split at hg
    · simp only [List.mem_append, List.mem_singleton] at hg
      rcases hg with hg | rfl
      · exact ih g (List.mem_append_left _ hg)
      · exact ih (G.d, G.l) (List.mem_append_right _ List.mem_cons_self)
    · rename_i hn
      have hl2 : b ≤ l ∧ l ≤ 125 := hl.resolve_left (fun e => hn (.inl e))
      split at hg
      · simp only [List.mem_append, List.mem_singleton] at hg
        rcases hg with hg | rfl
        · exact ih g (List.mem_append_left _ hg)
        · exact hl2
      · simp only [List.mem_append, List.mem_singleton] at hg
        rcases hg with hg | rfl
        · exact ih g (by simpa using hg)
        · exact hl2
theorem strL_lv {b : Int} {s : ByteArray} {ls : List Int} (hb : b ≤ 125) (hL : LvOk b ls) {k : Nat} (hk : k ≤ ls.length) : ∀ g ∈ strL b s ls k, b ≤ g.2 ∧ g.2 ≤ 125 := by
  unfold strL
  split
  · intro g hg; cases hg
  · exact stT_lv hb hL k hk
end Go.Proofs.YtaekdnfpgkfjkaaDoor
