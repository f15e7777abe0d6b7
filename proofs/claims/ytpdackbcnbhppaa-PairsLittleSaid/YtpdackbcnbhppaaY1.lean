/- Two lists of pairs compared; the reference's strong ones. -/
import Derived.Test.YtpdackbcnbhppaaR18
namespace Go.Proofs.Ytpdackbcnbhppaa
open Go.RowKit
attribute [local go_sem] Oper.semAt_some

set_option maxRecDepth 100000 in
set_option maxHeartbeats 1000000 in
theorem strong_ok (w : World) (c : Int) : Calls Try.prog 92 #[.int .u8 c] w fun e w' => e = .returned (.int .u8 (sdL c)) ∧ w' = w := by
  unfold sdL
  by_cases h4 : c = 4
  · subst h4
    go_enter Try.func92, Try.ntmps92
    go_wp2
    go_ret
    exact ⟨rfl, rfl⟩
  by_cases h7 : c = 7
  · subst h7
    go_enter Try.func92, Try.ntmps92
    go_wp2
    go_ret
    exact ⟨rfl, rfl⟩
  by_cases h3 : c = 3
  · subst h3
    go_enter Try.func92, Try.ntmps92
    go_wp2
    go_ret
    exact ⟨rfl, rfl⟩
  by_cases h2 : c = 2
  · subst h2
    go_enter Try.func92, Try.ntmps92
    go_wp2
    go_ret
    exact ⟨rfl, rfl⟩
  by_cases h1 : c = 1
  · subst h1
    go_enter Try.func92, Try.ntmps92
    go_wp2
    go_ret
    exact ⟨rfl, rfl⟩
  · rw [if_neg (by omega), if_neg h1]
    have q4 : (c == 4) = false := by simpa using h4
    have q7 : (c == 7) = false := by simpa using h7
    have q3 : (c == 3) = false := by simpa using h3
    have q2 : (c == 2) = false := by simpa using h2
    have q1 : (c == 1) = false := by simpa using h1
    go_enter Try.func92, Try.ntmps92
    go_wp2
    go_ret
    exact ⟨rfl, rfl⟩

/-- Two lists of pairs are one. -/
def brEq (D E : List (Int × Int)) : Bool := decide (D = E)
theorem brEq_len {D E : List (Int × Int)} (h : D.length ≠ E.length) : brEq D E = false := by unfold brEq; exact decide_eq_false (fun e => h (by rw [e]))
theorem brEq_at {D E : List (Int × Int)} {i : Nat} (h : D.getD i (0, 0) ≠ E.getD i (0, 0)) : brEq D E = false := by unfold brEq; exact decide_eq_false (fun e => h (by rw [e]))
theorem brEq_all {D E : List (Int × Int)} (h : D.length = E.length) (h2 : ∀ j, j < D.length → D.getD j (0, 0) = E.getD j (0, 0)) : brEq D E = true := by unfold brEq; exact decide_eq_true (ext_getD h h2)
theorem RdR.pair {W : World} {B : Nat} {A : Option Addr} {D : List (Int × Int)} (h : RdR brC 2 W B A D) {i : Nat} (hi : i < D.length) : ∃ b off, A = some ⟨b, off, none⟩ ∧ b < B ∧ b < W.heap.size ∧ W.cell? ⟨b, off + i * 2, none⟩ = some (.int .i64 (D.getD i (0, 0)).1) ∧ W.cell? ⟨b, off + i * 2 + 1, none⟩ = some (.int .i64 (D.getD i (0, 0)).2) := by
  have hx : D[i]? = some (D.getD i (0, 0)) := by rw [List.getD_eq_getElem?_getD, List.getElem?_eq_getElem hi]; rfl
  obtain ⟨b, off, rfl, h1, h2, h3⟩ := h.at_ encB hx (by omega)
  refine ⟨b, off, rfl, h1, h2, ?_, ?_⟩
  · have := h3 0 _ rfl; rwa [Nat.add_zero] at this
  · have := h3 1 _ rfl; rwa [← Nat.add_assoc] at this

set_option maxRecDepth 100000 in
set_option maxHeartbeats 1000000 in
theorem sameB_ok {w : World} {B B' n n' c c' : Nat} {A A' : Option Addr} {D E : List (Int × Int)} (hn : n = D.length) (hn' : n' = E.length) (h : RdR brC 2 w B A D) (h' : RdR brC 2 w B' A' E) (hm : n ≤ 1048576) :
    Calls Try.prog 31 #[.slice A n c, .slice A' n' c'] w fun r w' => r = .returned (.bool (brEq D E)) ∧ ∃ m, w' = w.drewN m := by
  obtain ⟨z, hz⟩ : ∃ z, brEq D E = z := ⟨_, rfl⟩
  rw [hz]
  have HZ := Lib.hid hz
  have HN := Lib.hid hn
  have HN' := Lib.hid hn'
  clear hz hn hn'
  by_cases hl : n = n'
  · subst hl
    go_enter Try.func31, Try.ntmps31
    go_wp2
    go_loopg [5] n (fun gk iv wr => ∃ i : Nat, i + gk = n ∧ iv = .int .i64 i ∧ (∀ j, j < i → D.getD j (0, 0) = E.getD j (0, 0)) ∧ ∃ d, wr = w.drewN d)
    case atStart => exact ⟨0, by omega, rfl, fun j h => by omega, 0, rfl⟩
    case round =>
      obtain ⟨i, hi, rfl, he, d, rfl⟩ := hrel
      have HI := Lib.hid hi
      have HE := Lib.hid he
      clear hi he
      by_cases hlt : i < n
      · obtain ⟨b, off, rfl, b1, b2, c0, c1⟩ := h.pair (i := i) (by rw [← HN.out]; exact hlt)
        obtain ⟨b', off', rfl, b1', b2', c0', c1'⟩ := h'.pair (i := i) (by rw [← HN'.out]; exact hlt)
        obtain ⟨x, hx⟩ : ∃ x, D.getD i (0, 0) = x := ⟨_, rfl⟩
        obtain ⟨y, hy⟩ : ∃ y, E.getD i (0, 0) = y := ⟨_, rfl⟩
        rw [hx] at c0 c1
        rw [hy] at c0' c1'
        have HX := Lib.hid hx
        have HY := Lib.hid hy
        clear hx hy
        obtain ⟨x1, x2⟩ := x
        obtain ⟨y1, y2⟩ := y
        simp only at c0 c1 c0' c1'
        by_cases hxy : x1 = y1 ∧ x2 = y2
        · obtain ⟨rfl, rfl⟩ := hxy
          go_wp2
          go_quiet (fail)
          go_wp2
          go_roundg (n - (i + 1))
          case rel => exact ⟨i + 1, by have := HI.out; omega, by go_num, fun j hj => (by by_cases hji : j = i
                                                                                         · subst hji; rw [HX.out, HY.out]
                                                                                         · exact HE.out j (by omega)), _, rfl⟩
          case measure => have := HI.out; omega
        · have hz0 : z = false := by rw [← HZ.out]; exact brEq_at (i := i) (by rw [HX.out, HY.out]; intro e; cases e; exact hxy ⟨rfl, rfl⟩)
          subst hz0
          by_cases h1 : x1 = y1
          · have hne : (x2 == y2) = false := by simp; exact fun e => hxy ⟨h1, e⟩
            subst h1
            go_wp2
            go_quiet (fail)
            go_wp2
            go_ret
            exact ⟨rfl, _, World.drewN_drewN _ _ _⟩
          · have hne : (x1 == y1) = false := by simpa using h1
            go_wp2
            go_quiet (fail)
            go_wp2
            go_ret
            exact ⟨rfl, _, World.drewN_drewN _ _ _⟩
      · have hin : i = n := by have := HI.out; omega
        subst hin
        have hz1 : z = true := by rw [← HZ.out]; exact brEq_all (by rw [← HN.out, HN'.out]) (fun j hj => HE.out j (by rw [HN.out]; exact hj))
        subst hz1
        go_wp2
        go_ret
        exact ⟨rfl, _, rfl⟩
  · have hz0 : z = false := by rw [← HZ.out]; exact brEq_len (by rw [← HN.out, ← HN'.out]; exact hl)
    subst hz0
    have hne : ((n : Int) != (n' : Int)) = true := by simp; omega
    go_enter Try.func31, Try.ntmps31
    go_wp2
    go_ret
    exact ⟨rfl, 0, rfl⟩
end Go.Proofs.Ytpdackbcnbhppaa
