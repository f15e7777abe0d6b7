/- Level runs: the plain word; the number of those of one level. -/
import Derived.Test.YtpdackbcnbhppaaP1
import Derived.WalkLawsBesides
namespace Go.Proofs.Ytpdackbcnbhppaa
open Go.RowKit

def lvAt (lv : List Int) (a : Int) : Int := lv.getD a.toNat 0
def spanN (lv : List Int) (v : Int) : List Int → Nat
  | [] => 0
  | a :: t => if lvAt lv a = v then spanN lv v t + 1 else 0
theorem spanN_le (lv : List Int) (v : Int) : ∀ t, spanN lv v t ≤ t.length
  | [] => Nat.le_refl _
  | a :: t => by
    have := spanN_le lv v t
    unfold spanN
    split <;> simp <;> omega
theorem spanN_in (lv : List Int) (v : Int) : ∀ (t : List Int) (k : Nat), k < spanN lv v t → lvAt lv (t.getD k 0) = v
  | [], k, h => by simp [spanN] at h
  | a :: t, k, h => by
    unfold spanN at h
    split at h
    · cases k with
      | zero => simpa
      | succ k => simpa using spanN_in lv v t k (by omega)
    · omega
theorem spanN_out (lv : List Int) (v : Int) : ∀ (t : List Int), spanN lv v t < t.length → lvAt lv (t.getD (spanN lv v t) 0) ≠ v
  | [], h => by simp at h
  | a :: t, h => by
    unfold spanN at h ⊢
    split at h
    · rename_i e
      rw [if_pos e]
      simpa using spanN_out lv v t (by simpa using h)
    · rename_i e
      rw [if_neg e]
      simpa using e
/-- The number of those ahead of the first that is of another level. -/
theorem spanN_is {lv : List Int} {v : Int} {t : List Int} {j : Nat} (h1 : ∀ k, k < j → lvAt lv (t.getD k 0) = v) (h2 : j ≤ t.length) (h3 : j < t.length → lvAt lv (t.getD j 0) ≠ v) : spanN lv v t = j := by
  rcases Nat.lt_trichotomy (spanN lv v t) j with h | h | h
  · exact absurd (h1 _ h) (spanN_out lv v t (by omega))
  · exact h
  · exact absurd (spanN_in lv v t j h) (h3 (by have := spanN_le lv v t; omega))
def grp (lv : List Int) : List Int → List (List Int)
  | [] => []
  | a :: t => (a :: t.take (spanN lv (lvAt lv a) t)) :: grp lv (t.drop (spanN lv (lvAt lv a) t))
termination_by l => l.length
decreasing_by simp; omega

/-- What IndexFunc tells of a list of kept characters. -/
def firstN (lv : List Int) (v : Int) (t : List Int) : Int := if spanN lv v t < t.length then (spanN lv v t : Int) else -1

set_option maxRecDepth 100000 in
set_option maxHeartbeats 1000000 in
theorem other_ok {w : World} {bo bf oc a f n : Nat} {OA : Option Addr} {B : Nat} {lv : List Int} (hn : n = lv.length) (ho : Blk w bo 25 #[.slice OA n oc]) (hO : RdInts w B .i8 OA lv) (hf : Blk w bf 3 #[.int .i64 f])
    (ha : a < n) (hff : f < n) :
    Calls Try.prog 81 #[.int .i64 a, .pointer (some ⟨bo, 0, none⟩), .pointer (some ⟨bf, 0, none⟩)] w fun r w' => r = .returned (.bool (lv.getD a 0 != lv.getD f 0)) ∧ ∃ m, w' = w.drewN m := by
  obtain ⟨b, off, rfl, _, _, hc⟩ := hO.at_ (i := a) (by omega)
  obtain ⟨b2, off2, e2, _, _, hc2⟩ := hO.at_ (i := f) (by omega)
  injection e2 with e2
  injection e2 with e3 e4 e5
  subst e3 e4
  clear e5
  generalize lv.getD a 0 = x at hc
  generalize lv.getD f 0 = y at hc2
  obtain ⟨x0, xf, xl⟩ := ho.c1
  obtain ⟨y0, yf, yl⟩ := hf.c1
  have HN := Lib.hid hn
  clear hn
  go_enter Try.func81, Try.ntmps81
  go_wp2_with (go_quiet (fail))
  go_ret
  exact ⟨rfl, _, rfl⟩

set_option maxRecDepth 100000 in
set_option maxHeartbeats 1000000 in
theorem index_runs {w : World} {bo bf oc f n nn c : Nat} {A OA : Option Addr} {B B2 : Nat} {lv ks : List Int} (hn : n = lv.length) (hnn : nn = ks.length) (h : RdInts w B .i64 A ks) (ho : Blk w bo 25 #[.slice OA n oc]) (hO : RdInts w B2 .i8 OA lv) (hf : Blk w bf 3 #[.int .i64 f])
    (hks : ∀ k, k < nn → ∃ a : Nat, ks.getD k 0 = a ∧ a < n) (hff : f < n) (hl : nn ≤ 8388608) :
    Calls Try.prog 80 #[.slice A nn c, .func (.func 81) #[] #[.pointer (some ⟨bo, 0, none⟩), .pointer (some ⟨bf, 0, none⟩)]] w fun r w' => r = .returned (.int .i64 (firstN lv (lvAt lv f) ks)) ∧ ∃ m, w' = w.drewN m := by
  have HN := Lib.hid hn
  have HNN := Lib.hid hnn
  clear hn hnn
  go_enter Try.func80, Try.ntmps80
  go_wp2
  go_loopg [8] nn (fun gk iv wr => ∃ j : Nat, j + gk = nn ∧ iv = .int .i64 j ∧ (∀ k, k < j → lvAt lv (ks.getD k 0) = lvAt lv f) ∧ ∃ m, wr = w.drewN m)
  case atStart => exact ⟨0, by omega, rfl, by omega, 0, rfl⟩
  case round =>
    obtain ⟨j, hj, rfl, hs, m, rfl⟩ := hrel
    have HJ := Lib.hid hj
    have HS := Lib.hid hs
    clear hj hs
    by_cases hlt : j < nn
    · obtain ⟨ab, off, rfl, _, _, hc⟩ := (show RdInts (w.drewN m) B .i64 A ks from h).at_ (i := j) (by have := HNN.out; omega)
      obtain ⟨a, hx, ha⟩ := hks j hlt
      rw [hx] at hc
      have HX := Lib.hid hx
      clear hx
      have hno := other_ok (w := w.drewN m) (a := a) (f := f) HN.out ho hO hf ha hff
      have hlv : lv.getD f 0 = lvAt lv f := rfl
      rw [hlv] at hno
      have hla : lv.getD a 0 = lvAt lv (ks.getD j 0) := by unfold lvAt; rw [HX.out]; rfl
      rw [hla] at hno
      by_cases hb : lvAt lv (ks.getD j 0) = lvAt lv f
      · have hbb : (lvAt lv (ks.getD j 0) != lvAt lv f) = false := bne_eq_false_iff_eq.2 hb
        rw [hbb] at hno
        have HB := Lib.hid hb
        clear hb hbb hla hlv
        go_wp2_with (go_at_call 81; refine hno.mono ?_; rintro r1 w1 ⟨rfl, m1, rfl⟩)
        go_roundg (nn - (j + 1))
        case rel => exact ⟨j + 1, by have := HJ.out; omega, by go_num, fun k hk => by
          by_cases e : k = j
          · subst e; exact HB.out
          · exact HS.out k (by omega), m + m1, by simp⟩
        case measure => have := HJ.out; omega
      · have hbb : (lvAt lv (ks.getD j 0) != lvAt lv f) = true := bne_iff_ne.2 hb
        rw [hbb] at hno
        have HB := Lib.hid hb
        clear hb hbb hla hlv
        go_wp2_with (go_at_call 81; refine hno.mono ?_; rintro r1 w1 ⟨rfl, m1, rfl⟩)
        go_ret
        have e : spanN lv (lvAt lv f) ks = j := spanN_is HS.out (by have := HNN.out; omega) (fun _ => HB.out)
        have e2 : firstN lv (lvAt lv f) ks = j := by unfold firstN; rw [e, if_pos (by have := HNN.out; omega)]
        rw [e2]
        exact ⟨rfl, m + m1, by simp⟩
    · have hjl : j = nn := by have := HJ.out; omega
      subst hjl
      go_wp2
      go_ret
      have e : spanN lv (lvAt lv f) ks = j := spanN_is HS.out (by have := HNN.out; omega) (fun h => by have := HNN.out; omega)
      have e2 : firstN lv (lvAt lv f) ks = -1 := by unfold firstN; rw [e, if_neg (by have := HNN.out; omega)]
      rw [e2]
      exact ⟨rfl, m, rfl⟩

@[go_sem] theorem eql35_nil (w : World) (a : Option Addr) (n c : Nat) : (binOp .eql 25 (.slice a n c) (.slice none 0 0)).run Try.prog w = .ok (.bool a.isNone) w := _root_.Go.Lib.run_eql_slice_nil w 25 23 a n c 0 0 Try.underlying25

set_option maxRecDepth 100000 in
set_option maxHeartbeats 1000000 in
theorem CloneL_ok {w : World} {B : Nat} {A : Option Addr} {n c : Nat} {l : List Int} (hn : n = l.length) (h : RdInts w B .i8 A l) (hl : n ≤ 8388608) :
    Calls Try.prog 79 #[.slice A n c] w fun r w' => ∃ v, r = .returned v ∧ Ints w' w.heap.size 23 .i8 v l ∧ Below w.heap.size w w' := by
  have HN := Lib.hid hn
  clear hn
  rcases A with _ | ad
  · have hl0 : l = [] := by
      rcases l with _ | ⟨x, l⟩
      · rfl
      · obtain ⟨b, off, e, -⟩ := h.cells (by simp)
        cases e
    go_enter Try.func79, Try.ntmps79
    go_wp2
    go_ret
    exact ⟨_, rfl, by rw [hl0]; exact Ints.nil _ _ _ _, Below.refl _ _⟩
  · have b0 := (Below.refl w.heap.size w).alloc (Nat.le_refl _) (.cells #[] 23)
    have o0 : Ints (w.alloc (.cells #[] 23)) w.heap.size 23 .i8 (.slice (some ⟨w.heap.size, 0, none⟩) 0 0) [] :=
      ⟨by simp, .inr ⟨w.heap.size, 0, #[], rfl, Nat.le_refl _, Blk.new w 23 #[], Nat.le_refl _, by simp, rfl, rfl⟩⟩
    go_enter Try.func79, Try.ntmps79
    go_wp2_with (at_builtin; go_must (refine wpList_appIs ei35 rfl rfl rfl o0 HN.out rfl (h.alloc _) ?_ ?_ ?_ ?_))
    · have := HN.out; simp; unfold maxLen; omega
    · have := HN.out; simp; omega
    · simp
    intro v1 w1 I1 g1 hv1
    have b1 := b0.grown g1 (by simp) (fun k hk => by have : w.heap.size = k := by simpa [Value.ownBlock] using hk
                                                     omega)
    have I1 : Ints w1 w.heap.size 23 .i8 v1 l := I1
    go_wp2
    go_ret
    exact ⟨v1, rfl, I1, b1⟩
end Go.Proofs.Ytpdackbcnbhppaa
