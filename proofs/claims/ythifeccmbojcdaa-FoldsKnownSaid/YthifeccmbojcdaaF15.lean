/- The last place at which a line may end, by the reference. -/
import Derived.Test.YthifeccmbojcdaaF14
import Derived.Test.YthifeccmbojcdaaF13
namespace Go.Proofs.Ythifeccmbojcdaa
open Go.RowKit

section
variable (l ws : List Int) (most : Int) (a : Nat)
def lastJ (js : List Nat) : Nat := js.foldl (fun acc j => if a < j ∧ Wd l ws a j ≤ most then j else acc) 0
def brkJ : Nat → List Nat
  | 0 => []
  | k + 1 => if mayJ l k = true then brkJ k ++ [k] else brkJ k
end
def retC (l : List Int) (x : Nat) : Int := if x = 0 then -1 else (posC l x : Int)

section
variable {l ws : List Int} {most : Int} {a : Nat}
theorem lastJ_app (js : List Nat) (j : Nat) : lastJ l ws most a (js ++ [j]) = if a < j ∧ Wd l ws a j ≤ most then j else lastJ l ws most a js := by
  simp [lastJ, List.foldl_append]
theorem lastJ_brk : ∀ k, lastJ l ws most a (brkJ l k) = lastW l ws most (mayJ l) a (k - 1)
  | 0 => rfl
  | 1 => by
    simp only [brkJ]
    split
    · rw [lastJ_app, if_neg (by omega)]; rfl
    · rfl
  | k + 2 => by
    have ih := lastJ_brk (k + 1)
    rw [Nat.add_sub_cancel] at ih
    rw [brkJ, show k + 2 - 1 = k + 1 from rfl, lastW]
    by_cases hm : mayJ l (k + 1) = true
    · rw [if_pos hm, lastJ_app, ih]
      by_cases hc : a < k + 1 ∧ Wd l ws a (k + 1) ≤ most
      · rw [if_pos hc, if_pos ⟨hc.1, hm, hc.2⟩]
      · rw [if_neg hc, if_neg (fun e => hc ⟨e.1, e.2.2⟩)]
    · rw [if_neg hm, ih, if_neg (fun e => hm e.2.1)]
theorem lastJ_all : ∀ k, lastJ l ws most a (List.range k) = lastW l ws most (fun _ => true) a (k - 1)
  | 0 => rfl
  | 1 => by
    rw [List.range_succ, lastJ_app, if_neg (by omega)]; rfl
  | k + 2 => by
    have ih := lastJ_all (k + 1)
    rw [Nat.add_sub_cancel] at ih
    rw [List.range_succ, lastJ_app, ih, show k + 2 - 1 = k + 1 from rfl, lastW]
    by_cases hc : a < k + 1 ∧ Wd l ws a (k + 1) ≤ most
    · rw [if_pos hc, if_pos ⟨hc.1, rfl, hc.2⟩]
    · rw [if_neg hc, if_neg (fun e => hc ⟨e.1, e.2.2⟩)]
theorem brkJ_mem : ∀ k x, x ∈ brkJ l k → x < k
  | 0, x, h => by simp [brkJ] at h
  | k + 1, x, h => by
    have ih := brkJ_mem k x
    rw [brkJ] at h
    split at h
    · rcases List.mem_append.1 h with h | h
      · have := ih h; omega
      · simp at h; omega
    · have := ih h; omega
theorem brkT_J : ∀ k, k ≤ (clusL l).length → brkT l (clusL l) k = natI ((brkJ l k).map (posC l))
  | 0, _ => rfl
  | k + 1, hk => by
    have ih := brkT_J k (by omega)
    rw [brkT, brkJ]
    have e : (mayJ l k = true) = (brkB l (clusL l) k = true) := rfl
    simp only [e]
    split
    · rw [ih, (posC_lt (by omega)).1]
      simp [natI]
    · exact ih
theorem brkL_J (l : List Int) : brkL l = natI ((brkJ l (clusL l).length).map (posC l)) := brkT_J _ (Nat.le_refl _)
theorem clusL_J (l : List Int) : clusL l = natI ((List.range (clusL l).length).map (posC l)) := by
  apply List.ext_getElem
  · simp [natI]
  · intro i h1 h2
    have := (posC_lt h1).1
    rw [List.getD_eq_getElem?_getD, List.getElem?_eq_getElem h1] at this
    simpa [natI] using this
theorem natI_map_get {js : List Nat} {i : Nat} (h : i < js.length) : (natI (js.map (posC l))).getD i 0 = (posC l js[i] : Int) := by
  simp only [natI, List.map_map, List.getD_eq_getElem?_getD, List.getElem?_map, List.getElem?_eq_getElem h]
  rfl
theorem natI_map_length (js : List Nat) : (natI (js.map (posC l))).length = js.length := by simp [natI]
end

set_option maxRecDepth 100000 in
set_option maxHeartbeats 4000000 in
theorem last_ok {w : World} {B B2 B3 : Nat} {A A2 A3 : Option Addr} {n n2 n3 c c2 c3 : Nat} {l ws : List Int} {js : List Nat} {most : Int} {a : Nat} (hn : n = l.length) (hw : n2 = ws.length) (hnn : n = n2) (hn3 : n3 = js.length) (h : RdInts w B .u8 A l) (h2 : RdInts w B2 .i64 A2 ws)
    (h3 : RdInts w B3 .i64 A3 (natI (js.map (posC l)))) (hl : n ≤ 1048576) (hjl : n3 ≤ 1048576) (hf : Fine ws) (hj : ∀ x ∈ js, x < (clusL l).length) (ha : a < (clusL l).length) :
    Calls Try.prog 58 #[.slice A n c, .slice A2 n2 c2, .slice A3 n3 c3, .int .i64 (posC l a), .int .i64 most] w fun r w' => r = .returned (.int .i64 (retC l (lastJ l ws most a js))) ∧ Below w.heap.size w w' := by
  have HN := Lib.hid (And.intro hn (And.intro hw hnn))
  have HF := Lib.hid hf
  have H3 := Lib.hid hn3
  have HJ0 := Lib.hid hj
  clear hn hw hnn hf hn3 hj
  go_enter Try.func58, Try.ntmps58
  go_wp2
  go_loopg [11, 12] n3 (fun gk av iv wr => ∃ i : Nat, i + gk = n3 ∧ iv = .int .i64 i ∧ av = .int .i64 (retC l (lastJ l ws most a (js.take i))) ∧ Below w.heap.size w wr)
  case atStart => exact ⟨0, by omega, rfl, rfl, Below.refl _ _⟩
  case round =>
    obtain ⟨i, hi, rfl, rfl, b⟩ := hrel
    have HI := Lib.hid hi
    clear hi
    by_cases hlt : i < n3
    · have hil : i < js.length := by rw [← H3.out]; exact hlt
      have g1 := h.below b (.inr (Nat.le_refl _))
      have g2 := h2.below b (.inr (Nat.le_refl _))
      obtain ⟨ja, jo, rfl, _, _, hc⟩ := (h3.below b (.inr (Nat.le_refl _))).at_ (i := i) (by rw [natI_map_length]; exact hil)
      rw [natI_map_get hil] at hc
      have hjm := HJ0.out js[i] (List.getElem_mem hil)
      have hN : lastJ l ws most a (js.take (i + 1)) = if a < js[i] ∧ Wd l ws a js[i] ≤ most then js[i] else lastJ l ws most a (js.take i) := by
        rw [List.take_add_one, List.getElem?_eq_getElem hil]
        exact lastJ_app _ _
      generalize js[i] = j at *
      generalize lastJ l ws most a (js.take i) = L at *
      have HNN := Lib.hid hN
      clear hN
      by_cases haj : a < j
      · have l1 : (posC l a : Int) < (posC l j : Int) := by have := posC_mono (l := l) haj (by omega); omega
        have hwd := Wide_ok (w := wr) (c := c) (c2 := c2) HN.out.1 HN.out.2.1 HN.out.2.2 g1 g2 hl HF.out (show a ≤ j by omega) (by omega)
        have hj0 : j ≠ 0 := by omega
        by_cases hle : Wd l ws a j ≤ most
        · go_wp2_with (go_at_call 57; refine hwd.mono ?_; rintro r3 w3 ⟨rfl, b3⟩; obtain ⟨k1, k2, k3⟩ := bcell b3; have hc' := (k1 ja (jo + i) (by omega)).trans hc)
          go_roundg (n3 - (i + 1))
          case rel => exact ⟨i + 1, by have := HI.out; omega, by go_num, by rw [HNN.out, if_pos ⟨haj, by assumption⟩, retC, if_neg hj0], b.trans (b3.mono b.size)⟩
          case measure => have := HI.out; omega
        · go_wp2_with (go_at_call 57; refine hwd.mono ?_; rintro r3 w3 ⟨rfl, b3⟩; obtain ⟨k1, k2, k3⟩ := bcell b3; have hc' := (k1 ja (jo + i) (by omega)).trans hc)
          go_roundg (n3 - (i + 1))
          case rel => exact ⟨i + 1, by have := HI.out; omega, by go_num, by rw [HNN.out, if_neg (by rintro ⟨_, e⟩; omega)], b.trans (b3.mono b.size)⟩
          case measure => have := HI.out; omega
      · have l1 : ¬ ((posC l a : Int) < (posC l j : Int)) := by have := posC_le (l := l) (show j ≤ a by omega) (by omega); omega
        go_wp2
        go_roundg (n3 - (i + 1))
        case rel => exact ⟨i + 1, by have := HI.out; omega, by go_num, by rw [HNN.out, if_neg (by rintro ⟨e, _⟩; exact haj e)], b⟩
        case measure => have := HI.out; omega
    · have hin : i = n3 := by have := HI.out; omega
      have e : js.take i = js := by rw [List.take_of_length_le]; have := H3.out; omega
      rw [e]
      have hI : ¬ ((i : Int) < (n3 : Int)) := by omega
      clear hin e
      go_wp2
      go_ret
      exact ⟨rfl, b⟩
end Go.Proofs.Ythifeccmbojcdaa
