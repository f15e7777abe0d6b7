/- []rune(s): Runes, Count; Encode. -/
import Derived.Test.YtaekdnfpgkfjkaaDoorC9
import Derived.Laws.Cover4
namespace Go.Proofs.YtaekdnfpgkfjkaaDoor
open Go.RowKit
attribute [local go_sem] Oper.semAt_some

/-- A text's runes. -/
def rnL (s : ByteArray) : List Int := (chs s).map fun c => (c.r : Int)
theorem rnL_len (s : ByteArray) : (rnL s).length = (chs s).length := by simp [rnL]
theorem rnL_at {s : ByteArray} {k : Nat} : (rnL s).getD k 0 = ((chs s).getD k default).r := by
  unfold rnL
  rw [List.getD_eq_getElem?_getD, List.getElem?_map, List.getD_eq_getElem?_getD]
  rcases (chs s)[k]? with _ | c <;> rfl
theorem runesFrom_go {s : ByteArray} {i : Nat} (bound : Nat) (acc : Array Value) (hi : i < s.size) : Conv.runesFrom s (bound + 1) i acc = Conv.runesFrom s bound (i + (Utf8.decode s i).2) (acc.push (.int .i32 ((Utf8.decode s i).1 : Int))) := by
  conv => lhs; unfold Conv.runesFrom
  rw [if_pos hi]
  generalize Utf8.decode s i = d
  rfl
theorem runesFrom_chA (s : ByteArray) : ∀ (bound i : Nat) (acc : Array Value), s.size - i ≤ bound → Conv.runesFrom s bound i acc = acc ++ ((chA s i).map fun c => Value.int .i32 (c.r : Int)).toArray
  | 0, i, acc, h => by
    rw [chA_end (by omega)]
    simp [Conv.runesFrom]
  | bound + 1, i, acc, h => by
    by_cases hi : i < s.size
    · have h1 := dec_pos hi
      rw [runesFrom_go bound acc hi, chA_go hi]
      rw [runesFrom_chA s bound _ _ (by omega)]
      generalize Utf8.decode s i = d
      simp
    · unfold Conv.runesFrom
      rw [if_neg hi, chA_end hi]
      simp
theorem runesFrom_eq (s : ByteArray) : Conv.runesFrom s s.size 0 #[] = ((rnL s).map (Value.int .i32)).toArray := by
  rw [runesFrom_chA s s.size 0 #[] (by omega)]
  simp [rnL, chs]

/-- []rune(s): a new row. -/
theorem conv_runes (W : World) {s : ByteArray} (hs : s.size ≤ 1099511627776) : ∃ cap W', (convert 9 46 (.string s)).run Tryd.prog W = .ok (.slice (some ⟨W.heap.size, 0, none⟩) (rnL s).length cap) W' ∧
    Ints W' W.heap.size 21 .i32 (.slice (some ⟨W.heap.size, 0, none⟩) (rnL s).length cap) (rnL s) ∧ Aft W W' := by
  have hsz : (Conv.runesFrom s s.size 0 #[]).size = (rnL s).length := by rw [runesFrom_eq]; simp
  have hl : (rnL s).length ≤ s.size := by rw [rnL_len]; exact chs_len s
  have h := run_runes_of_string (P := Tryd.prog) W 9 46 21 s (by kernel_rfl) (by kernel_rfl) (by kernel_rfl) (by omega)
  rw [hsz, runesFrom_eq] at h
  refine ⟨_, _, h, ?_, ((Aft.refl W).drew).alloc _⟩
  obtain ⟨G, hG⟩ : ∃ G, grownCap W (rnL s).length 0 21 = G := ⟨_, rfl⟩
  have hge := grownCap_ge W (rnL s).length 0 21
  have hle := grownCap_le_maxLen W (rnL s).length 0 21 (by unfold maxLen; omega)
  rw [hG] at hge hle ⊢
  have hb := Blk.new W.drew 21 (((rnL s).map (Value.int .i32)).toArray ++ Array.replicate (G - (rnL s).length) (.int .i32 0))
  refine ⟨by simp, .inr ⟨W.heap.size, G, _, rfl, Nat.le_refl _, hb, hge, hle, ?_, ?_⟩⟩
  · simp; omega
  · simp

set_option maxRecDepth 100000 in
theorem Runes_ok {w : World} {s : ByteArray} (hs : s.size ≤ 1099511627776) :
    Calls Tryd.prog 35 #[.string s] w fun r w' => ∃ g cap, r = .returned (.slice (some ⟨g, 0, none⟩) (rnL s).length cap) ∧ Ints w' w.heap.size 21 .i32 (.slice (some ⟨g, 0, none⟩) (rnL s).length cap) (rnL s) ∧ Aft w w' := by
  obtain ⟨cap, W', h1, h2, h3⟩ := conv_runes w hs
  have H2 := Lib.hid h2
  clear h2
  generalize (rnL s).length = n at *
  go_enter Tryd.func35, Tryd.ntmps35
  go_wp2
  go_ret
  exact ⟨_, _, rfl, H2.out, h3⟩

theorem runeCountFrom_eq (s : ByteArray) : ∀ (f i : Nat), s.size - i ≤ f → Lib.runeCountFrom s f i = (chA s i).length
  | 0, i, h => by rw [chA_end (by omega)]; rfl
  | f + 1, i, h => by
    unfold Lib.runeCountFrom
    by_cases hi : i < s.size
    · have h1 := dec_pos hi
      rw [if_pos hi, chA_go hi, runeCountFrom_eq s f _ (by omega), List.length_cons]; omega
    · rw [if_neg hi, chA_end hi]; rfl
theorem runeCount_eq (s : ByteArray) : Lib.runeCount s = (chs s).length := runeCountFrom_eq s s.size 0 (by omega)
set_option maxRecDepth 100000 in
theorem Count_ok {w : World} {s : ByteArray} (hs : s.size ≤ 9007199254740992) :
    Calls Tryd.prog 42 #[.string s] w fun r w' => r = .returned (.int .i64 (chs s).length) ∧ Aft w w' := by
  rw [← runeCount_eq]
  go_enter Tryd.func42, Tryd.ntmps42
  go_wp2_with (go_at_call 59; refine (Tryd.utf8_RuneCountInString _ _ (by omega)).mono ?_; rintro r1 w1 ⟨rfl, pos, rfl⟩)
  go_ret
  exact ⟨rfl, (Aft.refl w).alloc _⟩

set_option maxRecDepth 100000 in
theorem Encode_ok {w : World} {g cap : Nat} {r : Int} (h : w.cell? ⟨g, 0, none⟩ = some (.int .i32 r)) :
    Calls Tryd.prog 52 #[.slice (some ⟨g, 0, none⟩) 1 cap] w fun e w' => e = .returned (.string (Utf8.encode r)) ∧ w' = w := by
  have hc : (convert 46 9 (.slice (some ⟨g, 0, none⟩) 1 cap)).run Tryd.prog w = .ok (.string (Utf8.encode r)) w := by
    have := run_convert_runes (P := Tryd.prog) w 46 9 21 ⟨g, 0, none⟩ 1 cap [r] (by simp) (by kernel_rfl) (by kernel_rfl) (by kernel_rfl) (fun j hj => by
      have : j = 0 := by simp at hj; omega
      subst this
      exact h)
    rw [this]
    congr 2
  go_enter Tryd.func52, Tryd.ntmps52
  go_wp2
  go_ret
  exact ⟨rfl, rfl⟩
end Go.Proofs.YtaekdnfpgkfjkaaDoor
