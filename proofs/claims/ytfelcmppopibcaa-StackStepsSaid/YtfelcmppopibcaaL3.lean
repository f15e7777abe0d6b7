/- The copy of a stack. -/
import Derived.Test.YtfelcmppopibcaaL2
import Derived.WalkLawsBesides
namespace Go.Proofs.Ytfelcmppopibcaa
open Go.RowKit

@[go_sem] theorem eql80_nil (w : World) (a : Option Addr) (n c : Nat) : (binOp .eql 80 (.slice a n c) (.slice none 0 0)).run Try.prog w = .ok (.bool a.isNone) w := _root_.Go.Lib.run_eql_slice_nil w 80 79 a n c 0 0 Try.underlying80

set_option maxRecDepth 100000 in
set_option maxHeartbeats 1000000 in
theorem Clone_ok {w : World} {B g n cap : Nat} {l : List Ent} (hn : n = l.length) (h0 : 0 < l.length) (h : Reads w B 3 (some ⟨g, 0, none⟩) n (entCells l)) (hs : n ≤ 126) :
    Calls Try.prog 40 #[.slice (some ⟨g, 0, none⟩) n cap] w fun r w' => ∃ g' cap', r = .returned (.slice (some ⟨g', 0, none⟩) n cap') ∧ w'.ownsRow w.heap.size 79 3 (.slice (some ⟨g', 0, none⟩) n cap') n (entCells l) ∧ Below w.heap.size w w' := by
  have b0 := (Below.refl w.heap.size w).alloc (Nat.le_refl _) (.cells #[] 79)
  have o0 : (w.alloc (.cells #[] 79)).ownsRow w.heap.size 79 3 (.slice (some ⟨w.heap.size, 0, none⟩) 0 0) 0 [] :=
    ⟨by simp, .inr ⟨w.heap.size, 0, #[], rfl, Nat.le_refl _, Blk.new w 79 #[], Nat.le_refl _, by simp, rfl, rfl⟩⟩
  have H0 := Lib.hid hn
  clear hn
  go_enter Try.func40, Try.ntmps40
  go_wp2_with (at_builtin; go_must (refine wpList_app Try.el80 rfl rfl rfl o0 rfl (h.alloc _) (ent_one l) ?_ ?_ ?_ ?_))
  · unfold maxLen; omega
  · omega
  · simp
  intro v1 w1 I1 g1 hv1
  have b1 := b0.grown g1 (by simp) (fun k hk => by have : w.heap.size = k := by simpa [Value.ownBlock] using hk
                                                   omega)
  have I1 : w1.ownsRow w.heap.size 79 3 v1 n (entCells l) := I1
  have hf := I1.form (by have := H0.out; omega)
  obtain ⟨g', cap', hv, _⟩ := hf
  subst hv
  go_wp2
  go_ret
  exact ⟨g', cap', rfl, I1, b1⟩

set_option maxRecDepth 100000 in
set_option maxHeartbeats 1000000 in
theorem Copy_ok {w : World} {b g : Nat} {l : List Ent} {i m v : Int} (h : IsStack w b g l i m v) (hl : 0 < l.length) :
    Calls Try.prog 26 #[.pointer (some ⟨b, 0, none⟩)] w fun r w' => ∃ b' g', r = .returned (.pointer (some ⟨b', 0, none⟩)) ∧ w.heap.size ≤ b' ∧ w.heap.size ≤ g' ∧ IsStack w' b' g' l i m v ∧ Below w.heap.size w w' := by
  obtain ⟨cap, hb, hg, h1, h2, h3, h4, h5, h6, h7, h8, hB, hO⟩ := head_cells h
  have hsm := h.small
  have hr : Reads w w.heap.size 3 (some ⟨g, 0, none⟩) l.length (entCells l) := Reads.of_own hO
  have X := Blk.new w 82 #[.slice (some ⟨g, 0, none⟩) l.length cap, .int .i64 i, .int .i64 m, .int .i64 v]
  go_enter Try.func26, Try.ntmps26
  go_wp2_with (first
    | (go_at_call 34; refine (none_some h hl).mono ?_; rintro r w1 ⟨rfl, rfl⟩)
    | (go_at_call 40; refine (Clone_ok (l := l) rfl hl (hr.alloc _) hsm).mono ?_; rintro r w2 ⟨g', cap', rfl, O2, b2⟩; have X2 := X.below b2 X.lt; obtain ⟨x1, x2, x3, x4, xf, xl⟩ := X2.c4))
  go_ret
  have X3 := X2.set_ 0 (.slice (some ⟨g', 0, none⟩) l.length cap')
  have hO2 := O2.lt g' rfl
  simp only [World.size_alloc] at hO2
  have G := (Frm.refl (fun k => k = w.heap.size) w2).set (j := 0) rfl (.slice (some ⟨g', 0, none⟩) l.length cap')
  refine ⟨w.heap.size, g', rfl, Nat.le_refl _, by omega, ⟨by omega, hsm, cap', X3, ?_⟩, ?_⟩
  · exact own_base (own_frm O2 G (fun k hk e => by have : g' = k := by simpa [Value.ownBlock] using hk
                                                   omega)) (fun _ _ => Nat.zero_le _)
  · have b02 := ((Below.refl _ w).alloc (Nat.le_refl _) (.cells #[.slice (some ⟨g, 0, none⟩) l.length cap, .int .i64 i, .int .i64 m, .int .i64 v] 82)).trans (b2.mono (by simp))
    exact b02.trans (G.below b02.size (fun k hk e => by omega))
end Go.Proofs.Ytfelcmppopibcaa
