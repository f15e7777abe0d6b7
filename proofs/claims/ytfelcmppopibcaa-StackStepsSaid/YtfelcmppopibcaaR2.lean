/- The reference's stack: with, New. -/
import Derived.Test.YtfelcmppopibcaaR1
namespace Go.Proofs.Ytfelcmppopibcaa
open Go.RowKit

set_option maxRecDepth 100000 in
set_option maxHeartbeats 1000000 in
theorem rWith_any {w : World} {B : Nat} {A : Option Addr} {e : Ent} {l : List Ent} {n c : Nat} {base i m v : Int} (_hn : n = l.length) (h : Reads w B 3 A n (entCells l)) (hs : n ≤ 126) :
    Calls Try.prog 43 #[refV base A n c i m v, .agg #[.int .i8 e.lv, .int .u8 e.ov, .bool e.iso]] w fun r w' => ∃ g cap, r = .returned (refV base (some ⟨g, 0, none⟩) (n + 1) cap i m v) ∧
      Reads w' w'.heap.size 3 (some ⟨g, 0, none⟩) (n + 1) (entCells (e :: l)) ∧ n + 1 ≤ cap ∧ w.heap.size ≤ g ∧ Below w.heap.size w w' := by
  clear _hn
  have h2 : Reads (((w.alloc (.cells #[.int .i8 base, .slice A n c, .int .i64 i, .int .i64 m, .int .i64 v] 59)).alloc (.cells #[.int .i8 e.lv, .int .u8 e.ov, .bool e.iso] 88)).alloc (.cells #[.int .i8 0, .slice none 0 0, .int .i64 0, .int .i64 0, .int .i64 0] 59)) B 3 A n (entCells l) := ((h.alloc _).alloc _).alloc _
  have q0 := ((Blk.new w 59 #[.int .i8 base, .slice A n c, .int .i64 i, .int .i64 m, .int .i64 v]).alloc (.cells #[.int .i8 e.lv, .int .u8 e.ov, .bool e.iso] 88)).alloc (.cells #[.int .i8 0, .slice none 0 0, .int .i64 0, .int .i64 0, .int .i64 0] 59)
  have q1 := (Blk.new (w.alloc (.cells #[.int .i8 base, .slice A n c, .int .i64 i, .int .i64 m, .int .i64 v] 59)) 88 #[.int .i8 e.lv, .int .u8 e.ov, .bool e.iso]).alloc (.cells #[.int .i8 0, .slice none 0 0, .int .i64 0, .int .i64 0, .int .i64 0] 59)
  have q2 := Blk.new ((w.alloc (.cells #[.int .i8 base, .slice A n c, .int .i64 i, .int .i64 m, .int .i64 v] 59)).alloc (.cells #[.int .i8 e.lv, .int .u8 e.ov, .bool e.iso] 88)) 59 #[.int .i8 0, .slice none 0 0, .int .i64 0, .int .i64 0, .int .i64 0]
  simp only [World.size_alloc] at q1 q2
  go_enter Try.func43, Try.ntmps43
  go_wp2_with (at_builtin; go_must (refine wpList_app Try.el57 rfl rfl rfl (World.ownsRow_nil _ _ _ _) rfl h2 (ent_one l) ?_ ?_ (Nat.le_refl _) ?_))
  · unfold maxLen; omega
  · omega
  · intro v1 w1 ho1 hg1 hv1
    have hb1 := (Below.refl _ _).grown hg1 (Nat.le_refl _) (by simp [Value.ownBlock])
    simp only [World.size_alloc] at hb1
    have r1 := (q1.below hb1 (by omega)).c3
    have hz := hb1.size
    simp only [World.size_alloc] at hz
    obtain ⟨r10, r11, r12, r13, -⟩ := r1
    go_wp2_with (at_builtin; go_must (refine wpList_app1 Try.el57 rfl rfl rfl (ho1.alloc _) rfl (Blk.new _ _ _) rfl ?_ ?_ ?_ ?_ ?_))
    · simp [Value.oneCell']
    · unfold maxLen; omega
    · omega
    · simp only [World.size_alloc]; omega
    · intro g cap w2 ho2 hg2 hg'
      have hb3 := (hb1.alloc hz (.cells #[.int .i8 e.lv, .int .u8 e.ov, .bool e.iso] 88)).grown hg2 (by simp only [World.size_alloc]; omega) (fun k hk => (ho1.lt k hk).1)
      clear r10 r11 r12 r13
      have g1 : g ≠ w.heap.size := by
        rcases hg' with h | h
        · have := (ho1.lt _ h).1; omega
        · omega
      have Q0 := q0.below hb3 (by omega)
      have Q2 := q2.below hb3 (by omega)
      obtain ⟨c0, c1, c2, c3, c4, c5, c6⟩ := Q0.c5
      obtain ⟨d0, d1, d2, d3, d4, d5, d6⟩ := Q2.c5
      go_wp2
      have hlt := (ho2.lt g rfl).2
      have Q2' := blk_put5 (.int .i8 base) (.slice (some ⟨g, 0, none⟩) (n + 1) cap) (.int .i64 i) (.int .i64 m) (.int .i64 v) (Q2.far (p := ⟨w.heap.size, 1, none⟩) (by simp; omega) (.slice (some ⟨g, 0, none⟩) (n + 1) cap))
      have hgb : w.heap.size + 1 + 1 + 1 ≤ g := (ho2.lt g rfl).1
      have F2 := ((Frm.refl (fun k => k = w.heap.size ∨ k = w.heap.size + 1 + 1) w2).set (j := 1) (.inl rfl) (.slice (some ⟨g, 0, none⟩) (n + 1) cap)).trans (frm_put5 _ (w.heap.size + 1 + 1) (.int .i8 base) (.slice (some ⟨g, 0, none⟩) (n + 1) cap) (.int .i64 i) (.int .i64 m) (.int .i64 v)) (fun k _ h => .inr h)
      have ho3 := own_frm ho2 F2 (fun k hk => by simp [Value.ownBlock] at hk; subst hk; intro h; omega)
      obtain ⟨cur, _, _, hcap, _⟩ := own_blk ho3
      refine bodyPost_ret (v := refV base (some ⟨g, 0, none⟩) (n + 1) cap i m v) (results_cell_row rfl _ _ _ _ _ _ _ rfl Q2' Try.underlying59 rfl (by kernel_rfl)) rfl ⟨g, cap, rfl, ?_, hcap, by omega, ?_⟩
      · rw [entCells_cons]; exact Reads.of_own ho3
      · have hb0 : Below w.heap.size w _ := (((Below.refl w.heap.size w).alloc (Nat.le_refl _) (.cells #[.int .i8 base, .slice A n c, .int .i64 i, .int .i64 m, .int .i64 v] 59)).alloc (by simp) (.cells #[.int .i8 e.lv, .int .u8 e.ov, .bool e.iso] 88)).alloc (by simp; omega) (.cells #[.int .i8 0, .slice none 0 0, .int .i64 0, .int .i64 0, .int .i64 0] 59)
        refine (hb0.trans (hb3.mono (by omega))).trans (F2.below ?_ (fun k hk => by omega))
        have := hb3.size; simp only [World.size_alloc] at this; omega
end Go.Proofs.Ytfelcmppopibcaa
