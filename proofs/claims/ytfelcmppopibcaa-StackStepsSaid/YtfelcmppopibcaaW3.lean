/- Stack walks: put. -/
import Derived.Test.YtfelcmppopibcaaW2
namespace Go.Proofs.Ytfelcmppopibcaa
open Go.RowKit


theorem own_setCell_far {w : World} {base e size n cap g xs} (h : w.ownsRow base e size (.slice (some ⟨g, 0, none⟩) n cap) n xs) {p : Addr} (hp : g ≠ p.block) (u : Value) :
    (w.setCell p u).ownsRow base e size (.slice (some ⟨g, 0, none⟩) n cap) n xs := by
  obtain ⟨cur, h0, h1, h2⟩ := own_blk h
  exact ⟨h.1, .inr ⟨g, cap, cur, rfl, h0, h1.far hp u, h2⟩⟩

theorem put_end {w w1 w2 : World} {b g : Nat} {e : Ent} {l : List Ent} {i m v : Int} {cap g' cap' : Nat} (lv ov : Int) (iso : Bool) (h : IsStack w b g (e :: l) i m v) (hl : l.length ≤ 124) (hb1 : Below w.heap.size w w1)
   (p1 : Blk w1 b 82 #[.slice (some ⟨g, 0, none⟩) (e :: l).length cap, .int .i64 i, .int .i64 m, .int .i64 v])
   (ho2 : w2.ownsRow 0 79 3 (.slice (some ⟨g', 0, none⟩) (l.length + 1 + 1) cap') (l.length + 1 + 1) (entCells (e :: l) ++ [.int .i8 lv, .int .u8 ov, .bool iso]))
   (hg2 : (w1.alloc (.cells #[.int .i8 lv, .int .u8 ov, .bool iso] 79)).grownBy w2 (Value.slice (some ⟨g, 0, none⟩) (l.length + 1) cap).ownBlock)
   (hg' : (Value.slice (some ⟨g, 0, none⟩) (l.length + 1) cap).ownBlock = some g' ∨ g' = w1.heap.size + 1) :
   w2.cell? ⟨b, 0, none⟩ = some (.slice (some ⟨g, 0, none⟩) (e :: l).length cap) ∧ w2.frozen? ⟨b, 0, none⟩ = false ∧
    ((g' = g ∨ w.heap.size ≤ g') ∧ IsStack (w2.setCell ⟨b, 0, none⟩ (.slice (some ⟨g', 0, none⟩) (l.length + 1 + 1) cap')) b g' (⟨lv, ov, iso⟩ :: e :: l) i m v ∧
      Frm (fun k => k = b ∨ k = g) w (w2.setCell ⟨b, 0, none⟩ (.slice (some ⟨g', 0, none⟩) (l.length + 1 + 1) cap'))) := by
  have hne := h.ne
  have hg'' : g' = g ∨ g' = w1.heap.size + 1 := by
    rcases hg' with h1 | h1
    · left; simp [Value.ownBlock] at h1; exact h1.symm
    · exact .inr h1
  have pb := (p1.alloc (.cells #[.int .i8 lv, .int .u8 ov, .bool iso] 79)).grown hg2 (by simp [Value.ownBlock]; omega)
  have hbl := p1.lt
  have hs := hb1.size
  have hbg : b ≠ g' := by omega
  have pb' := pb.set_ 0 (.slice (some ⟨g', 0, none⟩) (l.length + 1 + 1) cap')
  refine ⟨by rw [pb.cell]; rfl, pb.frozen 0, by omega, ⟨hbg, by simp; omega, cap', by simpa using pb', ?_⟩, ?_⟩
  · rw [entCells_cons]
    exact own_setCell_far ho2 (by simpa using hbg.symm) _
  · have f1 : Frm (fun k => k = b ∨ k = g) w w1 := .of_below hb1
    refine ((f1.alloc _).grown hg2 ?_).setCell (p := ⟨b, 0, none⟩) (fun _ => .inl rfl) _
    intro k hk _
    simp [Value.ownBlock] at hk
    exact .inr hk.symm

set_option maxRecDepth 100000 in
set_option maxHeartbeats 1000000 in
theorem put_yes {w : World} {b g : Nat} {e : Ent} {l : List Ent} {i m v : Int} (odd : Bool) (ov : Int) (iso : Bool) (h : IsStack w b g (e :: l) i m v)
   (hl : l.length ≤ 124) (h0 : 0 ≤ e.lv) (h1 : e.lv ≤ 125) (hn : nextLv odd e.lv ≤ 125) (hi : i ≤ 0) (hm : m ≤ 0) :
    Calls Try.prog 35 #[.pointer (some ⟨b, 0, none⟩), .bool odd, .int .u8 ov, .bool iso] w fun r w' => r = .returned (.bool true) ∧
      ∃ g', (g' = g ∨ w.heap.size ≤ g') ∧ IsStack w' b g' (⟨nextLv odd e.lv, ov, iso⟩ :: e :: l) i m v ∧ Frm (fun k => k = b ∨ k = g) w w' := by
  unfold nextLv at hn ⊢
  cases odd
  · by_cases hp : e.lv % 2 = 0
    · rw [if_neg (by simp [hp])] at hn ⊢
      have hp2 : (e.lv + 1) % 2 = 1 := by omega
      clear hp
      go_enter Try.func35, Try.ntmps35
      go_wp2_with fail
      refine (last_any h).mono ?_
      rintro r w1 ⟨rfl, hb1⟩
      obtain ⟨cap, hb, hg, hlc, hcm, c0, c1, c2, c3, f1, f2, p1, p2⟩ := head_cells (h.below hb1)
      simp only [List.length_cons] at p2 hlc c0
      go_wp2_with (at_builtin; go_must (refine wpList_app1 Try.el80 rfl rfl rfl (p2.alloc _) rfl (Blk.new _ _ _) rfl ?_ ?_ ?_ (Nat.zero_le _) ?_))
      · simp [Value.oneCell']
      · unfold maxLen; omega
      · omega
      · intro g' cap' w2 ho2 hg2 hg'
        obtain ⟨d0, d1, hres⟩ := put_end _ ov iso h hl hb1 p1 ho2 hg2 hg'
        go_wp2
        go_ret
        exact ⟨rfl, g', hres⟩
    · rw [if_pos (by simp [hp])] at hn ⊢
      have hp2 : (e.lv + 1) % 2 = 0 := by omega
      clear hp
      go_enter Try.func35, Try.ntmps35
      go_wp2_with fail
      refine (last_any h).mono ?_
      rintro r w1 ⟨rfl, hb1⟩
      obtain ⟨cap, hb, hg, hlc, hcm, c0, c1, c2, c3, f1, f2, p1, p2⟩ := head_cells (h.below hb1)
      simp only [List.length_cons] at p2 hlc c0
      go_wp2_with (at_builtin; go_must (refine wpList_app1 Try.el80 rfl rfl rfl (p2.alloc _) rfl (Blk.new _ _ _) rfl ?_ ?_ ?_ (Nat.zero_le _) ?_))
      · simp [Value.oneCell']
      · unfold maxLen; omega
      · omega
      · intro g' cap' w2 ho2 hg2 hg'
        obtain ⟨d0, d1, hres⟩ := put_end _ ov iso h hl hb1 p1 ho2 hg2 hg'
        go_wp2
        go_ret
        exact ⟨rfl, g', hres⟩
  · by_cases hp : e.lv % 2 = 0
    · rw [if_pos (by simp [hp])] at hn ⊢
      have hp2 : (e.lv + 1) % 2 = 1 := by omega
      clear hp
      go_enter Try.func35, Try.ntmps35
      go_wp2_with fail
      refine (last_any h).mono ?_
      rintro r w1 ⟨rfl, hb1⟩
      obtain ⟨cap, hb, hg, hlc, hcm, c0, c1, c2, c3, f1, f2, p1, p2⟩ := head_cells (h.below hb1)
      simp only [List.length_cons] at p2 hlc c0
      go_wp2_with (at_builtin; go_must (refine wpList_app1 Try.el80 rfl rfl rfl (p2.alloc _) rfl (Blk.new _ _ _) rfl ?_ ?_ ?_ (Nat.zero_le _) ?_))
      · simp [Value.oneCell']
      · unfold maxLen; omega
      · omega
      · intro g' cap' w2 ho2 hg2 hg'
        obtain ⟨d0, d1, hres⟩ := put_end _ ov iso h hl hb1 p1 ho2 hg2 hg'
        go_wp2
        go_ret
        exact ⟨rfl, g', hres⟩
    · rw [if_neg (by simp [hp])] at hn ⊢
      have hp2 : (e.lv + 1) % 2 = 0 := by omega
      clear hp
      go_enter Try.func35, Try.ntmps35
      go_wp2_with fail
      refine (last_any h).mono ?_
      rintro r w1 ⟨rfl, hb1⟩
      obtain ⟨cap, hb, hg, hlc, hcm, c0, c1, c2, c3, f1, f2, p1, p2⟩ := head_cells (h.below hb1)
      simp only [List.length_cons] at p2 hlc c0
      go_wp2_with (at_builtin; go_must (refine wpList_app1 Try.el80 rfl rfl rfl (p2.alloc _) rfl (Blk.new _ _ _) rfl ?_ ?_ ?_ (Nat.zero_le _) ?_))
      · simp [Value.oneCell']
      · unfold maxLen; omega
      · omega
      · intro g' cap' w2 ho2 hg2 hg'
        obtain ⟨d0, d1, hres⟩ := put_end _ ov iso h hl hb1 p1 ho2 hg2 hg'
        go_wp2
        go_ret
        exact ⟨rfl, g', hres⟩

set_option maxRecDepth 100000 in
set_option maxHeartbeats 1000000 in
theorem put_no {w : World} {b g : Nat} {e : Ent} {l : List Ent} {i m v : Int} (odd : Bool) (ov : Int) (iso : Bool) (h : IsStack w b g (e :: l) i m v)
   (h0 : 0 ≤ e.lv) (h1 : e.lv ≤ 125) (hn : 125 < nextLv odd e.lv ∨ 0 < i ∨ 0 < m) :
    Calls Try.prog 35 #[.pointer (some ⟨b, 0, none⟩), .bool odd, .int .u8 ov, .bool iso] w fun r w' => r = .returned (.bool false) ∧ Below w.heap.size w w' := by
  unfold nextLv at hn
  cases odd
  · by_cases hp : e.lv % 2 = 0
    · rw [if_neg (by simp [hp])] at hn
      have hp2 : (e.lv + 1) % 2 = 1 := by omega
      clear hp
      go_enter Try.func35, Try.ntmps35
      go_wp2_with fail
      refine (last_any h).mono ?_
      rintro r w1 ⟨rfl, hb1⟩
      obtain ⟨cap, hb, hg, hlc, hcm, c0, c1, c2, c3, f1, f2, -⟩ := head_cells (h.below hb1)
      go_wp2_with fail
      all_goals (go_ret; exact ⟨rfl, hb1⟩)
    · rw [if_pos (by simp [hp])] at hn
      have hp2 : (e.lv + 1) % 2 = 0 := by omega
      clear hp
      go_enter Try.func35, Try.ntmps35
      go_wp2_with fail
      refine (last_any h).mono ?_
      rintro r w1 ⟨rfl, hb1⟩
      obtain ⟨cap, hb, hg, hlc, hcm, c0, c1, c2, c3, f1, f2, -⟩ := head_cells (h.below hb1)
      go_wp2_with fail
      all_goals (go_ret; exact ⟨rfl, hb1⟩)
  · by_cases hp : e.lv % 2 = 0
    · rw [if_pos (by simp [hp])] at hn
      have hp2 : (e.lv + 1) % 2 = 1 := by omega
      clear hp
      go_enter Try.func35, Try.ntmps35
      go_wp2_with fail
      refine (last_any h).mono ?_
      rintro r w1 ⟨rfl, hb1⟩
      obtain ⟨cap, hb, hg, hlc, hcm, c0, c1, c2, c3, f1, f2, -⟩ := head_cells (h.below hb1)
      go_wp2_with fail
      all_goals (go_ret; exact ⟨rfl, hb1⟩)
    · rw [if_neg (by simp [hp])] at hn
      have hp2 : (e.lv + 1) % 2 = 0 := by omega
      clear hp
      go_enter Try.func35, Try.ntmps35
      go_wp2_with fail
      refine (last_any h).mono ?_
      rintro r w1 ⟨rfl, hb1⟩
      obtain ⟨cap, hb, hg, hlc, hcm, c0, c1, c2, c3, f1, f2, -⟩ := head_cells (h.below hb1)
      go_wp2_with fail
      all_goals (go_ret; exact ⟨rfl, hb1⟩)

end Go.Proofs.Ytfelcmppopibcaa
