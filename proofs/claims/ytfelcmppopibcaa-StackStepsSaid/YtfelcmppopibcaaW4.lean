/- Stack walks: pop. -/
import Derived.Test.YtfelcmppopibcaaW3
namespace Go.Proofs.Ytfelcmppopibcaa
open Go.RowKit

theorem own_cut {w : World} {base e size n cap g xs ys} (h : w.ownsRow base e size (.slice (some ⟨g, 0, none⟩) n cap) n (xs ++ ys)) {k : Nat} (hk : xs.length = k * size) (hkn : k ≤ n) :
    w.ownsRow base e size (.slice (some ⟨g, 0, none⟩) k cap) k xs := by
  obtain ⟨cur, h0, h1, h2, h3, h4, h5⟩ := own_blk h
  refine ⟨hk, .inr ⟨g, cap, cur, rfl, h0, h1, by omega, h3, h4, ?_⟩⟩
  have := congrArg (List.take (k * size)) h5
  rw [List.take_take, ← hk, List.take_left, hk] at this
  rw [← this, Nat.min_eq_left (Nat.mul_le_mul_right _ hkn)]

/-- The last entry is taken off. -/
theorem stack_off {w : World} {b g cap : Nat} {e : Ent} {l : List Ent} {i m v : Int} (h : IsStack w b g (e :: l) i m v)
   (p1 : Blk w b 82 #[.slice (some ⟨g, 0, none⟩) (e :: l).length cap, .int .i64 i, .int .i64 m, .int .i64 v]) (p2 : w.ownsRow 0 79 3 (.slice (some ⟨g, 0, none⟩) (e :: l).length cap) (e :: l).length (entCells (e :: l))) :
    IsStack (w.setCell ⟨b, 0, none⟩ (.slice (some ⟨g, 0, none⟩) l.length cap)) b g l i m v := by
  have hs := h.small
  have hne := h.ne
  refine ⟨hne, by simp at hs; omega, cap, by simpa using p1.set_ 0 (.slice (some ⟨g, 0, none⟩) l.length cap), ?_⟩
  refine own_setCell_far ?_ (by simpa using hne.symm) _
  rw [entCells_cons] at p2
  exact own_cut p2 (entCells_length l) (by simp)
theorem stack_set1 {w : World} {b g : Nat} {l : List Ent} {i m v : Int} (h : IsStack w b g l i m v) (i' : Int) : IsStack (w.setCell ⟨b, 1, none⟩ (.int .i64 i')) b g l i' m v := by
  obtain ⟨cap, p1, p2⟩ := h.parts
  exact ⟨h.ne, h.small, cap, by simpa using p1.set_ 1 (.int .i64 i'), own_setCell_far p2 (by simpa using h.ne.symm) _⟩
theorem stack_set2 {w : World} {b g : Nat} {l : List Ent} {i m v : Int} (h : IsStack w b g l i m v) (m' : Int) : IsStack (w.setCell ⟨b, 2, none⟩ (.int .i64 m')) b g l i m' v := by
  obtain ⟨cap, p1, p2⟩ := h.parts
  exact ⟨h.ne, h.small, cap, by simpa using p1.set_ 2 (.int .i64 m'), own_setCell_far p2 (by simpa using h.ne.symm) _⟩
theorem stack_set3 {w : World} {b g : Nat} {l : List Ent} {i m v : Int} (h : IsStack w b g l i m v) (v' : Int) : IsStack (w.setCell ⟨b, 3, none⟩ (.int .i64 v')) b g l i m v' := by
  obtain ⟨cap, p1, p2⟩ := h.parts
  exact ⟨h.ne, h.small, cap, by simpa using p1.set_ 3 (.int .i64 v'), own_setCell_far p2 (by simpa using h.ne.symm) _⟩

theorem IsStack.drew {w : World} {b g l i m v} (h : IsStack w b g l i m v) : IsStack w.drew b g l i m v := ⟨h.ne, h.small, h.parts⟩
set_option maxRecDepth 100000 in
set_option maxHeartbeats 1000000 in
theorem pop_iso {w : World} {b g : Nat} {l : List Ent} {i m v : Int} (h : IsStack w b g l i m v) (hi : 0 < i) (hb : i ≤ 1152921504606846976) :
    Calls Try.prog 38 #[.pointer (some ⟨b, 0, none⟩)] w fun r w' => r = .returned (.tuple #[]) ∧ IsStack w' b g l (i - 1) m v ∧ Frm (fun k => k = b) w w' := by
  obtain ⟨cap, hb, hg, hlc, hcm, c0, c1, c2, c3, f1, f2, p1, p2⟩ := head_cells h
  go_enter Try.func38, Try.ntmps38
  go_wp2
  go_end0
  exact ⟨rfl, stack_set1 h _, (Frm.refl (fun k => k = b) w).set rfl _⟩

set_option maxRecDepth 100000 in
set_option maxHeartbeats 1000000 in
theorem pop_not {w : World} {b g : Nat} {l : List Ent} {i m v : Int} (h : IsStack w b g l i m v) (hi : i ≤ 0) (hv : v ≤ 0) :
    Calls Try.prog 38 #[.pointer (some ⟨b, 0, none⟩)] w fun r w' => r = .returned (.tuple #[]) ∧ w = w' := by
  obtain ⟨cap, hb, hg, hlc, hcm, c0, c1, c2, c3, f1, f2, p1, p2⟩ := head_cells h
  go_enter Try.func38, Try.ntmps38
  go_wp2
  go_end0
  exact ⟨rfl, rfl⟩

set_option maxRecDepth 100000 in
set_option maxHeartbeats 1000000 in
theorem pop_val {w : World} {b g : Nat} {l : List Ent} {i m v : Int} (h : IsStack w b g l i m v) (hi : i ≤ 0) (hv : 0 < v) (hv2 : v ≤ 1152921504606846976) (hl : ∃ e ∈ l, e.iso = true) :
    Calls Try.prog 38 #[.pointer (some ⟨b, 0, none⟩)] w fun r w' => r = .returned (.tuple #[]) ∧ IsStack w' b g (popTo l) i 0 (v - 1) ∧ Frm (fun k => k = b) w w' := by
  obtain ⟨cap, hb, hg, hlc, hcm, c0, c1, c2, c3, f1, f2, p1, p2⟩ := head_cells h
  go_enter Try.func38, Try.ntmps38
  go_wp2_with fail
  go_loopg [] l.length (fun n wr => ∃ l', popTo l' = popTo l ∧ (∃ e ∈ l', e.iso = true) ∧ l'.length = n ∧ IsStack wr b g l' i 0 v ∧ Frm (fun k => k = b) w wr)
  case atStart => exact ⟨l, rfl, hl, rfl, stack_set2 h 0, (Frm.refl (fun k => k = b) w).set rfl _⟩
  case round =>
    obtain ⟨l', e1, e2, e3, h', hf⟩ := hrel
    have e1 := Lib.hid e1
    have e3 := Lib.hid e3
    match l', e2, h', e1, e3 with
    | e :: l', e2, h', e1, e3 =>
      have hsm := h'.small
      simp only [List.length_cons] at hsm
      by_cases he : e.iso = true
      · have h1 : popTo l = l' := by rw [← e1.out]; simp [popTo, he]
        have h1 := Lib.hid h1
        go_wp2_with fail
        refine (last_any h').mono ?_
        rintro r w1 ⟨rfl, hb1⟩
        obtain ⟨cap, hb, hg, hlc, hcm, c0, c1, c2, c3, f1, f2, p1, p2⟩ := head_cells (h'.below hb1)
        simp only [List.length_cons] at c0 hlc
        go_wp2
        refine wp_region_tail 14 (by kernel_rfl) (by kernel_rfl) ?_
        simp only [List.take_succ_cons, List.take_zero, List.drop_succ_cons, List.drop_zero]
        repeat (refine still_plain rfl rfl ?_; intro K hK; go_wp2)
        refine wpStill_nil ?_
        go_wp2
        go_end0
        rw [h1.out]
        refine ⟨rfl, ?_, ?_⟩
        · exact (stack_set3 (stack_off (h'.below hb1) p1 p2) _).drew
        · exact (((hf.trans (Frm.of_below (F := fun _ => False) hb1) (fun _ _ h => h.elim)).set rfl _).set rfl _).drew
      · have he : e.iso = false := by simpa using he
        have h1 : popTo l = popTo l' := by rw [← e1.out]; simp [popTo, he]
        have h1 := Lib.hid h1
        have e2' : ∃ e ∈ l', e.iso = true := by
          obtain ⟨x, hx, hi⟩ := e2
          rcases List.mem_cons.1 hx with rfl | hx
          · rw [he] at hi; cases hi
          · exact ⟨x, hx, hi⟩
        go_wp2_with fail
        refine (last_any h').mono ?_
        rintro r w1 ⟨rfl, hb1⟩
        obtain ⟨cap, hb, hg, hlc, hcm, c0, c1, c2, c3, f1, f2, p1, p2⟩ := head_cells (h'.below hb1)
        simp only [List.length_cons] at c0 hlc
        go_wp2
        refine wp_region_tail 14 (by kernel_rfl) (by kernel_rfl) ?_
        simp only [List.take_succ_cons, List.take_zero, List.drop_succ_cons, List.drop_zero]
        repeat (refine still_plain rfl rfl ?_; intro K hK; go_wp2)
        refine wpStill_nil ?_
        go_wp2
        go_roundg l'.length
        case rel => exact ⟨l', h1.out.symm, e2', rfl, (stack_off (h'.below hb1) p1 p2).drew, ((hf.trans (Frm.of_below (F := fun _ => False) hb1) (fun _ _ h => h.elim)).set rfl _).drew⟩
        case measure => rw [← e3.out]; simp
end Go.Proofs.Ytfelcmppopibcaa
