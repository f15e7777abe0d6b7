/- A pile of brackets: Open. -/
import Derived.Test.YtpdackbcnbhppaaR2
namespace Go.Proofs.Ytpdackbcnbhppaa
open Go.RowKit
attribute [local go_sem] Oper.semAt_some

/-- What Open makes of a pile: its opening brackets, has finding ended, the number that it answers. -/
def opL (l : List (Int × Int)) (ov : Bool) (a k : Int) : List (Int × Int) := if ov then l else if 63 ≤ l.length then [] else l ++ [(a, k)]
def opV (l : List (Int × Int)) (ov : Bool) : Bool := ov || decide (63 ≤ l.length)
def opE (l : List (Int × Int)) (ov : Bool) : Int := if opV l ov then 3 else 0

/-- One more opening bracket: the row has grown, its slice is stored. -/
theorem Pil.push {w w2 : World} {B b n g cap : Nat} {vl vf : Value} {l l' f : List (Int × Int)} {ov : Bool} (h : Pil w B b vl vf l f ov) {o : Obj} (g2 : (w.alloc o).grownBy w2 vl.ownBlock)
    (R2 : Rw opC 2 w2 B 145 (.slice (some ⟨g, 0, none⟩) n cap) l') (hv : vl.ownBlock = some g ∨ g = w.heap.size + 1) :
    Blk w2 b 140 #[vl, vf, .bool ov, .bool true] ∧ Pil (w2.setCell ⟨b, 0, none⟩ (.slice (some ⟨g, 0, none⟩) n cap)) B b (.slice (some ⟨g, 0, none⟩) n cap) vf l' f ov ∧
      Frm (PilF b vl vf) w (w2.setCell ⟨b, 0, none⟩ (.slice (some ⟨g, 0, none⟩) n cap)) ∧ ∀ j, (Value.slice (some ⟨g, 0, none⟩) n cap).ownBlock = some j → vl.ownBlock = some j ∨ w.heap.size ≤ j := by
  have F2 : Frm (fun j => vl.ownBlock = some j) w w2 := ((Frm.refl _ w).alloc _).grown g2 (fun k hk _ => hk)
  have hB2 : Blk w2 b 140 #[vl, vf, .bool ov, .bool true] := h.blk.frm F2 (fun e => (h.a1 b e).1 rfl)
  have hgb : g ≠ b := by
    rcases hv with e | e
    · exact (h.a1 g e).1
    · have := h.blk.lt; omega
  have hgf : vf.ownBlock ≠ some g := by
    rcases hv with e | e
    · exact (h.a1 g e).2
    · intro e2
      have := (h.rf.lt g e2).2; omega
  have F1 : Frm (fun j => j = b) w2 (w2.setCell ⟨b, 0, none⟩ (.slice (some ⟨g, 0, none⟩) n cap)) := (Frm.refl (fun j => j = b) w2).set rfl _
  refine ⟨hB2, ⟨by simpa using hB2.set_ 0 (.slice (some ⟨g, 0, none⟩) n cap), R2.frm F1 (fun j e => ?_), (h.rf.frm F2 (fun j e e2 => (h.a1 j e2).2 e)).frm F1 (fun j e => h.a2 j e), fun j e => ?_, h.a2, h.hb⟩,
    (F2.mono (fun j _ e => Or.inr (Or.inl e))).trans F1 (fun j _ e => .inl e), fun j e => ?_⟩
  · have : g = j := by simpa [Value.ownBlock] using e
    omega
  · have : g = j := by simpa [Value.ownBlock] using e
    subst this; exact ⟨hgb, hgf⟩
  · have : g = j := by simpa [Value.ownBlock] using e
    subst this
    rcases hv with e | e
    · exact .inl e
    · exact .inr (by omega)

set_option maxRecDepth 100000 in
set_option maxHeartbeats 1000000 in
theorem Popen_nil (w : World) (a k : Int) : Calls Try.prog 43 #[.pointer none, .int .i64 a, .int .i32 k] w fun r w' => r = .returned (.int .i64 1) ∧ w' = w := by
  go_enter Try.func43, Try.ntmps43
  go_wp2_with (go_at_call 73; refine (Pnone_nil).mono ?_; rintro r1 w1 ⟨rfl, rfl⟩)
  go_ret
  exact ⟨rfl, rfl⟩

set_option maxRecDepth 100000 in
set_option maxHeartbeats 2000000 in
theorem Popen_ok {w : World} {B b : Nat} {vl vf : Value} {l f : List (Int × Int)} {ov : Bool} (a k : Int) (h : Pil w B b vl vf l f ov) :
    Calls Try.prog 43 #[.pointer (some ⟨b, 0, none⟩), .int .i64 a, .int .i32 k] w fun r w' => r = .returned (.int .i64 (opE l ov)) ∧ ∃ vl', Pil w' B b vl' vf (opL l ov a k) f (opV l ov) ∧ Frm (PilF b vl vf) w w' ∧
      ∀ j, vl'.ownBlock = some j → vl.ownBlock = some j ∨ w.heap.size ≤ j := by
  obtain ⟨A, c, rfl, h1, h2, hr⟩ := h.rl.val
  obtain ⟨c0, c1, c2, c3, cf, cl⟩ := h.blk.c4
  have CN := Pnone_ok h.blk
  clear hr
  cases ov
  · by_cases hlen : 63 ≤ l.length
    · have e1 : opL l false a k = [] := by unfold opL; rw [if_neg (by decide), if_pos hlen]
      have e2 : opV l false = true := by unfold opV; simp; exact hlen
      have e3 : opE l false = 3 := by unfold opE; rw [if_pos e2]
      rw [e1, e2, e3]
      clear e1 e2 e3
      obtain ⟨ll, hll⟩ : ∃ ll, l.length = ll := ⟨_, rfl⟩
      rw [hll] at c0 hlen h h1
      have HLL := Lib.hid hll
      clear hll
      go_enter Try.func43, Try.ntmps43
      go_wp2_with (go_at_call 73; refine CN.mono ?_; rintro r1 w1 ⟨rfl, rfl⟩)
      go_ret
      have P1 : Blk ((w1.setCell ⟨b, 2, none⟩ (.bool true)).setCell ⟨b, 0, none⟩ (.slice none 0 0)) b 140 #[.slice none 0 0, vf, .bool true, .bool true] := by
        simpa using (h.blk.set_ 2 (.bool true)).set_ 0 (.slice none 0 0)
      have F1 : Frm (fun j => j = b) w1 ((w1.setCell ⟨b, 2, none⟩ (.bool true)).setCell ⟨b, 0, none⟩ (.slice none 0 0)) := ((Frm.refl (fun j => j = b) w1).set rfl _).set rfl _
      exact ⟨rfl, .slice none 0 0, ⟨P1, Rw.nil _ _ _, h.rf.frm F1 (fun j e e2 => h.a2 j e e2), by simp [Value.ownBlock], h.a2, h.hb⟩, F1.mono (fun j _ e => .inl e), by simp [Value.ownBlock]⟩
    · have e1 : opL l false a k = l ++ [(a, k)] := by unfold opL; rw [if_neg (by decide), if_neg hlen]
      have e2 : opV l false = false := by unfold opV; simp; omega
      have e3 : opE l false = 0 := by unfold opE; rw [e2]; rfl
      rw [e1, e2, e3]
      clear e1 e2 e3
      have hb1 : b < w.heap.size := cl
      have hB : B ≤ w.heap.size := by have := h.hb; omega
      have hrl := h.rl
      have hla := hrl.lt
      obtain ⟨ll, hll⟩ : ∃ ll, l.length = ll := ⟨_, rfl⟩
      rw [hll] at c0 hlen h h1 hrl hla
      have HLL := Lib.hid hll
      have hll2 := hll
      clear hll
      go_enter Try.func43, Try.ntmps43
      go_wp2_with (first
        | (go_at_call 73; refine CN.mono ?_; rintro r1 w1 ⟨rfl, rfl⟩)
        | (at_builtin; go_must (refine wpList_appR (y := (a, k)) encO etO rfl rfl rfl (hrl.alloc _) rfl (Blk.at_ (by simp)) rfl ?_ ?_ ?_ ?_)))
      · have := hll2; unfold maxLen; omega
      · have := hll2; omega
      · simp; omega
      intro g cap w2 R2 g2 hv
      obtain ⟨B2, P3, F3, hv3⟩ := h.push g2 R2 (by simpa using hv)
      obtain ⟨d0, d1, d2, d3, df, dl⟩ := B2.c4
      clear c0 c1 c2 c3 cf cl B2 CN
      go_wp2
      go_ret
      exact ⟨rfl, _, P3, by rw [hll2]; exact F3, by rw [hll2]; exact hv3⟩
  · have e1 : opL l true a k = l := rfl
    have e2 : opV l true = true := rfl
    have e3 : opE l true = 3 := rfl
    rw [e1, e2, e3]
    clear e1 e2 e3
    go_enter Try.func43, Try.ntmps43
    go_wp2_with (go_at_call 73; refine CN.mono ?_; rintro r1 w1 ⟨rfl, rfl⟩)
    go_ret
    exact ⟨rfl, _, h, Frm.refl _ _, fun j e => .inl e⟩
end Go.Proofs.Ytpdackbcnbhppaa
