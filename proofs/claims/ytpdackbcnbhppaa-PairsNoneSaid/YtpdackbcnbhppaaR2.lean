/- A pile of brackets: what it is, made, its length, its pairs. -/
import Derived.Test.YtpdackbcnbhppaaR1
import Derived.Test.YtpdackbcnbhppaaQ14
import Derived.Test.YtpdackbcnbhppaaH1
namespace Go.Proofs.Ytpdackbcnbhppaa
open Go.RowKit
attribute [local go_sem] Oper.semAt_some

theorem etB : ElemT Try.prog 58 65 2 16 := ElemT.mk' (.agg #[.int .i64 0, .int .i64 0]) Try.underlying58 (by kernel_rfl) rfl (by omega)
theorem etO : ElemT Try.prog 138 145 2 16 := ElemT.mk' (.agg #[.int .i64 0, .int .i32 0]) Try.underlying138 (by kernel_rfl) rfl (by omega)
@[go_sem] theorem eql58_nil (w : World) (a : Option Addr) (n c : Nat) : (binOp .eql 58 (.slice a n c) (.slice none 0 0)).run Try.prog w = .ok (.bool a.isNone) w := _root_.Go.Lib.run_eql_slice_nil w 58 65 a n c 0 0 Try.underlying58

set_option maxRecDepth 100000 in
set_option maxHeartbeats 1000000 in
theorem CloneB_ok {w : World} {B : Nat} {A : Option Addr} {n c : Nat} {l : List (Int × Int)} (hn : n = l.length) (h : RdR brC 2 w B A l) (hl : n * 16 ≤ 140737488351232) :
    Calls Try.prog 75 #[.slice A n c] w fun r w' => ∃ v, r = .returned v ∧ Rw brC 2 w' w.heap.size 65 v l ∧ Below w.heap.size w w' := by
  have HN := Lib.hid hn
  rcases A with _ | ad
  · have hl0 : l = [] := by
      rcases l with _ | ⟨x, l⟩
      · rfl
      · obtain ⟨b, off, e, -⟩ := h.at_ encB (i := 0) (x := x) rfl (by omega)
        cases e
    clear hn
    go_enter Try.func75, Try.ntmps75
    go_wp2
    go_ret
    exact ⟨_, rfl, by rw [hl0]; exact Rw.nil _ _ _, Below.refl _ _⟩
  · clear hn
    have b0 := (Below.refl w.heap.size w).alloc (Nat.le_refl _) (.cells #[] 65)
    have o0 : Rw brC 2 (w.alloc (.cells #[] 65)) w.heap.size 65 (.slice (some ⟨w.heap.size, 0, none⟩) 0 0) [] :=
      ⟨by simp, .inr ⟨w.heap.size, 0, #[], rfl, Nat.le_refl _, Blk.new w 65 #[], Nat.le_refl _, by simp, rfl, rfl⟩⟩
    go_enter Try.func75, Try.ntmps75
    go_wp2_with (at_builtin; go_must (refine wpList_appRs encB etB rfl rfl rfl o0 HN.out rfl (h.alloc _) ?_ ?_ ?_ ?_))
    · have := HN.out; simp; unfold maxLen; omega
    · have := HN.out; simp; omega
    · simp
    intro v1 w1 I1 g1 hv1
    have b1 := b0.grown g1 (by simp) (fun k hk => by have : w.heap.size = k := by simpa [Value.ownBlock] using hk
                                                     omega)
    have I1 : Rw brC 2 w1 w.heap.size 65 v1 l := I1
    go_wp2
    go_ret
    exact ⟨v1, rfl, I1, b1⟩

set_option maxRecDepth 100000 in
set_option maxHeartbeats 1000000 in
theorem ins_nil (w : World) : Calls Try.prog 99 #[.slice none 0 0, .int .i64 0, .int .i64 0, .func (.func 77) #[] #[]] w fun r w' => r = .returned (.tuple #[]) ∧ w' = w := by
  go_enter Try.func99, Try.ntmps99
  go_wp2
  go_loopg [8] 0 (fun gk iv wr => iv = .int .i64 1 ∧ wr = w)
  case atStart => exact ⟨rfl, rfl⟩
  case round =>
    obtain ⟨rfl, rfl⟩ := hrel
    go_wp2
    go_end0
    exact ⟨rfl, rfl⟩
set_option maxRecDepth 100000 in
set_option maxHeartbeats 1000000 in
theorem stable_nil (w : World) : Calls Try.prog 94 #[.slice none 0 0, .int .i64 0, .func (.func 77) #[] #[]] w fun r w' => r = .returned (.tuple #[]) ∧ w' = w := by
  go_enter Try.func94, Try.ntmps94
  go_wp2
  go_loopg [7, 8] 0 (fun gk iv jv wr => iv = .int .i64 0 ∧ jv = .int .i64 20 ∧ wr = w)
  case atStart => exact ⟨rfl, rfl, rfl⟩
  case round =>
    obtain ⟨rfl, rfl, rfl⟩ := hrel
    go_wp2_with (go_at_call 99; refine (ins_nil _).mono ?_; rintro r1 w1 ⟨rfl, rfl⟩)
    obtain ⟨W0, rfl⟩ : ∃ W0, W0 = w1 := ⟨_, rfl⟩
    go_loopg [6] 0 (fun gk iv W => iv = .int .i64 20 ∧ W = W0)
    case atStart => exact ⟨rfl, rfl⟩
    case round =>
      obtain ⟨rfl, rfl⟩ := hrel
      go_wp2
      go_end0
      exact ⟨rfl, rfl⟩
set_option maxRecDepth 100000 in
set_option maxHeartbeats 1000000 in
theorem sort_nil (w : World) : Calls Try.prog 76 #[.slice none 0 0, .func (.func 77) #[] #[]] w fun r w' => r = .returned (.tuple #[]) ∧ w' = w := by
  go_enter Try.func76, Try.ntmps76
  go_wp2_with (go_at_call 94; refine (stable_nil _).mono ?_; rintro r1 w1 ⟨rfl, rfl⟩)
  go_end0
  exact ⟨rfl, rfl⟩
set_option maxRecDepth 100000 in
set_option maxHeartbeats 1000000 in
theorem sort_ok {w : World} {g n cap : Nat} {D : List (Int × Int)} (hn : n = D.length) (hP : Prs w g D) (hm : n ≤ 1152921504606846976) :
    Calls Try.prog 76 #[.slice (some ⟨g, 0, none⟩) n cap, .func (.func 77) #[] #[]] w fun r w' => r = .returned (.tuple #[]) ∧ Prs w' g (ssort D) ∧ Frm (fun j => j = g) w w' := by
  have CT := stable_ok (cap := cap) hn hP hm
  clear hn
  go_enter Try.func76, Try.ntmps76
  go_wp2_with (go_at_call 94; refine CT.mono ?_; rintro r1 w1 ⟨rfl, P1, F1⟩)
  go_end0
  exact ⟨rfl, P1, F1⟩

/-- A pile: its block, its opening brackets, the pairs found, has finding ended? -/
structure Pil (W : World) (B b : Nat) (vl vf : Value) (l f : List (Int × Int)) (ov : Bool) : Prop where
  blk : Blk W b 140 #[vl, vf, .bool ov, .bool true]
  rl : Rw opC 2 W B 145 vl l
  rf : Rw brC 2 W B 65 vf f
  a1 : ∀ j, vl.ownBlock = some j → j ≠ b ∧ vf.ownBlock ≠ some j
  a2 : ∀ j, vf.ownBlock = some j → j ≠ b
  hb : B ≤ b
/-- The blocks of a pile. -/
def PilF (b : Nat) (vl vf : Value) (j : Nat) : Prop := j = b ∨ vl.ownBlock = some j ∨ vf.ownBlock = some j
section
variable {W W' : World} {B b : Nat} {vl vf : Value} {l f : List (Int × Int)} {ov : Bool}
theorem Pil.frm {F : Nat → Prop} (h : Pil W B b vl vf l f ov) (hf : Frm F W W') (hn : ∀ j, PilF b vl vf j → ¬ F j) : Pil W' B b vl vf l f ov :=
  ⟨h.blk.frm hf (hn _ (.inl rfl)), h.rl.frm hf (fun j e => hn j (.inr (.inl e))), h.rf.frm hf (fun j e => hn j (.inr (.inr e))), h.a1, h.a2, h.hb⟩
theorem Pil.lt (h : Pil W B b vl vf l f ov) : ∀ j, PilF b vl vf j → B ≤ j ∧ j < W.heap.size := by
  rintro j (rfl | e | e)
  · exact ⟨h.hb, h.blk.lt⟩
  · exact h.rl.lt j e
  · exact h.rf.lt j e
theorem Pil.below {C : Nat} (h : Pil W B b vl vf l f ov) (hb : Below C W W') (hC : W.heap.size ≤ C) : Pil W' B b vl vf l f ov :=
  h.frm (Frm.of_below (F := fun _ => False) (hb.mono hC)) (fun _ _ h => h)
theorem Pil.drew (h : Pil W B b vl vf l f ov) : Pil W.drew B b vl vf l f ov := ⟨h.blk, h.rl, h.rf, h.a1, h.a2, h.hb⟩
theorem Pil.drewN (h : Pil W B b vl vf l f ov) (n : Nat) : Pil (W.drewN n) B b vl vf l f ov := ⟨h.blk, h.rl, h.rf, h.a1, h.a2, h.hb⟩
end

/-- A list of pairs that a call has answered. -/
def BrsAt (W : World) (B : Nat) (v : Value) (D : List (Int × Int)) : Prop := (v = .slice none 0 0 ∧ D = []) ∨ ∃ g cap, v = .slice (some ⟨g, 0, none⟩) D.length cap ∧ Prs W g D ∧ B ≤ g ∧ D.length ≤ cap

set_option maxRecDepth 100000 in
set_option maxHeartbeats 1000000 in
theorem PNew_ok {w : World} : Calls Try.prog 40 #[] w fun r w' => r = .returned (.pointer (some ⟨w.heap.size, 0, none⟩)) ∧ Pil w' w.heap.size w.heap.size (.slice none 0 0) (.slice none 0 0) [] [] false ∧ Below w.heap.size w w' := by
  go_enter Try.func40, Try.ntmps40
  go_wp2
  go_ret
  exact ⟨rfl, ⟨Blk.new w 140 _, Rw.nil _ _ _, Rw.nil _ _ _, by simp [Value.ownBlock], by simp [Value.ownBlock], Nat.le_refl _⟩, (Below.refl _ w).alloc (Nat.le_refl _) _⟩
set_option maxRecDepth 100000 in
set_option maxHeartbeats 1000000 in
theorem Pnone_ok {w : World} {b : Nat} {vl vf : Value} {ov : Bool} (h : Blk w b 140 #[vl, vf, .bool ov, .bool true]) : Calls Try.prog 73 #[.pointer (some ⟨b, 0, none⟩)] w fun r w' => r = .returned (.bool false) ∧ w' = w := by
  obtain ⟨c0, c1, c2, c3, cf, cl⟩ := h.c4
  go_enter Try.func73, Try.ntmps73
  go_wp2
  go_ret
  exact ⟨rfl, rfl⟩
set_option maxRecDepth 100000 in
set_option maxHeartbeats 1000000 in
theorem Pnone_nil {w : World} : Calls Try.prog 73 #[.pointer none] w fun r w' => r = .returned (.bool true) ∧ w' = w := by
  go_enter Try.func73, Try.ntmps73
  go_wp2
  go_ret
  exact ⟨rfl, rfl⟩
set_option maxRecDepth 100000 in
set_option maxHeartbeats 1000000 in
theorem Plen_ok {w : World} {B b : Nat} {vl vf : Value} {l f : List (Int × Int)} {ov : Bool} (h : Pil w B b vl vf l f ov) : Calls Try.prog 45 #[.pointer (some ⟨b, 0, none⟩)] w fun r w' => r = .returned (.int .i64 l.length) ∧ w' = w := by
  obtain ⟨A, c, rfl, h1, h2, _⟩ := h.rl.val
  obtain ⟨c0, c1, c2, c3, cf, cl⟩ := h.blk.c4
  go_enter Try.func45, Try.ntmps45
  go_wp2_with (go_at_call 73; refine (Pnone_ok h.blk).mono ?_; rintro r1 w1 ⟨rfl, rfl⟩)
  go_ret
  exact ⟨rfl, rfl⟩
set_option maxRecDepth 100000 in
set_option maxHeartbeats 1000000 in
theorem Plen_nil {w : World} : Calls Try.prog 45 #[.pointer none] w fun r w' => r = .returned (.int .i64 0) ∧ w' = w := by
  go_enter Try.func45, Try.ntmps45
  go_wp2_with (go_at_call 73; refine (Pnone_nil).mono ?_; rintro r1 w1 ⟨rfl, rfl⟩)
  go_ret
  exact ⟨rfl, rfl⟩
set_option maxRecDepth 100000 in
set_option maxHeartbeats 1000000 in
theorem Pbraces_nil {w : World} : Calls Try.prog 46 #[.pointer none] w fun r w' => r = .returned (.slice none 0 0) ∧ w' = w := by
  go_enter Try.func46, Try.ntmps46
  go_wp2_with (go_at_call 73; refine (Pnone_nil).mono ?_; rintro r1 w1 ⟨rfl, rfl⟩)
  go_ret
  exact ⟨rfl, rfl⟩
set_option maxRecDepth 100000 in
set_option maxHeartbeats 1000000 in
theorem Pbraces_ok {w : World} {B b : Nat} {vl vf : Value} {l f : List (Int × Int)} {ov : Bool} (h : Pil w B b vl vf l f ov) (hl : f.length * 16 ≤ 140737488351232) :
    Calls Try.prog 46 #[.pointer (some ⟨b, 0, none⟩)] w fun r w' => ∃ v, r = .returned v ∧ BrsAt w' w.heap.size v (ssort f) ∧ Below w.heap.size w w' := by
  obtain ⟨A, c, rfl, h1, h2, hr⟩ := h.rf.val
  obtain ⟨c0, c1, c2, c3, cf, cl⟩ := h.blk.c4
  have CN := Pnone_ok h.blk
  have CC := CloneB_ok (w := w) (c := c) rfl hr hl
  clear h h1 h2 hr
  obtain ⟨fl, hfl⟩ : ∃ fl, f.length = fl := ⟨_, rfl⟩
  rw [hfl] at c1 CC hl
  have HFL := Lib.hid hfl
  clear hfl
  go_enter Try.func46, Try.ntmps46
  go_wp2_with (first
    | (go_at_call 73; refine CN.mono ?_; rintro r1 w1 ⟨rfl, rfl⟩)
    | (go_at_call 75; refine CC.mono ?_; rintro r2 w2 ⟨cv, rfl, R2, b2⟩))
  rcases R2.cases' with ⟨rfl, rfl⟩ | ⟨g, cap, rfl, R3⟩
  · go_wp2_with (go_at_call 76; refine (sort_nil _).mono ?_; rintro r3 w3 ⟨rfl, rfl⟩)
    go_ret
    exact ⟨_, rfl, .inl ⟨rfl, rfl⟩, b2⟩
  · have hc := (R3.at_ encB)
    have CS := sort_ok (cap := cap) rfl R3.prs (by have := HFL.out; omega)
    go_wp2_with (go_at_call 76; refine CS.mono ?_; rintro r3 w3 ⟨rfl, P3, F3⟩)
    go_ret
    refine ⟨.slice (some ⟨g, 0, none⟩) f.length cap, rfl, .inr ⟨g, cap, by rw [ssort_length], P3, hc.2.2.2.1, by rw [ssort_length]; exact hc.2.1⟩, b2.trans (F3.below b2.size (fun k hk e => by have := hc.2.2.2.1; omega))⟩
end Go.Proofs.Ytpdackbcnbhppaa
