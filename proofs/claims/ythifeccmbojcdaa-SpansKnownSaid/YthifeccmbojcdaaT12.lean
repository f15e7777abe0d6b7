/- The chapter's examples and the number. -/
import Derived.Test.YthifeccmbojcdaaT11
namespace Go.Proofs.Ythifeccmbojcdaa
open Go.RowKit
attribute [local go_sem] Oper.semAt_some

theorem seq_two {W : World} {cl lv : List Int} {a1 a2 : Array Value} {n : Nat} (base : Int) (h1 : a1 = (cl.map (.int .u8)).toArray) (h2 : a2 = (lv.map (.int .i8)).toArray) (hn : n = cl.length) (hn2 : n = lv.length) (hl : n ≤ 8388608) :
    Calls Try.prog 40 #[.slice (some ⟨W.heap.size, 0, none⟩) n n, .slice (some ⟨W.heap.size, 0, none⟩) n n, .slice (some ⟨W.heap.size + 1, 0, none⟩) n n, .int .i8 base] ((W.alloc (.cells a1 38)).alloc (.cells a2 40)) fun r w' =>
      ∃ ov, r = .returned (.tuple #[ov, .int .i64 (seqsL cl cl lv base).2]) ∧ SqsOwn w' (W.heap.size + 2) ov (seqsL cl cl lv base).1 ∧ Below W.heap.size W w' := by
  subst h1 h2
  have C0 : Blk ((W.alloc (.cells (cl.map (.int .u8)).toArray 38)).alloc (.cells (lv.map (.int .i8)).toArray 40)) W.heap.size 38 (cl.map (.int .u8)).toArray := (Blk.new W 38 _).alloc _
  have V0 : Blk ((W.alloc (.cells (cl.map (.int .u8)).toArray 38)).alloc (.cells (lv.map (.int .i8)).toArray 40)) (W.heap.size + 1) 40 (lv.map (.int .i8)).toArray := Blk.at_ (by simp)
  have b0 := ((Below.refl _ W).alloc (Nat.le_refl _) (.cells (cl.map (.int .u8)).toArray 38)).alloc (by simp) (.cells (lv.map (.int .i8)).toArray 40)
  refine (Sequences_any (c0 := n) (c1 := n) (c2 := n) base hn hn hn2 (rd_lit C0) (rd_lit C0) (rd_lit V0) hl).mono ?_
  rintro r w' ⟨ov, rfl, hS, hb⟩
  exact ⟨ov, rfl, by simpa using hS, b0.trans (hb.mono b0.size)⟩
theorem seq_three {W : World} {cl nw lv : List Int} {a1 a2 a3 : Array Value} {n : Nat} (base : Int) (h1 : a1 = (cl.map (.int .u8)).toArray) (h3 : a3 = (nw.map (.int .u8)).toArray) (h2 : a2 = (lv.map (.int .i8)).toArray) (hn : n = cl.length) (hn1 : n = nw.length) (hn2 : n = lv.length) (hl : n ≤ 8388608) :
    Calls Try.prog 40 #[.slice (some ⟨W.heap.size, 0, none⟩) n n, .slice (some ⟨W.heap.size + 1, 0, none⟩) n n, .slice (some ⟨W.heap.size + 1 + 1, 0, none⟩) n n, .int .i8 base] (((W.alloc (.cells a1 38)).alloc (.cells a3 38)).alloc (.cells a2 40)) fun r w' =>
      ∃ ov, r = .returned (.tuple #[ov, .int .i64 (seqsL cl nw lv base).2]) ∧ SqsOwn w' (W.heap.size + 3) ov (seqsL cl nw lv base).1 ∧ Below W.heap.size W w' := by
  subst h1 h2 h3
  have C0 : Blk (((W.alloc (.cells (cl.map (.int .u8)).toArray 38)).alloc (.cells (nw.map (.int .u8)).toArray 38)).alloc (.cells (lv.map (.int .i8)).toArray 40)) W.heap.size 38 (cl.map (.int .u8)).toArray := ((Blk.new W 38 _).alloc _).alloc _
  have N0 : Blk (((W.alloc (.cells (cl.map (.int .u8)).toArray 38)).alloc (.cells (nw.map (.int .u8)).toArray 38)).alloc (.cells (lv.map (.int .i8)).toArray 40)) (W.heap.size + 1) 38 (nw.map (.int .u8)).toArray := (Blk.at_ (by simp)).alloc _
  have V0 : Blk (((W.alloc (.cells (cl.map (.int .u8)).toArray 38)).alloc (.cells (nw.map (.int .u8)).toArray 38)).alloc (.cells (lv.map (.int .i8)).toArray 40)) (W.heap.size + 1 + 1) 40 (lv.map (.int .i8)).toArray := Blk.at_ (by simp)
  have b0 := (((Below.refl _ W).alloc (Nat.le_refl _) (.cells (cl.map (.int .u8)).toArray 38)).alloc (by simp) (.cells (nw.map (.int .u8)).toArray 38)).alloc (by simp; omega) (.cells (lv.map (.int .i8)).toArray 40)
  refine (Sequences_any (c0 := n) (c1 := n) (c2 := n) base hn hn1 hn2 (rd_lit C0) (rd_lit N0) (rd_lit V0) hl).mono ?_
  rintro r w' ⟨ov, rfl, hS, hb⟩
  exact ⟨ov, rfl, by simpa using hS, b0.trans (hb.mono b0.size)⟩

theorem seqs_ka : seqsL [1, 21, 2, 1] [1, 21, 2, 1] [0, 0, 1, 1] 0 = ([⟨[0, 1], [1, 21], 0, 1, 1⟩, ⟨[2, 3], [2, 1], 1, 2, 2⟩], 0) := by
  have r : runL [0, 0, 1, 1] (keptL [1, 21, 2, 1]) = [⟨0, 2, 0⟩, ⟨2, 4, 1⟩] := by
    have e : keptL [1, 21, 2, 1] = [0, 1, 2, 3] := by decide
    rw [e]
    simp [runL, grp, spanN, lvAt, toRn]
  unfold seqsL
  rw [if_neg (by decide), if_neg (by decide), r]
  rfl
theorem seqs_kb : seqsL [2, 1] [2, 1] [1, 2] 1 = ([⟨[0], [2], 1, 2, 1⟩, ⟨[1], [1], 2, 1, 1⟩], 0) := by
  have r : runL [1, 2] (keptL [2, 1]) = [⟨0, 1, 1⟩, ⟨1, 2, 2⟩] := by
    have e : keptL [2, 1] = [0, 1] := by decide
    rw [e]
    simp [runL, grp, spanN, lvAt, toRn]
  unfold seqsL
  rw [if_neg (by decide), if_neg (by decide), r]
  rfl
theorem seqs_kn : seqsL [] [] [] 0 = ([], 0) := by
  have r : runL [] (keptL []) = [] := by
    have e : keptL [] = [] := by decide
    rw [e]
    simp [runL, grp]
  unfold seqsL
  rw [if_neg (by decide), if_neg (by decide), r]
  rfl
theorem seqs_kh : seqsL [10, 10] [10, 10] [7, 7] 0 = ([], 0) := by
  have r : runL [7, 7] (keptL [10, 10]) = [] := by
    have e : keptL [10, 10] = [] := by decide
    rw [e]
    simp [runL, grp]
  unfold seqsL
  rw [if_neg (by decide), if_neg (by decide), r]
  rfl
theorem seqs_ki : seqsL [1] [1] [127] 0 = ([], 170) := by
  unfold seqsL
  rw [if_neg (by decide), if_pos (by decide)]
theorem seqs_kj : seqsL [1] [15] [0] 0 = ([], 170) := by
  unfold seqsL
  rw [if_neg (by decide), if_pos (by decide)]
theorem sqs_nil {W : World} {B : Nat} {ov : Value} (h : SqsOwn W B ov []) : ∃ A c, ov = .slice A 0 c := by
  obtain ⟨L, hL, hS⟩ := h
  have : L = [] := List.map_eq_nil_iff.1 hL
  subst this
  exact row_shape hS.row

set_option maxRecDepth 100000 in
set_option maxHeartbeats 4000000 in
theorem known17_walk (w : World) : Calls Try.prog 9 #[] w fun r w' => r = .returned (.bool true) ∧ Below w.heap.size w w' := by
  have hA := seq_two (W := w) (cl := [1, 21, 2, 1]) (lv := [0, 0, 1, 1]) (n := 4) 0 rfl rfl rfl rfl (by omega)
  have hB := fun (W : World) => seq_three (W := W) (cl := [2, 1]) (nw := [2, 1]) (lv := [1, 2]) (n := 2) 1 rfl rfl rfl rfl rfl rfl (by omega)
  have hC := fun (W : World) => Sequences_any (w := W) (n0 := 0) (n1 := 0) (n2 := 0) (c0 := 0) (c1 := 0) (c2 := 0) (A0 := none) (A1 := none) (A2 := none) (cl := []) (nw := []) (lv := []) (B0 := 0) (B1 := 0) (B2 := 0) 0 rfl rfl rfl ⟨rfl, fun h => by simp at h⟩ ⟨rfl, fun h => by simp at h⟩ ⟨rfl, fun h => by simp at h⟩ (by omega)
  have hD := fun (W : World) => seq_three (W := W) (cl := [10, 10]) (nw := [10, 10]) (lv := [7, 7]) (n := 2) 0 rfl rfl rfl rfl rfl rfl (by omega)
  have hE := fun (W : World) => seq_three (W := W) (cl := [1]) (nw := [1]) (lv := [127]) (n := 1) 0 rfl rfl rfl rfl rfl rfl (by omega)
  have hF := fun (W : World) => seq_three (W := W) (cl := [1]) (nw := [15]) (lv := [0]) (n := 1) 0 rfl rfl rfl rfl rfl rfl (by omega)
  rw [seqs_ka] at hA
  rw [seqs_kb] at hB
  rw [seqs_kn] at hC
  rw [seqs_kh] at hD
  rw [seqs_ki] at hE
  rw [seqs_kj] at hF
  simp only [List.map_cons, List.map_nil] at hA hB hD hE hF
  go_enter Try.func9, Try.ntmps9
  go_wp2_with (first
    | (go_at_call 37; refine (awake17_ok _).mono ?_; rintro r9 w9 ⟨rfl, b9⟩)
    | (go_at_call 35; refine (Way_ok _ _).mono ?_; rintro r8 w8 ⟨rfl, rfl⟩)
    | (go_at_call 40; have t := bF; refine (Sequences_arg 0 (.inl (by decide))).mono ?_; rintro r7 w7 ⟨rfl, rfl⟩
       have hx : Below w2.heap.size w2 ((w6.alloc (.cells #[.int .u8 1] 38)).alloc (.cells #[.int .i8 0] 40)) := (((((bC.trans (bD.mono bC.size)).trans (bE.mono (Nat.le_trans bC.size bD.size))).trans (bF.mono (Nat.le_trans bC.size (Nat.le_trans bD.size bE.size)))).alloc (Nat.le_trans bC.size (Nat.le_trans bD.size (Nat.le_trans bE.size bF.size))) _).alloc (by simp; have := bC.size; have := bD.size; have := bE.size; have := bF.size; omega) _)
       replace x4 := (hx.cell (p := ⟨g, 4, none⟩) (Nat.lt_of_lt_of_le hg bB.size)).trans ((bB.cell (p := ⟨g, 4, none⟩) hg).trans x4)
       replace x8 := (hx.cell (p := ⟨g, 8, none⟩) (Nat.lt_of_lt_of_le hg bB.size)).trans ((bB.cell (p := ⟨g, 8, none⟩) hg).trans x8)
       replace x9 := (hx.cell (p := ⟨g, 9, none⟩) (Nat.lt_of_lt_of_le hg bB.size)).trans ((bB.cell (p := ⟨g, 9, none⟩) hg).trans x9)
       replace y3 := (hx.cell (p := ⟨g', 3, none⟩) hg').trans y3
       replace y4 := (hx.cell (p := ⟨g', 4, none⟩) hg').trans y4
       replace y8 := (hx.cell (p := ⟨g', 8, none⟩) hg').trans y8
       replace y9 := (hx.cell (p := ⟨g', 9, none⟩) hg').trans y9)
    | (go_at_call 40; have t := bE; refine (hF _).mono ?_; rintro r6 w6 ⟨o6, rfl, S6, bF⟩)
    | (go_at_call 40; have t := bD; refine (hE _).mono ?_; rintro r5 w5 ⟨o5, rfl, S5, bE⟩)
    | (go_at_call 40; have t := bC; refine (hD _).mono ?_; rintro r4 w4 ⟨o4, rfl, S4, bD⟩)
    | (go_at_call 40; have t := bB; refine (hC _).mono ?_; rintro r3 w3 ⟨o3, rfl, S3, bC⟩; obtain ⟨A3, c3, rfl⟩ := sqs_nil S3)
    | (go_at_call 40; have t := bA; refine (hB _).mono ?_; rintro r2 w2 ⟨o2, rfl, S2, bB⟩
       obtain ⟨g', cap', A0', k0', C0', j0', A1', k1', C1', j1', rfl, hg', -, -, -, y3, y4, -, -, -, y8, y9, -, -, -, -⟩ := two_sqs S2)
    | (go_at_call 40; refine hA.mono ?_; rintro r1 w1 ⟨o1, rfl, S1, bA⟩
       obtain ⟨g, cap, A0, k0, C0, j0, A1, k1, C1, j1, rfl, hg, -, -, -, -, x4, -, -, -, x8, x9, -, -, -, -⟩ := two_sqs S1))
  go_ret
  have e2 := bA.trans (bB.mono bA.size)
  have e3 := e2.trans (hx.mono e2.size)
  exact ⟨rfl, e3.trans (b9.mono e3.size)⟩
end Go.Proofs.Ythifeccmbojcdaa
