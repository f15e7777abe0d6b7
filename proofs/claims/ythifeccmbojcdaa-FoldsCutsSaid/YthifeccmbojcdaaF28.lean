/- FoldsCuts walked. -/
import Derived.Test.YthifeccmbojcdaaF27
import Derived.Test.YthifeccmbojcdaaF26
import Derived.Test.YthifeccmbojcdaaF6
namespace Go.Proofs.Ythifeccmbojcdaa
open Go.RowKit

set_option maxRecDepth 100000 in
set_option maxHeartbeats 4000000 in
theorem cuts_walk {w : World} {A A2 : Option Addr} {c c2 : Nat} {l ws : List Int} (h : RdInts w w.heap.size .u8 A l) (h2 : RdInts w w.heap.size .i64 A2 ws) (hb : ws.length * 8 ≤ 140737488351232) (most : Int) :
    Calls Try.prog 4 #[.slice A l.length c, .slice A2 ws.length c2, .int .i64 most] w fun e w' => e = .returned (.bool true) ∧ Below w.heap.size w w' := by
  have hbig : (ws.length : Int) ≤ 140737488351232 := by omega
  by_cases hl : 300 < l.length
  · go_enter Try.func4, Try.ntmps4
    go_wp2_with (go_at_call 23; refine (awake_ok _).mono ?_; rintro r1 w1 ⟨rfl, b1⟩)
    go_ret
    exact ⟨rfl, b1⟩
  · obtain ⟨X, e, hX⟩ := CutIs.ex l ws most
    have hXl := hX.small
    have HX := Lib.hid hX
    clear hX
    go_enter Try.func4, Try.ntmps4
    go_upto_region 4 with (go_at_call 14; refine (lent_ok h (by omega)).mono ?_; rintro r1 w1 ⟨g, cap, rfl, I1, b1⟩)
    have I0 := Ints.nil w1 w1.heap.size 3 .i64
    have q2 := h2.below b1 (.inr (Nat.le_refl _))
    have hs1 := b1.size
    go_wp2_with (at_builtin; go_must (refine wpList_appIs ei24 rfl rfl rfl I0 rfl rfl q2 ?_ ?_ (Nat.le_refl _) ?_))
    · simp; unfold maxLen; omega
    · simp; omega
    intro v2 w2 I2 g2 hv2
    have I2 : Ints w2 w1.heap.size 3 .i64 v2 ws := I2
    obtain ⟨A3, c3, rfl, hc3, hc3m, _⟩ := I2.val
    have b2 := (Below.refl w1.heap.size w1).grown g2 (Nat.le_refl _) (by simp [Value.ownBlock])
    have rd2 : RdInts (w2.alloc (.cells #[.int .i64 (-7), .int .i64 (-8)] 3)) (w2.heap.size + 1) .i64 (some ⟨w2.heap.size, 0, none⟩) [-7, -8] := by
      have h := Reads.blk (n := 2) (size := 1) (Blk.new w2 3 #[.int .i64 (-7), .int .i64 (-8)]) rfl
      rw [World.size_alloc] at h
      exact h
    have hs2 := b2.size
    go_wp2_with (at_builtin; go_must (refine wpList_appIs ei24 rfl rfl rfl (I2.alloc _) rfl rfl rd2 ?_ ?_ ?_ ?_))
    · simp; unfold maxLen; omega
    · simp; omega
    · first | omega | (simp; omega)
    intro v3 w3 I3 g3 hv3
    have b3 := (b2.alloc hs2 (.cells #[.int .i64 (-7), .int .i64 (-8)] 3)).grown g3 (by simp; omega) (fun k hk => (I2.lt k hk).1)
    obtain ⟨gw, capw, rfl⟩ := I3.form (by simp)
    obtain ⟨-, hcap, hmax, _, hgw, hfw, hcw⟩ := I3.at_
    simp only [List.length_append, List.length_cons, List.length_nil, Nat.zero_add, Nat.reduceAdd] at hcap I3 hcw ⊢
    have hm1 := hcw ws.length (by omega)
    have hm2 := hcw (ws.length + 1) (by omega)
    have e77 : (ws ++ [-7, -8]).getD ws.length 0 = -7 := by simp [List.getD]
    have e78 : (ws ++ [-7, -8]).getD (ws.length + 1) 0 = -8 := by simp [List.getD]
    rw [e77] at hm1
    rw [e78] at hm2
    have hcapn : ws.length ≤ capw := by omega
    have hcapI : (ws.length : Int) ≤ (capw : Int) := by omega
    have b03 := b1.trans (b3.mono hs1)
    have I1' := I1.below b3 (Nat.le_refl _)
    have rl : RdInts w3 w3.heap.size .u8 (some ⟨g, 0, none⟩) l := RdInts.pre I1'.rd
    have rw_ : RdInts w3 w3.heap.size .i64 (some ⟨gw, 0, none⟩) ws := RdInts.pre I3.rd
    have q1 := h.below b03 (.inr (Nat.le_refl _))
    have q3 := h2.below b03 (.inr (Nat.le_refl _))
    clear I0 I2 g2 hv2 hc3 hc3m rd2 hv3 g3 e77 e78 hcw b1 b2 b3 q2 I1 hs1 hs2
    unfold maxLen at hmax
    go_upto_region 6 with (go_at_call 24; refine (Cut_any rfl rfl rl rw_ hcapn (by omega) HX.out).mono ?_; rintro r4 w4 ⟨v4, rfl, I4, b4⟩)
    obtain ⟨A4, c4, rfl, -, -, -⟩ := I4.val
    have rl4 := rl.below b4 (.inr (Nat.le_refl _))
    have rw4 := rw_.below b4 (.inr (Nat.le_refl _))
    go_upto_region 7 with (go_at_call 24; refine (Cut_any rfl rfl rl4 rw4 hcapn (by omega) HX.out).mono ?_; rintro r5 w5 ⟨v5, rfl, I5, b5⟩)
    obtain ⟨A5, c5, rfl, -, -, -⟩ := I5.val
    have b35 := b4.trans (b5.mono b4.size)
    have q15 := q1.below b35 (.inr (Nat.le_refl _))
    have hcl : (l.map clsC).length = l.length := List.length_map _
    have HCL := Lib.hid hcl
    clear hcl
    go_upto_region 8 with (first
      | (go_at_call 18; refine (rClasses_ok q15 (by omega)).mono ?_; rintro r6 w6 ⟨v6, rfl, I6, b6⟩; obtain ⟨A6, c6, rfl, -, -, rd6⟩ := I6.val; rw [HCL.out])
      | (have t := b6; go_at_call 25; refine (rCut_any (l := l.map clsC) (ws := ws) HCL.out.symm rfl rd6 (q3.below (b35.trans (b6.mono b35.size)) (.inr (Nat.le_refl _))) (by omega) HX.out.map).mono ?_; rintro r7 w7 ⟨v7, rfl, I7, b7⟩))
    obtain ⟨A7, c7, rfl, -, -, -⟩ := I7.val
    have b57 := b6.trans (b7.mono b6.size)
    have hs3 := b4.size
    have hs4 := b5.size
    have hs5 := b57.size
    have hs6 := b6.size
    have J4 := (I4.below b5 (Nat.le_refl _)).below b57 (Nat.le_refl _)
    have J5 := I5.below b57 (Nat.le_refl _)
    have b37 := b35.trans (b57.mono b35.size)
    have hlt4 := I4.lt
    have hlt5 := I5.lt
    have hlt7 := I7.lt
    have K1 := I1'.below b37 (Nat.le_refl _)
    have q17 := q1.below b37 (.inr (Nat.le_refl _))
    have q37 := q3.below b37 (.inr (Nat.le_refl _))
    have rw7 := rw_.below b37 (.inr (Nat.le_refl _))
    obtain ⟨k1, k2, -⟩ := bcell b37
    have m1 := (k1 gw (0 + ws.length) (by simpa using hgw)).trans (by simpa using hm1)
    have m2 := (k1 gw (0 + (ws.length + 1)) (by simpa using hgw)).trans (by simpa using hm2)
    simp only [Nat.zero_add] at m1 m2
    clear hm1 hm2 k1 k2 rl rw_ rl4 rw4 q1 q3 q15 I4 I5 I6 rd6 I1' I3 hfw
    have hXn : X.length ≤ 1048576 := by omega
    have R4 := J4.rd
    have R7 := I7.rd
    have hsw := b37.size
    have hs03 := b03.size
    have b07 := b03.trans (b37.mono hs03)
    go_upto_region 10 with (first
      | (have t := b9; go_at_call 20; refine (numbers_ok rfl rfl ((rw7.below b8 (.inr (Nat.le_refl _))).below b9 (.inr (Nat.le_refl _))) ((q37.below b8 (.inr (Nat.le_refl _))).below b9 (.inr (Nat.le_refl _))) (by omega)).mono ?_; rintro r10 w10 ⟨rfl, b10⟩)
      | (have t := b8; go_at_call 22; refine (kept_ok (K1.below b8 (Nat.le_refl _)) (q17.below b8 (.inr (Nat.le_refl _))) (by omega)).mono ?_; rintro r9 w9 ⟨rfl, b9⟩; obtain ⟨u1, -, -⟩ := bcell (b8.trans (b9.mono b8.size)); have n1 := (u1 gw ws.length (by omega)).trans m1; have n2 := (u1 gw (ws.length + 1) (by omega)).trans m2)
      | (go_at_call 20; refine (numbers_ok rfl rfl R4 R7 (by omega)).mono ?_; rintro r8 w8 ⟨rfl, b8⟩))
    have b89 := (b8.trans (b9.mono b8.size)).trans (b10.mono (b8.trans (b9.mono b8.size)).size)
    have L4 := J4.below b89 (Nat.le_refl _)
    have L5 := J5.below b89 (Nat.le_refl _)
    have L7 := I7.below b89 (Nat.le_refl _)
    have hs89 := b89.size
    have b010 := b07.trans (b89.mono b07.size)
    have hgr := grown_ok (c2 := c5) (c3 := c7) L4 rfl (by omega) rfl rfl rfl L5.rd L7.rd hXn
      (fun x off e he => by have h1 := hlt4 x he; have h2 := hlt5 x (by rw [e]; rfl); omega)
      (fun x off e he => by have h1 := hlt4 x he; have h2 := hlt7 x (by rw [e]; rfl); omega)
    clear J4 J5 I7 R4 R7 K1 rw7 q17 q37 m1 m2 n1 n2 u1
    go_wp2_with (first
      | (go_at_call 21; refine hgr.mono ?_; rintro r11 w11 ⟨rfl, F11⟩)
      | (go_at_call 23; refine (awake_ok _).mono ?_; rintro r12 w12 ⟨rfl, b12⟩))
    go_ret
    have b011 := b010.trans (F11.below (B := w.heap.size) b010.size (fun j hj e => by have := hlt4 j e; omega))
    exact ⟨rfl, b011.trans (b12.mono b011.size)⟩
end Go.Proofs.Ythifeccmbojcdaa
