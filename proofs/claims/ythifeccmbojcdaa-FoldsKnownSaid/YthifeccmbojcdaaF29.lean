/- FoldsMarks walked. -/
import Derived.Test.YthifeccmbojcdaaF25
import Derived.Test.YthifeccmbojcdaaF26
import Derived.Test.YthifeccmbojcdaaF27
import Derived.Test.YthifeccmbojcdaaF6
namespace Go.Proofs.Ythifeccmbojcdaa
open Go.RowKit

/-- What Marks answers. -/
def MarkIs (l v os : List Int) (X : List Int) (e : Int) : Prop :=
  (v.length ≠ l.length ∧ X = [] ∧ e = 2) ∨ (v.length = l.length ∧ ¬ GoodO l.length os os.length ∧ X = [] ∧ e = 2) ∨ (v.length = l.length ∧ GoodO l.length os os.length ∧ X = mrkT l v os os.length ∧ e = 0)
theorem MarkIs.ex (l v os : List Int) : ∃ X e, MarkIs l v os X e := by
  by_cases h1 : v.length = l.length
  · by_cases h2 : GoodO l.length os os.length
    · exact ⟨_, _, .inr (.inr ⟨h1, h2, rfl, rfl⟩)⟩
    · exact ⟨_, _, .inr (.inl ⟨h1, h2, rfl, rfl⟩)⟩
  · exact ⟨_, _, .inl ⟨h1, rfl, rfl⟩⟩
theorem MarkIs.map {l v os X : List Int} {e : Int} (h : MarkIs l v os X e) : MarkIs (l.map clsC) v os X e := by
  unfold MarkIs at h ⊢
  rw [List.length_map]
  rcases h with h | h | ⟨h1, h2, h3, h4⟩
  · exact .inl h
  · exact .inr (.inl h)
  · exact .inr (.inr ⟨h1, h2, by rw [mrkT_map h2 _ (Nat.le_refl _)]; exact h3, h4⟩)
theorem MarkIs.small {l v os X : List Int} {e : Int} (h : MarkIs l v os X e) : X.length ≤ os.length := by
  rcases h with ⟨_, rfl, _⟩ | ⟨_, _, rfl, _⟩ | ⟨_, _, rfl, _⟩
  · simp
  · simp
  · rw [mrkT_length]; exact Nat.le_refl _
theorem Marks_any {w : World} {B B2 B3 : Nat} {A V O : Option Addr} {n n2 o c cv co : Nat} {l v os : List Int} {X : List Int} {e : Int} (hn : n = l.length) (hv : n2 = v.length) (ho : o = os.length) (h : RdInts w B .u8 A l) (h2 : RdInts w B2 .i8 V v) (h3 : RdInts w B3 .i64 O os) (hcn : n ≤ c) (hl : n ≤ 1048576) (hol : o ≤ 1048576) (hX : MarkIs l v os X e) :
    Calls Try.prog 26 #[.slice A n c, .slice V n2 cv, .slice O o co] w fun r w' => ∃ v', r = .returned (.tuple #[v', .int .i64 e]) ∧ Ints w' w.heap.size 3 .i64 v' X ∧ Below w.heap.size w w' := by
  rcases hX with ⟨h1, rfl, rfl⟩ | ⟨h1, hb, rfl, rfl⟩ | ⟨h1, hg, rfl, rfl⟩
  · refine (Marks_len (by omega)).mono ?_
    rintro r w' ⟨rfl, rfl⟩
    exact ⟨_, rfl, Ints.nil _ _ _ _, Below.refl _ _⟩
  · refine (Marks_bad (by omega) ho h3 hl hol (by rw [hn, ho]; exact hb)).mono ?_
    rintro r w' ⟨rfl, b⟩
    exact ⟨_, rfl, Ints.nil _ _ _ _, b⟩
  · have := Marks_ok (c := c) (cv := cv) (co := co) hn hv (by omega) ho h h2 h3 hcn hl hol (by rw [hn, ho]; exact hg)
    rw [ho] at this ⊢
    exact this
theorem rMarks_any {w : World} {B B2 B3 : Nat} {A V O : Option Addr} {n n2 o c cv co : Nat} {l v os : List Int} {X : List Int} {e : Int} (hn : n = l.length) (hv : n2 = v.length) (ho : o = os.length) (h : RdInts w B .u8 A l) (h2 : RdInts w B2 .i8 V v) (h3 : RdInts w B3 .i64 O os) (hl : n ≤ 1048576) (hol : o ≤ 1048576) (hX : MarkIs l v os X e) :
    Calls Try.prog 27 #[.slice A n c, .slice V n2 cv, .slice O o co] w fun r w' => ∃ v', r = .returned (.tuple #[v', .int .i64 e]) ∧ Ints w' w.heap.size 3 .i64 v' X ∧ Below w.heap.size w w' := by
  rcases hX with ⟨h1, rfl, rfl⟩ | ⟨h1, hb, rfl, rfl⟩ | ⟨h1, hg, rfl, rfl⟩
  · refine (rMarks_len (by omega)).mono ?_
    rintro r w' ⟨rfl, rfl⟩
    exact ⟨_, rfl, Ints.nil _ _ _ _, Below.refl _ _⟩
  · refine (rMarks_bad (by omega) ho h3 hol (by rw [hn, ho]; exact hb)).mono ?_
    rintro r w' ⟨rfl, b⟩
    exact ⟨_, rfl, Ints.nil _ _ _ _, b⟩
  · have := rMarks_ok (c := c) (cv := cv) (co := co) hn hv (by omega) ho h h2 h3 hl hol (by rw [hn, ho]; exact hg)
    rw [ho] at this ⊢
    exact this

set_option maxRecDepth 100000 in
set_option maxHeartbeats 4000000 in
theorem marks_walk {w : World} {A V A2 : Option Addr} {c cv c2 : Nat} {l v ws : List Int} (h : RdInts w w.heap.size .u8 A l) (hv : RdInts w w.heap.size .i8 V v) (h2 : RdInts w w.heap.size .i64 A2 ws) (hl : l.length ≤ 1048576) :
    Calls Try.prog 5 #[.slice A l.length c, .slice V v.length cv, .slice A2 ws.length c2] w fun e w' => e = .returned (.bool true) ∧ Below w.heap.size w w' := by
  by_cases hw : 300 < ws.length
  · go_enter Try.func5, Try.ntmps5
    go_wp2_with (go_at_call 23; refine (awake_ok _).mono ?_; rintro r1 w1 ⟨rfl, b1⟩)
    go_ret
    exact ⟨rfl, b1⟩
  · obtain ⟨X, e, hX⟩ := MarkIs.ex l v ws
    have hb : ws.length * 8 ≤ 140737488351232 := by omega
    have hbig : (ws.length : Int) ≤ 140737488351232 := by omega
    have hXl := hX.small
    have HX := Lib.hid hX
    clear hX
    go_enter Try.func5, Try.ntmps5
    go_upto_region 4 with (go_at_call 14; refine (lent_ok h (by omega)).mono ?_; rintro r1 w1 ⟨g, cap, rfl, I1, b1⟩)
    have I0 := Ints.nil w1 w1.heap.size 3 .i64
    have q2 := h2.below b1 (.inr (Nat.le_refl _))
    have hs1 := b1.size
    go_wp2_with (at_builtin; go_must (refine wpList_appIs ei24 rfl rfl rfl I0 rfl rfl q2 ?_ ?_ (Nat.le_refl _) ?_))
    · simp; unfold maxLen; omega
    · simp; omega
    intro v2 w2 I2 g2 hv2
    have I2 : Ints w2 w1.heap.size 3 .i64 v2 ws := I2
    obtain ⟨A3, c3, rfl, hc3, hc3m, _⟩ := I2.val
    have b2 := (Below.refl w1.heap.size w1).grown g2 (Nat.le_refl _) (by simp [Value.ownBlock])
    have rd2 : RdInts (w2.alloc (.cells #[.int .i64 (-7), .int .i64 (-8)] 3)) (w2.heap.size + 1) .i64 (some ⟨w2.heap.size, 0, none⟩) [-7, -8] := by
      have h := Reads.blk (n := 2) (size := 1) (Blk.new w2 3 #[.int .i64 (-7), .int .i64 (-8)]) rfl
      rw [World.size_alloc] at h
      exact h
    have hs2 := b2.size
    go_wp2_with (at_builtin; go_must (refine wpList_appIs ei24 rfl rfl rfl (I2.alloc _) rfl rfl rd2 ?_ ?_ ?_ ?_))
    · simp; unfold maxLen; omega
    · simp; omega
    · first | omega | (simp; omega)
    intro v3 w3 I3 g3 hv3
    have b3 := (b2.alloc hs2 (.cells #[.int .i64 (-7), .int .i64 (-8)] 3)).grown g3 (by simp; omega) (fun k hk => (I2.lt k hk).1)
    obtain ⟨gw, capw, rfl⟩ := I3.form (by simp)
    obtain ⟨-, hcap, hmax, _, hgw, hfw, hcw⟩ := I3.at_
    simp only [List.length_append, List.length_cons, List.length_nil, Nat.zero_add, Nat.reduceAdd] at hcap I3 hcw ⊢
    have hm1 := hcw ws.length (by omega)
    have hm2 := hcw (ws.length + 1) (by omega)
    have e77 : (ws ++ [-7, -8]).getD ws.length 0 = -7 := by simp [List.getD]
    have e78 : (ws ++ [-7, -8]).getD (ws.length + 1) 0 = -8 := by simp [List.getD]
    rw [e77] at hm1
    rw [e78] at hm2
    have hcapn : ws.length ≤ capw := by omega
    have hcapI : (ws.length : Int) ≤ (capw : Int) := by omega
    have b03 := b1.trans (b3.mono hs1)
    have I1' := I1.below b3 (Nat.le_refl _)
    have rl : RdInts w3 w3.heap.size .u8 (some ⟨g, 0, none⟩) l := RdInts.pre I1'.rd
    have rw_ : RdInts w3 w3.heap.size .i64 (some ⟨gw, 0, none⟩) ws := RdInts.pre I3.rd
    have q1 := h.below b03 (.inr (Nat.le_refl _))
    have qv := hv.below b03 (.inr (Nat.le_refl _))
    have hgc := I1'.at_.2.1
    simp only [List.length_append, List.length_cons, List.length_nil] at hgc
    have hgc2 : l.length ≤ cap := by omega
    clear hgc
    have q3 := h2.below b03 (.inr (Nat.le_refl _))
    clear I0 I2 g2 hv2 hc3 hc3m rd2 hv3 g3 e77 e78 hcw b1 b2 b3 q2 I1 hs1 hs2
    unfold maxLen at hmax
    go_upto_region 6 with (go_at_call 26; refine (Marks_any rfl rfl rfl rl qv rw_ hgc2 hl (by omega) HX.out).mono ?_; rintro r4 w4 ⟨v4, rfl, I4, b4⟩)
    obtain ⟨A4, c4, rfl, -, -, -⟩ := I4.val
    have rl4 := rl.below b4 (.inr (Nat.le_refl _))
    have rw4 := rw_.below b4 (.inr (Nat.le_refl _))
    have qv4 := qv.below b4 (.inr (Nat.le_refl _))
    go_upto_region 7 with (go_at_call 26; refine (Marks_any rfl rfl rfl rl4 qv4 rw4 hgc2 hl (by omega) HX.out).mono ?_; rintro r5 w5 ⟨v5, rfl, I5, b5⟩)
    obtain ⟨A5, c5, rfl, -, -, -⟩ := I5.val
    have b35 := b4.trans (b5.mono b4.size)
    have q15 := q1.below b35 (.inr (Nat.le_refl _))
    have qv5 := qv.below b35 (.inr (Nat.le_refl _))
    have hcl : (l.map clsC).length = l.length := List.length_map _
    have HCL := Lib.hid hcl
    clear hcl
    go_upto_region 8 with (first
      | (go_at_call 18; refine (rClasses_ok q15 (by omega)).mono ?_; rintro r6 w6 ⟨v6, rfl, I6, b6⟩; obtain ⟨A6, c6, rfl, -, -, rd6⟩ := I6.val; rw [HCL.out])
      | (have t := b6; go_at_call 27; refine (rMarks_any (l := l.map clsC) (os := ws) HCL.out.symm rfl rfl rd6 (qv5.below b6 (.inr (Nat.le_refl _))) (q3.below (b35.trans (b6.mono b35.size)) (.inr (Nat.le_refl _))) (by omega) (by omega) HX.out.map).mono ?_; rintro r7 w7 ⟨v7, rfl, I7, b7⟩))
    obtain ⟨A7, c7, rfl, -, -, -⟩ := I7.val
    have b57 := b6.trans (b7.mono b6.size)
    have hs3 := b4.size
    have hs4 := b5.size
    have hs5 := b57.size
    have hs6 := b6.size
    have J4 := (I4.below b5 (Nat.le_refl _)).below b57 (Nat.le_refl _)
    have J5 := I5.below b57 (Nat.le_refl _)
    have b37 := b35.trans (b57.mono b35.size)
    have hlt4 := I4.lt
    have hlt5 := I5.lt
    have hlt7 := I7.lt
    have K1 := I1'.below b37 (Nat.le_refl _)
    have q17 := q1.below b37 (.inr (Nat.le_refl _))
    have q37 := q3.below b37 (.inr (Nat.le_refl _))
    have rw7 := rw_.below b37 (.inr (Nat.le_refl _))
    obtain ⟨k1, k2, -⟩ := bcell b37
    have m1 := (k1 gw (0 + ws.length) (by simpa using hgw)).trans (by simpa using hm1)
    have m2 := (k1 gw (0 + (ws.length + 1)) (by simpa using hgw)).trans (by simpa using hm2)
    simp only [Nat.zero_add] at m1 m2
    clear hm1 hm2 k1 k2 rl rw_ rl4 rw4 q1 q3 q15 I4 I5 I6 rd6 I1' I3 hfw
    have hXn : X.length ≤ 1048576 := by omega
    have R4 := J4.rd
    have R7 := I7.rd
    have hsw := b37.size
    have hs03 := b03.size
    have b07 := b03.trans (b37.mono hs03)
    go_upto_region 10 with (first
      | (have t := b9; go_at_call 20; refine (numbers_ok rfl rfl ((rw7.below b8 (.inr (Nat.le_refl _))).below b9 (.inr (Nat.le_refl _))) ((q37.below b8 (.inr (Nat.le_refl _))).below b9 (.inr (Nat.le_refl _))) (by omega)).mono ?_; rintro r10 w10 ⟨rfl, b10⟩)
      | (have t := b8; go_at_call 22; refine (kept_ok (K1.below b8 (Nat.le_refl _)) (q17.below b8 (.inr (Nat.le_refl _))) (by omega)).mono ?_; rintro r9 w9 ⟨rfl, b9⟩; obtain ⟨u1, -, -⟩ := bcell (b8.trans (b9.mono b8.size)); have n1 := (u1 gw ws.length (by omega)).trans m1)
      | (go_at_call 20; refine (numbers_ok rfl rfl R4 R7 (by omega)).mono ?_; rintro r8 w8 ⟨rfl, b8⟩))
    have b89 := (b8.trans (b9.mono b8.size)).trans (b10.mono (b8.trans (b9.mono b8.size)).size)
    have L4 := J4.below b89 (Nat.le_refl _)
    have L5 := J5.below b89 (Nat.le_refl _)
    have L7 := I7.below b89 (Nat.le_refl _)
    have hs89 := b89.size
    have b010 := b07.trans (b89.mono b07.size)
    have hgr := grown_ok (c2 := c5) (c3 := c7) L4 rfl (by omega) rfl rfl rfl L5.rd L7.rd hXn
      (fun x off e he => by have h1 := hlt4 x he; have h2 := hlt5 x (by rw [e]; rfl); omega)
      (fun x off e he => by have h1 := hlt4 x he; have h2 := hlt7 x (by rw [e]; rfl); omega)
    clear J4 J5 I7 R4 R7 K1 rw7 q17 q37 m1 m2 n1 u1
    go_wp2_with (first
      | (go_at_call 21; refine hgr.mono ?_; rintro r11 w11 ⟨rfl, F11⟩)
      | (go_at_call 23; refine (awake_ok _).mono ?_; rintro r12 w12 ⟨rfl, b12⟩))
    go_ret
    have b011 := b010.trans (F11.below (B := w.heap.size) b010.size (fun j hj e => by have := hlt4 j e; omega))
    exact ⟨rfl, b011.trans (b12.mono b011.size)⟩
end Go.Proofs.Ythifeccmbojcdaa
