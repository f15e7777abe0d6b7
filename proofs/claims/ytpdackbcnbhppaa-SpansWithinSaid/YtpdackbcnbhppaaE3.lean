/- Explicit walked. -/
import Derived.Test.YtpdackbcnbhppaaE2
import Derived.Shelf.Abstract
namespace Go.Proofs.Ytpdackbcnbhppaa
open Go.RowKit Go.Shelf
attribute [local go_sem] Oper.semAt_some
theorem own_apart {u v : Value} (h : ∀ j, u.ownBlock = some j → v.ownBlock ≠ some j) : v.ownBlock = none ∨ v.ownBlock ≠ u.ownBlock := by
  cases hv : v.ownBlock with
  | none => exact .inl rfl
  | some j => exact .inr fun e => h j e.symm hv

set_option maxRecDepth 100000 in
set_option maxHeartbeats 1000000 in
theorem Explicit_ok {w : World} {B : Nat} {A : Option Addr} {c : Nat} {l : List Int} (base : Int) (hbase : base = 0 ∨ base = 1) (h : RdInts w B .u8 A l) (hB : B ≤ w.heap.size) (hl : l.length ≤ 1048576) :
    Calls Try.prog 54 #[.int .i8 base, .slice A l.length c] w fun r w' => ∃ lvv clv mg, r = .returned (.tuple #[.agg #[lvv, clv, .slice (some ⟨mg, 0, none⟩) l.length l.length], .int .i64 0]) ∧ Ints w' w.heap.size 23 .i8 lvv (runS base l (auP l) l.length).2.1 ∧
      Ints w' w.heap.size 28 .u8 clv (runS base l (auP l) l.length).2.2 ∧ Ints w' w.heap.size 3 .i64 (.slice (some ⟨mg, 0, none⟩) l.length l.length) (matchL l) ∧ (∀ j, lvv.ownBlock = some j → clv.ownBlock ≠ some j ∧ j ≠ mg) ∧ clv.ownBlock ≠ some mg ∧ Below w.heap.size w w' := by
  refine (callsIn_wide (n := 5)).1 ?_
  refine callsIn_of_wp_marks Try.func54 rfl trivial ?_ rfl
  simp only [Try.ntmps54, List.size_toArray, List.length_cons, List.length_nil, Nat.reduceAdd, Nat.reduceSub, Array.replicate_succ, Array.replicate_zero, List.push_toArray, List.append_toArray, List.nil_append, List.cons_append]
  refine wpIn_wide.2 ?_
  go_wp2_with (first
    | (go_at_call 83; refine (New_ok _ base hbase).mono ?_; rintro r1 w1 ⟨rfl, S1, b1⟩)
    | (go_at_call 20; refine (Match_any (l := l) (B := B) (h.below (((Below.refl _ w).alloc (Nat.le_refl _) _).trans (b1.mono (by simp))) (.inl hB)) (by have := b1.size; simp at this; omega) (by omega)).mono ?_; rintro r2 w2 ⟨mg, rfl, J1, b2⟩)
    | (go_at_call 85
       have b12 := ((Below.refl _ w).alloc (Nat.le_refl _) (.cells #[.slice none 0 0, .slice none 0 0, .slice none 0 0] 40)).trans (b1.mono (by simp))
       have b02 := b12.trans (b2.mono b12.size)
       refine (autos_any (l := l) (B := B) (B2 := w2.heap.size) ((h.below b02 (.inl hB)).alloc _) ((J1.rd.alloc _)) (by have := b02.size; simp; omega) (by simp) hl).mono ?_; rintro r3 w3 ⟨ag, acap, rfl, U1, b3⟩)
    | (go_at_call 84; refine (steps_any _ _ _ _ _ _ _ _).mono ?_; rintro r4 w4 ⟨rfl, hw4⟩))
  rw [← hw4]
  obtain ⟨_, _, cap1, hb1, hg1⟩ := S1
  obtain ⟨_, _, hg1', _⟩ := own_blk hg1
  have hlt1 := hb1.lt
  simp only [World.size_alloc] at *
  have S1 : StackIs w1 (w.heap.size + 1 + 1) (w.heap.size + 1) ⟨[⟨base, 0, false⟩], 0, 0, 0⟩ := ⟨by omega, by simp, cap1, hb1, hg1⟩
  have b34 : Below w3.heap.size w3 w4 := by rw [hw4]; exact ((((Below.refl _ w3).alloc (Nat.le_refl _) _).alloc (by simp) _).alloc (by simp; omega) _)
  have b24 : Below (w2.heap.size + 1) (w2.alloc (.cells #[.slice none 0 0, .slice none 0 0, .slice (some ⟨mg, 0, none⟩) l.length l.length] 40)) w4 := b3.trans (b34.mono (by have := b3.size; simp at this; omega))
  have b24' : Below w2.heap.size w2 w4 := ((Below.refl _ w2).alloc (Nat.le_refl _) _).trans (b24.mono (by omega))
  have b14 : Below w1.heap.size w1 w4 := b2.trans (b24'.mono b2.size)
  have b04 : Below w.heap.size w w4 := b12.trans (b14.mono b12.size)
  have S4 := IsStack.below S1 b14
  have J4 := J1.below b24' (Nat.le_refl _)
  have X4 := (Blk.new w2 40 #[.slice none 0 0, .slice none 0 0, .slice (some ⟨mg, 0, none⟩) l.length l.length]).below b24 (by omega)
  have U4 := U1.below b34 (Nat.le_refl _)
  have R4 := ((Blk.new w 40 #[.slice none 0 0, .slice none 0 0, .slice none 0 0]).below b1 (by omega)).below b14 (by have := b1.size; simp at this; omega)
  have hmg := J1.lt mg rfl
  have hag := U1.lt ag rfl
  have hs4 : w4.heap.size = w3.heap.size + 3 := by rw [hw4]; simp
  have hs3 := b3.size
  have hs2 := b2.size
  simp only [World.size_alloc] at hs3
  have B3 : Blk w4 w3.heap.size 152 #[.pointer (some ⟨w.heap.size + 1 + 1, 0, none⟩)] := by rw [hw4]; exact ((Blk.new w3 152 _).alloc _).alloc _
  have B4 : Blk w4 (w3.heap.size + 1) 24 #[.slice A l.length c] := by
    rw [hw4]
    have := (Blk.new (w3.alloc (.cells #[.pointer (some ⟨w.heap.size + 1 + 1, 0, none⟩)] 152)) 24 #[.slice A l.length c]).alloc (.cells #[.slice (some ⟨ag, 0, none⟩) (l.length + 1) acap] 25)
    rwa [World.size_alloc] at this
  have B5 : Blk w4 (w3.heap.size + 2) 25 #[.slice (some ⟨ag, 0, none⟩) (l.length + 1) acap] := by
    rw [hw4]
    have := Blk.new ((w3.alloc (.cells #[.pointer (some ⟨w.heap.size + 1 + 1, 0, none⟩)] 152)).alloc (.cells #[.slice A l.length c] 24)) 25 #[.slice (some ⟨ag, 0, none⟩) (l.length + 1) acap]
    simpa using this
  have E : Env w4 (w.heap.size + 1 + 1) (w.heap.size + 1) w2.heap.size w3.heap.size (w3.heap.size + 1) (w3.heap.size + 2) ag acap c A B l :=
    ⟨B3, B4, B5, h.below b04 (.inl hB), by omega, U4.base (fun _ _ => Nat.zero_le _), by omega, by omega, by omega, by omega, by omega, by omega, by omega, by omega, by omega⟩
  have hb4 : w.heap.size + 1 + 1 < w4.heap.size := by omega
  have hx4 : w2.heap.size < w4.heap.size := by omega
  have HS4 := Lib.hid hs4
  clear hs4
  have HW := Lib.hid hw4
  clear hw4 S1 J1 U1 hb1 hg1 hg1' B3 B4 B5 U4 b3 b34 b24 b24' b2 b1 b12 b02 b14
  refine wpIn_wide.1 (wpIn_rangeFunc_joint (n := 5) (F := Fence.wide) rfl (by omega) (gf := 95) (lb := #[.pointer (some ⟨w3.heap.size + 1, 0, none⟩), .pointer (some ⟨w3.heap.size, 0, none⟩), .pointer (some ⟨w3.heap.size + 2, 0, none⟩)]) rfl trivial (enters_of Try.func95 (by kernel_rfl) rfl)
    (encs := Rd.encs) (fun _ => rfl)
    (fun x W => XIs w4.heap.size w2.heap.size (.slice (some ⟨mg, 0, none⟩) l.length l.length) x.lvv x.clv x.lvs x.cls W ∧ x.lvs.length < l.length ∧ x.cls.length < l.length)
    (fun x W a' W' => XIs w4.heap.size w2.heap.size (.slice (some ⟨mg, 0, none⟩) l.length l.length) x.lvv x.clv x.lvs x.cls W' ∧ x.lvs.length < l.length ∧ x.cls.length < l.length ∧ Frm (fun k => k = w4.heap.size + 1) W W' ∧ (∀ j, x.lvv.ownBlock = some j → j < W.heap.size) ∧ (∀ j, x.clv.ownBlock = some j → j < W.heap.size) ∧
      ∃ st, Blk W' st 160 #[.int .i8 x.lv, .int .u8 x.cl] ∧ w4.heap.size + 1 < st ∧ W.heap.size ≤ st ∧
        a' = { tmps := #[.int .i8 base, .slice A l.length c, undef, undef, .pointer (some ⟨w.heap.size, 0, none⟩), .int .i64 0, .pointer (some ⟨w.heap.size + 1 + 1, 0, none⟩), .int .i64 0, .pointer (some ⟨w2.heap.size, 0, none⟩), undef, .pointer (some ⟨st, 0, none⟩),
          .tuple #[.pointer (some ⟨w.heap.size + 1 + 1, 0, none⟩), .int .i64 0], .int .i8 base, .tuple #[.pointer (some ⟨w.heap.size + 1 + 1, 0, none⟩), .int .i64 0], .pointer (some ⟨w.heap.size + 1 + 1, 0, none⟩), .int .i64 0,
          .int .i64 0, .bool false, undef, undef, .slice A l.length c, .int .i64 l.length, .bool (decide (1048576 < (l.length : Int))), undef, .slice A l.length c, .slice (some ⟨mg, 0, none⟩) l.length l.length,
          .agg #[.slice none 0 0, .slice none 0 0, .slice (some ⟨mg, 0, none⟩) l.length l.length], .pointer (some ⟨w.heap.size + 1 + 1, 0, none⟩), .slice A l.length c, .slice A l.length c, .pointer (some ⟨w2.heap.size, 2, none⟩),
          .slice (some ⟨mg, 0, none⟩) l.length l.length, .slice (some ⟨ag, 0, none⟩) (l.length + 1) acap,
          .func (.func 95) #[] #[.pointer (some ⟨w3.heap.size + 1, 0, none⟩), .pointer (some ⟨w3.heap.size, 0, none⟩), .pointer (some ⟨w3.heap.size + 2, 0, none⟩)],
          .int .i64 x.i, .agg #[.int .i8 x.lv, .int .u8 x.cl], undef, undef, undef, undef, undef, undef, undef, undef, undef, undef, undef, undef, undef, undef, undef], defers := [] })
    (Grew w4.heap.size w2.heap.size (.slice (some ⟨mg, 0, none⟩) l.length l.length)) (fun _ _ _ _ => False)
    (Inv w4 base (w.heap.size + 1 + 1) (w.heap.size + 1) w2.heap.size (.slice (some ⟨mg, 0, none⟩) l.length l.length) l l.length) (fun _ _ => False)
    ?assign ?mid ?body ?gr (fun _ _ _ _ _ h _ => h) ?call ?fin (fun _ _ _ h _ => h) ?done (fun _ _ h _ => h.elim))
  case assign =>
    rintro x W K hW ⟨X, hx1, hx2⟩ hK
    simp only [Rd.encs, List.zip_toArray, List.zip_cons_cons, List.zip_nil_right, List.foldl_toArray, List.foldl_cons, List.foldl_nil, List.setIfInBounds_toArray, List.set_cons_zero, List.set_cons_succ]
    gi_wp2
    have F := (Frm.refl (fun _ => False) W).alloc (.cells #[.int .i8 x.lv, .int .u8 x.cl] 160)
    exact hK _ _ (Two.of_frm F hW id id) ⟨X.frm F id (fun _ _ => id) (fun _ _ => id), hx1, hx2, F.mono (fun _ _ e => e.elim), fun j hj => (X.lv.lt j hj).2, fun j hj => (X.cl.lt j hj).2, _, Blk.new _ _ _, hW, Nat.le_refl _, rfl⟩
  case mid =>
    rintro x W a' Wa Wb ⟨X, h1, h2, hf, ho1, ho2, st, hb, hs1, hs2, he⟩ hF
    refine ⟨X.frm hF (by omega) (fun j hj => ?_) (fun j hj => ?_), h1, h2, hf.trans hF (fun _ _ e => e), ho1, ho2, st, hb.frm hF (by omega), hs1, hs2, he⟩
    · have := X.lv.lt j hj; omega
    · have := X.cl.lt j hj; omega
  case gr =>
    rintro x W Wa Wb ⟨lvv', clv', X, hl, hc, F⟩ hF
    refine ⟨lvv', clv', X.frm hF (by omega) (fun j hj => ?_) (fun j hj => ?_), hl, hc, F.trans hF (fun _ _ e => .inr (.inl e))⟩
    · have := X.lv.lt j hj; omega
    · have := X.cl.lt j hj; omega
  case fin =>
    rintro Wa Wb ⟨g, lvv, clv, S, hg, X, h1, h2, F⟩ hF
    refine ⟨g, lvv, clv, IsStack.frm S hF (by omega) (by omega), hg, X.frm hF (by omega) (fun j hj => ?_) (fun j hj => ?_), h1, h2, F.trans hF (fun _ _ e => by omega)⟩
    · have := X.lv.lt j hj; omega
    · have := X.cl.lt j hj; omega
  case call =>
    intro W1 hF1 hW1 Rdy Dn hsz hst _ hR1 hY
    refine (iter_any hbase hl E (mv := .slice (some ⟨mg, 0, none⟩) l.length l.length) (n := 5 - 1)
      ⟨_, .slice none 0 0, .slice none 0 0, IsStack.frm S4 hF1 id id, .inl rfl, ⟨X4.frm hF1 id, Ints.nil _ _ _ _, Ints.nil _ _ _ _, by simp [Value.ownBlock]⟩, by simp [Value.ownBlock], by simp [Value.ownBlock], hF1.mono (fun _ _ e => e.elim)⟩ hsz hst hR1 (by omega) (fun x W hp hr => ?_)).mono ?_
    · obtain ⟨fn, tmps, assign, body, hy, hR⟩ := hY x W hp hr
      refine ⟨fn, tmps, assign, body, hy, hR.mono fun e w' h => ?_⟩
      rcases h with h | ⟨c, _, hf, _⟩
      · exact h
      · exact hf.elim
    · rintro e W2 ⟨hv, hI, hr⟩
      exact ⟨hv, .inl ⟨hI, hr⟩⟩
  case body =>
    rintro ⟨i, lv, cl, lvs, cls, lvv, clv⟩ W a' W' hW' ⟨X, h1, h2, hf, ho1, ho2, st, hb, hs1, hs2, rfl⟩
    simp only at X h1 h2 ho1 ho2 hb ⊢
    clear E HW R4 S4 X4 J4 b04 h hB
    obtain ⟨x1, x2, x3, x4, x5⟩ := X.blk.c3
    obtain ⟨y1, y2, _, _⟩ := hb.c2
    have XL := X.lv
    have hlo := X.lv.lt
    have hco := X.cl.lt
    have hne := X.ne
    have XC := X.cl
    have XB := X.blk
    clear X
    obtain ⟨lA, lcap, rfl, _, _, _⟩ := XL.val
    obtain ⟨cA, ccap, rfl, _, _, _⟩ := XC.val
    have h1c : (1 : Nat) ≤ 5 - 1 - 1 := by omega
    gi_wp2_with (gi_at_builtin; go_must (refine wpListIn_appI Try.ei26 rfl rfl rfl (XL.alloc _) rfl (Blk.at_ (by simp)) ?_ ?_ ?_ ?_))
    · unfold maxLen; omega
    · omega
    · simp; omega
    intro g1 cap1 w5 I5 hg5 hgg5
    have hbx1 : some w2.heap.size ≠ (Value.slice lA lvs.length lcap).ownBlock := fun e => by have := hlo _ e.symm; omega
    have hbx2 : some w2.heap.size ≠ (Value.slice cA cls.length ccap).ownBlock := fun e => by have := hco _ e.symm; omega
    have hB5 := (XB.alloc (.cells #[.int .i8 lv] 23)).grown hg5 hbx1
    obtain ⟨x1, x2, x3, x4, x5⟩ := hB5.c3
    have hY5 := (hb.alloc (.cells #[.int .i8 lv] 23)).grown hg5 (fun e => by have := ho1 _ e.symm; omega)
    obtain ⟨y1, y2, _, _⟩ := hY5.c2
    have C5 := (XC.alloc (.cells #[.int .i8 lv] 23)).kept hg5 (own_apart hne)
    have hlv5 : (Value.slice (some ⟨g1, 0, none⟩) (lvs.length + 1) cap1).ownBlock = some g1 := rfl
    have hg1 : w4.heap.size + 2 ≤ g1 ∧ g1 < w5.heap.size := I5.lt g1 rfl
    have hgc : (Value.slice cA cls.length ccap).ownBlock ≠ some g1 := by
      rcases hgg5 with e | e
      · exact hne g1 e
      · intro e2; have := hco g1 e2; first | omega | (simp at e; omega)
    have sz5 := hg5.size
    simp only [World.size_alloc] at sz5
    have F5 := ((Frm.refl (fun k => k = w2.heap.size ∨ (Value.slice lA lvs.length lcap).ownBlock = some k ∨ (Value.slice cA cls.length ccap).ownBlock = some k) W').alloc (.cells #[.int .i8 lv] 23)).grown hg5 (fun k e _ => .inr (.inl e))
    clear XL XC XB hb
    have G6 := (Frm.refl (fun k => k = w2.heap.size) w5).set (j := 0) rfl (.slice (some ⟨g1, 0, none⟩) (lvs.length + 1) cap1)
    have C6 := C5.frm G6 (fun j hj e => hbx2 (by rw [hj, e]))
    have I6 := I5.frm G6 (fun j hj e => by simp [Value.ownBlock] at hj; omega)
    have B6 := hB5.set_ 0 (.slice (some ⟨g1, 0, none⟩) (lvs.length + 1) cap1)
    have F6 := F5.set (j := 0) (b := w2.heap.size) (.inl rfl) (.slice (some ⟨g1, 0, none⟩) (lvs.length + 1) cap1)
    have sz6 : (w5.setCell ⟨w2.heap.size, 0, none⟩ (.slice (some ⟨g1, 0, none⟩) (lvs.length + 1) cap1)).heap.size = w5.heap.size := by simp
    clear C5 F5 G6
    gi_wp2_with (gi_at_builtin; go_must (refine wpListIn_appI Try.ei24 rfl rfl rfl (C6.alloc _) rfl (Blk.at_ (by simp)) ?_ ?_ ?_ ?_))
    · unfold maxLen; omega
    · omega
    · simp; omega
    intro g2 cap2 w7 I7 hg7 hgg7
    have hg2 : w4.heap.size + 2 ≤ g2 ∧ g2 < w7.heap.size := I7.lt g2 rfl
    have sz7 := hg7.size
    simp only [World.size_alloc] at sz7
    have hB7 := (B6.alloc (.cells #[.int .u8 cl] 28)).grown hg7 hbx2
    have I8 := (I6.alloc (.cells #[.int .u8 cl] 28)).kept hg7 (.inr (fun e => hgc (by rw [← e]; rfl)))
    have F7 := (F6.alloc (.cells #[.int .u8 cl] 28)).grown hg7 (fun k e _ => .inr (.inr e))
    have hB7' : Blk w7 w2.heap.size 40 #[.slice (some ⟨g1, 0, none⟩) (lvs.length + 1) cap1, .slice cA cls.length ccap, .slice (some ⟨mg, 0, none⟩) l.length l.length] := hB7
    obtain ⟨z1, z2, z3, z4, z5⟩ := hB7'.c3
    gi_wp2
    have G8 := (Frm.refl (fun k => k = w2.heap.size) w7).set (j := 1) rfl (.slice (some ⟨g2, 0, none⟩) (cls.length + 1) cap2)
    have F8 := F7.set (j := 1) (b := w2.heap.size) (.inl rfl) (.slice (some ⟨g2, 0, none⟩) (cls.length + 1) cap2)
    have hgg : g1 ≠ g2 := by
      rcases hgg7 with e | e
      · rintro rfl; exact hgc e
      · first | omega | (simp at e; omega)
    refine ⟨Two.of_frm F8 hW' (fun e => ?_) (fun e => ?_), ?_⟩
    · rcases e with e | e | e
      · omega
      · have := hlo _ e; omega
      · have := hco _ e; omega
    · rcases e with e | e | e
      · omega
      · have := hlo _ e; omega
      · have := hco _ e; omega
    refine ⟨.slice (some ⟨g1, 0, none⟩) (lvs.length + 1) cap1, .slice (some ⟨g2, 0, none⟩) (cls.length + 1) cap2, ⟨hB7'.set_ 1 _, I8.frm G8 (fun j hj e => ?_), I7.frm G8 (fun j hj e => ?_), ?_⟩, ?_, ?_, (hf.mono (fun _ _ e => .inr (.inl e))).trans F8 ?_⟩
    · have : g1 = j := by simpa [Value.ownBlock] using hj
      omega
    · have : g2 = j := by simpa [Value.ownBlock] using hj
      omega
    · intro j hj e
      have h1 : g1 = j := by simpa [Value.ownBlock] using hj
      have h2 : g2 = j := by simpa [Value.ownBlock] using e
      omega
    · intro j hj
      have : g1 = j := by simpa [Value.ownBlock] using hj
      subst this
      rcases hgg5 with e | e
      · exact .inl e
      · right; have := hf.size; first | omega | (simp at e; omega)
    · intro j hj
      have : g2 = j := by simpa [Value.ownBlock] using hj
      subst this
      rcases hgg7 with e | e
      · exact .inl e
      · right; have := hf.size; first | omega | (simp at e; omega)
    · intro k _ e
      rcases e with e | e | e
      · exact .inl e
      · exact .inr (.inr (.inl e))
      · exact .inr (.inr (.inr e))
  case done =>
    rintro W ⟨g, lvv, clv, S, hg, X, h1, h2, F⟩ hK
    have R5 := R4.frm F (by omega)
    have J5 := J4.frm F (fun j hj => by have : mg = j := by simpa [Value.ownBlock] using hj
                                        omega)
    have b5 := b04.trans (F.below b04.size (fun k hk => by omega))
    obtain ⟨x1, x2, x3, x4, x5⟩ := X.blk.c3
    obtain ⟨y1, y2, y3, y4, y5⟩ := R5.c3
    have XL := X.lv
    have XC := X.cl
    have hne := X.ne
    obtain ⟨lA, lcap, rfl, _, _, _⟩ := XL.val
    obtain ⟨cA, ccap, rfl, _, _, _⟩ := XC.val
    clear X S4 J4 X4 R4 E HW S F h1 h2 b04
    go_wp2
    have hD : w4.heap.size < W.heap.size := (Array.getElem?_eq_some_iff.1 hK).1
    have F9 := frm_put3 W w.heap.size (.slice lA (runS base l (auP l) l.length).2.1.length lcap) (.slice cA (runS base l (auP l) l.length).2.2.length ccap) (.slice (some ⟨mg, 0, none⟩) l.length l.length)
    have hK9 := (F9.block w4.heap.size hD (by omega)).trans hK
    have FF := (F9.mono (F' := fun k => k = w.heap.size ∨ k = w4.heap.size) (fun _ _ e => .inl e)).put (k := w4.heap.size) (.inr rfl) (.deferred none)
    have RF := (blk_put3 (.slice lA (runS base l (auP l) l.length).2.1.length lcap) (.slice cA (runS base l (auP l) l.length).2.2.length ccap) (.slice (some ⟨mg, 0, none⟩) l.length l.length) R5).frm ((Frm.refl (fun k => k = w4.heap.size) _).put (k := w4.heap.size) rfl (.deferred none)) (by omega)
    refine ⟨by simp, .inl ⟨_, _, rfl, run_takeDeferred hK9, ?_⟩⟩
    refine ⟨_, results_row1 rfl _ _ _ _ _ _ rfl RF Try.underlying40 rfl (by kernel_rfl), _, _, mg, rfl, ?_, ?_, ?_, ?_, ?_, ?_⟩
    · exact (XL.frm FF (fun j hj e => by have := XL.lt j hj; omega)).base (fun j hj => by have := XL.lt j hj; omega)
    · exact (XC.frm FF (fun j hj e => by have := XC.lt j hj; omega)).base (fun j hj => by have := XC.lt j hj; omega)
    · exact (J5.frm FF (fun j hj e => by simp [Value.ownBlock] at hj; omega)).base (fun j hj => by simp [Value.ownBlock] at hj; omega)
    · intro j hj
      have := XL.lt j hj
      exact ⟨hne j hj, by omega⟩
    · intro e
      have := XC.lt mg e
      omega
    · exact b5.trans (FF.below b5.size (fun k hk e => by omega))
end Go.Proofs.Ytpdackbcnbhppaa
