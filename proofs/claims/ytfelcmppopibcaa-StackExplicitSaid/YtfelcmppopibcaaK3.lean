/- An answer written over, spare room too. -/
import Derived.Test.YtfelcmppopibcaaE7
namespace Go.Proofs.Ytfelcmppopibcaa
open Go.RowKit

/-- The blocks of an answer. -/
def Own3 (lA cA mA : Option Addr) (k : Nat) : Prop := lA.map (fun a => a.block) = some k ∨ cA.map (fun a => a.block) = some k ∨ mA.map (fun a => a.block) = some k
theorem map_of_own {A : Option Addr} {n c j : Nat} (h : (Value.slice A n c).ownBlock = some j) : A.map (fun a => a.block) = some j := by rw [own_slice] at h; exact h
theorem Ints.lt' {w : World} {B : Nat} {e : TypeId} {k : IntKind} {A : Option Addr} {n c : Nat} {l : List Int} (h : Ints w B e k (.slice A n c) l) {j : Nat} (hj : A.map (fun a => a.block) = some j) : B ≤ j ∧ j < w.heap.size := h.lt j (by rw [own_slice]; exact hj)
theorem own_ne {A A' : Option Addr} {n c n' c' : Nat} (h : ∀ k, A.map (fun a => a.block) = some k → A'.map (fun a => a.block) = some k → False) : (Value.slice A n c).ownBlock = none ∨ (Value.slice A n c).ownBlock ≠ (Value.slice A' n' c').ownBlock := by
  rw [own_slice, own_slice]
  cases hA : A.map (fun a => a.block) with
  | none => exact .inl rfl
  | some k => exact .inr (fun e => h k hA e.symm)
/-- A list whose numbers have been written over. -/
structure Some3 (w : World) (B : Nat) (lA cA mA : Option Addr) (n1 n2 n3 lc cc mc : Nat) : Prop where
  l : ∃ xs, xs.length = n1 ∧ Ints w B 23 .i8 (.slice lA n1 lc) xs
  c : ∃ xs, xs.length = n2 ∧ Ints w B 40 .u8 (.slice cA n2 cc) xs
  m : ∃ xs, xs.length = n3 ∧ Ints w B 3 .i64 (.slice mA n3 mc) xs

set_option maxRecDepth 100000 in
set_option maxHeartbeats 4000000 in
theorem spoil_ok {w : World} {B : Nat} {lA cA mA : Option Addr} {n1 n2 n3 lc cc mc : Nat} (h : Some3 w B lA cA mA n1 n2 n3 lc cc mc) (ha : Apart lA cA mA) (h1 : n1 ≤ 1048576) (h2 : n2 ≤ 1048576) (h3 : n3 ≤ 1048576) (hB : B ≤ w.heap.size) :
    Calls Try.prog 16 #[.agg #[.slice lA n1 lc, .slice cA n2 cc, .slice mA n3 mc]] w fun r w' => r = .returned (.tuple #[]) ∧ Frm (Own3 lA cA mA) w w' := by
  have b0 := (Frm.refl (Own3 lA cA mA) w).alloc (.cells #[.slice lA n1 lc, .slice cA n2 cc, .slice mA n3 mc] 29)
  have hX : Some3 (w.alloc (.cells #[.slice lA n1 lc, .slice cA n2 cc, .slice mA n3 mc] 29)).drew B lA cA mA n1 n2 n3 lc cc mc :=
    ⟨h.l.imp fun _ k => ⟨k.1, k.2.alloc _⟩, h.c.imp fun _ k => ⟨k.1, k.2.alloc _⟩, h.m.imp fun _ k => ⟨k.1, k.2.alloc _⟩⟩
  obtain ⟨x1, x2, x3, xf, xl⟩ := (Blk.new w 29 #[.slice lA n1 lc, .slice cA n2 cc, .slice mA n3 mc]).drew.c3
  have b0 := b0.drew
  have hl0 : ∀ j, lA.map (fun a => a.block) = some j → j < w.heap.size := fun j hj => by obtain ⟨xs, _, k⟩ := h.l; exact (k.lt' hj).2
  have hc0 : ∀ j, cA.map (fun a => a.block) = some j → j < w.heap.size := fun j hj => by obtain ⟨xs, _, k⟩ := h.c; exact (k.lt' hj).2
  have hm0 : ∀ j, mA.map (fun a => a.block) = some j → j < w.heap.size := fun j hj => by obtain ⟨xs, _, k⟩ := h.m; exact (k.lt' hj).2
  clear h
  go_enter Try.func16, Try.ntmps16
  go_upto_region 1 with (fail)
  refine wp_region_reads (by kernel_rfl) (by kernel_rfl) ?_
  repeat (refine still_plain rfl rfl ?_; intro K hK; go_wp2)
  refine wpStill_nil ?_
  clear x1 x2 x3 xf xl
  generalize (w.alloc (.cells #[.slice lA n1 lc, .slice cA n2 cc, .slice mA n3 mc] 29)).drew = W at *
  go_wp2
  go_loopg [5] n1 (fun gk iv wr => ∃ j : Nat, j + gk = n1 ∧ iv = .int .i64 j ∧ Some3 wr B lA cA mA n1 n2 n3 lc cc mc ∧ Frm (Own3 lA cA mA) w wr)
  case atStart => exact ⟨0, by omega, rfl, hX, b0⟩
  case round =>
    obtain ⟨j, hj, rfl, hX1, F1⟩ := hrel
    have HJ := Lib.hid hj
    clear hj
    by_cases hjn : j < n1
    · obtain ⟨xs, hxl, I⟩ := hX1.l
      obtain ⟨g, cp, hv⟩ := I.form (by omega)
      injection hv with e1 e2 e3
      subst e1
      clear e2 e3
      obtain ⟨-, -, -, hBg, hgw, hfz, hce⟩ := I.at_
      have hcj := hce j (by omega)
      clear hce
      have HXL := Lib.hid hxl
      clear hxl
      generalize xs.getD j 0 = v at hcj
      go_wp2
      go_roundg (n1 - (j + 1))
      case rel =>
        have hxl := HXL.out
        refine ⟨j + 1, by have := HJ.out; omega, by go_num, ⟨⟨_, by simp [hxl], (I.set j 99)⟩, ?_, ?_⟩, F1.set (.inl rfl) _⟩
        · obtain ⟨ys, hy, K⟩ := hX1.c; exact ⟨ys, hy, K.frm ((Frm.refl (fun k => k = g) _).set (j := j) rfl _) (fun k hk e => by rw [e] at hk; exact (ha.1 g rfl).1 (map_of_own hk))⟩
        · obtain ⟨ys, hy, K⟩ := hX1.m; exact ⟨ys, hy, K.frm ((Frm.refl (fun k => k = g) _).set (j := j) rfl _) (fun k hk e => by rw [e] at hk; exact (ha.1 g rfl).2 (map_of_own hk))⟩
      case measure => have := HJ.out; omega
    · clear HJ
      go_wp2
      go_loopg [6] n2 (fun gk iv wr => ∃ j : Nat, j + gk = n2 ∧ iv = .int .i64 j ∧ Some3 wr B lA cA mA n1 n2 n3 lc cc mc ∧ Frm (Own3 lA cA mA) w wr)
      case atStart => exact ⟨0, by omega, rfl, hX1, F1⟩
      case round =>
        obtain ⟨j, hj, rfl, hX2, F2⟩ := hrel
        have HJ := Lib.hid hj
        clear hj
        by_cases hjn : j < n2
        · obtain ⟨xs, hxl, I⟩ := hX2.c
          obtain ⟨g, cp, hv⟩ := I.form (by omega)
          injection hv with e1 e2 e3
          subst e1
          clear e2 e3
          obtain ⟨-, -, -, hBg, hgw, hfz, hce⟩ := I.at_
          have hcj := hce j (by omega)
          clear hce
          have HXL := Lib.hid hxl
          clear hxl
          generalize xs.getD j 0 = v at hcj
          go_wp2
          go_roundg (n2 - (j + 1))
          case rel =>
            have hxl := HXL.out
            refine ⟨j + 1, by have := HJ.out; omega, by go_num, ⟨?_, ⟨_, by simp [hxl], (I.set j 99)⟩, ?_⟩, F2.set (.inr (.inl rfl)) _⟩
            · obtain ⟨ys, hy, K⟩ := hX2.l; exact ⟨ys, hy, K.frm ((Frm.refl (fun k => k = g) _).set (j := j) rfl _) (fun k hk e => by rw [e] at hk; exact (fun e2 => (ha.1 g e2).1 rfl) (map_of_own hk))⟩
            · obtain ⟨ys, hy, K⟩ := hX2.m; exact ⟨ys, hy, K.frm ((Frm.refl (fun k => k = g) _).set (j := j) rfl _) (fun k hk e => by rw [e] at hk; exact (ha.2 g rfl) (map_of_own hk))⟩
          case measure => have := HJ.out; omega
        · clear HJ
          go_wp2
          go_loopg [7] n3 (fun gk iv wr => ∃ j : Nat, j + gk = n3 ∧ iv = .int .i64 j ∧ Some3 wr B lA cA mA n1 n2 n3 lc cc mc ∧ Frm (Own3 lA cA mA) w wr)
          case atStart => exact ⟨0, by omega, rfl, hX2, F2⟩
          case round =>
            obtain ⟨j, hj, rfl, hX3, F3⟩ := hrel
            have HJ := Lib.hid hj
            clear hj
            by_cases hjn : j < n3
            · obtain ⟨xs, hxl, I⟩ := hX3.m
              obtain ⟨g, cp, hv⟩ := I.form (by omega)
              injection hv with e1 e2 e3
              subst e1
              clear e2 e3
              obtain ⟨-, -, -, hBg, hgw, hfz, hce⟩ := I.at_
              have hcj := hce j (by omega)
              clear hce
              have HXL := Lib.hid hxl
              clear hxl
              generalize xs.getD j 0 = v at hcj
              go_wp2
              go_roundg (n3 - (j + 1))
              case rel =>
                have hxl := HXL.out
                refine ⟨j + 1, by have := HJ.out; omega, by go_num, ⟨?_, ?_, ⟨_, by simp [hxl], (I.set j (-99))⟩⟩, F3.set (.inr (.inr rfl)) _⟩
                · obtain ⟨ys, hy, K⟩ := hX3.l; exact ⟨ys, hy, K.frm ((Frm.refl (fun k => k = g) _).set (j := j) rfl _) (fun k hk e => by rw [e] at hk; exact (fun e2 => (ha.1 g e2).2 rfl) (map_of_own hk))⟩
                · obtain ⟨ys, hy, K⟩ := hX3.c; exact ⟨ys, hy, K.frm ((Frm.refl (fun k => k = g) _).set (j := j) rfl _) (fun k hk e => by rw [e] at hk; exact (fun e2 => ha.2 g e2 rfl) (map_of_own hk))⟩
              case measure => have := HJ.out; omega
            · clear HJ
              go_wp2
              go_loopg [2, 3, 4, 8] 9 (fun gk va vb vc iv wr => ∃ (j : Nat) (la ca ma : Option Addr) (m1 m2 m3 d1 d2 d3 : Nat), j + gk = 9 ∧ iv = .int .i64 j ∧ va = .slice la m1 d1 ∧ vb = .slice ca m2 d2 ∧ vc = .slice ma m3 d3 ∧ m1 ≤ 1048576 + j ∧ m2 ≤ 1048576 + j ∧ m3 ≤ 1048576 + j ∧ Some3 wr B la ca ma m1 m2 m3 d1 d2 d3 ∧ Apart la ca ma ∧
                (∀ k, Own3 la ca ma k → k < w.heap.size → Own3 lA cA mA k) ∧ Frm (Own3 lA cA mA) w wr)
              case atStart => exact ⟨0, lA, cA, mA, n1, n2, n3, lc, cc, mc, by omega, rfl, rfl, rfl, rfl, h1, h2, h3, hX3, ha, fun k hk _ => hk, F3⟩
              case round =>
                obtain ⟨j, la, ca, ma, m1, m2, m3, d1, d2, d3, hj, rfl, rfl, rfl, rfl, e1, e2, e3, hX4, ha4, ho, F4⟩ := hrel
                have HJ := Lib.hid hj
                clear hj
                by_cases hjn : j < 9
                · obtain ⟨xs, rfl, I⟩ := hX4.l
                  obtain ⟨ys, rfl, K⟩ := hX4.c
                  obtain ⟨zs, rfl, M⟩ := hX4.m
                  have hjb := hjn
                  have hl := fun k hk => (I.lt' (j := k) hk).2
                  have hc := fun k hk => (K.lt' (j := k) hk).2
                  have hm := fun k hk => (M.lt' (j := k) hk).2
                  have hwB : B ≤ wr.heap.size := Nat.le_trans hB F4.size
                  have hws := F4.size
                  clear hX4
                  go_wp2_with (at_builtin; go_must (refine wpList_appI Try.ei26 rfl rfl rfl (I.alloc _) rfl (Blk.at_ (by simp)) ?_ ?_ ?_ ?_))
                  · unfold maxLen; omega
                  · omega
                  · simp; omega
                  intro g1 k1 w1 I1 hg1 hgg1
                  have q1 : la.map (fun a => a.block) = some g1 ∨ wr.heap.size ≤ g1 := hgg1.imp map_of_own (fun e => by first | omega | (simp at e; omega))
                  have p1 := I1.lt' (j := g1) rfl
                  have s1 := hg1.size
                  simp only [World.size_alloc] at s1
                  have K1 := (K.alloc (.cells #[.int .i8 98] 23)).kept hg1 (own_ne (fun k e1 e2 => (ha4.1 k e2).1 e1))
                  have M1 := (M.alloc (.cells #[.int .i8 98] 23)).kept hg1 (own_ne (fun k e1 e2 => (ha4.1 k e2).2 e1))
                  have F5 := (F4.alloc (.cells #[.int .i8 98] 23)).grown hg1 (fun k e hk => ho k (.inl (map_of_own e)) hk)
                  clear I K M F4 hgg1
                  go_wp2_with (at_builtin; go_must (refine wpList_appI Try.ei24 rfl rfl rfl (K1.alloc _) rfl (Blk.at_ (by simp)) ?_ ?_ ?_ ?_))
                  · unfold maxLen; omega
                  · omega
                  · simp; omega
                  intro g2 k2 w2 K2 hg2 hgg2
                  have q2 : ca.map (fun a => a.block) = some g2 ∨ w1.heap.size ≤ g2 := hgg2.imp map_of_own (fun e => by first | omega | (simp at e; omega))
                  have p2 := K2.lt' (j := g2) rfl
                  have s2 := hg2.size
                  simp only [World.size_alloc] at s2
                  have I2 := (I1.alloc (.cells #[.int .u8 98] 40)).kept hg2 (own_ne (fun k e1 e2 => by
                    have : g1 = k := by simpa using e1
                    subst this
                    rcases q1 with e | e
                    · exact (ha4.1 _ e).1 e2
                    · have := hc _ e2; omega))
                  have M2 := (M1.alloc (.cells #[.int .u8 98] 40)).kept hg2 (own_ne (fun k e1 e2 => ha4.2 k e2 e1))
                  have F6 := (F5.alloc (.cells #[.int .u8 98] 40)).grown hg2 (fun k e hk => ho k (.inr (.inl (map_of_own e))) hk)
                  clear I1 K1 M1 F5 hgg2
                  go_wp2_with (at_builtin; go_must (refine wpList_appI Try.ei27 rfl rfl rfl (M2.alloc _) rfl (Blk.at_ (by simp)) ?_ ?_ ?_ ?_))
                  · unfold maxLen; omega
                  · omega
                  · simp; omega
                  intro g3 k3 w3 M3 hg3 hgg3
                  have q3 : ma.map (fun a => a.block) = some g3 ∨ w2.heap.size ≤ g3 := hgg3.imp map_of_own (fun e => by first | omega | (simp at e; omega))
                  have p3 := M3.lt' (j := g3) rfl
                  have I3 := (I2.alloc (.cells #[.int .i64 (-98)] 3)).kept hg3 (own_ne (fun k e1 e2 => by
                    have : g1 = k := by simpa using e1
                    subst this
                    rcases q1 with e | e
                    · exact (ha4.1 _ e).2 e2
                    · have := hm _ e2; omega))
                  have K3 := (K2.alloc (.cells #[.int .i64 (-98)] 3)).kept hg3 (own_ne (fun k e1 e2 => by
                    have : g2 = k := by simpa using e1
                    subst this
                    rcases q2 with e | e
                    · exact ha4.2 _ e e2
                    · have := hm _ e2; omega))
                  have F7 := (F6.alloc (.cells #[.int .i64 (-98)] 3)).grown hg3 (fun k e hk => ho k (.inr (.inr (map_of_own e))) hk)
                  clear I2 K2 M2 F6 hgg3
                  go_wp2
                  go_roundg (9 - (j + 1))
                  case rel =>
                    refine ⟨j + 1, some ⟨g1, 0, none⟩, some ⟨g2, 0, none⟩, some ⟨g3, 0, none⟩, xs.length + 1, ys.length + 1, zs.length + 1, k1, k2, k3, by have := HJ.out; omega, by go_num, rfl, rfl, rfl, by omega, by omega, by omega, ⟨⟨_, by simp, I3⟩, ⟨_, by simp, K3⟩, ⟨_, by simp, M3⟩⟩, ⟨?_, ?_⟩, ?_, F7⟩
                    · intro k hk
                      have e : g1 = k := by simpa using hk
                      subst e
                      constructor
                      · intro h
                        have e : g2 = g1 := by simpa using h
                        subst e
                        rcases q1 with e1 | e1
                        · rcases q2 with e2 | e2
                          · exact (ha4.1 _ e1).1 e2
                          · have := hl _ e1; omega
                        · rcases q2 with e2 | e2
                          · have := hc _ e2; omega
                          · omega
                      · intro h
                        have e : g3 = g1 := by simpa using h
                        subst e
                        rcases q1 with e1 | e1
                        · rcases q3 with e2 | e2
                          · exact (ha4.1 _ e1).2 e2
                          · have := hl _ e1; omega
                        · rcases q3 with e2 | e2
                          · have := hm _ e2; omega
                          · omega
                    · intro k hk h
                      have e : g2 = k := by simpa using hk
                      subst e
                      have e : g3 = g2 := by simpa using h
                      subst e
                      rcases q2 with e1 | e1
                      · rcases q3 with e2 | e2
                        · exact ha4.2 _ e1 e2
                        · have := hc _ e1; omega
                      · rcases q3 with e2 | e2
                        · have := hm _ e2; omega
                        · omega
                    · intro k hk hlt
                      rcases hk with hk | hk | hk
                      · have e : g1 = k := by simpa using hk
                        subst e
                        rcases q1 with e1 | e1
                        · exact ho _ (.inl e1) hlt
                        · omega
                      · have e : g2 = k := by simpa using hk
                        subst e
                        rcases q2 with e1 | e1
                        · exact ho _ (.inr (.inl e1)) hlt
                        · omega
                      · have e : g3 = k := by simpa using hk
                        subst e
                        rcases q3 with e1 | e1
                        · exact ho _ (.inr (.inr e1)) hlt
                        · omega
                  case measure => have := HJ.out; omega
                · clear HJ
                  go_wp2
                  go_end0
                  exact ⟨rfl, F4⟩
end Go.Proofs.Ytfelcmppopibcaa
