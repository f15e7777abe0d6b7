/- StackBounds walked. -/
import Derived.Test.YtfelcmppopibcaaE6
import Derived.Test.YtfelcmppopibcaaL1
import Derived.Test.YtfelcmppopibcaaL2
import Derived.Test.YtfelcmppopibcaaS6
import Derived.Test.YtfelcmppopibcaaS7
import Derived.Test.YtfelcmppopibcaaA1
import Derived.Test.YtfelcmppopibcaaMid
import Derived.Deep.CutRange
namespace Go.Proofs.Ytfelcmppopibcaa
open Go.RowKit

theorem Frm.cell {F : Nat → Prop} {w w' : World} (h : Frm F w w') {p : Addr} (hp : p.block < w.heap.size) (hF : ¬ F p.block) : w'.cell? p = w.cell? p := World.cell?_of_block (h.block p.block hp hF)
set_option maxRecDepth 100000 in
set_option maxHeartbeats 1000000 in
theorem gone_any (c : Int) (w : World) : Calls Try.prog 22 #[.int .u8 c] w fun r w' => r = .returned (.bool (goneC c)) ∧ w = w' := by
  by_cases h15 : c = 15
  · subst h15; go_enter Try.func22, Try.ntmps22; go_wp2; go_ret; exact ⟨rfl, rfl⟩
  by_cases h16 : c = 16
  · subst h16; go_enter Try.func22, Try.ntmps22; go_wp2; go_ret; exact ⟨rfl, rfl⟩
  by_cases h17 : c = 17
  · subst h17; go_enter Try.func22, Try.ntmps22; go_wp2; go_ret; exact ⟨rfl, rfl⟩
  by_cases h18 : c = 18
  · subst h18; go_enter Try.func22, Try.ntmps22; go_wp2; go_ret; exact ⟨rfl, rfl⟩
  by_cases h19 : c = 19
  · subst h19; go_enter Try.func22, Try.ntmps22; go_wp2; go_ret; exact ⟨rfl, rfl⟩
  by_cases h10 : c = 10
  · subst h10; go_enter Try.func22, Try.ntmps22; go_wp2; go_ret; exact ⟨rfl, rfl⟩
  have e : goneC c = false := by simp [goneC, h15, h16, h17, h18, h19, h10]
  rw [e]
  have k15 : (c == 15) = false := beq_eq_false_iff_ne.2 h15
  have k16 : (c == 16) = false := beq_eq_false_iff_ne.2 h16
  have k17 : (c == 17) = false := beq_eq_false_iff_ne.2 h17
  have k18 : (c == 18) = false := beq_eq_false_iff_ne.2 h18
  have k19 : (c == 19) = false := beq_eq_false_iff_ne.2 h19
  have k10 : (c == 10) = false := beq_eq_false_iff_ne.2 h10
  clear h15 h16 h17 h18 h19 h10 e
  go_enter Try.func22, Try.ntmps22
  go_wp2
  go_ret
  exact ⟨rfl, rfl⟩

/-- A step, as the law asks of it. -/
theorem Step_gone {w : World} {b g : Nat} {base : Int} {s : SS} {c : Int} (hg : goneC c = true) (auto : Int) (h : StackIs w b g s) (hw : WF base s) (hi : s.i ≤ 1152921504606846976) (hm : s.m ≤ 1152921504606846976) :
    Calls Try.prog 20 #[.pointer (some ⟨b, 0, none⟩), .int .u8 c, .int .i8 auto] w fun r w' => ∃ (cl : Int) (s' : SS), r = .returned (.tuple #[.int .i8 (-1), .int .u8 cl, .bool false]) ∧ 1 ≤ cl ∧ cl ≤ 23 ∧ WF base s' ∧ s'.i ≤ s.i + 1 ∧ s'.m ≤ s.m + 1 ∧
      ∃ g', (g' = g ∨ w.heap.size ≤ g') ∧ StackIs w' b g' s' ∧ Frm (fun k => k = b ∨ k = g) w w' := by
  refine (Step_any c auto h hw hi hm).mono ?_
  rintro r w' ⟨rfl, g', h1, h2, h3⟩
  obtain ⟨e1, e2, e3⟩ := hw.step c auto
  obtain ⟨k, k1, k2⟩ := stepS_ok hw c auto
  rcases k with ⟨_, q1, q2⟩ | ⟨q1, _⟩
  · exact ⟨_, _, by rw [q1, q2], k1, k2, e1, e2, e3, g', h1, h2, h3⟩
  · rw [hg] at q1; cases q1
theorem Step_stay {w : World} {b g : Nat} {base : Int} {s : SS} {c : Int} (hg : goneC c = false) (auto : Int) (h : StackIs w b g s) (hw : WF base s) (hi : s.i ≤ 1152921504606846976) (hm : s.m ≤ 1152921504606846976) :
    Calls Try.prog 20 #[.pointer (some ⟨b, 0, none⟩), .int .u8 c, .int .i8 auto] w fun r w' => ∃ (lv cl : Int) (s' : SS), r = .returned (.tuple #[.int .i8 lv, .int .u8 cl, .bool true]) ∧ base ≤ lv ∧ lv ≤ 125 ∧ 1 ≤ cl ∧ cl ≤ 23 ∧ WF base s' ∧ s'.i ≤ s.i + 1 ∧ s'.m ≤ s.m + 1 ∧
      ∃ g', (g' = g ∨ w.heap.size ≤ g') ∧ StackIs w' b g' s' ∧ Frm (fun k => k = b ∨ k = g) w w' := by
  refine (Step_any c auto h hw hi hm).mono ?_
  rintro r w' ⟨rfl, g', h1, h2, h3⟩
  obtain ⟨e1, e2, e3⟩ := hw.step c auto
  obtain ⟨k, k1, k2⟩ := stepS_ok hw c auto
  rcases k with ⟨q1, _⟩ | ⟨_, q1, q2, q3⟩
  · rw [hg] at q1; cases q1
  · exact ⟨_, _, _, by rw [q1], q2, q3, k1, k2, e1, e2, e3, g', h1, h2, h3⟩

set_option maxRecDepth 100000 in
set_option maxHeartbeats 1000000 in
theorem bounds_long {w : World} {A : Option Addr} {n c : Nat} (hl : 1048576 < n) (right : Bool) :
    Calls Try.prog 7 #[.bool right, .slice A n c] w fun e w' => e = .returned (.bool true) ∧ Below w.heap.size w w' := by
  have hl1 : (1048576 : Int) < n := by omega
  have hl2 : decide ((1048576 : Int) < n) = true := by simp; omega
  cases right
  · go_enter Try.func7, Try.ntmps7
    go_wp2_with (first
      | (go_at_call 19; refine (New_ok _ 0 (.inl rfl)).mono ?_; rintro r1 w1 ⟨rfl, S1, b1⟩)
      | (go_at_call 12; refine (Explicit_long _ 0 (.inl rfl) A n c hl).mono ?_; rintro r2 w2 ⟨rfl, b2⟩))
    go_ret
    exact ⟨rfl, (b1.trans (b2.mono b1.size)).alloc (by have := b1.size; have := b2.size; omega) _⟩
  · go_enter Try.func7, Try.ntmps7
    go_wp2_with (first
      | (go_at_call 19; refine (New_ok _ 1 (.inr rfl)).mono ?_; rintro r1 w1 ⟨rfl, S1, b1⟩)
      | (go_at_call 12; refine (Explicit_long _ 1 (.inr rfl) A n c hl).mono ?_; rintro r2 w2 ⟨rfl, b2⟩))
    go_ret
    exact ⟨rfl, (b1.trans (b2.mono b1.size)).alloc (by have := b1.size; have := b2.size; omega) _⟩

set_option maxRecDepth 100000 in
set_option maxHeartbeats 4000000 in
theorem bounds_walk {w : World} {A : Option Addr} {c : Nat} {l : List Int} (h : RdInts w w.heap.size .u8 A l) (hl : l.length ≤ 1048576) (right : Bool) :
    Calls Try.prog 7 #[.bool right, .slice A l.length c] w fun e w' => e = .returned (.bool true) ∧ Below w.heap.size w w' := by
  have hl1 : ¬ (1048576 : Int) < l.length := by omega
  have hl2 : decide ((1048576 : Int) < l.length) = false := by simp; omega
  obtain ⟨base, hbr, hbase⟩ : ∃ base : Int, (base = if right then 1 else 0) ∧ (base = 0 ∨ base = 1) := ⟨if right then 1 else 0, rfl, by cases right <;> simp⟩
  have HB := Lib.hid hbr
  clear hbr
  go_enter Try.func7, Try.ntmps7
  go_upto_if 18 with (fail)
  go_cut [5] from 18 to 18 (fun v wx => v = .int .i8 base ∧ wx = w)
  case first =>
    have hbr := HB.out
    cases right
    · go_wp2
      go_meet
      exact ⟨by rw [hbr]; rfl, rfl⟩
    · go_wp2
      go_meet
      exact ⟨by rw [hbr]; rfl, rfl⟩
  case rest =>
    obtain ⟨rfl, rfl⟩ := hcut
    clear HB
    have HBB := Lib.hid hbase
    clear hbase
    go_wp2_with (first
      | (go_at_call 19; refine (New_ok _ base HBB.out).mono ?_; rintro r1 w1 ⟨rfl, S1, b1⟩)
      | (go_at_call 12; refine (Explicit_n (l := l) base rfl HBB.out (h.below b1 (.inl (Nat.le_refl _))) b1.size hl).mono ?_; rintro r2 w2 ⟨lA, lc, cA, cc, mg, rfl, L2, C2, M2, -, -, b2⟩)
      | (go_at_call 17; refine (lives_ok _).mono ?_; rintro r3 w3 ⟨rfl, b3⟩))
    have X3 : Blk w3 w2.heap.size 29 #[.slice lA l.length lc, .slice cA l.length cc, .slice (some ⟨mg, 0, none⟩) l.length l.length] := (Blk.new w2 29 _).below b3 (by simp)
    have L3 := (L2.alloc (.cells #[.slice lA l.length lc, .slice cA l.length cc, .slice (some ⟨mg, 0, none⟩) l.length l.length] 29)).below b3 (Nat.le_refl _)
    have b13 : Below w1.heap.size w1 w3 := (b2.alloc b2.size (.cells #[.slice lA l.length lc, .slice cA l.length cc, .slice (some ⟨mg, 0, none⟩) l.length l.length] 29)).trans (b3.mono (by have := b2.size; simp; omega))
    have b03 : Below wc.heap.size wc w3 := b1.trans (b13.mono b1.size)
    have S3 := IsStack.below S1 b13
    have rd3 := h.below b03 (.inl (Nat.le_refl _))
    have hlo := L3.lt
    have hsz : wc.heap.size + 1 < w1.heap.size := by obtain ⟨cap, hb, _⟩ := head_cells S1; exact hb
    have hx2 : w1.heap.size ≤ w2.heap.size := b2.size
    have hrun := fun j => runS_wf HBB.out l (auP l) j
    have hlen := (runS_len base l (auP l) l.length).1
    have HLEN := Lib.hid hlen
    have HGET := Lib.hid (fun j (hj : j < l.length) => (runS_get (base := base) (l := l) (au := auP l) l.length hj).1)
    clear hlen S1 b1 L2 C2 M2 b2 b3 b13 h
    go_loopg [10] l.length (fun gk iv wr => ∃ (j g : Nat) (s : SS), j + gk = l.length ∧ iv = .int .i64 j ∧ StackIs wr (wc.heap.size + 1) g s ∧ WF base s ∧ s.i ≤ j ∧ s.m ≤ j ∧ (g = wc.heap.size ∨ w3.heap.size ≤ g) ∧ Frm (fun k => k = wc.heap.size + 1 ∨ k = wc.heap.size) w3 wr)
    case atStart => exact ⟨0, _, _, by omega, rfl, S3, WF.start HBB.out, by simp, by simp, .inl rfl, Frm.refl _ _⟩
    case round =>
      obtain ⟨j, g, s, hj, rfl, S, hW, hi, hm, hg, F⟩ := hrel
      have HJ := Lib.hid hj
      clear hj
      by_cases hjl : j < l.length
      · have rdw := rd3.frmA F (fun b off e => by
          subst e
          obtain ⟨b', off', e', hb', _⟩ := rd3.at_ hjl
          cases e'
          omega)
        obtain ⟨a1, o1, rfl, _, hl1, c1⟩ := rdw.at_ hjl
        obtain ⟨a2, o2, rfl, _, hl2, c2⟩ := ((L3.frm F (fun k hk e => by have := hlo k hk; omega)).rd).at_ (i := j) (by rw [HLEN.out]; exact hjl)
        obtain ⟨x1, x2, x3, xf, xl⟩ := (X3.frm F (by omega)).c3
        rw [HGET.out j hjl] at c2
        have hout := (stepS_ok (hrun j).1 (l.getD j 0) (auP l j)).kind
        generalize (stepS base (runS base l (auP l) j).1 (l.getD j 0) (auP l j)).lv = at_ at c2 hout
        generalize (stepS base (runS base l (auP l) j).1 (l.getD j 0) (auP l j)).k = ak at hout
        generalize l.getD j 0 = ci at c1 hout
        have hgw : g < wr.heap.size := by obtain ⟨cap, _, hg, _⟩ := head_cells S; exact hg
        have hlv := HBB.out
        by_cases hgo : goneC ci = true
        · have hat : at_ = -1 := by
            rcases hout with h | h
            · exact h.2.2
            · rw [hgo] at h; exact absurd h.1 (by simp)
          subst hat
          clear hout
          go_upto_region 13 with (fail)
          refine wp_region_mid 11 (by kernel_rfl) (by kernel_rfl) rfl ?_
          simp only [List.take_succ_cons, List.take_zero]
          repeat (refine still_plain rfl rfl ?_; intro K hK; go_wp2)
          refine wpStill_nil ?_
          refine mid_op rfl rfl ?_
          intro K hK
          go_wp2_with (go_at_call 20; refine (Step_gone (base := base) (w := wr.drew) (b := wc.heap.size + 1) (g := g) hgo _ (IsStack.drew S) hW (by omega) (by omega)).mono ?_; rintro r1 w4 ⟨cl, s', rfl, hc1, hc2, hW', hi', hm', g', hg', S', F1⟩)
          repeat (refine still_plain rfl rfl ?_; intro K hK; go_wp2)
          refine wpStill_nil ?_
          have F2 : Frm (fun k => k = wc.heap.size + 1 ∨ k = g) wr w4 := ⟨F1.os, F1.tape, F1.output, F1.size, F1.block⟩
          have hg2 : g' = g ∨ wr.heap.size ≤ g' := hg'
          have hs24 := F2.size
          have hs03 := b03.size
          have ha2b := hlo a2 rfl
          have hx3 := X3.lt
          have hs13 := F.size
          have k1 := (F2.cell (p := ⟨a1, o1 + j, none⟩) hl1 (by simp only; omega)).trans c1
          have k2 := (F2.cell (p := ⟨a2, o2 + j, none⟩) hl2 (by simp only; omega)).trans c2
          have k3 := (F2.cell (p := ⟨w2.heap.size, 0, none⟩) xl (by simp only; omega)).trans x1
          clear c1 c2 x1 x2 x3 xf F1 hg' S
          obtain ⟨sl, si, sm, sv⟩ := s'
          obtain ⟨e', l', hsl⟩ := hW'.ents.ne
          simp only at hsl hi' hm'
          have hT := hW'.ents
          simp only [hsl] at hT
          obtain ⟨t1, t2, t3, -⟩ := Ents.top hW'.hb hT
          have hv0 := hW'.v0
          have hvn := isos_nonneg sl
          have hvl := isos_lt hW'.ents
          simp only at hv0 hvl
          have hlen0 : 0 < sl.length := by rw [hsl]; simp
          have hll : (sl.length : Int) ≤ 126 := by rw [hsl]; simp only [List.length_cons]; push_cast; omega
          have hq1 : 0 ≤ sv := by omega
          have hq2 : sv ≤ 126 := by omega
          have hn1 : ¬ (sl.length : Int) < 1 + sv := by omega
          have hn2 : ¬ (126 : Int) < sl.length := by omega
          have hz1 : (cl == 0) = false := beq_eq_false_iff_ne.2 (by omega)
          have hz2 : ¬ 23 < cl := by omega
          have HSL := Lib.hid hsl
          have HV0 := Lib.hid hv0
          have HVL := Lib.hid hvl
          clear hsl hv0 hvl hT
          go_wp2_with (first
            | (go_at_call 21; refine (Over_any (w := w4) S' hlen0).mono ?_; rintro r w5 ⟨rfl, b5⟩; have S5 := IsStack.below S' b5; have m1 := (b5.cell (p := ⟨a1, o1 + j, none⟩) (by simp only; omega)).trans k1)
            | (go_at_call 22; refine (gone_any ci _).mono ?_; rintro r w' ⟨rfl, rfl⟩; rw [hgo])
            | (go_at_call 23; refine (Depth_any S5 hlen0).mono ?_; rintro r w' ⟨rfl, rfl⟩)
            | (go_at_call 24; have t := b6; refine (Level_any (HSL.out ▸ S6)).mono ?_; rintro r w7 ⟨rfl, b7⟩; have S7 := IsStack.below S6 b7; have b47 := (b5.trans (b6.mono b5.size)).trans (b7.mono (Nat.le_trans b5.size b6.size)); have n1 := (b47.cell (p := ⟨a1, o1 + j, none⟩) (by simp only; omega)).trans k1; have n2 := (b47.cell (p := ⟨a2, o2 + j, none⟩) (by simp only; omega)).trans k2; have n3 := (b47.cell (p := ⟨w2.heap.size, 0, none⟩) (by simp only; omega)).trans k3)
            | (go_at_call 24; refine (Level_any (HSL.out ▸ S5)).mono ?_; rintro r w6 ⟨rfl, b6⟩; have S6 := IsStack.below S5 b6))
          go_roundg (l.length - (j + 1))
          case rel =>
            refine ⟨j + 1, g', ⟨sl, si, sm, sv⟩, by have := HJ.out; omega, by go_num, S7, hW', by simp only; push_cast; omega, by simp only; push_cast; omega, ?_, ?_⟩
            · rcases hg2 with e | e
              · rw [e]; exact hg
              · exact .inr (by omega)
            · exact (F.trans F2 (fun k hk e => by omega)).trans (Frm.of_below (F := fun _ => False) b47) (fun _ _ e => e.elim)
          case measure => have := HJ.out; omega
        · have hgo : goneC ci = false := by simpa using hgo
          have hat : base ≤ at_ ∧ at_ ≤ 125 := by
            rcases hout with h | h
            · rw [hgo] at h; exact absurd h.1 (by simp)
            · exact h.2.2
          obtain ⟨ha1, ha2⟩ := hat
          have ha3 : (at_ == -1) = false := beq_eq_false_iff_ne.2 (by omega)
          have ha4 : (at_ != -1) = true := by simp; omega
          clear hout
          go_upto_region 13 with (fail)
          refine wp_region_mid 11 (by kernel_rfl) (by kernel_rfl) rfl ?_
          simp only [List.take_succ_cons, List.take_zero]
          repeat (refine still_plain rfl rfl ?_; intro K hK; go_wp2)
          refine wpStill_nil ?_
          refine mid_op rfl rfl ?_
          intro K hK
          go_wp2_with (go_at_call 20; refine (Step_stay (base := base) (w := wr.drew) (b := wc.heap.size + 1) (g := g) hgo _ (IsStack.drew S) hW (by omega) (by omega)).mono ?_; rintro r1 w4 ⟨lv, cl, s', rfl, hv1, hv2, hc1, hc2, hW', hi', hm', g', hg', S', F1⟩)
          repeat (refine still_plain rfl rfl ?_; intro K hK; go_wp2)
          refine wpStill_nil ?_
          have F2 : Frm (fun k => k = wc.heap.size + 1 ∨ k = g) wr w4 := ⟨F1.os, F1.tape, F1.output, F1.size, F1.block⟩
          have hg2 : g' = g ∨ wr.heap.size ≤ g' := hg'
          have hs24 := F2.size
          have hs03 := b03.size
          have ha2b := hlo a2 rfl
          have hx3 := X3.lt
          have hs13 := F.size
          have k1 := (F2.cell (p := ⟨a1, o1 + j, none⟩) hl1 (by simp only; omega)).trans c1
          have k2 := (F2.cell (p := ⟨a2, o2 + j, none⟩) hl2 (by simp only; omega)).trans c2
          have k3 := (F2.cell (p := ⟨w2.heap.size, 0, none⟩) xl (by simp only; omega)).trans x1
          clear c1 c2 x1 x2 x3 xf F1 hg' S
          obtain ⟨sl, si, sm, sv⟩ := s'
          obtain ⟨e', l', hsl⟩ := hW'.ents.ne
          simp only at hsl hi' hm'
          have hT := hW'.ents
          simp only [hsl] at hT
          obtain ⟨t1, t2, t3, -⟩ := Ents.top hW'.hb hT
          have hv0 := hW'.v0
          have hvn := isos_nonneg sl
          have hvl := isos_lt hW'.ents
          simp only at hv0 hvl
          have hlen0 : 0 < sl.length := by rw [hsl]; simp
          have hll : (sl.length : Int) ≤ 126 := by rw [hsl]; simp only [List.length_cons]; push_cast; omega
          have hq1 : 0 ≤ sv := by omega
          have hq2 : sv ≤ 126 := by omega
          have hn1 : ¬ (sl.length : Int) < 1 + sv := by omega
          have hn2 : ¬ (126 : Int) < sl.length := by omega
          have hz1 : (cl == 0) = false := beq_eq_false_iff_ne.2 (by omega)
          have hz2 : ¬ 23 < cl := by omega
          have hv3 : (lv == -1) = false := beq_eq_false_iff_ne.2 (by omega)
          have HSL := Lib.hid hsl
          have HV0 := Lib.hid hv0
          have HVL := Lib.hid hvl
          clear hsl hv0 hvl hT
          go_wp2_with (first
            | (go_at_call 21; refine (Over_any (w := w4) S' hlen0).mono ?_; rintro r w5 ⟨rfl, b5⟩; have S5 := IsStack.below S' b5; have m1 := (b5.cell (p := ⟨a1, o1 + j, none⟩) (by simp only; omega)).trans k1)
            | (go_at_call 22; refine (gone_any ci _).mono ?_; rintro r w' ⟨rfl, rfl⟩; rw [hgo])
            | (go_at_call 23; refine (Depth_any S5 hlen0).mono ?_; rintro r w' ⟨rfl, rfl⟩)
            | (go_at_call 24; have t := b6; refine (Level_any (HSL.out ▸ S6)).mono ?_; rintro r w7 ⟨rfl, b7⟩; have S7 := IsStack.below S6 b7; have b47 := (b5.trans (b6.mono b5.size)).trans (b7.mono (Nat.le_trans b5.size b6.size)); have n1 := (b47.cell (p := ⟨a1, o1 + j, none⟩) (by simp only; omega)).trans k1; have n2 := (b47.cell (p := ⟨a2, o2 + j, none⟩) (by simp only; omega)).trans k2; have n3 := (b47.cell (p := ⟨w2.heap.size, 0, none⟩) (by simp only; omega)).trans k3)
            | (go_at_call 24; refine (Level_any (HSL.out ▸ S5)).mono ?_; rintro r w6 ⟨rfl, b6⟩; have S6 := IsStack.below S5 b6))
          go_roundg (l.length - (j + 1))
          case rel =>
            refine ⟨j + 1, g', ⟨sl, si, sm, sv⟩, by have := HJ.out; omega, by go_num, S7, hW', by simp only; push_cast; omega, by simp only; push_cast; omega, ?_, ?_⟩
            · rcases hg2 with e | e
              · rw [e]; exact hg
              · exact .inr (by omega)
            · exact (F.trans F2 (fun k hk e => by omega)).trans (Frm.of_below (F := fun _ => False) b47) (fun _ _ e => e.elim)
          case measure => have := HJ.out; omega
      · have : j = l.length := by have := HJ.out; omega
        subst this
        go_wp2
        go_ret
        exact ⟨rfl, b03.trans (F.below b03.size (fun k hk => by omega))⟩
end Go.Proofs.Ytfelcmppopibcaa
