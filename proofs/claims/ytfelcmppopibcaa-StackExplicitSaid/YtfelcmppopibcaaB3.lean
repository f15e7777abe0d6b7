/- StackExplicit walked. -/
import Derived.Test.YtfelcmppopibcaaK1
import Derived.Test.YtfelcmppopibcaaK2
import Derived.Test.YtfelcmppopibcaaK3
import Derived.Test.YtfelcmppopibcaaA1
import Derived.Deep.CutRange
namespace Go.Proofs.Ytfelcmppopibcaa
open Go.RowKit

theorem ExpIs.some {w : World} {B : Nat} {x : Exp} {lA cA mA : Option Addr} {lc cc mc : Nat} (h : ExpIs w B x lA cA mA lc cc mc) : Some3 w B lA cA mA x.L.length x.C.length x.M.length lc cc mc := ⟨⟨_, rfl, h.l⟩, ⟨_, rfl, h.c⟩, ⟨_, rfl, h.m⟩⟩
theorem Same_exp {w : World} {B B' : Nat} {x : Exp} {lA cA mA lA' cA' mA' : Option Addr} {lc cc mc lc' cc' mc' : Nat} (h : ExpIs w B x lA cA mA lc cc mc) (h' : ExpIs w B' x lA' cA' mA' lc' cc' mc')
    (h1 : x.L.length ≤ 1048576) (h2 : x.C.length ≤ 1048576) (h3 : x.M.length ≤ 1048576) :
    Calls Try.prog 14 #[.agg #[.slice lA x.L.length lc, .slice cA x.C.length cc, .slice mA x.M.length mc], .agg #[.slice lA' x.L.length lc', .slice cA' x.C.length cc', .slice mA' x.M.length mc']] w fun r w' => r = .returned (.bool true) ∧ Below w.heap.size w w' :=
  Same_ok rfl rfl rfl h.l.rd h.c.rd h.m.rd h'.l.rd h'.c.rd h'.m.rd h1 h2 h3
theorem ExpIs.own_lt {w : World} {B : Nat} {x : Exp} {lA cA mA : Option Addr} {lc cc mc : Nat} (h : ExpIs w B x lA cA mA lc cc mc) {k : Nat} (hk : Own3 lA cA mA k) : B ≤ k ∧ k < w.heap.size := by
  rcases hk with hk | hk | hk
  · exact h.l.lt' hk
  · exact h.c.lt' hk
  · exact h.m.lt' hk

set_option maxRecDepth 100000 in
set_option maxHeartbeats 4000000 in
theorem explicit_walk {w : World} {A : Option Addr} {c : Nat} {l : List Int} (base : Int) (h : RdInts w w.heap.size .u8 A l) (hl : l.length ≤ 140737488351232) :
    Calls Try.prog 3 #[.int .i8 base, .slice A l.length c] w fun e w' => e = .returned (.bool true) ∧ Below w.heap.size w w' := by
  obtain ⟨n1, n2, n3⟩ := exA_len base l
  go_enter Try.func3, Try.ntmps3
  go_upto_region 5 with (first
    | (go_at_call 11; refine (lent_ok h hl).mono ?_; rintro r1 w1 ⟨gf, fcap, rfl, I1, b1⟩)
    | (go_at_call 12
       have t2 := b2
       refine (Explicit_all (B := w.heap.size) (l := l) base (((h.below b1 (.inl (Nat.le_refl _))).below b2 (.inl b1.size)).alloc _) (by have := b1.size; have := b2.size; simp; omega)).mono ?_
       rintro r3 w3 ⟨lA3, lc3, cA3, cc3, mA3, mc3, rfl, E3, -, b3⟩)
    | (go_at_call 12
       have rdf : RdInts w1 w1.heap.size .u8 (some ⟨gf, 0, none⟩) l := by have := I1.rd.take l.length; rwa [List.take_left] at this
       refine (Explicit_all (l := l) base rdf (Nat.le_refl _)).mono ?_
       rintro r2 w2 ⟨lA2, lc2, cA2, cc2, mA2, mc2, rfl, E2, ha, b2⟩)
    | (go_at_call 13
       have r4 := (((((h.below b1 (.inl (Nat.le_refl _))).below b2 (.inl b1.size)).alloc (.cells #[.slice lA2 (exA base l).L.length lc2, .slice cA2 (exA base l).C.length cc2, .slice mA2 (exA base l).M.length mc2] 29)).below b3 (.inl (by have := b1.size; have := b2.size; simp; omega))).alloc (.cells #[.slice lA3 (exA base l).L.length lc3, .slice cA3 (exA base l).C.length cc3, .slice mA3 (exA base l).M.length mc3] 29))
       refine (rExplicit_all (l := l) base r4 (by have := b1.size; have := b2.size; have := b3.size; simp at this; simp; omega)).mono ?_
       rintro r4 w4 ⟨lA4, lc4, cA4, cc4, mA4, mc4, rfl, E4, b4⟩))
  generalize exA base l = x at *
  have s1 := b1.size
  have s2 := b2.size
  have s3 := b3.size
  have s4 := b4.size
  simp only [World.size_alloc] at s3 s4
  have X2 := Blk.new w2 29 #[.slice lA2 x.L.length lc2, .slice cA2 x.C.length cc2, .slice mA2 x.M.length mc2]
  have Y3 := Blk.new w3 29 #[.slice lA3 x.L.length lc3, .slice cA3 x.C.length cc3, .slice mA3 x.M.length mc3]
  have Z4 := Blk.new w4 29 #[.slice lA4 x.L.length lc4, .slice cA4 x.C.length cc4, .slice mA4 x.M.length mc4]
  have X4 := (((X2.below b3 (by simp)).alloc (.cells #[.slice lA3 x.L.length lc3, .slice cA3 x.C.length cc3, .slice mA3 x.M.length mc3] 29)).below b4 (by simp; omega)).alloc (.cells #[.slice lA4 x.L.length lc4, .slice cA4 x.C.length cc4, .slice mA4 x.M.length mc4] 29)
  have Y4 := (Y3.below b4 (by simp)).alloc (.cells #[.slice lA4 x.L.length lc4, .slice cA4 x.C.length cc4, .slice mA4 x.M.length mc4] 29)
  have E24 := ((((E2.alloc (.cells #[.slice lA2 x.L.length lc2, .slice cA2 x.C.length cc2, .slice mA2 x.M.length mc2] 29)).below b3).alloc (.cells #[.slice lA3 x.L.length lc3, .slice cA3 x.C.length cc3, .slice mA3 x.M.length mc3] 29)).below b4).alloc (.cells #[.slice lA4 x.L.length lc4, .slice cA4 x.C.length cc4, .slice mA4 x.M.length mc4] 29)
  have E2o := fun k (hk : Own3 lA2 cA2 mA2 k) => E2.own_lt hk
  have E34 := ((E3.alloc (.cells #[.slice lA3 x.L.length lc3, .slice cA3 x.C.length cc3, .slice mA3 x.M.length mc3] 29)).below b4).alloc (.cells #[.slice lA4 x.L.length lc4, .slice cA4 x.C.length cc4, .slice mA4 x.M.length mc4] 29)
  have E44 := E4.alloc (.cells #[.slice lA4 x.L.length lc4, .slice cA4 x.C.length cc4, .slice mA4 x.M.length mc4] 29)
  have bA := (b2.alloc s2 (.cells #[.slice lA2 x.L.length lc2, .slice cA2 x.C.length cc2, .slice mA2 x.M.length mc2] 29)).trans (b3.mono (by simp; omega))
  have bB := (bA.alloc bA.size (.cells #[.slice lA3 x.L.length lc3, .slice cA3 x.C.length cc3, .slice mA3 x.M.length mc3] 29)).trans (b4.mono (by have := bA.size; simp; omega))
  have b14 := bB.alloc bB.size (.cells #[.slice lA4 x.L.length lc4, .slice cA4 x.C.length cc4, .slice mA4 x.M.length mc4] 29)
  have b04 := b1.trans (b14.mono s1)
  have hgf := I1.lt gf rfl
  have I4 := I1.below b14 (Nat.le_refl _)
  have rd4 := h.below b04 (.inl (Nat.le_refl _))
  have hZ : (w4.alloc (.cells #[.slice lA4 x.L.length lc4, .slice cA4 x.C.length cc4, .slice mA4 x.M.length mc4] 29)).heap.size = w4.heap.size + 1 := by simp
  simp only [World.size_alloc] at E34 E44
  clear h I1 b1 b2 b3 b4 X2 Y3 E2 E3 E4 bA bB
  generalize w4.alloc (.cells #[.slice lA4 x.L.length lc4, .slice cA4 x.C.length cc4, .slice mA4 x.M.length mc4] 29) = W at *
  have HZ := Lib.hid hZ
  clear hZ
  obtain ⟨x1, x2, x3, xf, xl⟩ := X4.c3
  obtain ⟨y1, y2, y3, yf, yl⟩ := Y4.c3
  obtain ⟨z1, z2, z3, zf, zl⟩ := Z4.c3
  go_wp2_with (first
    | (go_at_call 14
       have t8 := F8
       refine (Same_exp E38 E48 n1 n2 n3).mono ?_
       rintro r9 w9 ⟨rfl, b9⟩)
    | (go_at_call 14
       have t5 := b5
       refine (Same_exp (E34.below b5) (E44.below b5) n1 n2 n3).mono ?_
       rintro r6 w6 ⟨rfl, b6⟩
       have b46 := b5.trans (b6.mono b5.size)
       have I6 := I4.below b46 (Nat.le_refl _)
       have rd6 := rd4.below b46 (.inl (Nat.le_trans b04.size (Nat.le_refl _))))
    | (go_at_call 14
       refine (Same_exp E24 E44 n1 n2 n3).mono ?_
       rintro r5 w5 ⟨rfl, b5⟩
       obtain ⟨y1, y2, y3, yf, yl⟩ := (Y4.below b5 Y4.lt).c3
       obtain ⟨z1, z2, z3, zf, zl⟩ := (Z4.below b5 Z4.lt).c3)
    | (go_at_call 15
       refine (kept_ok I6 rd6 (Nat.le_refl _) hl).mono ?_
       rintro r7 w7 ⟨rfl, F7⟩
       have F47 := (Frm.of_below (F := fun k => k = gf) b46).trans F7 (fun _ _ e => e)
       have X7 := X4.frm F47 (by omega)
       have Y7 := Y4.frm F47 (by omega)
       have Z7 := Z4.frm F47 (by omega)
       have E27 := E24.frm F47 (fun k h1 _ e => by omega)
       have E37 := E34.frm F47 (fun k h1 _ e => by omega)
       have E47 := E44.frm F47 (fun k h1 _ e => by omega)
       have b07 := b04.trans (F47.below b04.size (fun k hk e => by omega))
       obtain ⟨x1, x2, x3, xf, xl⟩ := X7.c3)
    | (go_at_call 16
       refine (spoil_ok E27.some ha n1 n2 n3 (by have := F47.size; have := b14.size; omega)).mono ?_
       rintro r8 w8 ⟨rfl, F8⟩
       have hown := fun k hk => E2o k hk
       have Y8 := Y7.frm F8 (fun e => by have := hown _ e; omega)
       have Z8 := Z7.frm F8 (fun e => by have := hown _ e; omega)
       have E38 := E37.frm F8 (fun k h1 _ e => by have := hown _ e; omega)
       have E48 := E47.frm F8 (fun k h1 _ e => by have := hown _ e; omega)
       have b08 := b07.trans (F8.below b07.size (fun k hk e => by have := hown _ e; omega))
       obtain ⟨y1, y2, y3, yf, yl⟩ := Y8.c3
       obtain ⟨z1, z2, z3, zf, zl⟩ := Z8.c3)
    | (go_at_call 17; refine (lives_ok _).mono ?_; rintro r10 w10 ⟨rfl, b10⟩))
  go_ret
  exact ⟨rfl, (b08.trans (b9.mono b08.size)).trans (b10.mono (Nat.le_trans b08.size b9.size))⟩
end Go.Proofs.Ytfelcmppopibcaa
