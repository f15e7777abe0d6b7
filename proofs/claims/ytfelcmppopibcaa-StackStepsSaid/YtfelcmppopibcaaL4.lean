/- A stack of both, all that it tells. -/
import Derived.Test.YtfelcmppopibcaaL3
import Derived.Test.YtfelcmppopibcaaR8
import Derived.Deep.RegionHeld3
namespace Go.Proofs.Ytfelcmppopibcaa
open Go.RowKit

/-- What holds while the two are compared. -/
structure Al (w0 : World) (bx b g n c : Nat) (A : Option Addr) (base : Int) (e : Ent) (l : List Ent) (i m v : Int) (W : World) : Prop where
  st : IsStack W b g (e :: l) i m v
  rd : Reads W w0.heap.size 3 A n (entCells (e :: l))
  bl : Below w0.heap.size w0 W
  box : Blk W bx 59 #[.int .i8 base, .slice A n c, .int .i64 i, .int .i64 m, .int .i64 v]
theorem Al.below {w0 W W' : World} {bx b g n c : Nat} {A : Option Addr} {base : Int} {e : Ent} {l : List Ent} {i m v : Int} (h : Al w0 bx b g n c A base e l i m v W) (hb : Below W.heap.size W W') : Al w0 bx b g n c A base e l i m v W' :=
  ⟨h.st.below hb, h.rd.below hb (.inl h.bl.size), h.bl.trans (hb.mono h.bl.size), h.box.below hb h.box.lt⟩

set_option maxRecDepth 100000 in
set_option maxHeartbeats 1000000 in
theorem alike_ok {w : World} {b g n c : Nat} {A : Option Addr} {base : Int} {e : Ent} {l : List Ent} {i m v : Int} (h : IsStack w b g (e :: l) i m v) (hr : RefIs w base A n c ⟨e :: l, i, m, v⟩) :
    Calls Try.prog 28 #[.pointer (some ⟨b, 0, none⟩), refV base A n c i m v] w fun r w' => r = .returned (.bool true) ∧ Below w.heap.size w w' := by
  obtain ⟨hn, hR, hnc⟩ := hr
  simp only at hn hR
  have hsm := h.small
  simp only [List.length_cons] at hsm hn
  subst hn
  have hA1 : Al w w.heap.size b g (l.length + 1) c A base e l i m v (w.alloc (.cells #[.int .i8 base, .slice A (l.length + 1) c, .int .i64 i, .int .i64 m, .int .i64 v] 59)) :=
    ⟨IsStack.below h ((Below.refl _ w).alloc (Nat.le_refl _) _), hR.alloc _, (Below.refl w.heap.size w).alloc (Nat.le_refl _) _, Blk.new w 59 _⟩
  clear h hR
  go_enter Try.func28, Try.ntmps28
  go_upto_region 2 with (go_at_call 21; refine (Over_any hA1.st (by simp)).mono ?_; rintro r w1 ⟨rfl, b2⟩)
  have hA2 := hA1.below b2
  have hlen : ((e :: l).length : Int) = (l.length : Int) + 1 := by simp
  have HLEN := Lib.hid hlen
  clear hlen hA1 b2
  obtain ⟨x0, x1, x2, x3, x4, xf, xl⟩ := hA2.box.c5
  generalize hbx : w.heap.size = bx at *
  have HBX := Lib.hid hbx
  clear hbx
  have hA2d : Al w bx b g (l.length + 1) c A base e l i m v w1.drew := ⟨IsStack.drew hA2.st, hA2.rd, hA2.bl.drew, hA2.box⟩
  go_region_held3 (fun w' => w'.cell? ⟨bx, 0, none⟩ = some (.int .i8 base) ∧ w'.cell? ⟨bx, 1, none⟩ = some (.slice A (l.length + 1) c) ∧ w'.cell? ⟨bx, 2, none⟩ = some (.int .i64 i) ∧ w'.cell? ⟨bx, 3, none⟩ = some (.int .i64 m) ∧ w'.cell? ⟨bx, 4, none⟩ = some (.int .i64 v) ∧
      Al w bx b g (l.length + 1) c A base e l i m v w') (refine ⟨?_, ?_, ?_, ?_, ?_, ?_⟩ <;> assumption)
    (first
      | (go_at_call 23; refine (Depth_any (Al.st (w0 := w) (bx := bx) (c := c) (A := A) (base := base) (n := l.length + 1) (by assumption)) (by simp)).mono ?_; rintro r w2 ⟨rfl, rfl⟩; rw [HLEN.out])
      | (go_at_call 24; refine (Level_any (Al.st (w0 := w) (bx := bx) (c := c) (A := A) (base := base) (n := l.length + 1) (by assumption))).mono ?_; rintro r w3 ⟨rfl, b3⟩; have hA3 : Al w bx b g (l.length + 1) c A base e l i m v w3 := Al.below (by assumption) b3; obtain ⟨z0, z1, z2, z3, z4, _, _⟩ := hA3.box.c5)
      | (go_at_call 45; refine (rLast_any (Al.rd (w0 := w) (bx := bx) (b := b) (g := g) (c := c) (base := base) (i := i) (m := m) (v := v) (by assumption)) (by omega)).mono ?_; rintro r w4 ⟨rfl, b4⟩; have hA4 : Al w bx b g (l.length + 1) c A base e l i m v w4 := Al.below (by assumption) b4; obtain ⟨z0, z1, z2, z3, z4, _, _⟩ := hA4.box.c5))
  go_wp2
  go_ret
  exact ⟨rfl, hA4.bl⟩
end Go.Proofs.Ytfelcmppopibcaa
