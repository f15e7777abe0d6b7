/- FoldsKnown walked. -/
import Derived.Test.YthifeccmbojcdaaF29
namespace Go.Proofs.Ythifeccmbojcdaa
open Go.RowKit

theorem cut_lit {w : World} {cs ds : Array Value} {n m : Nat} {most : Int} {X : List Int} {e : Int} (l ws : List Int) (hc : cs = (l.map (.int .u8)).toArray) (hd : ds = (ws.map (.int .i64)).toArray) (hn : n = l.length) (hm : m = ws.length) (hl : n ≤ 1048576) (hX : CutIs l ws most X e) :
    Calls Try.prog 24 #[.slice (some ⟨w.heap.size, 0, none⟩) n n, .slice (some ⟨w.heap.size + 1, 0, none⟩) m m, .int .i64 most] ((w.alloc (.cells cs 38)).alloc (.cells ds 3)) fun r w' => ∃ v, r = .returned (.tuple #[v, .int .i64 e]) ∧ Ints w' w.heap.size 3 .i64 v X ∧ Below w.heap.size w w' := by
  subst hc
  subst hd
  have rc := rd_blk ((Blk.new w 38 (l.map (.int .u8)).toArray).alloc (.cells (ws.map (.int .i64)).toArray 3))
  have rw_ := rd_blk (Blk.at_ (w := w.alloc (.cells (l.map (.int .u8)).toArray 38)) (t := 3) (cs := (ws.map (.int .i64)).toArray) (g := w.heap.size + 1) (by simp))
  refine (Cut_any hn hm rc rw_ (Nat.le_refl _) hl hX).mono ?_
  rintro r w' ⟨v, h1, h2, h3⟩
  have b0 := ((Below.refl _ w).alloc (Nat.le_refl _) (.cells (l.map (.int .u8)).toArray 38)).alloc (by simp) (.cells (ws.map (.int .i64)).toArray 3)
  exact ⟨v, h1, h2.base (fun j hj => by have := (h2.lt j hj).1; have := b0.size; omega), b0.trans (h3.mono b0.size)⟩
theorem mark_lit {w : World} {cs es ds : Array Value} {n m k : Nat} {X : List Int} {e : Int} (l v os : List Int) (hc : cs = (l.map (.int .u8)).toArray) (he : es = (v.map (.int .i8)).toArray) (hd : ds = (os.map (.int .i64)).toArray) (hn : n = l.length) (hm : m = v.length) (hk : k = os.length) (hl : n ≤ 1048576) (hkl : k ≤ 1048576) (hX : MarkIs l v os X e) :
    Calls Try.prog 26 #[.slice (some ⟨w.heap.size, 0, none⟩) n n, .slice (some ⟨w.heap.size + 1, 0, none⟩) m m, .slice (some ⟨w.heap.size + 2, 0, none⟩) k k] (((w.alloc (.cells cs 38)).alloc (.cells es 40)).alloc (.cells ds 3)) fun r w' => ∃ v', r = .returned (.tuple #[v', .int .i64 e]) ∧ Ints w' w.heap.size 3 .i64 v' X ∧ Below w.heap.size w w' := by
  subst hc
  subst he
  subst hd
  have rc := rd_blk (((Blk.new w 38 (l.map (.int .u8)).toArray).alloc (.cells (v.map (.int .i8)).toArray 40)).alloc (.cells (os.map (.int .i64)).toArray 3))
  have re := rd_blk ((Blk.at_ (w := w.alloc (.cells (l.map (.int .u8)).toArray 38)) (t := 40) (cs := (v.map (.int .i8)).toArray) (g := w.heap.size + 1) (by simp)).alloc (.cells (os.map (.int .i64)).toArray 3))
  have rd := rd_blk (Blk.at_ (w := (w.alloc (.cells (l.map (.int .u8)).toArray 38)).alloc (.cells (v.map (.int .i8)).toArray 40)) (t := 3) (cs := (os.map (.int .i64)).toArray) (g := w.heap.size + 2) (by simp))
  refine (Marks_any hn hm hk rc re rd (Nat.le_refl _) hl hkl hX).mono ?_
  rintro r w' ⟨v', h1, h2, h3⟩
  have b0 := (((Below.refl _ w).alloc (Nat.le_refl _) (.cells (l.map (.int .u8)).toArray 38)).alloc (by simp) (.cells (v.map (.int .i8)).toArray 40)).alloc (by simp; omega) (.cells (os.map (.int .i64)).toArray 3)
  exact ⟨v', h1, h2.base (fun j hj => by have := (h2.lt j hj).1; have := b0.size; omega), b0.trans (h3.mono b0.size)⟩
theorem one_lit {w : World} {cs : Array Value} (t : TypeId) (k : IntKind) (l : List Int) (hc : cs = (l.map (.int k)).toArray) : RdInts (w.alloc (.cells cs t)) (w.alloc (.cells cs t)).heap.size k (some ⟨w.heap.size, 0, none⟩) l := by
  subst hc
  exact rd_blk (Blk.new w t _)
/-- numbers of what was made and of a list written out. -/
theorem num_lit {w : World} {D : Nat} {A : Option Addr} {n m c : Nat} {cs : Array Value} (X : List Int) (I : Ints w D 3 .i64 (.slice A n c) X) (hc : cs = (X.map (.int .i64)).toArray) (hn : n = X.length) (hm : m = X.length) (hl : X.length ≤ 1048576) :
    Calls Try.prog 20 #[.slice A n c, .slice (some ⟨w.heap.size, 0, none⟩) m m] (w.alloc (.cells cs 3)) fun r w' => r = .returned (.bool true) ∧ Below w.heap.size w w' := by
  have r1 := (I.alloc (.cells cs 3)).rd
  have r2 := one_lit (w := w) 3 .i64 X hc
  refine (numbers_ok hn hm r1 r2 (by omega)).mono ?_
  rintro r w' ⟨h1, h2⟩
  have b0 := (Below.refl _ w).alloc (Nat.le_refl _) (.cells cs 3)
  exact ⟨h1, b0.trans (h2.mono b0.size)⟩

theorem k_a : CutIs [1, 1, 13, 1, 1, 13, 1] [1, 1, 1, 1, 1, 1, 1] 3 [0, 3, 6] 0 := .inr (.inr ⟨rfl, by unfold Fine; decide, by omega, by omega, by decide, rfl⟩)
theorem k_c : CutIs [1, 1, 1, 1, 1] [1, 1, 1, 1, 1] 2 [0, 2, 4] 0 := .inr (.inr ⟨rfl, by unfold Fine; decide, by omega, by omega, by decide, rfl⟩)
theorem k_d : CutIs [1, 1, 1, 1, 1] [1, 1, 1, 1, 1] 0 [0, 1, 2, 3, 4] 0 := .inr (.inr ⟨rfl, by unfold Fine; decide, by omega, by omega, by decide, rfl⟩)
theorem k_h : CutIs [1, 13, 13, 13, 13, 1] [1, 1, 1, 1, 1, 1] 1 [0, 5] 0 := .inr (.inr ⟨rfl, by unfold Fine; decide, by omega, by omega, by decide, rfl⟩)
theorem k_j : CutIs [1] [-1] 1 [] 230 := .inr (.inl ⟨rfl, .inr (.inr (by unfold Fine; decide)), rfl, rfl⟩)
theorem k_n : MarkIs [2, 9, 9] [1, 1, 1] [2, 1, 0] [0, 1, 2] 0 := .inr (.inr ⟨rfl, by unfold GoodO; decide, by decide, rfl⟩)
theorem k_p : MarkIs [1, 9] [0, 0] [0, 1] [0, 1] 0 := .inr (.inr ⟨rfl, by unfold GoodO; decide, by decide, rfl⟩)
theorem k_u : clusL [1, 9, 13, 1, 9, 9] = [0, 2, 3] := by decide
theorem k_v : brkL [1, 9, 13, 1, 9, 9] = [0, 3] := by decide
theorem k_w : clusL [9, 1, 9] = [0, 1] := by decide

set_option maxRecDepth 100000 in
set_option maxHeartbeats 4000000 in
theorem known_walk (w : World) : Calls Try.prog 6 #[] w fun r w' => r = .returned (.bool true) ∧ Below w.heap.size w w' := by
  go_enter Try.func6, Try.ntmps6
  go_upto_region 3 with (go_at_call 24; refine (cut_lit (n := 7) (m := 7) (cs := #[.int .u8 1, .int .u8 1, .int .u8 13, .int .u8 1, .int .u8 1, .int .u8 13, .int .u8 1]) (ds := #[.int .i64 1, .int .i64 1, .int .i64 1, .int .i64 1, .int .i64 1, .int .i64 1, .int .i64 1]) [1, 1, 13, 1, 1, 13, 1] [1, 1, 1, 1, 1, 1, 1] rfl rfl rfl rfl (by omega) k_a).mono ?_; rintro r1 w1 ⟨va, rfl, Ia, b1⟩)
  obtain ⟨ga, ca, rfl⟩ := Ia.form (by simp)
  have bb1 := b1
  clear b1
  go_upto_region 4 with (go_at_call 24; refine (cut_lit (n := 5) (m := 5) (cs := #[.int .u8 1, .int .u8 1, .int .u8 1, .int .u8 1, .int .u8 1]) (ds := #[.int .i64 1, .int .i64 1, .int .i64 1, .int .i64 1, .int .i64 1]) [1, 1, 1, 1, 1] [1, 1, 1, 1, 1] rfl rfl rfl rfl (by omega) k_c).mono ?_; rintro r2 w2 ⟨vc, rfl, Ic, b2⟩)
  obtain ⟨gc, cc, rfl⟩ := Ic.form (by simp)
  replace Ia := Ia.below b2 (Nat.le_refl _)
  have bb2 := bb1.trans (b2.mono bb1.size)
  clear bb1 b2
  go_upto_region 5 with (go_at_call 24; refine (cut_lit (n := 5) (m := 5) (cs := #[.int .u8 1, .int .u8 1, .int .u8 1, .int .u8 1, .int .u8 1]) (ds := #[.int .i64 1, .int .i64 1, .int .i64 1, .int .i64 1, .int .i64 1]) [1, 1, 1, 1, 1] [1, 1, 1, 1, 1] rfl rfl rfl rfl (by omega) k_d).mono ?_; rintro r3 w3 ⟨vd, rfl, Id, b3⟩)
  obtain ⟨gd, cd, rfl⟩ := Id.form (by simp)
  replace Ia := Ia.below b3 (Nat.le_refl _)
  replace Ic := Ic.below b3 (Nat.le_refl _)
  have bb3 := bb2.trans (b3.mono bb2.size)
  clear bb2 b3
  go_upto_region 6 with (go_at_call 24; refine (cut_lit (n := 6) (m := 6) (cs := #[.int .u8 1, .int .u8 13, .int .u8 13, .int .u8 13, .int .u8 13, .int .u8 1]) (ds := #[.int .i64 1, .int .i64 1, .int .i64 1, .int .i64 1, .int .i64 1, .int .i64 1]) [1, 13, 13, 13, 13, 1] [1, 1, 1, 1, 1, 1] rfl rfl rfl rfl (by omega) k_h).mono ?_; rintro r4 w4 ⟨vh, rfl, Ih, b4⟩)
  obtain ⟨gh, ch, rfl⟩ := Ih.form (by simp)
  replace Ia := Ia.below b4 (Nat.le_refl _)
  replace Ic := Ic.below b4 (Nat.le_refl _)
  replace Id := Id.below b4 (Nat.le_refl _)
  have bb4 := bb3.trans (b4.mono bb3.size)
  clear bb3 b4
  go_upto_region 7 with (go_at_call 24; refine (cut_lit (n := 1) (m := 1) (cs := #[.int .u8 1]) (ds := #[.int .i64 (-1)]) [1] [-1] rfl rfl rfl rfl (by omega) k_j).mono ?_; rintro r5 w5 ⟨vj, rfl, Ij, b5⟩)
  clear Ij
  replace Ia := Ia.below b5 (Nat.le_refl _)
  replace Ic := Ic.below b5 (Nat.le_refl _)
  replace Id := Id.below b5 (Nat.le_refl _)
  replace Ih := Ih.below b5 (Nat.le_refl _)
  have bb5 := bb4.trans (b5.mono bb4.size)
  clear bb4 b5
  go_upto_region 8 with (go_at_call 24; refine (Cut_len (by omega)).mono ?_; rintro r6 w6 ⟨rfl, rfl⟩)
  have bs6 := bb5.size
  have bb6 := bb5.alloc bs6 (.cells #[.int .u8 1] 38)
  clear bb5 bs6
  replace Ia := Ia.alloc (.cells #[.int .u8 1] 38)
  replace Ic := Ic.alloc (.cells #[.int .u8 1] 38)
  replace Id := Id.alloc (.cells #[.int .u8 1] 38)
  replace Ih := Ih.alloc (.cells #[.int .u8 1] 38)
  generalize w5.alloc (.cells #[.int .u8 1] 38) = w6 at *
  go_upto_region 9 with (go_at_call 26; refine (mark_lit (n := 3) (m := 3) (k := 3) (cs := #[.int .u8 2, .int .u8 9, .int .u8 9]) (es := #[.int .i8 1, .int .i8 1, .int .i8 1]) (ds := #[.int .i64 2, .int .i64 1, .int .i64 0]) [2, 9, 9] [1, 1, 1] [2, 1, 0] rfl rfl rfl rfl rfl rfl (by omega) (by omega) k_n).mono ?_; rintro r7 w7 ⟨vn, rfl, In, b7⟩)
  obtain ⟨gn, cn, rfl⟩ := In.form (by simp)
  replace Ia := Ia.below b7 (Nat.le_refl _)
  replace Ic := Ic.below b7 (Nat.le_refl _)
  replace Id := Id.below b7 (Nat.le_refl _)
  replace Ih := Ih.below b7 (Nat.le_refl _)
  have bb7 := bb6.trans (b7.mono bb6.size)
  clear bb6 b7
  go_upto_region 10 with (go_at_call 26; refine (mark_lit (n := 2) (m := 2) (k := 2) (cs := #[.int .u8 1, .int .u8 9]) (es := #[.int .i8 0, .int .i8 0]) (ds := #[.int .i64 0, .int .i64 1]) [1, 9] [0, 0] [0, 1] rfl rfl rfl rfl rfl rfl (by omega) (by omega) k_p).mono ?_; rintro r8 w8 ⟨vp, rfl, Ip, b8⟩)
  obtain ⟨gp, cp, rfl⟩ := Ip.form (by simp)
  replace Ia := Ia.below b8 (Nat.le_refl _)
  replace Ic := Ic.below b8 (Nat.le_refl _)
  replace Id := Id.below b8 (Nat.le_refl _)
  replace Ih := Ih.below b8 (Nat.le_refl _)
  replace In := In.below b8 (Nat.le_refl _)
  have bb8 := bb7.trans (b8.mono bb7.size)
  clear bb7 b8
  go_wp2_with (first
    | (have t := bb20; go_at_call 23; refine (awake_ok _).mono ?_; rintro r21 w21 ⟨rfl, b21⟩; have bb21 := bb20.trans (b21.mono bb20.size))
    | (have t := bb19; go_at_call 20; refine (num_lit (n := 2) (m := 2) (cs := #[.int .i64 0, .int .i64 1]) [0, 1] Ip rfl rfl rfl (by decide)).mono ?_; rintro r20 w20 ⟨rfl, b20⟩; replace Ia := Ia.below b20 (Nat.le_refl _); replace Ic := Ic.below b20 (Nat.le_refl _); replace Id := Id.below b20 (Nat.le_refl _); replace Ih := Ih.below b20 (Nat.le_refl _); replace In := In.below b20 (Nat.le_refl _); replace Ip := Ip.below b20 (Nat.le_refl _); have bb20 := bb19.trans (b20.mono bb19.size))
    | (have t := bb18; go_at_call 20; refine (num_lit (n := 3) (m := 3) (cs := #[.int .i64 0, .int .i64 1, .int .i64 2]) [0, 1, 2] In rfl rfl rfl (by decide)).mono ?_; rintro r19 w19 ⟨rfl, b19⟩; replace Ia := Ia.below b19 (Nat.le_refl _); replace Ic := Ic.below b19 (Nat.le_refl _); replace Id := Id.below b19 (Nat.le_refl _); replace Ih := Ih.below b19 (Nat.le_refl _); replace In := In.below b19 (Nat.le_refl _); replace Ip := Ip.below b19 (Nat.le_refl _); have bb19 := bb18.trans (b19.mono bb18.size))
    | (have t := bb17; go_at_call 20; refine (num_lit (n := 2) (m := 2) (cs := #[.int .i64 0, .int .i64 5]) [0, 5] Ih rfl rfl rfl (by decide)).mono ?_; rintro r18 w18 ⟨rfl, b18⟩; replace Ia := Ia.below b18 (Nat.le_refl _); replace Ic := Ic.below b18 (Nat.le_refl _); replace Id := Id.below b18 (Nat.le_refl _); replace Ih := Ih.below b18 (Nat.le_refl _); replace In := In.below b18 (Nat.le_refl _); replace Ip := Ip.below b18 (Nat.le_refl _); have bb18 := bb17.trans (b18.mono bb17.size))
    | (have t := bb16; go_at_call 20; refine (num_lit (n := 5) (m := 5) (cs := #[.int .i64 0, .int .i64 1, .int .i64 2, .int .i64 3, .int .i64 4]) [0, 1, 2, 3, 4] Id rfl rfl rfl (by decide)).mono ?_; rintro r17 w17 ⟨rfl, b17⟩; replace Ia := Ia.below b17 (Nat.le_refl _); replace Ic := Ic.below b17 (Nat.le_refl _); replace Id := Id.below b17 (Nat.le_refl _); replace Ih := Ih.below b17 (Nat.le_refl _); replace In := In.below b17 (Nat.le_refl _); replace Ip := Ip.below b17 (Nat.le_refl _); have bb17 := bb16.trans (b17.mono bb16.size))
    | (have t := bb15; go_at_call 20; refine (num_lit (n := 3) (m := 3) (cs := #[.int .i64 0, .int .i64 2, .int .i64 4]) [0, 2, 4] Ic rfl rfl rfl (by decide)).mono ?_; rintro r16 w16 ⟨rfl, b16⟩; replace Ia := Ia.below b16 (Nat.le_refl _); replace Ic := Ic.below b16 (Nat.le_refl _); replace Id := Id.below b16 (Nat.le_refl _); replace Ih := Ih.below b16 (Nat.le_refl _); replace In := In.below b16 (Nat.le_refl _); replace Ip := Ip.below b16 (Nat.le_refl _); have bb16 := bb15.trans (b16.mono bb15.size))
    | (have t := bb14; go_at_call 20; refine (num_lit (n := 3) (m := 3) (cs := #[.int .i64 0, .int .i64 3, .int .i64 6]) [0, 3, 6] Ia rfl rfl rfl (by decide)).mono ?_; rintro r15 w15 ⟨rfl, b15⟩; replace Ia := Ia.below b15 (Nat.le_refl _); replace Ic := Ic.below b15 (Nat.le_refl _); replace Id := Id.below b15 (Nat.le_refl _); replace Ih := Ih.below b15 (Nat.le_refl _); replace In := In.below b15 (Nat.le_refl _); replace Ip := Ip.below b15 (Nat.le_refl _); have bb15 := bb14.trans (b15.mono bb14.size))
    | (have t := bb13; go_at_call 20; refine (num_lit (n := 2) (m := 2) (cs := #[.int .i64 0, .int .i64 1]) [0, 1] Iw rfl rfl rfl (by decide)).mono ?_; rintro r14 w14 ⟨rfl, b14⟩; replace Ia := Ia.below b14 (Nat.le_refl _); replace Ic := Ic.below b14 (Nat.le_refl _); replace Id := Id.below b14 (Nat.le_refl _); replace Ih := Ih.below b14 (Nat.le_refl _); replace In := In.below b14 (Nat.le_refl _); replace Ip := Ip.below b14 (Nat.le_refl _); have bb14 := bb13.trans (b14.mono bb13.size))
    | (have t := bb12; go_at_call 15; refine (Clusters_ok (c := 3) (l := [9, 1, 9]) (one_lit (cs := #[.int .u8 9, .int .u8 1, .int .u8 9]) 38 .u8 [9, 1, 9] rfl) (by decide)).mono ?_; rintro r13 w13 ⟨vw, rfl, Iw, b13⟩; rw [k_w] at Iw; obtain ⟨gw, cw, rfl⟩ := Iw.form (by simp); replace Ia := (Ia.alloc (.cells #[.int .u8 9, .int .u8 1, .int .u8 9] 38)).below b13 (Nat.le_refl _); replace Ic := (Ic.alloc (.cells #[.int .u8 9, .int .u8 1, .int .u8 9] 38)).below b13 (Nat.le_refl _); replace Id := (Id.alloc (.cells #[.int .u8 9, .int .u8 1, .int .u8 9] 38)).below b13 (Nat.le_refl _); replace Ih := (Ih.alloc (.cells #[.int .u8 9, .int .u8 1, .int .u8 9] 38)).below b13 (Nat.le_refl _); replace In := (In.alloc (.cells #[.int .u8 9, .int .u8 1, .int .u8 9] 38)).below b13 (Nat.le_refl _); replace Ip := (Ip.alloc (.cells #[.int .u8 9, .int .u8 1, .int .u8 9] 38)).below b13 (Nat.le_refl _); have bb13 := (bb12.alloc bb12.size (.cells #[.int .u8 9, .int .u8 1, .int .u8 9] 38)).trans (b13.mono (bb12.alloc bb12.size (.cells #[.int .u8 9, .int .u8 1, .int .u8 9] 38)).size))
    | (have t := bb11; go_at_call 20; refine (num_lit (n := 2) (m := 2) (cs := #[.int .i64 0, .int .i64 3]) [0, 3] Iv rfl rfl rfl (by decide)).mono ?_; rintro r12 w12 ⟨rfl, b12⟩; replace Ia := Ia.below b12 (Nat.le_refl _); replace Ic := Ic.below b12 (Nat.le_refl _); replace Id := Id.below b12 (Nat.le_refl _); replace Ih := Ih.below b12 (Nat.le_refl _); replace In := In.below b12 (Nat.le_refl _); replace Ip := Ip.below b12 (Nat.le_refl _); have bb12 := bb11.trans (b12.mono bb11.size))
    | (have t := bb10; go_at_call 16; refine (Breaks_ok (c := 6) (l := [1, 9, 13, 1, 9, 9]) (one_lit (cs := #[.int .u8 1, .int .u8 9, .int .u8 13, .int .u8 1, .int .u8 9, .int .u8 9]) 38 .u8 [1, 9, 13, 1, 9, 9] rfl) (by decide)).mono ?_; rintro r11 w11 ⟨vv, rfl, Iv, b11⟩; rw [k_v] at Iv; obtain ⟨gv, cv, rfl⟩ := Iv.form (by simp); replace Ia := (Ia.alloc (.cells #[.int .u8 1, .int .u8 9, .int .u8 13, .int .u8 1, .int .u8 9, .int .u8 9] 38)).below b11 (Nat.le_refl _); replace Ic := (Ic.alloc (.cells #[.int .u8 1, .int .u8 9, .int .u8 13, .int .u8 1, .int .u8 9, .int .u8 9] 38)).below b11 (Nat.le_refl _); replace Id := (Id.alloc (.cells #[.int .u8 1, .int .u8 9, .int .u8 13, .int .u8 1, .int .u8 9, .int .u8 9] 38)).below b11 (Nat.le_refl _); replace Ih := (Ih.alloc (.cells #[.int .u8 1, .int .u8 9, .int .u8 13, .int .u8 1, .int .u8 9, .int .u8 9] 38)).below b11 (Nat.le_refl _); replace In := (In.alloc (.cells #[.int .u8 1, .int .u8 9, .int .u8 13, .int .u8 1, .int .u8 9, .int .u8 9] 38)).below b11 (Nat.le_refl _); replace Ip := (Ip.alloc (.cells #[.int .u8 1, .int .u8 9, .int .u8 13, .int .u8 1, .int .u8 9, .int .u8 9] 38)).below b11 (Nat.le_refl _); have bb11 := (bb10.alloc bb10.size (.cells #[.int .u8 1, .int .u8 9, .int .u8 13, .int .u8 1, .int .u8 9, .int .u8 9] 38)).trans (b11.mono (bb10.alloc bb10.size (.cells #[.int .u8 1, .int .u8 9, .int .u8 13, .int .u8 1, .int .u8 9, .int .u8 9] 38)).size))
    | (have t := bb9; go_at_call 20; refine (num_lit (n := 3) (m := 3) (cs := #[.int .i64 0, .int .i64 2, .int .i64 3]) [0, 2, 3] Iu rfl rfl rfl (by decide)).mono ?_; rintro r10 w10 ⟨rfl, b10⟩; replace Ia := Ia.below b10 (Nat.le_refl _); replace Ic := Ic.below b10 (Nat.le_refl _); replace Id := Id.below b10 (Nat.le_refl _); replace Ih := Ih.below b10 (Nat.le_refl _); replace In := In.below b10 (Nat.le_refl _); replace Ip := Ip.below b10 (Nat.le_refl _); have bb10 := bb9.trans (b10.mono bb9.size))
    | (have t := bb8; go_at_call 15; refine (Clusters_ok (c := 6) (l := [1, 9, 13, 1, 9, 9]) (one_lit (cs := #[.int .u8 1, .int .u8 9, .int .u8 13, .int .u8 1, .int .u8 9, .int .u8 9]) 38 .u8 [1, 9, 13, 1, 9, 9] rfl) (by decide)).mono ?_; rintro r9 w9 ⟨vu, rfl, Iu, b9⟩; rw [k_u] at Iu; obtain ⟨gu, cu, rfl⟩ := Iu.form (by simp); replace Ia := (Ia.alloc (.cells #[.int .u8 1, .int .u8 9, .int .u8 13, .int .u8 1, .int .u8 9, .int .u8 9] 38)).below b9 (Nat.le_refl _); replace Ic := (Ic.alloc (.cells #[.int .u8 1, .int .u8 9, .int .u8 13, .int .u8 1, .int .u8 9, .int .u8 9] 38)).below b9 (Nat.le_refl _); replace Id := (Id.alloc (.cells #[.int .u8 1, .int .u8 9, .int .u8 13, .int .u8 1, .int .u8 9, .int .u8 9] 38)).below b9 (Nat.le_refl _); replace Ih := (Ih.alloc (.cells #[.int .u8 1, .int .u8 9, .int .u8 13, .int .u8 1, .int .u8 9, .int .u8 9] 38)).below b9 (Nat.le_refl _); replace In := (In.alloc (.cells #[.int .u8 1, .int .u8 9, .int .u8 13, .int .u8 1, .int .u8 9, .int .u8 9] 38)).below b9 (Nat.le_refl _); replace Ip := (Ip.alloc (.cells #[.int .u8 1, .int .u8 9, .int .u8 13, .int .u8 1, .int .u8 9, .int .u8 9] 38)).below b9 (Nat.le_refl _); have bb9 := (bb8.alloc bb8.size (.cells #[.int .u8 1, .int .u8 9, .int .u8 13, .int .u8 1, .int .u8 9, .int .u8 9] 38)).trans (b9.mono (bb8.alloc bb8.size (.cells #[.int .u8 1, .int .u8 9, .int .u8 13, .int .u8 1, .int .u8 9, .int .u8 9] 38)).size)))
  go_ret
  exact ⟨rfl, bb21⟩
end Go.Proofs.Ythifeccmbojcdaa
