/- A pile of brackets: Close. -/
import Derived.Test.YtpdackbcnbhppaaR4
import Derived.Test.YtpdackbcnbhppaaRng3
import Derived.Test.YtpdackbcnbhppaaD1
import Derived.Shelf.Abstract
namespace Go.Proofs.Ytpdackbcnbhppaa
open Go.RowKit
attribute [local go_sem] Oper.semAt_some

theorem results_pb {fn : Func} {p q : Tmp} (h : fn.results = #[.cell p 65, .cell q 4]) (tmps : Array Value) (w : World) (g k : Nat) (x y : Int) (v : Bool) (hp : tmps.getD p undef = .pointer (some ⟨g, 0, none⟩)) (hq : tmps.getD q undef = .pointer (some ⟨k, 0, none⟩))
    (hg : Blk w g 65 #[.int .i64 x, .int .i64 y]) (hk : Blk w k 4 #[.bool v]) : (results fn tmps).run Try.prog w = .ok (.tuple #[.agg #[.int .i64 x, .int .i64 y], .bool v]) w := by
  have hp' : tmps[p]?.getD undef = .pointer (some ⟨g, 0, none⟩) := by simpa using hp
  have hq' : tmps[q]?.getD undef = .pointer (some ⟨k, 0, none⟩) := by simpa using hq
  have hu := run_underlying (P := Try.prog) Try.underlying4 (w := w)
  have hc := hk.cell 0
  have h1 := run_loadVar_row w g 65 65 #[.int .i64 x, .int .i64 y] (0, 0) _ hg Try.underlying65 rfl (by kernel_rfl)
  simp [results, h, hp', hq', asAddr, h1]
  simp [loadVar, isAgg, hu, hc, go_sem]

set_option maxRecDepth 100000 in
set_option maxHeartbeats 1000000 in
theorem Pclose_nil (w : World) (a k : Int) : Calls Try.prog 41 #[.pointer none, .int .i64 a, .int .i32 k] w fun r w' => r = .returned (.tuple #[.agg #[.int .i64 0, .int .i64 0], .bool false]) ∧ Below w.heap.size w w' := by
  refine (callsIn_wide (n := 5)).1 ?_
  refine callsIn_of_wp_marks Try.func41 rfl trivial ?_ rfl
  simp only [Try.ntmps41, List.size_toArray, List.length_cons, List.length_nil, Nat.reduceAdd, Nat.reduceSub, Array.replicate_succ, Array.replicate_zero, List.push_toArray, List.append_toArray, List.nil_append, List.cons_append]
  refine wpIn_wide.2 ?_
  go_wp2_with (go_at_call 73; refine (Pnone_nil).mono ?_; rintro r1 w1 ⟨rfl, rfl⟩)
  refine ⟨_, results_pb rfl _ _ (w.heap.size + 1 + 1 + 1) (w.heap.size + 1 + 1 + 1 + 1) 0 0 false rfl rfl ?_ ?_, rfl, ?_⟩
  · exact (Blk.at_ (by simp)).alloc _
  · exact Blk.at_ (by simp)
  · exact (((((Below.refl _ _).alloc (Nat.le_refl _) _).alloc (by simp) _).alloc (by simp; omega) _).alloc (by simp; omega) _).alloc (by simp; omega) _

/-- What Close makes of a pile. -/
def clL (l : List (Int × Int)) (k : Int) : List (Int × Int) := match scanK l k l.length with | some j => l.take j | none => l
def clF (l f : List (Int × Int)) (a k : Int) : List (Int × Int) := match scanK l k l.length with | some j => f ++ [((l.getD j (0, 0)).1, a)] | none => f
def clB (l : List (Int × Int)) (a k : Int) : Int × Int := match scanK l k l.length with | some j => ((l.getD j (0, 0)).1, a) | none => (0, 0)
def clI (l : List (Int × Int)) (k : Int) : Bool := (scanK l k l.length).isSome

set_option maxRecDepth 100000 in
set_option maxHeartbeats 1000000 in
theorem Pclose_over {w : World} {B b : Nat} {vl vf : Value} {l f : List (Int × Int)} (a k : Int) (h : Pil w B b vl vf l f true) :
    Calls Try.prog 41 #[.pointer (some ⟨b, 0, none⟩), .int .i64 a, .int .i32 k] w fun r w' => r = .returned (.tuple #[.agg #[.int .i64 0, .int .i64 0], .bool false]) ∧ Below w.heap.size w w' := by
  have hb1 : b < w.heap.size := h.blk.lt
  have hlt := h.lt
  -- the boxes
  obtain ⟨W1, hW1⟩ : ∃ W1, (((((w.alloc (.cells #[.pointer (some ⟨b, 0, none⟩)] 81)).alloc (.cells #[.int .i64 a] 3)).alloc (.cells #[.int .i32 k] 21)).alloc (.cells #[.int .i64 0, .int .i64 0] 65)).alloc (.cells #[.bool false] 4)) = W1 := ⟨_, rfl⟩
  have hsz : W1.heap.size = w.heap.size + 1 + 1 + 1 + 1 + 1 := by rw [← hW1]; simp
  have F01 : Frm (fun _ => False) w W1 := by rw [← hW1]; exact (((((Frm.refl _ w).alloc _).alloc _).alloc _).alloc _).alloc _
  have X0 : Blk W1 w.heap.size 81 #[.pointer (some ⟨b, 0, none⟩)] := by rw [← hW1]; exact ((((Blk.new w 81 _).alloc _).alloc _).alloc _).alloc _
  have X1 : Blk W1 (w.heap.size + 1) 3 #[.int .i64 a] := by rw [← hW1]; exact (((Blk.at_ (by simp)).alloc _).alloc _).alloc _
  have X2 : Blk W1 (w.heap.size + 1 + 1) 21 #[.int .i32 k] := by rw [← hW1]; exact ((Blk.at_ (by simp)).alloc _).alloc _
  have X3 : Blk W1 (w.heap.size + 1 + 1 + 1) 65 #[.int .i64 0, .int .i64 0] := by rw [← hW1]; exact (Blk.at_ (by simp)).alloc _
  have X4 : Blk W1 (w.heap.size + 1 + 1 + 1 + 1) 4 #[.bool false] := by rw [← hW1]; exact Blk.at_ (by simp)
  have P1 : Pil W1 B b vl vf l f true := h.frm F01 (fun _ _ => id)
  obtain ⟨c0, c1, c2, c3, cf, cl⟩ := P1.blk.c4
  obtain ⟨x0, xf0, xl0⟩ := X0.c1
  obtain ⟨z0, z1, zf, zl⟩ := X3.c2
  obtain ⟨y0, yf, yl⟩ := X4.c1
  have hb := P1.blk
  have HW1 := Lib.hid hW1
  clear hW1
  refine (callsIn_wide (n := 5)).1 ?_
  refine callsIn_of_wp_marks Try.func41 rfl trivial ?_ rfl
  simp only [Try.ntmps41, List.size_toArray, List.length_cons, List.length_nil, Nat.reduceAdd, Nat.reduceSub, Array.replicate_succ, Array.replicate_zero, List.push_toArray, List.append_toArray, List.nil_append, List.cons_append]
  refine wpIn_wide.2 ?_
  go_upto_region 1 with (fail)
  rw [HW1.out]
  go_wp2_with (go_at_call 73; refine (Pnone_ok hb).mono ?_; rintro r1 w1 ⟨rfl, rfl⟩)
  have bb : Below w.heap.size w w1 := F01.below (Nat.le_refl _) (fun _ _ => id)
  refine ⟨_, results_pb rfl _ _ (w.heap.size + 1 + 1 + 1) (w.heap.size + 1 + 1 + 1 + 1) 0 0 false rfl rfl ?_ ?_, rfl, ?_⟩
  · simpa using ((X3.set_ 0 (.int .i64 0)).set_ 1 (.int .i64 0)).far (p := ⟨w.heap.size + 1 + 1 + 1 + 1, 0, none⟩) (by simp) (.bool false)
  · simpa using ((X4.far (p := ⟨w.heap.size + 1 + 1 + 1, 0, none⟩) (by simp) (.int .i64 0)).far (p := ⟨w.heap.size + 1 + 1 + 1, 1, none⟩) (by simp) (.int .i64 0)).set_ 0 (.bool false)
  · exact ((bb.setCell (p := ⟨w.heap.size + 1 + 1 + 1, 0, none⟩) (by simp; omega) _).setCell (p := ⟨w.heap.size + 1 + 1 + 1, 1, none⟩) (by simp; omega) _).setCell (p := ⟨w.heap.size + 1 + 1 + 1 + 1, 0, none⟩) (by simp; omega) _

/-- How the loop is left: the pair is found. -/
def CloseEnd (Y : World) (B b u ll : Nat) (lA : Option Addr) (lc : Nat) (vf : Value) (l f : List (Int × Int)) (a k : Int) (W : World) : Prop :=
  ∃ j vf', scanK l k ll = some j ∧ Pil W B b (.slice lA j lc) vf' (l.take j) (f ++ [((l.getD j (0, 0)).1, a)]) false ∧ Blk W (u + 1 + 1 + 1) 65 #[.int .i64 (l.getD j (0, 0)).1, .int .i64 a] ∧ Blk W (u + 1 + 1 + 1 + 1) 4 #[.bool true] ∧
    Frm (fun i => PilF b (.slice lA ll lc) vf i ∨ i = u + 1 + 1 + 1 ∨ i = u + 1 + 1 + 1 + 1 ∨ i = Y.heap.size + 1) Y W ∧ (∀ i, vf'.ownBlock = some i → vf.ownBlock = some i ∨ Y.heap.size + 2 ≤ i)

theorem own_len (A : Option Addr) (n m c : Nat) : (Value.slice A n c).ownBlock = (Value.slice A m c).ownBlock := by rcases A with _ | a <;> rfl
theorem CloseEnd.frm {Y : World} {B b u ll : Nat} {lA : Option Addr} {lc : Nat} {vf : Value} {l f : List (Int × Int)} {a k : Int} {W W' : World} (hP : ∀ i, PilF b (.slice lA ll lc) vf i → i < Y.heap.size) (hu : u + 1 + 1 + 1 + 1 < Y.heap.size)
    (h : CloseEnd Y B b u ll lA lc vf l f a k W) (hF : Frm (fun i => i = Y.heap.size + 1) W W') : CloseEnd Y B b u ll lA lc vf l f a k W' := by
  obtain ⟨j, vf', h1, h2, h3, h4, h5, h6⟩ := h
  refine ⟨j, vf', h1, h2.frm hF (fun i e => ?_), h3.frm hF (by omega), h4.frm hF (by omega), h5.trans hF (fun i _ e => .inr (.inr (.inr e))), h6⟩
  rcases e with e | e | e
  · have := hP i (.inl e); omega
  · have := hP i (.inr (.inl (by rw [own_len lA ll j]; exact e))); omega
  · rcases h6 i e with e | e
    · have := hP i (.inr (.inr e)); omega
    · omega

set_option maxRecDepth 100000 in
set_option maxHeartbeats 2000000 in
theorem Pclose_live {w : World} {B b : Nat} {vl vf : Value} {l f : List (Int × Int)} (a k : Int) (h : Pil w B b vl vf l f false) (hl : l.length ≤ 1048576) (hf : f.length ≤ 1048576) :
    Calls Try.prog 41 #[.pointer (some ⟨b, 0, none⟩), .int .i64 a, .int .i32 k] w fun r w' => r = .returned (.tuple #[.agg #[.int .i64 (clB l a k).1, .int .i64 (clB l a k).2], .bool (clI l k)]) ∧ ∃ vl' vf', Pil w' B b vl' vf' (clL l k) (clF l f a k) false ∧ Frm (PilF b vl vf) w w' ∧
      (∀ j, vl'.ownBlock = some j → vl.ownBlock = some j) ∧ ∀ j, vf'.ownBlock = some j → vf.ownBlock = some j ∨ w.heap.size ≤ j := by
  have hb1 : b < w.heap.size := h.blk.lt
  have hlt := h.lt
  -- the boxes
  obtain ⟨W1, hW1⟩ : ∃ W1, (((((w.alloc (.cells #[.pointer (some ⟨b, 0, none⟩)] 81)).alloc (.cells #[.int .i64 a] 3)).alloc (.cells #[.int .i32 k] 21)).alloc (.cells #[.int .i64 0, .int .i64 0] 65)).alloc (.cells #[.bool false] 4)) = W1 := ⟨_, rfl⟩
  have hsz : W1.heap.size = w.heap.size + 1 + 1 + 1 + 1 + 1 := by rw [← hW1]; simp
  have F01 : Frm (fun _ => False) w W1 := by rw [← hW1]; exact (((((Frm.refl _ w).alloc _).alloc _).alloc _).alloc _).alloc _
  have X0 : Blk W1 w.heap.size 81 #[.pointer (some ⟨b, 0, none⟩)] := by rw [← hW1]; exact ((((Blk.new w 81 _).alloc _).alloc _).alloc _).alloc _
  have X1 : Blk W1 (w.heap.size + 1) 3 #[.int .i64 a] := by rw [← hW1]; exact (((Blk.at_ (by simp)).alloc _).alloc _).alloc _
  have X2 : Blk W1 (w.heap.size + 1 + 1) 21 #[.int .i32 k] := by rw [← hW1]; exact ((Blk.at_ (by simp)).alloc _).alloc _
  have X3 : Blk W1 (w.heap.size + 1 + 1 + 1) 65 #[.int .i64 0, .int .i64 0] := by rw [← hW1]; exact (Blk.at_ (by simp)).alloc _
  have X4 : Blk W1 (w.heap.size + 1 + 1 + 1 + 1) 4 #[.bool false] := by rw [← hW1]; exact Blk.at_ (by simp)
  have P1 : Pil W1 B b vl vf l f false := h.frm F01 (fun _ _ => id)
  obtain ⟨lA, lc, rfl, hl1, hl2, _⟩ := P1.rl.val
  obtain ⟨c0, c1, c2, c3, cf, cl⟩ := P1.blk.c4
  obtain ⟨x0, xf0, xl0⟩ := X0.c1
  have hb := P1.blk
  have HW1 := Lib.hid hW1
  obtain ⟨ll, hll⟩ : ∃ ll, l.length = ll := ⟨_, rfl⟩
  rw [hll] at c0 P1 hb hlt h
  have HLL := Lib.hid hll
  clear hW1 hll hl1 hl2
  refine (callsIn_wide (n := 5)).1 ?_
  refine callsIn_of_wp_marks Try.func41 rfl trivial ?_ rfl
  simp only [Try.ntmps41, List.size_toArray, List.length_cons, List.length_nil, Nat.reduceAdd, Nat.reduceSub, Array.replicate_succ, Array.replicate_zero, List.push_toArray, List.append_toArray, List.nil_append, List.cons_append]
  refine wpIn_wide.2 ?_
  go_upto_region 1 with (fail)
  rw [HW1.out]
  go_wp2_with (first
    | (go_at_call 73; refine (Pnone_ok hb).mono ?_; rintro r1 w1 ⟨rfl, rfl⟩)
    | (go_at_call 74; refine BackO_ok.mono ?_; rintro r2 w2 ⟨rfl, B2, b2⟩))
  have Y0 := X0.below b2 X0.lt
  have Y1 := X1.below b2 X1.lt
  have Y2 := X2.below b2 X2.lt
  have Y3 := X3.below b2 X3.lt
  have Y4 := X4.below b2 X4.lt
  have P2 := P1.below b2 (Nat.le_refl _)
  have F02 : Frm (fun _ => False) w w2 := F01.trans (Frm.of_below b2) (fun _ _ h => h)
  have hs2 := B2.lt
  clear X0 X1 X2 X3 X4 P1 c0 c1 c2 c3 cf cl x0 xf0 xl0 hb F01 h b2 HW1
  obtain ⟨Y, hY⟩ : ∃ Y, Y = w2 := ⟨_, rfl⟩
  rw [← hY] at B2 Y0 Y1 Y2 Y3 Y4 P2 F02 hs2 ⊢
  clear hY
  rw [hsz] at B2 hs2
  obtain ⟨u, hu⟩ : ∃ u, w.heap.size = u := ⟨_, rfl⟩
  rw [hu] at B2 hs2 Y0 Y1 Y2 Y3 Y4 hsz hb1 hlt ⊢
  have HU := Lib.hid hu
  have hPl := P2.lt
  clear hu
  refine wpIn_wide.1 (wpIn_rangeFunc_break (n := 5) (F := Fence.wide) rfl (by omega) (gf := 93) (lb := #[.pointer (some ⟨u + 1 + 1 + 1 + 1 + 1, 0, none⟩)]) rfl trivial (enters_of Try.func93 (by kernel_rfl) rfl)
    (encs := fun j : Nat => opEnc j (l.getD j (0, 0))) (fun _ => rfl) Code.ret
    (fun j W => (Frm (fun i => i = Y.heap.size + 1) Y W ∧ Y.heap.size + 1 < W.heap.size) ∧ j < ll ∧ scanK l k ll = scanK l k (j + 1))
    (fun j _ W' => (Frm (fun i => i = Y.heap.size + 1) Y W' ∧ Y.heap.size + 1 < W'.heap.size) ∧ scanK l k ll = scanK l k j)
    (fun _ _ W' => CloseEnd Y B b u ll lA lc vf l f a k W')
    (fun W => (Frm (fun i => i = Y.heap.size + 1) Y W ∧ Y.heap.size + 1 < W.heap.size) ∧ scanK l k ll = none) (CloseEnd Y B b u ll lA lc vf l f a k)
    ?round ?st1 ?st2 ?call ?fin ?finb ?done ?stop)
  case st1 => rintro j W Wa Wb ⟨⟨h1, h2⟩, h3⟩ hF; exact ⟨⟨h1.trans hF (fun _ _ e => e), by have := hF.size; omega⟩, h3⟩
  case st2 => intro j W Wa Wb h hF; exact h.frm (fun i e => (hPl i e).2) (by omega) hF
  case fin => rintro Wa Wb ⟨⟨h1, h2⟩, h3⟩ hF; exact ⟨⟨h1.trans hF (fun _ _ e => e), by have := hF.size; omega⟩, h3⟩
  case finb => intro Wa Wb h hF; exact h.frm (fun i e => (hPl i e).2) (by omega) hF
  case call =>
    intro W1 hF1 hW1 Rdy Dn hsz1 hst hR1 hY
    have := bwdO_ok (W1 := W1) (bx := u + 1 + 1 + 1 + 1 + 1) (yb := Y.heap.size + 1) (n := ll) (c := lc) (B := Y.heap.size) (A := lA) (l := l) HLL.out.symm (by have := HLL.out; omega)
      (J := fun j W => ((Frm (fun i => i = Y.heap.size + 1) Y W ∧ Y.heap.size + 1 < W.heap.size) ∧ scanK l k ll = scanK l k j) ∧ Rdy W)
      ⟨⟨⟨hF1.mono (fun _ _ e => e.elim), hW1⟩, rfl⟩, hR1⟩ (fun j W hJ => ⟨B2.frm hJ.1.1.1 (by omega), RdR.frmA P2.rl.rd hJ.1.1.1 (fun g o e => by
        have := (hPl g (.inr (.inl (by rw [e]; rfl)))).2
        omega)⟩)
      (Jx := fun W => CloseEnd Y B b u ll lA lc vf l f a k W ∧ Dn W) (d := 4) (by omega) (fun j W hj hJ => ?_)
    · refine this.mono ?_
      rintro e W2 ⟨hv, (⟨⟨h1, h2⟩, h3⟩ | ⟨h1, h2⟩)⟩
      · exact ⟨hv, .inl ⟨⟨h1, by rw [h2]; rfl⟩, h3⟩⟩
      · exact ⟨hv, .inr ⟨h1, h2⟩⟩
    · obtain ⟨fn, tmps, asg, bd, hy, hRo⟩ := hY j W ⟨hJ.1.1, hj, hJ.1.2⟩ hJ.2
      refine ⟨fn, tmps, asg, bd, hy, hRo.mono fun e w' h => ?_⟩
      rcases h with ⟨h1, h2, h3⟩ | ⟨h1, h2, h3⟩
      · exact .inl ⟨h1, h2, h3⟩
      · exact .inr ⟨h1, h2, h3⟩
  case round =>
    rintro j W K hW ⟨⟨hI, hIs⟩, hj, hsc⟩ hK
    obtain ⟨x, hx⟩ : ∃ x, l.getD j (0, 0) = x := ⟨_, rfl⟩
    have hsj : scanK l k (j + 1) = if x.2 = k then some j else scanK l k j := by rw [← hx]; rfl
    rw [hsj] at hsc
    have HSC := Lib.hid hsc
    have HX := Lib.hid hx
    rw [hx]
    clear hsc hsj hx
    unfold opEnc
    simp only [List.zip_toArray, List.zip_cons_cons, List.zip_nil_right, List.foldl_toArray, List.foldl_cons, List.foldl_nil, List.setIfInBounds_toArray, List.set_cons_zero, List.set_cons_succ]
    gi_wp2
    have FA := (Frm.refl (fun _ => False) W).alloc (.cells #[.int .i64 x.1, .int .i32 x.2] 145)
    refine hK _ _ (Two.of_frm FA hW id id) ?_
    intro V hV
    have FV : Frm (fun i => i = Y.heap.size + 1) Y V := (hI.trans (FA.mono (F' := fun i => i = Y.heap.size + 1) (fun _ _ e => e.elim)) (fun _ _ e => e)).trans hV (fun _ _ e => e)
    have hVs : W.heap.size + 1 ≤ V.heap.size := by have := hV.size; simpa using this
    have O := (Blk.new W 145 #[.int .i64 x.1, .int .i32 x.2]).frm hV (by omega)
    obtain ⟨o0, o1, of, ol⟩ := O.c2
    have Z1 := Y1.frm FV (by omega)
    have Z2 := Y2.frm FV (by omega)
    obtain ⟨k0, kf, kl⟩ := Z2.c1
    clear hK FA
    by_cases hk : x.2 = k
    · have hkk : (x.2 == k) = true := by simpa using hk
      have Z0 := Y0.frm FV (by omega)
      have Z3 := Y3.frm FV (by omega)
      have Z4 := Y4.frm FV (by omega)
      have PV := P2.frm FV (fun i e => by have := (hPl i e).2; omega)
      obtain ⟨a0, af, al⟩ := Z1.c1
      obtain ⟨g, rfl, Rl⟩ : ∃ g, lA = some ⟨g, 0, none⟩ ∧ Rw opC 2 V B 145 (.slice (some ⟨g, 0, none⟩) ll lc) l := by
        rcases PV.rl.cases' with ⟨e, e2⟩ | ⟨g, cap, e, R⟩
        · have := HLL.out; rw [e2] at this; simp at this; omega
        · injection e with e1 e2 e3
          subst e1
          exact ⟨g, rfl, PV.rl⟩
      gi_wp2
      obtain ⟨V1, hV1⟩ : ∃ V1, V.alloc (.cells #[.int .i64 x.1, .int .i64 a] 65) = V1 := ⟨_, rfl⟩
      rw [hV1]
      have FV1 : Frm (fun _ => False) V V1 := by rw [← hV1]; exact (Frm.refl _ V).alloc _
      have X9 : Blk V1 V.heap.size 65 #[.int .i64 x.1, .int .i64 a] := by rw [← hV1]; exact Blk.new V 65 _
      have PV1 := PV.frm FV1 (fun _ _ => id)
      have Z01 := Z0.frm FV1 id
      have HV1 := Lib.hid hV1
      obtain ⟨c0, c1, c2, c3, cf, cl⟩ := PV1.blk.c4
      obtain ⟨s0, sf, sl⟩ := Z01.c1
      have hjc : j ≤ lc := by have := (Rl.at_ encO).1; have := (Rl.at_ encO).2.1; omega
      have hjl : j ≤ ll := by omega
      clear hV1
      refine wpIn_region_fixed (E := []) (K := [(0, false), (0, false), (0, false), (0, false), (0, false), (0, false), (0, false), (1, false), (0, false), (0, true)]) (r := 1)
        (W := fun c => match c with | 0 => V1.drew | _ => V1.drew.setCell ⟨b, 0, none⟩ (.slice (some ⟨g, 0, none⟩) j lc))
        (vs := [.pointer (some ⟨b, 0, none⟩), .pointer (some ⟨b, 0, none⟩), .pointer (some ⟨b, 0, none⟩), .pointer (some ⟨b, 0, none⟩), .slice (some ⟨g, 0, none⟩) ll lc, .int .i64 j, .slice (some ⟨g, 0, none⟩) j lc, .pointer (some ⟨b, 0, none⟩), .pointer (some ⟨b, 0, none⟩), undef])
        (fun _ => trivial) (by kernel_rfl) (by kernel_rfl) rfl rfl (runs_all ?_) ?_
      · simp only [putAll, Act.put, List.setIfInBounds_toArray, List.set_cons_zero, List.set_cons_succ]
        refine ⟨runs1_r0 (.pointer (some ⟨b, 0, none⟩)) ?_ (by intro d hd; cases hd; rfl), runs1_r0 (.pointer (some ⟨b, 0, none⟩)) ?_ (by intro d hd; cases hd; rfl), runs1_r0 (.pointer (some ⟨b, 0, none⟩)) ?_ (by intro d hd; cases hd; rfl), runs1_r0 (.pointer (some ⟨b, 0, none⟩)) ?_ (by intro d hd; cases hd; rfl), runs1_r0 (.slice (some ⟨g, 0, none⟩) ll lc) ?_ (by intro d hd; cases hd; rfl), runs1_r0 (.int .i64 j) ?_ (by intro d hd; cases hd; rfl), runs1_r0 (.slice (some ⟨g, 0, none⟩) j lc) ?_ (by intro d hd; cases hd; rfl), runs1_r1 (.pointer (some ⟨b, 0, none⟩)) ?_ ?_ (by intro d hd; cases hd; rfl), runs1_r0 (.pointer (some ⟨b, 0, none⟩)) ?_ (by intro d hd; cases hd; rfl), runs1_s ?_ rfl, trivial⟩
        all_goals go_simp
      · simp only [putAll, Act.put, List.setIfInBounds_toArray, List.set_cons_zero, List.set_cons_succ]
        obtain ⟨V2, hV2⟩ : ∃ V2, V1.drew.setCell ⟨b, 0, none⟩ (.slice (some ⟨g, 0, none⟩) j lc) = V2 := ⟨_, rfl⟩
        rw [hV2]
        have FV2 : Frm (fun i => i = b) V1 V2 := by rw [← hV2]; exact ((Frm.refl (fun i => i = b) V1).drew).set rfl _
        have hgb := (PV1.a1 g rfl).1
        have PV2 : Pil V2 B b (.slice (some ⟨g, 0, none⟩) j lc) vf (l.take j) f false :=
          ⟨by rw [← hV2]; simpa using PV1.blk.drew.set_ 0 (.slice (some ⟨g, 0, none⟩) j lc), (PV1.rl.cut encO j (by have := HLL.out; omega)).frm FV2 (fun i e e2 => (PV1.a1 i e).1 e2), PV1.rf.frm FV2 (fun i e => PV1.a2 i e), fun i e => PV1.a1 i e, PV1.a2, PV1.hb⟩
        have hbu : b < u := hb1
        have Z02 := Z01.frm FV2 (by omega)
        have X92 := X9.frm FV2 (by have := hV.size; have := FV.size; omega)
        have HV2 := Lib.hid hV2
        clear hV2 c0 c1 c2 c3 cf cl s0 sf sl
        obtain ⟨c0, c1, c2, c3, cf, cl⟩ := PV2.blk.c4
        obtain ⟨s0, sf, sl⟩ := Z02.c1
        obtain ⟨t0, t1, tf, tl⟩ := X92.c2
        have hown : (V2.drew.alloc (.cells #[.int .i64 x.1, .int .i64 a] 65)).ownsRow B 65 2 vf f.length (f.flatMap brC) := World.ownsRow.alloc PV2.rf.drew _
        obtain ⟨fl, hfl⟩ : ∃ fl, f.length = fl := ⟨_, rfl⟩
        rw [hfl] at hown
        have hfm : fl ≤ 1048576 := by omega
        have HFL := Lib.hid hfl
        clear hfl
        obtain ⟨vf2, W2, hrun, hown2, hgr2, hv2⟩ := run_app etB 58 (c := 1) hown (Reads.blk (Blk.at_ (g := V2.drew.heap.size) (cs := #[.int .i64 x.1, .int .i64 a]) (t := 65) rfl) (n := 1) (size := 2) rfl) (by intro v hv; simp at hv; rcases hv with rfl | rfl <;> rfl) (by unfold maxLen; omega) (by omega) (by have := PV2.hb; simp; omega)
        obtain ⟨g2, cap2, rfl, _, _⟩ := World.ownsRow.form hown2 (by omega)
        have FW2 : Frm (fun i => vf.ownBlock = some i) V2 W2 := (((Frm.refl _ V2).drew).alloc _).grown hgr2 (fun i e _ => e)
        have hub : vf.ownBlock ≠ some u := fun e => by have := (hlt u (.inr (.inr e))).2; omega
        have s2 : W2.cell? ⟨u, 0, none⟩ = some (.pointer (some ⟨b, 0, none⟩)) := (Z02.frm FW2 hub).c1.1
        have BW := PV2.blk.frm FW2 (fun e => PV2.a2 b e rfl)
        have d1 : W2.cell? ⟨b, 1, none⟩ = some vf := BW.c4.2.1
        have df : ∀ i, W2.frozen? ⟨b, i, none⟩ = false := BW.frozen
        gi_wp2
        refine wpIn_region_fixed (E := []) (K := [(2, false), (2, false), (2, false), (2, false), (1, false), (0, false), (0, true), (1, true), (3, false), (2, false), (2, true)])  (r := 3)
          (W := fun c => match c with | 0 => V2.drew | 1 => V2.drew.alloc (.cells #[.int .i64 x.1, .int .i64 a] 65) | 2 => W2 | _ => W2.setCell ⟨b, 1, none⟩ (.slice (some ⟨g2, 0, none⟩) (fl + 1) cap2))
          (vs := [.pointer (some ⟨b, 0, none⟩), .pointer (some ⟨b, 0, none⟩), .pointer (some ⟨b, 0, none⟩), .pointer (some ⟨b, 1, none⟩), vf, .agg #[.int .i64 x.1, .int .i64 a], .slice (some ⟨V2.heap.size, 0, none⟩) 1 1, .slice (some ⟨g2, 0, none⟩) (fl + 1) cap2, .pointer (some ⟨b, 0, none⟩), .pointer (some ⟨b, 1, none⟩), undef])
          (fun _ => trivial) (by kernel_rfl) (by kernel_rfl) rfl rfl (runs_all ?_) ?_
        · simp only [putAll, Act.put, List.setIfInBounds_toArray, List.set_cons_zero, List.set_cons_succ]
          refine ⟨runs1_r2 (.pointer (some ⟨b, 0, none⟩)) ?_ ?_ ?_ (by intro d hd; cases hd; rfl), runs1_r2 (.pointer (some ⟨b, 0, none⟩)) ?_ ?_ ?_ (by intro d hd; cases hd; rfl), runs1_any (.pointer (some ⟨b, 0, none⟩)) ?_ (by intro d hd; cases hd; rfl), runs1_any (.pointer (some ⟨b, 1, none⟩)) ?_ (by intro d hd; cases hd; rfl), runs1_r1 (vf) ?_ ?_ (by intro d hd; cases hd; rfl), runs1_r0 (.agg #[.int .i64 x.1, .int .i64 a]) ?_ (by intro d hd; cases hd; rfl), runs1_e (.slice (some ⟨V2.heap.size, 0, none⟩) 1 1) ?_ (by intro d hd; cases hd; rfl), runs1_e (.slice (some ⟨g2, 0, none⟩) (fl + 1) cap2) ?_ (by intro d hd; cases hd; rfl), runs1_any (.pointer (some ⟨b, 0, none⟩)) ?_ (by intro d hd; cases hd; rfl), runs1_any (.pointer (some ⟨b, 1, none⟩)) ?_ (by intro d hd; cases hd; rfl), runs1_s ?_ rfl, trivial⟩
          all_goals (try intro w)
          all_goals first
            | (go_simp; done)
            | (simp only [execOp, resolve, invoke, builtin, Sem.run_bind, Sem.run_pure, Result.andThen_ok, List.map_toArray, List.map_cons, List.map_nil]
               exact congrArg (fun r => Result.andThen r _) hrun)
        · simp only [putAll, Act.put, List.setIfInBounds_toArray, List.set_cons_zero, List.set_cons_succ]
          have FW3 : Frm (fun i => i = b) W2 (W2.setCell ⟨b, 1, none⟩ (.slice (some ⟨g2, 0, none⟩) (fl + 1) cap2)) := (Frm.refl (fun i => i = b) W2).set rfl _
          obtain ⟨W3, hW3⟩ : ∃ W3, W2.setCell ⟨b, 1, none⟩ (.slice (some ⟨g2, 0, none⟩) (fl + 1) cap2) = W3 := ⟨_, rfl⟩
          rw [hW3] at FW3 ⊢
          have HW3 := Lib.hid hW3
          clear hW3
          have hgPl := hlt g (.inr (.inl rfl))
          have hbPl := hlt b (.inl rfl)
          have hvs : V.heap.size < V2.heap.size := tl
          have hYV : Y.heap.size + 1 < V.heap.size := by omega
          have hg2 : (vf.ownBlock = some g2 ∧ g2 < u) ∨ g2 = V2.heap.size + 1 := by
            rcases hv2 with e | e
            · exact .inl ⟨e.symm, (hlt g2 (.inr (.inr e.symm))).2⟩
            · right; simpa [Value.ownBlock] using e
          have hnv : ∀ i, u ≤ i → vf.ownBlock ≠ some i := fun i hi e => by have := (hlt i (.inr (.inr e))).2; omega
          have FA2 : Frm (fun i => i = b) V V2 := (FV1.mono (F' := fun i => i = b) (fun _ _ e => e.elim)).trans FV2 (fun _ _ e => e)
          have FA3 : Frm (fun i => i = b ∨ vf.ownBlock = some i) V W3 := ((FA2.mono (fun _ _ e => .inl e)).trans FW2 (fun _ _ e => .inr e)).trans FW3 (fun _ _ e => .inl e)
          have X93 := (X92.frm FW2 (hnv _ (by omega))).frm FW3 (by omega)
          have Z33 := Z3.frm FA3 (fun e => e.elim (fun e => by omega) (hnv _ (by omega)))
          have Z43 := Z4.frm FA3 (fun e => e.elim (fun e => by omega) (hnv _ (by omega)))
          have BW3 : Blk W3 b 140 #[.slice (some ⟨g, 0, none⟩) j lc, .slice (some ⟨g2, 0, none⟩) (fl + 1) cap2, .bool false, .bool true] := by
            rw [← HW3.out]; simpa using BW.set_ 1 (.slice (some ⟨g2, 0, none⟩) (fl + 1) cap2)
          have hgg : g2 ≠ g := by
            rcases hg2 with ⟨e, _⟩ | e
            · rintro rfl; exact (PV.a1 g2 rfl).2 e
            · omega
          have hg2b : g2 ≠ b := by
            rcases hg2 with ⟨e, _⟩ | e
            · exact PV.a2 g2 e
            · omega
          have P3 : Pil W3 B b (.slice (some ⟨g, 0, none⟩) j lc) (.slice (some ⟨g2, 0, none⟩) (fl + 1) cap2) (l.take j) (f ++ [(x.1, a)]) false := by
            refine ⟨BW3, (PV2.rl.frm FW2 (fun i e e2 => (PV2.a1 i e).2 e2)).frm FW3 (fun i e => (PV2.a1 i e).1), ?_, fun i e => ?_, fun i e => ?_, PV2.hb⟩
            · have hR : Rw brC 2 W2 B 65 (.slice (some ⟨g2, 0, none⟩) (fl + 1) cap2) (f ++ [(x.1, a)]) := by
                unfold Rw
                rw [List.length_append, HFL.out, List.flatMap_append]
                exact hown2
              exact hR.frm FW3 (fun i e => by have : g2 = i := by simpa [Value.ownBlock] using e
                                              omega)
            · have : g = i := by simpa [Value.ownBlock] using e
              subst this
              exact ⟨hgb, fun e => hgg (by simpa [Value.ownBlock] using e)⟩
            · have : g2 = i := by simpa [Value.ownBlock] using e
              omega
          clear c0 c1 c2 c3 cf cl s0 sf sl t0 t1 tf tl o0 o1 of ol k0 kf kl a0 af al s2 d1 df
          obtain ⟨t0, t1, tf, tl⟩ := X93.c2
          obtain ⟨z0, z1, zf, zl⟩ := Z33.c2
          obtain ⟨y0, yf, yl⟩ := Z43.c1
          gi_wp2
          have F4 : Frm (fun i => i = u + 1 + 1 + 1 ∨ i = u + 1 + 1 + 1 + 1) W3 (((W3.setCell ⟨u + 1 + 1 + 1, 0, none⟩ (.int .i64 x.1)).setCell ⟨u + 1 + 1 + 1, 1, none⟩ (.int .i64 a)).setCell ⟨u + 1 + 1 + 1 + 1, 0, none⟩ (.bool true)) :=
            (((Frm.refl (fun i => i = u + 1 + 1 + 1 ∨ i = u + 1 + 1 + 1 + 1) W3).set (.inl rfl) _).set (.inl rfl) _).set (.inr rfl) _
          have F5 := (FA3.mono (F' := fun i => (i = b ∨ vf.ownBlock = some i) ∨ i = u + 1 + 1 + 1 ∨ i = u + 1 + 1 + 1 + 1) (fun _ _ e => .inl e)).trans F4 (fun _ _ e => .inr e)
          have hne : (u + 1 + 1 + 1 : Nat) ≠ u + 1 + 1 + 1 + 1 := by omega
          have P4 := P3.frm F4 (fun i e => by
            rcases e with e | e | e
            · omega
            · have : g = i := by simpa [Value.ownBlock] using e
              omega
            · have : g2 = i := by simpa [Value.ownBlock] using e
              omega)
          refine ⟨Two.of_frm F5 hYV (fun e => ?_) (fun e => ?_), rfl, j, _, ?_, by rw [HX.out]; exact P4, ?_, ?_, ?_, ?_⟩
          · rcases e with (e | e) | e
            · omega
            · exact hnv _ (by omega) e
            · omega
          · rcases e with (e | e) | e
            · omega
            · exact hnv _ (by omega) e
            · omega
          · have := HSC.out; rw [if_pos hk] at this; exact this
          · rw [HX.out]
            simpa using ((Z33.set_ 0 (.int .i64 x.1)).set_ 1 (.int .i64 a)).far (p := ⟨u + 1 + 1 + 1 + 1, 0, none⟩) hne (.bool true)
          · simpa using ((Z43.far (p := ⟨u + 1 + 1 + 1, 0, none⟩) (Ne.symm hne) (.int .i64 x.1)).far (p := ⟨u + 1 + 1 + 1, 1, none⟩) (Ne.symm hne) (.int .i64 a)).set_ 0 (.bool true)
          · refine (FV.mono (fun i _ e => Or.inr (Or.inr (Or.inr e)))).trans F5 (fun i _ e => ?_)
            rcases e with (e | e) | e | e
            · exact .inl (.inl e)
            · exact .inl (.inr (.inr e))
            · exact .inr (.inl e)
            · exact .inr (.inr (.inl e))
          · intro i e
            have : g2 = i := by simpa [Value.ownBlock] using e
            subst this
            rcases hg2 with ⟨e, _⟩ | e
            · exact .inl e
            · right; omega
    · have hkk : (x.2 == k) = false := by simpa using hk
      gi_wp2
      refine ⟨Two.refl _ _, ⟨FV, by omega⟩, ?_⟩
      have := HSC.out
      rw [if_neg hk] at this
      exact this
  case done =>
    rintro W ⟨⟨h1, h2⟩, h3⟩ hK
    have Z3 := Y3.frm h1 (by omega)
    have Z4 := Y4.frm h1 (by omega)
    have PW := P2.frm h1 (fun i e => by have := (hPl i e).2; omega)
    obtain ⟨z0, z1, zf, zl⟩ := Z3.c2
    obtain ⟨y0, yf, yl⟩ := Z4.c1
    go_wp2
    have hs : scanK l k l.length = none := by rw [HLL.out]; exact h3
    have e1 : clL l k = l := by unfold clL; rw [hs]
    have e2 : clF l f a k = f := by unfold clF; rw [hs]
    have e3 : clB l a k = (0, 0) := by unfold clB; rw [hs]
    have e4 : clI l k = false := by unfold clI; rw [hs]; rfl
    rw [e1, e2, e3, e4]
    have FD : Frm (fun i => i = u + 1 + 1 + 1 ∨ i = u + 1 + 1 + 1 + 1) W (((W.setCell ⟨u + 1 + 1 + 1, 0, none⟩ (.int .i64 0)).setCell ⟨u + 1 + 1 + 1, 1, none⟩ (.int .i64 0)).setCell ⟨u + 1 + 1 + 1 + 1, 0, none⟩ (.bool false)) :=
      (((Frm.refl (fun i => i = u + 1 + 1 + 1 ∨ i = u + 1 + 1 + 1 + 1) W).set (.inl rfl) _).set (.inl rfl) _).set (.inr rfl) _
    have hne : (u + 1 + 1 + 1 : Nat) ≠ u + 1 + 1 + 1 + 1 := by omega
    have B3 : Blk (((W.setCell ⟨u + 1 + 1 + 1, 0, none⟩ (.int .i64 0)).setCell ⟨u + 1 + 1 + 1, 1, none⟩ (.int .i64 0)).setCell ⟨u + 1 + 1 + 1 + 1, 0, none⟩ (.bool false)) (u + 1 + 1 + 1) 65 #[.int .i64 0, .int .i64 0] := by
      simpa using ((Z3.set_ 0 (.int .i64 0)).set_ 1 (.int .i64 0)).far (p := ⟨u + 1 + 1 + 1 + 1, 0, none⟩) hne (.bool false)
    have B4 : Blk (((W.setCell ⟨u + 1 + 1 + 1, 0, none⟩ (.int .i64 0)).setCell ⟨u + 1 + 1 + 1, 1, none⟩ (.int .i64 0)).setCell ⟨u + 1 + 1 + 1 + 1, 0, none⟩ (.bool false)) (u + 1 + 1 + 1 + 1) 4 #[.bool false] := by
      simpa using ((Z4.far (p := ⟨u + 1 + 1 + 1, 0, none⟩) (Ne.symm hne) (.int .i64 0)).far (p := ⟨u + 1 + 1 + 1, 1, none⟩) (Ne.symm hne) (.int .i64 0)).set_ 0 (.bool false)
    have PD := PW.frm FD (fun i e => by have := (hlt i e).2; omega)
    have hKD := (FD.block Y.heap.size (by omega) (by omega)).trans hK
    generalize (((W.setCell ⟨u + 1 + 1 + 1, 0, none⟩ (.int .i64 0)).setCell ⟨u + 1 + 1 + 1, 1, none⟩ (.int .i64 0)).setCell ⟨u + 1 + 1 + 1 + 1, 0, none⟩ (.bool false)) = WD at *
    have FF := (Frm.refl (fun i => i = Y.heap.size) WD).put (k := Y.heap.size) rfl (.deferred none)
    refine ⟨by simp, .inl ⟨_, _, rfl, run_takeDeferred hKD, ?_⟩⟩
    refine ⟨_, results_pb rfl _ _ (u + 1 + 1 + 1) (u + 1 + 1 + 1 + 1) 0 0 false rfl rfl (B3.frm FF (by omega)) (B4.frm FF (by omega)), rfl, _, _, PD.frm FF (fun i e => by have := (hlt i e).2; omega), ?_, by rw [HLL.out]; exact fun _ h => h, fun _ h => .inl h⟩
    refine (((F02.trans h1 (fun i hi e => ?_)).trans FD (fun i hi e => ?_)).trans FF (fun i hi e => ?_)).mono (fun _ _ e => e.elim)
    all_goals have := HU.out
    all_goals omega
  case stop =>
    rintro W hE hK
    refine wpIn_wide.2 ?_
    go_wp2
    obtain ⟨j, vf2, q1, q2, q3, q4, q5, q6⟩ := hE
    have hs : scanK l k l.length = some j := by rw [HLL.out]; exact q1
    have e1 : clL l k = l.take j := by unfold clL; rw [hs]
    have e2 : clF l f a k = f ++ [((l.getD j (0, 0)).1, a)] := by unfold clF; rw [hs]
    have e3 : clB l a k = ((l.getD j (0, 0)).1, a) := by unfold clB; rw [hs]
    have e4 : clI l k = true := by unfold clI; rw [hs]; rfl
    rw [e1, e2, e3, e4]
    have FF := (Frm.refl (fun i => i = Y.heap.size) W).put (k := Y.heap.size) rfl (.deferred none)
    refine ⟨by simp, .inl ⟨_, _, rfl, run_takeDeferred hK, ?_⟩⟩
    refine ⟨_, results_pb rfl _ _ (u + 1 + 1 + 1) (u + 1 + 1 + 1 + 1) _ _ true rfl rfl (q3.frm FF (by omega)) (q4.frm FF (by omega)), rfl, _, _, q2.frm FF (fun i e => ?_), ?_, fun i e => (by rw [own_len lA l.length j]; exact e), fun i e => ?_⟩
    · rcases e with e | e | e
      · have := (hPl i (.inl e)).2; omega
      · have := (hPl i (.inr (.inl (by rw [own_len lA ll j]; exact e)))).2; omega
      · rcases q6 i e with e | e
        · have := (hPl i (.inr (.inr e))).2; omega
        · omega
    · refine ((F02.mono (F' := PilF b (.slice lA l.length lc) vf) (fun _ _ e => e.elim)).trans q5 (fun i hi e => ?_)).trans FF (fun i hi e => ?_)
      · rw [HLL.out]
        have := HU.out
        rcases e with e | e | e | e
        · exact e
        · omega
        · omega
        · omega
      · have := HU.out; omega
    · rcases q6 i e with e | e
      · exact .inl e
      · right; have := HU.out; omega
end Go.Proofs.Ytpdackbcnbhppaa
