/- utf's spot: the character that begins at a byte. -/
import Derived.Test.YtaekdnfpgkfjkaaDoorC2
namespace Go.Proofs.YtaekdnfpgkfjkaaDoor
open Go.RowKit
attribute [local go_sem] Oper.semAt_some

theorem results_row0 {P : Program} {fn : Func} {p : Tmp} {ty : TypeId} (h : fn.results = #[.cell p ty]) (tmps : Array Value) (w : World) (g : Nat) (t : TypeId) (cs : Array Value) (d : TypeDesc)
    (hp : tmps.getD p undef = .pointer (some ⟨g, 0, none⟩)) (hg : Blk w g t cs)
    (hu : P.underlying ty = some d) (hd : (match d with | .struct _ | .array _ _ => true | _ => false) = true) (hi : (P.info? ty).map (·.size) = some cs.size) :
    (results fn tmps).run P w = .ok (.agg cs) w := by
  have hp' : tmps[p]?.getD undef = .pointer (some ⟨g, 0, none⟩) := by simpa using hp
  simp [results, h, hp', asAddr, run_loadVar_row w g t ty cs (0, 0) d hg hu hd hi]

theorem tabs_aft {w w' : World} (h : Lib.Utf8Tabs 0 1 w) (ha : Aft w w') : Lib.Utf8Tabs 0 1 w' := Utf8Tabs_below h ha

set_option maxRecDepth 100000 in
set_option maxHeartbeats 1000000 in
theorem spot_ok {w : World} {s : ByteArray} {p : Nat} (h : p < s.size) (hT : Lib.Utf8Tabs 0 1 w) :
    Calls Tryd.prog 69 #[.string s, .int .i64 p] w fun r w' => (∃ e, r = .returned (.agg #[.int .i64 p, .int .i64 (Utf8.decode s p).2, .int .i32 (Utf8.decode s p).1, .int .i64 e])) ∧ Aft w w' := by
  have hdec := fun (W : World) (hW : Aft w W) => Tryd.utf8_DecodeRuneInString (s.extract p s.size) W (tabs_aft hT hW)
  rw [dec_go h] at hdec
  obtain ⟨R, hR⟩ : ∃ R, (Utf8.decode s p).1 = R := ⟨_, rfl⟩
  obtain ⟨K, hK⟩ : ∃ K, (Utf8.decode s p).2 = K := ⟨_, rfl⟩
  rw [hR, hK] at hdec ⊢
  have hwhy := fun (W : World) => why_ok W (s.extract p s.size) (by rw [tail_size]; omega)
  have hp : (p : Int) ≤ (s.size : Int) := by omega
  have h0 : ¬ ((s.size : Int) < (p : Int)) := by omega
  have a0 := (Aft.refl w).alloc (.cells #[.int .i64 0, .int .i64 0, .int .i32 0, .int .i64 0] 96)
  have R0 := Blk.new w 96 #[.int .i64 0, .int .i64 0, .int .i32 0, .int .i64 0]
  clear hR hK hT
  go_enter Tryd.func69, Tryd.ntmps69
  go_upto_region 3 with (first | (go_at_call 72; refine (hdec _ a0).mono ?_; rintro r1 w1 ⟨rfl, b1⟩))
  have a1 : Aft w w1 := a0.trans b1
  have R1 := R0.aft b1
  have hs1 : w.heap.size < w1.heap.size := R1.lt
  have a2 := a1.alloc (.cells #[.int .i64 p, .int .i64 K, .int .i32 R, .int .i64 0] 96)
  have R2 := R1.alloc (.cells #[.int .i64 p, .int .i64 K, .int .i32 R, .int .i64 0] 96)
  have X2 := Blk.new w1 96 #[.int .i64 p, .int .i64 K, .int .i32 R, .int .i64 0]
  generalize w1.alloc (.cells #[.int .i64 p, .int .i64 K, .int .i32 R, .int .i64 0] 96) = W2 at *
  generalize w1.heap.size = x at *
  clear b1 R0 R1 a0 a1
  rcases h5 : ((R : Int) == 65533) with _ | _
  · obtain ⟨x0, x1, x2, x3, xf, xl⟩ := (X2).c4
    obtain ⟨r0, r1, r2, r3, rf, rl⟩ := (R2).c4
    go_wp2
    have Br := ((((R2).set_ 0 (.int .i64 p)).set_ 1 (.int .i64 K)).set_ 2 (.int .i32 R)).set_ 3 (.int .i64 0)
    have a4 := ((((a2).set (g := w.heap.size) (j := 0) (Nat.le_refl _) (.int .i64 p)).set (g := w.heap.size) (j := 1) (Nat.le_refl _) (.int .i64 K)).set (g := w.heap.size) (j := 2) (Nat.le_refl _) (.int .i32 R)).set (g := w.heap.size) (j := 3) (Nat.le_refl _) (.int .i64 0)
    refine bodyPost_ret (results_row0 rfl _ _ w.heap.size 96 #[.int .i64 p, .int .i64 K, .int .i32 R, .int .i64 0] _ rfl (by simpa using Br) Tryd.underlying96 rfl rfl) rfl ?_
    exact ⟨⟨0, rfl⟩, a4⟩
  · rcases h6 : ((K : Int) == 1) with _ | _
    · obtain ⟨x0, x1, x2, x3, xf, xl⟩ := (X2).c4
      obtain ⟨r0, r1, r2, r3, rf, rl⟩ := (R2).c4
      go_wp2
      have Br := ((((R2).set_ 0 (.int .i64 p)).set_ 1 (.int .i64 K)).set_ 2 (.int .i32 R)).set_ 3 (.int .i64 0)
      have a4 := ((((a2).set (g := w.heap.size) (j := 0) (Nat.le_refl _) (.int .i64 p)).set (g := w.heap.size) (j := 1) (Nat.le_refl _) (.int .i64 K)).set (g := w.heap.size) (j := 2) (Nat.le_refl _) (.int .i32 R)).set (g := w.heap.size) (j := 3) (Nat.le_refl _) (.int .i64 0)
      refine bodyPost_ret (results_row0 rfl _ _ w.heap.size 96 #[.int .i64 p, .int .i64 K, .int .i32 R, .int .i64 0] _ rfl (by simpa using Br) Tryd.underlying96 rfl rfl) rfl ?_
      exact ⟨⟨0, rfl⟩, a4⟩
    · obtain ⟨x0, x1, x2, x3, xf, xl⟩ := X2.c4
      go_upto_region 4 with (fail)
      go_upto_region 5 with (go_at_call 73; refine (hwhy _).mono ?_; rintro r3 w3 ⟨⟨e, rfl⟩, b3⟩; obtain ⟨x0, x1, x2, x3, xf, xl⟩ := (X2.aft b3).c4)
      have X3 := X2.aft b3
      have F := (Frm.refl (fun k => k = x) w3).set (b := x) (j := 3) rfl (.int .i64 e)
      have X4 : Blk (w3.setCell ⟨x, 3, none⟩ (.int .i64 e)) x 96 #[.int .i64 p, .int .i64 K, .int .i32 R, .int .i64 e] := by simpa using X3.set_ 3 (.int .i64 e)
      have R4 := (R2.aft b3).frm F (by omega)
      have a3 := (a2.trans b3).set (g := x) (j := 3) (by omega) (.int .i64 e)
      generalize w3.setCell ⟨x, 3, none⟩ (.int .i64 e) = W3 at *
      clear x0 x1 x2 x3 xf xl X3 F
      obtain ⟨x0, x1, x2, x3, xf, xl⟩ := (X4).c4
      obtain ⟨r0, r1, r2, r3, rf, rl⟩ := (R4).c4
      go_wp2
      have Br := ((((R4).set_ 0 (.int .i64 p)).set_ 1 (.int .i64 K)).set_ 2 (.int .i32 R)).set_ 3 (.int .i64 e)
      have a4 := ((((a3).set (g := w.heap.size) (j := 0) (Nat.le_refl _) (.int .i64 p)).set (g := w.heap.size) (j := 1) (Nat.le_refl _) (.int .i64 K)).set (g := w.heap.size) (j := 2) (Nat.le_refl _) (.int .i32 R)).set (g := w.heap.size) (j := 3) (Nat.le_refl _) (.int .i64 e)
      refine bodyPost_ret (results_row0 rfl _ _ w.heap.size 96 #[.int .i64 p, .int .i64 K, .int .i32 R, .int .i64 e] _ rfl (by simpa using Br) Tryd.underlying96 rfl rfl) rfl ?_
      exact ⟨⟨e, rfl⟩, a4⟩
end Go.Proofs.YtaekdnfpgkfjkaaDoor
