/- Spots: what the iterator tells, character by character. -/
import Derived.Test.YtaekdnfpgkfjkaaDoorC3
import Derived.Test.YtaekdnfpgkfjkaaDoorRng3
import Derived.Test.YtaekdnfpgkfjkaaDoorD1
import Derived.RangeFuncLeaves
import Derived.TacticsInMore
import Derived.LoopNIn
import Derived.LoopIn
import Derived.Sort.LoopGhostIn
import Derived.BigRegionIn
import Derived.Lib.OthersKept
namespace Go.Proofs.YtaekdnfpgkfjkaaDoor
open Go.RowKit
attribute [local go_sem] Oper.semAt_some

set_option maxRecDepth 100000 in
set_option maxHeartbeats 1000000 in
theorem Spots_ok {w : World} {s : ByteArray} :
    Calls Tryd.prog 50 #[.string s] w fun r w' => r = .returned (.func (.func 68) #[] #[.pointer (some ⟨w.heap.size, 0, none⟩)]) ∧ Blk w' w.heap.size 9 #[.string s] ∧ Aft w w' := by
  go_enter Tryd.func50, Tryd.ntmps50
  go_wp2
  go_ret
  exact ⟨rfl, Blk.new w 9 _, (Aft.refl w).alloc _⟩

/-- What may be told of the callee's state: it stands as it stood while nothing that it may write turns. -/
structure Tells (N : Nat) (J : Nat → (Nat → Prop) → World → Prop) : Prop where
  lt : ∀ k S W, J k S W → ∀ j, S j → j < W.heap.size
  frm : ∀ k S W W' i, N ≤ i → ¬ S i → J k S W → Frm (fun j => j = i) W W' → J k S W'

/-- What is told of a character. -/
def encS (c : Ch) (e : Int) : Array Value := #[.agg #[.int .i64 c.b, .int .i64 c.n, .int .i32 c.r, .int .i64 e]]

theorem Frm.iterAt {F : Nat → Prop} {w w' : World} (h : Frm F w w') {k : Nat} (hk : F k) (s : ByteArray) (p : Nat) : Frm F w (w'.iterAt k s p) := by
  refine h.trans (F' := F) ⟨rfl, rfl, rfl, by rw [Lib.iterAt_size]; exact Nat.le_refl _, fun i hi hn => Lib.iterAt_other w' k i s p (fun e => hn (by rw [e]; exact hk))⟩ (fun _ _ h => h)

theorem tabs_frm {w w' : World} {F : Nat → Prop} (h : Lib.Utf8Tabs 0 1 w) (hF : Frm F w w') (h0 : ¬ F 0) (h1 : ¬ F 1) : Lib.Utf8Tabs 0 1 w' := by
  have lt : ∀ {a : Addr} {v : Value}, w.cell? a = some v → a.block < w.heap.size := fun {a v} hc => by
    rcases Nat.lt_or_ge a.block w.heap.size with h' | h'
    · exact h'
    · simp [World.cell?, Array.getElem?_eq_none h'] at hc
  have cell : ∀ {a : Addr} {v : Value}, w.cell? a = some v → ¬ F a.block → w'.cell? a = some v := fun {a v} hc hn => by
    rw [World.cell?_of_block (hF.block a.block (lt hc) hn)]; exact hc
  exact ⟨fun c hc => cell (h.1 c hc) h0, fun i hi => ⟨cell (h.2 i hi).1 h1, cell (h.2 i hi).2 h1⟩⟩

set_option maxRecDepth 100000 in
set_option maxHeartbeats 2000000 in
theorem iter_spots {W1 : World} {b1 yb : Nat} {s : ByteArray} (h1 : Blk W1 b1 9 #[.string s]) (hT : Lib.Utf8Tabs 0 1 W1) {J : Nat → (Nat → Prop) → World → Prop} (T : Tells W1.heap.size J) {Jx : World → Prop} {S0 : Nat → Prop} (h0 : J 0 S0 W1)
    (hS0 : ∀ j, S0 j → j ≠ b1 ∧ j ≠ 0 ∧ j ≠ 1) (h2 : 2 ≤ W1.heap.size) {d : Nat} (hd : 1 ≤ d)
    (hY : ∀ k S W (hk : k < (chs s).length) e, J k S W → YieldAt Fence.wide (d - 1) Tryd.prog yb (encS ((chs s)[k]) e) W fun e W' =>
      (e = .returned (.bool true) ∧ ∃ S', J (k + 1) S' W' ∧ Frm S W W' ∧ ∀ j, S' j → S j ∨ W.heap.size ≤ j) ∨ (e = .returned (.bool false) ∧ Jx W')) :
    CallsIn Fence.wide d Tryd.prog 68 #[.func (.yield yb) #[] #[], .pointer (some ⟨b1, 0, none⟩)] W1 fun e W' => (∃ v, e = .returned v) ∧ ((∃ S, J (chs s).length S W') ∨ Jx W') := by
  obtain ⟨x0, xf, xl⟩ := h1.c1
  have hS2 : ∀ j, S0 j → j < W1.heap.size := T.lt _ _ _ h0
  refine callsIn_of_wp Tryd.func68 rfl trivial ?_ rfl
  simp only [Tryd.ntmps68, List.size_toArray, List.length_cons, List.length_nil, Nat.reduceAdd, Nat.reduceSub, Array.replicate_succ, Array.replicate_zero, List.push_toArray, List.append_toArray, List.nil_append, List.cons_append]
  refine wpIn_wide.2 ?_
  go_upto_region 1 with (fail)
  obtain ⟨it, hit⟩ : ∃ it, W1.heap.size = it := ⟨_, rfl⟩
  have FI : Frm (fun _ => False) W1 (W1.iter s 0) := (Frm.refl _ W1).alloc _
  have hI0 : (W1.iter s 0).heap[it]? = some (.stringIter s 0) := by rw [← hit]; exact World.iter_heap W1 s 0
  have hJ0 := T.frm _ _ _ _ W1.heap.size (Nat.le_refl _) (fun h => by have := hS2 _ h; omega) h0 (FI.mono (fun _ _ e => e.elim))
  have hB0 := h1.frm FI id
  have hT0 := tabs_frm hT FI id id
  have hsz0 : it < (W1.iter s 0).heap.size := by unfold World.iter; simp; omega
  rw [hit] at hS2 xl T h2
  rw [hit]
  generalize W1.iter s 0 = Wi at *
  clear x0 xf FI h0 h1 hT hit
  refine (wpIn_wide (n := d)).1 ?_
  gi_loopw [] (fun wr => ∃ (k p : Nat) (S : Nat → Prop), J k S wr ∧ (∃ dn, chs s = dn ++ chA s p ∧ dn.length = k) ∧ wr.heap[it]? = some (.stringIter s p) ∧ Blk wr b1 9 #[.string s] ∧ Lib.Utf8Tabs 0 1 wr ∧ (∀ j, S j → (j < it ∨ it < j) ∧ j ≠ b1 ∧ j ≠ 0 ∧ j ≠ 1) ∧ it < wr.heap.size) (fun wr => s.size - wr.iterPos it)
  case atStart => exact ⟨0, 0, S0, hJ0, ⟨[], rfl, rfl⟩, hI0, hB0, hT0, fun j hj => ⟨.inl (hS2 j hj), hS0 j hj⟩, hsz0⟩
  case round =>
    obtain ⟨k, p, S, hJ, hdn, hI, hB, hTt, hS, hsz⟩ := hrel
    clear hJ0 hB0 hT0 hI0 hsz0 hS0 hS2
    by_cases hp : p < s.size
    · have hnx : ∀ ty, (Instr.next (.pointer (some ⟨it, 0, none⟩)) true ty).run Tryd.prog wr = _ := fun ty => Lib.run_next_any_at wr it s p ty hI hp
      have hK1 := dec_pos hp
      have hK2 := dec_le hp
      have F3 : Frm (fun j => j = it) wr (wr.iterAt it s (p + (Utf8.decode s p).2)) := (Frm.refl (fun j => j = it) wr).iterAt (F := fun j => j = it) rfl s _
      have hI3 := Lib.iterAt_heap wr it s p (p + (Utf8.decode s p).2) hI
      have hSi : ¬ S it := fun h => by have := (hS _ h).1; omega
      have hJ3 := T.frm _ _ _ _ it (by omega) hSi hJ F3
      have hB3 := hB.frm F3 (by omega)
      have hT3 := tabs_frm hTt F3 (by omega) (by omega)
      have hs3 : it < (wr.iterAt it s (p + (Utf8.decode s p).2)).heap.size := by rw [Lib.iterAt_size]; exact hsz
      have hip : wr.iterPos it = p := by simp [World.iterPos, hI]
      obtain ⟨x0, xf, xl'⟩ := hB3.c1
      gi_wp2
      refine ⟨trivial, callsIn_wide.2 ((spot_ok hp hT3).mono ?_)⟩
      rintro r4 w4 ⟨⟨e, rfl⟩, b4⟩
      have F4 : Frm (fun _ => False) (wr.iterAt it s (p + (Utf8.decode s p).2)) w4 := Frm.of_below b4
      have hJ4 := T.frm _ _ _ _ it (by omega) hSi hJ3 (F4.mono (fun _ _ e => e.elim))
      have hI4 : w4.heap[it]? = some (.stringIter s (p + (Utf8.decode s p).2)) := (F4.block it hs3 id).trans hI3
      have hB4 := hB3.frm F4 id
      have hT4 := tabs_frm hT3 F4 id id
      have hs4 : it < w4.heap.size := Nat.lt_of_lt_of_le hs3 F4.size
      obtain ⟨dn, hd1, rfl⟩ := hdn
      have hch := chA_go hp
      have hkl : dn.length < (chs s).length := by rw [hd1, hch]; simp
      have hen : encS ((chs s)[dn.length]) e = #[.agg #[.int .i64 p, .int .i64 (Utf8.decode s p).2, .int .i32 (Utf8.decode s p).1, .int .i64 e]] := by
        have e1 : (chs s)[dn.length] = ⟨(Utf8.decode s p).1, p, (Utf8.decode s p).2⟩ := by simp only [hd1, hch]; simp
        rw [e1]; rfl
      have hdn' : ∃ d', chs s = d' ++ chA s (p + (Utf8.decode s p).2) ∧ d'.length = dn.length + 1 := ⟨dn ++ [⟨(Utf8.decode s p).1, p, (Utf8.decode s p).2⟩], by rw [hd1, hch]; simp, by simp⟩
      obtain ⟨fn, tmps, assign, body, hy, hR⟩ := hY dn.length S _ hkl e hJ4
      rw [hen] at hy
      have HDN := Lib.hid hdn'
      clear hen hdn' hd1 hch x0 xf xl' hJ3 hB3 hT3 hs3 hI3 hJ hB hTt hnx hY
      gi_wp2
      refine hR.mono ?_
      rintro e5 W5 (⟨rfl, S', hJ5, F5, hS5⟩ | ⟨rfl, hx⟩)
      · gi_wp2
        have hb1S : ¬ S b1 := fun h => (hS _ h).2.1 rfl
        have hs5 := F5.size
        have hI5 : W5.heap[it]? = some (.stringIter s (p + (Utf8.decode s p).2)) := (F5.block it hs4 hSi).trans hI4
        have hip5 : W5.iterPos it = p + (Utf8.decode s p).2 := by simp [World.iterPos, hI5]
        go_roundw
        case rel =>
          obtain ⟨d', h1, h2'⟩ := HDN.out
          refine ⟨dn.length + 1, p + (Utf8.decode s p).2, S', hJ5, ⟨d', h1, h2'⟩, hI5, hB4.frm F5 hb1S, tabs_frm hT4 F5 (fun h => (hS _ h).2.2.1 rfl) (fun h => (hS _ h).2.2.2 rfl), fun j hj => ?_, by omega⟩
          rcases hS5 j hj with h | h
          · exact hS j h
          · refine ⟨.inr (by omega), ?_, ?_, ?_⟩ <;> omega
        case measure => rw [hip5, hip]; omega
      · gi_wp2
        refine bodyPost_ret (results_none (by kernel_rfl) _ _ _) rfl ?_
        exact ⟨⟨_, rfl⟩, .inr hx⟩
    · have hnx : ∀ ty, (Instr.next (.pointer (some ⟨it, 0, none⟩)) true ty).run Tryd.prog wr = _ := fun ty => Lib.run_next_end_at wr it s p ty hI hp
      have hkl : k = (chs s).length := by
        obtain ⟨dn, h1, h2'⟩ := hdn
        rw [h1, chA_end hp, List.append_nil, h2']
      gi_wp2
      refine bodyPost_end (results_none (by kernel_rfl) _ _ _) rfl ?_
      exact ⟨⟨_, rfl⟩, .inl ⟨S, by rw [← hkl]; exact hJ⟩⟩
end Go.Proofs.YtaekdnfpgkfjkaaDoor
