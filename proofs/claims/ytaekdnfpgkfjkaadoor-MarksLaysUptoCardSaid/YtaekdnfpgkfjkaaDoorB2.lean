/- String of a builder, wherever it lies. -/
import Derived.Test.YtaekdnfpgkfjkaaDoorB1
import Derived.BigRegion
namespace Go.Proofs.YtaekdnfpgkfjkaaDoor
open Go.RowKit
attribute [local go_sem] Oper.semAt_some

theorem freeze_other (w : World) (g n j : Nat) (h : j ≠ g) : (w.freeze ⟨g, 0, none⟩ n).heap[j]? = w.heap[j]? := by
  unfold World.freeze
  split
  · rfl
  · simp only [Array.getElem?_modify]
    rw [if_neg (fun e => h e.symm)]
theorem freeze_row {w : World} {g : Nat} {cur : Array Value} {e : TypeId} {fz : Nat × Nat} (h : w.heap[g]? = some (.cells cur e fz)) (n : Nat) : ∃ fz', (w.freeze ⟨g, 0, none⟩ n).heap[g]? = some (.cells cur e fz') := by
  unfold World.freeze
  split
  · exact ⟨fz, h⟩
  · obtain ⟨lo, hi⟩ := fz
    simp only [Array.getElem?_modify, if_true, h, Option.map_some]
    exact ⟨_, rfl⟩
theorem freeze_frm {w w' : World} {F : Nat → Prop} (h : Frm F w w') {g : Nat} (hg : F g) (n : Nat) : Frm F w (w'.freeze ⟨g, 0, none⟩ n) := by
  refine h.trans (F' := F) ⟨?_, ?_, ?_, ?_, fun i hi hn => freeze_other w' g n i (fun e => hn (by rw [e]; exact hg))⟩ (fun _ _ h => h)
  all_goals (unfold World.freeze; split <;> simp)

/-- A builder to be read: its row may be frozen. -/
structure BldR (w : World) (b o : Nat) (T : TypeId) (cs : Array Value) (v : Value) (l : List UInt8) : Prop where
  blk : Blk w b T cs
  hv : cs[o + 1]? = some v
  row : (l = [] ∧ v = .slice none 0 0) ∨ (l ≠ [] ∧ ∃ g cap cur fz, v = .slice (some ⟨g, 0, none⟩) l.length cap ∧ g ≠ b ∧ w.heap[g]? = some (.cells cur 5 fz) ∧ l.length ≤ cap ∧ cap ≤ maxLen ∧ cur.size = cap ∧ cur.toList.take l.length = Lib.byteCells l)
theorem Bld.r {w : World} {B b o : Nat} {T : TypeId} {cs : Array Value} {p v : Value} {l : List UInt8} (h : Bld w B b o T cs p v l) : BldR w b o T cs v l := by
  refine ⟨h.blk, h.hv, ?_⟩
  by_cases h0 : l = []
  · exact .inl ⟨h0, h.nl h0⟩
  · refine .inr ⟨h0, ?_⟩
    rcases h.own.2 with ⟨_, hz⟩ | ⟨g, cap, cur, hv, _, hg, h1, h2, h3, h4⟩
    · exact absurd (List.eq_nil_of_length_eq_zero hz) h0
    · exact ⟨g, cap, cur, _, hv, fun e => h.ne (by rw [hv, e]; rfl), hg, h1, h2, by simpa using h3, by simpa using h4⟩
theorem BldR.frm {w w' : World} {b o : Nat} {T : TypeId} {cs : Array Value} {v : Value} {l : List UInt8} {F : Nat → Prop} (h : BldR w b o T cs v l) (hF : Frm F w w') (hb : ¬ F b) (hv : ∀ i, v.ownBlock = some i → ¬ F i) : BldR w' b o T cs v l := by
  refine ⟨h.blk.frm hF hb, h.hv, ?_⟩
  rcases h.row with h0 | ⟨h0, g, cap, cur, fz, rfl, hne, hg, r⟩
  · exact .inl h0
  · refine .inr ⟨h0, g, cap, cur, fz, rfl, hne, ?_, r⟩
    rw [hF.block g (Array.getElem?_eq_some_iff.1 hg).1 (hv g rfl)]
    exact hg

set_option maxRecDepth 100000 in
set_option maxHeartbeats 1000000 in
theorem String_ok {w : World} {b o : Nat} {T : TypeId} {cs : Array Value} {v : Value} {l : List UInt8} (h : BldR w b o T cs v l) :
    Calls Tryd.prog 43 #[.pointer (some ⟨b, o, none⟩)] w fun r w' => r = .returned (.string (txt l)) ∧ BldR w' b o T cs v l ∧ Frm (fun k => v.ownBlock = some k) w w' := by
  have mixed : Tryd.prog.follows .mixedOrders = true := by kernel_rfl
  have hc1 := h.blk.cell (i := o + 1)
  rw [h.hv] at hc1
  have hf := h.blk.frozen
  have hl := h.blk.lt
  rcases h.row with ⟨h0, hv⟩ | ⟨h0, g, cap, cur, fz, hv, hne, hg, h1, h2, h3, h4⟩
  · subst h0 hv
    have c1 : w.drew.cell? ⟨b, o + 1, none⟩ = some (.slice none 0 0) := hc1
    have hSD : (Builtin.unsafeSliceData_ #[71] 102 #[.slice none 0 0]).run Tryd.prog w.drew = .ok (.pointer none) w.drew := rfl
    have hUS := fun (W : World) (q : Option Addr) => Lib.run_unsafeString_none (P := Tryd.prog) W 102 3 9 q
    go_enter Tryd.func43, Tryd.ntmps43
    go_wp2
    go_region_o
    all_goals (go_wp2; go_ret; exact ⟨rfl, h.frm ((Frm.refl (fun _ => False) w).drew) id (fun _ _ => id), (Frm.refl _ w).drew⟩)
  · subst hv
    have hg' : w.drew.heap[g]? = some (.cells cur 5 fz) := hg
    have c1 : w.drew.cell? ⟨b, o + 1, none⟩ = some (.slice (some ⟨g, 0, none⟩) l.length cap) := hc1
    have hl0 : l.length ≠ 0 := by simpa using h0
    have hSD : (Builtin.unsafeSliceData_ #[71] 102 #[.slice (some ⟨g, 0, none⟩) l.length cap]).run Tryd.prog w.drew = .ok (.pointer (some ⟨g, 0, none⟩)) w.drew :=
      Lib.run_unsafeSliceData_row _ _ _ _ _ _ (by omega)
    have hUS : (Builtin.unsafeString_ #[102, 3] 9 #[.pointer (some ⟨g, 0, none⟩), .int .i64 l.length]).run Tryd.prog w.drew = .ok (.string ⟨l.toArray⟩) (w.drew.freeze ⟨g, 0, none⟩ l.length) := by
      refine Lib.run_unsafeString_row w.drew 102 3 9 5 Tryd.underlying102 (by kernel_rfl) g cur.size (by simp [World.shape?, hg']) l h0 (by omega) (by unfold maxLen at h2; omega) ?_
      intro j x hx
      have hj : j < l.length := (List.getElem?_eq_some_iff.1 hx).1
      have e : (Lib.byteCells l)[j]? = some (.int .u8 x.toNat) := by simp [Lib.byteCells, hx]
      rw [← h4, List.getElem?_take, if_pos hj] at e
      have e2 : cur[j]? = some (.int .u8 x.toNat) := by rw [← Array.getElem?_toList]; exact e
      simp only [Addr.add_lit, Nat.zero_add]
      simp [World.cell?, hg', e2]
    have FF : Frm (fun k => (Value.slice (some ⟨g, 0, none⟩) l.length cap).ownBlock = some k) w (w.drew.freeze ⟨g, 0, none⟩ l.length) := freeze_frm (F := fun k => (Value.slice (some ⟨g, 0, none⟩) l.length cap).ownBlock = some k) ((Frm.refl (fun k => (Value.slice (some ⟨g, 0, none⟩) l.length cap).ownBlock = some k) w).drew) rfl _
    have hR : BldR (w.drew.freeze ⟨g, 0, none⟩ l.length) b o T cs (.slice (some ⟨g, 0, none⟩) l.length cap) l := by
      obtain ⟨fz', hfz⟩ := freeze_row hg' l.length
      exact ⟨h.blk.frm FF (fun e => hne (by injection e)), h.hv, .inr ⟨h0, g, cap, cur, fz', rfl, hne, hfz, h1, h2, h3, h4⟩⟩
    have HR := Lib.hid hR
    clear hR h
    go_enter Tryd.func43, Tryd.ntmps43
    go_wp2
    go_region_o
    all_goals (go_wp2; go_ret; exact ⟨rfl, HR.out, FF⟩)
end Go.Proofs.YtaekdnfpgkfjkaaDoor
