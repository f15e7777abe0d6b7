/- closed walked. -/
import Derived.Test.YtaekdnfpgkfjkaaDoorK2
import Derived.Sort.CutIn
import Derived.Stop.RegionWithIn
namespace Go.Proofs.YtaekdnfpgkfjkaaDoor
open Go.RowKit
attribute [local go_sem] Oper.semAt_some

def embC (r : Int) : Bool := r == 8234 || r == 8235 || r == 8237 || r == 8238
def isoC (r : Int) : Bool := r == 8294 || r == 8295 || r == 8296
/-- One character closed: what is open, what is written. -/
def cloS (st : List Int × List UInt8) (r : Int) (ct : List UInt8) : List Int × List UInt8 :=
  if endC r = true then ([], st.2 ++ clsF st.1 ++ ct)
  else if embC r = true then (st.1 ++ [8236], st.2 ++ ct)
  else if isoC r = true then (st.1 ++ [8297], st.2 ++ ct)
  else if r = 8236 then (if (embL st.1).isSome = true then ((embL st.1).getD st.1, st.2 ++ ct) else st)
  else if r = 8297 then (if (isoL st.1).isSome = true then ((isoL st.1).getD st.1, st.2 ++ ct) else st)
  else (st.1, st.2 ++ ct)
def cloT (s : ByteArray) : Nat → List Int × List UInt8
  | 0 => ([], [])
  | k + 1 => cloS (cloT s k) ((chs s).getD k default).r (cut s ((chs s).getD k default))
def cloF (s : ByteArray) : List UInt8 := (cloT s (chs s).length).2 ++ clsF (cloT s (chs s).length).1
def lastR (s : ByteArray) : Nat → Int
  | 0 => 0
  | k + 1 => ((chs s).getD k default).r
theorem lastR_13 {s : ByteArray} : ∀ {k : Nat}, lastR s k = 13 → (cloT s k).1 = []
  | 0, _ => rfl
  | k + 1, h => by
    have h : (((chs s).getD k default).r : Int) = 13 := h
    unfold cloT cloS
    rw [h, if_pos (by rfl)]
theorem isoT_len {L L' : List Int} : ∀ {n : Nat}, isoT L n = some L' → L'.length ≤ L.length
  | 0, h => by cases h
  | n + 1, h => by
    unfold isoT at h
    split at h
    · injection h with h
      rw [← h, List.length_take]; omega
    · exact isoT_len h
theorem embL_len {L L' : List Int} (h : embL L = some L') : L'.length ≤ L.length := by
  unfold embL at h
  split at h
  · injection h with h
    rw [← h, List.length_take]; omega
  · cases h
theorem cloS_len (st : List Int × List UInt8) (r : Int) (ct : List UInt8) : (cloS st r ct).1.length ≤ st.1.length + 1 ∧ (cloS st r ct).2.length + 4 * (cloS st r ct).1.length ≤ st.2.length + 4 * st.1.length + ct.length + 4 := by
  have h1 := clsF_len st.1
  unfold cloS
  split
  · simp only [List.length_append, List.length_nil]; omega
  split
  · simp only [List.length_append, List.length_singleton]; omega
  split
  · simp only [List.length_append, List.length_singleton]; omega
  split
  · rcases h : embL st.1 with _ | L'
    · simp; omega
    · have := embL_len h
      simp only [Option.isSome_some, if_true, Option.getD_some, List.length_append]; omega
  split
  · rcases h : isoL st.1 with _ | L'
    · simp; omega
    · have := isoT_len h
      simp only [Option.isSome_some, if_true, Option.getD_some, List.length_append]; omega
  · simp only [List.length_append]; omega
theorem seg0_len {s : ByteArray} {k : Nat} (h : k < (chs s).length) : (seg s 0 (k + 1)).length = (seg s 0 k).length + (cut s ((chs s).getD k default)).length := by
  rw [seg_snoc (by omega) h, List.length_append]
theorem cloT_len (s : ByteArray) : ∀ k, k ≤ (chs s).length → (cloT s k).1.length ≤ k ∧ (cloT s k).2.length + 4 * (cloT s k).1.length ≤ (seg s 0 k).length + 4 * k
  | 0, _ => by simp [cloT, seg_nil]
  | k + 1, h => by
    have ih := cloT_len s k (by omega)
    have h1 := cloS_len (cloT s k) ((chs s).getD k default).r (cut s ((chs s).getD k default))
    have h2 := seg0_len (s := s) (k := k) (by omega)
    unfold cloT
    omega

def CloAt (w1 : World) (ob : Nat) (s : ByteArray) (k : Nat) (S : Nat → Prop) (W : World) : Prop :=
  ∃ lv p v, (∀ j, S j ↔ (j = ob ∨ j = ob + 1 + 1 ∨ j = w1.heap.size + 1 ∨ lv.ownBlock = some j ∨ v.ownBlock = some j)) ∧ OpAt W ob lv p v (cloT s k).1 (cloT s k).2 ∧ (∀ j, lv.ownBlock = some j → w1.heap.size + 2 ≤ j) ∧ (∀ j, v.ownBlock = some j → w1.heap.size + 2 ≤ j) ∧
    Blk W (ob + 1 + 1) 21 #[.int .i32 (lastR s k)] ∧ Frm (fun j => j = ob ∨ j = ob + 1 + 1) w1 W ∧ w1.heap.size + 1 < W.heap.size
theorem CloAt.frm {w1 W W' : World} {ob k : Nat} {s : ByteArray} {S : Nat → Prop} (h : CloAt w1 ob s k S W) (hq : ob + 1 + 1 < w1.heap.size) {i : Nat} (hi : w1.heap.size + 1 ≤ i) (hS : i = w1.heap.size + 1 ∨ ¬ S i) (hF : Frm (fun j => j = i) W W') : CloAt w1 ob s k S W' := by
  obtain ⟨lv, p, v, h1, h2, h3, h4, h5, h6, h7⟩ := h
  have hne : ∀ j, lv.ownBlock = some j ∨ v.ownBlock = some j → ¬ j = i := fun j hj e => by
    rcases hS with hS | hS
    · rcases hj with hj | hj
      · have := h3 j hj; omega
      · have := h4 j hj; omega
    · exact hS (by rw [← e]; exact (h1 j).2 (.inr (.inr (.inr hj))))
  exact ⟨lv, p, v, h1, h2.frm hF (by omega) (fun j hj => hne j (.inl hj)) (fun j hj => hne j (.inr hj)), h3, h4, h5.frm hF (by omega), h6.trans hF (fun j hj e => by omega), Nat.lt_of_lt_of_le h7 hF.size⟩
/-- The end of a round. -/
theorem clo_end {w1 W W2 W' : World} {ob k : Nat} {s : ByteArray} {S : Nat → Prop} {lv v lv' p' v' : Value} (hq : ob + 1 + 1 < w1.heap.size) (hS : ∀ j, S j ↔ (j = ob ∨ j = ob + 1 + 1 ∨ j = w1.heap.size + 1 ∨ lv.ownBlock = some j ∨ v.ownBlock = some j))
    (hlv : ∀ j, lv.ownBlock = some j → w1.heap.size + 2 ≤ j) (hv : ∀ j, v.ownBlock = some j → w1.heap.size + 2 ≤ j) (hF : Frm (fun j => j = ob ∨ j = ob + 1 + 1) w1 W) (hsz : w1.heap.size + 1 < W.heap.size) (F2 : Frm (fun j => j = w1.heap.size + 1) W W2)
    (F3 : Frm (fun j => j = ob ∨ j = ob + 1 + 1 ∨ lv.ownBlock = some j ∨ v.ownBlock = some j) W2 W') (hr : OpAt W' ob lv' p' v' (cloT s (k + 1)).1 (cloT s (k + 1)).2) (h1 : Blk W' (ob + 1 + 1) 21 #[.int .i32 (lastR s (k + 1))])
    (hlv' : lv'.ownBlock = lv.ownBlock ∨ ∀ j, lv'.ownBlock = some j → W2.heap.size ≤ j) (hv' : v'.ownBlock = v.ownBlock ∨ ∀ j, v'.ownBlock = some j → W2.heap.size ≤ j) :
    Two w1.heap.size W2 W' ∧ S (w1.heap.size + 1) ∧ ∃ S', CloAt w1 ob s (k + 1) S' W' ∧ Frm S W W' ∧ ∀ j, S' j → S j ∨ W.heap.size ≤ j := by
  have hz2 := F2.size
  have hz3 := F3.size
  have FS : Frm S W W' := (F2.mono (F' := S) (fun i _ e => (hS i).2 (.inr (.inr (.inl e))))).trans F3 (fun i _ e => (hS i).2 (by
    rcases e with e | e | e
    · exact .inl e
    · exact .inr (.inl e)
    · exact .inr (.inr (.inr e))))
  have hb : ∀ (x x' : Value), (∀ j, x.ownBlock = some j → w1.heap.size + 2 ≤ j) → (x'.ownBlock = x.ownBlock ∨ ∀ j, x'.ownBlock = some j → W2.heap.size ≤ j) → ∀ j, x'.ownBlock = some j → w1.heap.size + 2 ≤ j := fun x x' h1 h2 j hj => by
    rcases h2 with h2 | h2
    · exact h1 j (by rw [← h2]; exact hj)
    · have := h2 j hj; omega
  have hn : ∀ i, (i = ob ∨ i = ob + 1 + 1 ∨ lv.ownBlock = some i ∨ v.ownBlock = some i) → i ≠ w1.heap.size ∧ i ≠ w1.heap.size + 1 := fun i e => by
    rcases e with e | e | e | e
    · omega
    · omega
    · have := hlv i e; omega
    · have := hv i e; omega
  refine ⟨Two.of_frm F3 (by omega) (fun e => (hn _ e).1 rfl) (fun e => (hn _ e).2 rfl), (hS _).2 (.inr (.inr (.inl rfl))), (fun j => j = ob ∨ j = ob + 1 + 1 ∨ j = w1.heap.size + 1 ∨ lv'.ownBlock = some j ∨ v'.ownBlock = some j), ⟨lv', p', v', fun _ => Iff.rfl, hr, hb lv lv' hlv hlv', hb v v' hv hv', h1, hF.trans FS (fun i hi e => ?_), by omega⟩, FS, fun j e => ?_⟩
  · rcases (hS i).1 e with e | e | e | e | e
    · exact .inl e
    · exact .inr e
    · omega
    · have := hlv i e; omega
    · have := hv i e; omega
  · rcases e with e | e | e | e | e
    · exact .inl ((hS j).2 (.inl e))
    · exact .inl ((hS j).2 (.inr (.inl e)))
    · exact .inl ((hS j).2 (.inr (.inr (.inl e))))
    · rcases hlv' with h | h
      · rw [h] at e; exact .inl ((hS j).2 (.inr (.inr (.inr (.inl e)))))
      · have := h j e; right; omega
    · rcases hv' with h | h
      · rw [h] at e; exact .inl ((hS j).2 (.inr (.inr (.inr (.inr e)))))
      · have := h j e; right; omega
end Go.Proofs.YtaekdnfpgkfjkaaDoor
