/- SpansRuns walked: what it needs ahead. -/
import Derived.Test.YthifeccmbojcdaaG5
import Derived.Test.YthifeccmbojcdaaG1
import Derived.Test.YthifeccmbojcdaaT11
import Derived.Test.YthifeccmbojcdaaRng3
import Derived.Shelf.Abstract
namespace Go.Proofs.Ythifeccmbojcdaa
open Go.RowKit Go.Shelf
attribute [local go_sem] Oper.semAt_some

def tellL (cl lv : List Int) : List Rn := if cl.length = lv.length then runL lv (keptL cl) else []
def wantL (cl lv : List Int) : List (List Int × Int) := if cl.length = lv.length then grL lv (keptL cl) else []
theorem tell_want (cl lv : List Int) : (tellL cl lv).length = (wantL cl lv).length := by
  unfold tellL wantL
  split
  · simp [runL, grL]
  · rfl
theorem mem_of_flat {L : List (List Int)} {l g : List Int} {y : Int} (h : L.flatten = l) (hg : g ∈ L) (hy : y ∈ g) : y ∈ l := by rw [← h]; exact List.mem_flatten_of_mem hg hy
theorem tell_at {cl lv : List Int} {i : Nat} (h : i < (tellL cl lv).length) : ∃ (g : List Int) (lg : Int) (a b : Nat), (wantL cl lv)[i]? = some (g, lg) ∧ 0 < g.length ∧ g.length ≤ cl.length ∧ g.getD 0 0 = (a : Int) ∧ g.getD (g.length - 1) 0 = (b : Int) ∧ b < cl.length ∧ (tellL cl lv)[i] = ⟨a, b + 1, lg⟩ := by
  by_cases he : cl.length = lv.length
  · have e1 : tellL cl lv = runL lv (keptL cl) := by unfold tellL; rw [if_pos he]
    have e2 : wantL cl lv = grL lv (keptL cl) := by unfold wantL; rw [if_pos he]
    simp only [e1] at h ⊢
    rw [e2]
    have h' : i < (grp lv (keptL cl)).length := by unfold runL at h; simpa using h
    have hg : (grp lv (keptL cl))[i] ∈ grp lv (keptL cl) := List.getElem_mem h'
    have hne := grp_ne lv _ _ hg
    have hfl := grp_flat lv (keptL cl)
    have hl : 0 < ((grp lv (keptL cl))[i]).length := List.length_pos_iff.2 hne
    have m0 := getD_mem0 (l := (grp lv (keptL cl))[i]) (0 : Int) hl
    have m1 := getD_mem0 (l := (grp lv (keptL cl))[i]) (0 : Int) (i := ((grp lv (keptL cl))[i]).length - 1) (by omega)
    have k0 : ((grp lv (keptL cl))[i]).getD 0 0 ∈ keptL cl := mem_of_flat hfl hg m0
    have k1 : ((grp lv (keptL cl))[i]).getD (((grp lv (keptL cl))[i]).length - 1) 0 ∈ keptL cl := mem_of_flat hfl hg m1
    obtain ⟨a, ea, la, _⟩ := keptL_mem.1 k0
    obtain ⟨b, eb, lb, _⟩ := keptL_mem.1 k1
    have hsl := (List.sublist_flatten_of_mem hg).length_le
    rw [hfl] at hsl
    have hkl : (keptL cl).length ≤ cl.length := keptT_length cl _
    refine ⟨(grp lv (keptL cl))[i], lvAt lv (((grp lv (keptL cl))[i]).getD 0 0), a, b, ?_, hl, by omega, ea, eb, lb, ?_⟩
    · unfold grL
      rw [List.getElem?_map, List.getElem?_eq_getElem h']
      rfl
    · have : (runL lv (keptL cl))[i] = toRn lv ((grp lv (keptL cl))[i]) := by simp [runL]
      rw [this]
      unfold toRn
      rw [ea, eb]
      simp
  · have e1 : tellL cl lv = [] := by unfold tellL; rw [if_neg he]
    simp [e1] at h

set_option maxRecDepth 100000 in
set_option maxHeartbeats 2000000 in
theorem iter_no {W1 : World} {b1 b2 yb n n2 c c2 : Nat} {A A2 : Option Addr} (he : n ≠ n2) (h1 : Blk W1 b1 22 #[.slice A n c]) (h2 : Blk W1 b2 35 #[.slice A2 n2 c2]) {d : Nat} :
    CallsIn Fence.wide d Try.prog 63 #[.func (.yield yb) #[] #[], .pointer (some ⟨b1, 0, none⟩), .pointer (some ⟨b2, 0, none⟩)] W1 fun e W' => (∃ v, e = .returned v) ∧ W' = W1 := by
  obtain ⟨x0, xf, xl⟩ := h1.c1
  obtain ⟨y0, yf, yl⟩ := h2.c1
  have hE : ((n : Int) != (n2 : Int)) = true := bne_iff_ne.2 (by omega)
  refine callsIn_wide.2 ?_
  go_enter Try.func63, Try.ntmps63
  go_wp2
  refine bodyPost_ret (results_none (by kernel_rfl) _ _ _) rfl ?_
  exact ⟨⟨_, rfl⟩, rfl⟩

theorem iter_any {W1 : World} {b1 b2 yb n n2 c c2 : Nat} {B B2 : Nat} {A A2 : Option Addr} {cl lv : List Int} (hn : n = cl.length) (hn2 : n2 = lv.length) (h1 : Blk W1 b1 22 #[.slice A n c]) (h2 : Blk W1 b2 35 #[.slice A2 n2 c2])
    (hr : RdInts W1 B .u8 A cl) (hr2 : RdInts W1 B2 .i8 A2 lv) (hl : n ≤ 8388608)
    {J : Nat → (Nat → Prop) → World → Prop} (T : Tells J) {Jx : World → Prop} {S0 : Nat → Prop} (h0 : J 0 S0 W1) {d : Nat} (hd : 1 ≤ d)
    (hY : ∀ k S W (hk : k < (tellL cl lv).length), J k S W → YieldAt Fence.wide (d - 1) Try.prog yb ((tellL cl lv)[k]).encs W fun e W' =>
      (e = .returned (.bool true) ∧ ∃ S', J (k + 1) S' W' ∧ Frm S W W' ∧ ∀ j, S' j → S j ∨ W.heap.size ≤ j) ∨ (e = .returned (.bool false) ∧ Jx W')) :
    CallsIn Fence.wide d Try.prog 63 #[.func (.yield yb) #[] #[], .pointer (some ⟨b1, 0, none⟩), .pointer (some ⟨b2, 0, none⟩)] W1 fun e W' => (∃ v, e = .returned v) ∧ ((∃ S, J (tellL cl lv).length S W') ∨ Jx W') := by
  by_cases he : n = n2
  · have e1 : tellL cl lv = runL lv (keptL cl) := by unfold tellL; rw [if_pos (by omega)]
    revert hY
    rw [e1]
    intro hY
    exact iter_ok hn hn2 he rfl h1 h2 hr hr2 hl T h0 hd hY
  · have e1 : tellL cl lv = [] := by unfold tellL; rw [if_neg (by omega)]
    rw [e1]
    refine (iter_no he h1 h2).mono ?_
    rintro e W' ⟨hv, rfl⟩
    exact ⟨hv, .inl ⟨S0, h0⟩⟩
end Go.Proofs.Ythifeccmbojcdaa
