/- The reference's Chars walked. -/
import Derived.Test.YtaekdnfpgkfjkaaDoorC7
import Derived.Test.YtaekdnfpgkfjkaaDoorR1
namespace Go.Proofs.YtaekdnfpgkfjkaaDoor
open Go.RowKit
attribute [local go_sem] Oper.semAt_some

structure RC where
  b : Int
  n : Int
  r : Int
  q : Bool
deriving Inhabited
def crC (x : RC) : List Value := [.int .i64 x.b, .int .i64 x.n, .int .i32 x.r, .bool x.q]
theorem encC : Enc crC 4 := ⟨fun _ => rfl, fun x u hu => by simp [crC] at hu; rcases hu with rfl | rfl | rfl | rfl <;> rfl⟩
theorem etC : ElemT Tryd.prog 85 90 4 24 := ElemT.mk' (.agg #[.int .i64 0, .int .i64 0, .int .i32 0, .bool false]) Tryd.underlying85 (by kernel_rfl) rfl (by omega)
def isQ (c : Ch) : Bool := ((c.r : Int) != 65533) || ((c.n : Int) == 3)
def rcF (c : Ch) : RC := ⟨c.b, c.n, c.r, isQ c⟩
def rcP (c : Ch) : RC := ⟨c.b, 0, c.r, false⟩
/-- The first k are done. -/
def rcT (l : List Ch) (k : Nat) : List RC := (l.take k).map rcF ++ (l.drop k).map rcP
def rcL (s : ByteArray) : List RC := (chs s).map rcF

theorem chA_next (s : ByteArray) : ∀ p i, i < (chA s p).length → ((chA s p).getD i default).b + ((chA s p).getD i default).n = if i + 1 < (chA s p).length then ((chA s p).getD (i + 1) default).b else s.size := fun p => by
  refine chA_ind (s := s) (P := fun p => ∀ i, i < (chA s p).length → ((chA s p).getD i default).b + ((chA s p).getD i default).n = if i + 1 < (chA s p).length then ((chA s p).getD (i + 1) default).b else s.size) (fun p h i hi => ?_) (fun p h ih i hi => ?_) _ p (Nat.le_refl _)
  · rw [chA_end h] at hi; simp at hi
  · rw [chA_go h] at hi ⊢
    cases i with
    | zero =>
      simp only [List.getD_cons_zero, List.getD_cons_succ, List.length_cons]
      by_cases h2 : p + (Utf8.decode s p).2 < s.size
      · rw [chA_go h2]
        simp
      · have := dec_le h
        rw [chA_end h2]
        simp; omega
    | succ i =>
      simp only [List.getD_cons_succ, List.length_cons] at hi ⊢
      rw [ih i (by omega)]
      simp only [Nat.add_lt_add_iff_right]

theorem cell_eq {w : World} {a : Addr} {u v : Value} (h : w.cell? a = some u) : (w.setCell a v).cell? a = some v := World.cell?_setCell_same _ _ _ h
theorem cell_ne {w : World} {a b : Addr} {v : Value} (h : a ≠ b) : (w.setCell a v).cell? b = w.cell? b := World.cell?_setCell_other _ _ _ _ h
theorem rcT_len (l : List Ch) (k : Nat) : (rcT l k).length = l.length := by
  unfold rcT
  rw [List.length_append, List.length_map, List.length_map, List.length_take, List.length_drop]; omega
theorem rcT_at (l : List Ch) {k : Nat} (h : k < l.length) : (rcT l k)[k]? = some (rcP (l.getD k default)) := by
  unfold rcT
  rw [List.getElem?_append_right (by simp; omega), List.length_map, List.length_take, Nat.min_eq_left (by omega), Nat.sub_self, List.getElem?_map, List.getElem?_drop, Nat.add_zero, List.getElem?_eq_getElem h, List.getD_eq_getElem?_getD, List.getElem?_eq_getElem h]
  rfl
theorem rcT_next (l : List Ch) {k : Nat} (h : k + 1 < l.length) : (rcT l k)[k + 1]? = some (rcP (l.getD (k + 1) default)) := by
  unfold rcT
  rw [List.getElem?_append_right (by simp; omega), List.length_map, List.length_take, Nat.min_eq_left (by omega), show k + 1 - k = 1 by omega, List.getElem?_map, List.getElem?_drop, List.getElem?_eq_getElem h, List.getD_eq_getElem?_getD, List.getElem?_eq_getElem h]
  rfl
theorem rcT_succ (l : List Ch) {k : Nat} (h : k < l.length) (y : RC) : ((rcT l k).set k y).set k (rcF (l.getD k default)) = rcT l (k + 1) := by
  rw [List.set_set]
  unfold rcT
  rw [List.set_append_right _ _ (by simp; omega), List.length_map, List.length_take, Nat.min_eq_left (by omega), Nat.sub_self]
  rw [List.take_succ_eq_append_getElem h, List.map_append, List.append_assoc]
  congr 1
  rw [List.drop_eq_getElem_cons h, List.map_cons, List.set_cons_zero]
  have : l.getD k default = l[k] := by rw [List.getD_eq_getElem?_getD, List.getElem?_eq_getElem h]; rfl
  rw [this]
  rfl

set_option maxRecDepth 100000 in
set_option maxHeartbeats 4000000 in
theorem Chars_ok {w : World} {s : ByteArray} (hs : s.size ≤ 1099511627776) :
    Calls Tryd.prog 44 #[.string s] w fun r w' => ∃ v, r = .returned v ∧ Rw crC 4 w' w.heap.size 90 v (rcL s) ∧ Aft w w' := by
  have hcl := chs_len s
  go_enter Tryd.func44, Tryd.ntmps44
  go_upto_region 3 with (fail)
  obtain ⟨it, hit⟩ : ∃ it, w.heap.size = it := ⟨_, rfl⟩
  have a0 : Aft w (w.iter s 0) := (Aft.refl w).alloc _
  have hI0 : (w.iter s 0).heap[it]? = some (.stringIter s 0) := by rw [← hit]; exact World.iter_heap w s 0
  rw [hit]
  generalize w.iter s 0 = Wi at *
  have HIT := Lib.hid hit
  clear hit
  go_loopw [3] (fun lv wr => ∃ (p : Nat) (dn : List Ch), chs s = dn ++ chA s p ∧ Rw crC 4 wr (it + 1) 90 lv (dn.map rcP) ∧ wr.heap[it]? = some (.stringIter s p) ∧ Aft w wr) (fun _ wr => s.size - wr.iterPos it)
  case atStart => exact ⟨0, [], rfl, Rw.nil _ _ _, hI0, a0⟩
  case round =>
    obtain ⟨p, dn, hd1, I, hI, a1⟩ := hrel
    clear hI0 a0
    have hlt : it < wr.heap.size := (Array.getElem?_eq_some_iff.1 hI).1
    have hdl : dn.length ≤ (chs s).length := by rw [hd1]; simp
    by_cases hp : p < s.size
    · have hnx : ∀ ty, (Instr.next (.pointer (some ⟨it, 0, none⟩)) true ty).run Tryd.prog wr = _ := fun ty => Lib.run_next_any_at wr it s p ty hI hp
      have hK1 := dec_pos hp
      have hip : wr.iterPos it = p := by simp [World.iterPos, hI]
      have hch := chA_go hp
      have hdn' : chs s = (dn ++ [⟨(Utf8.decode s p).1, p, (Utf8.decode s p).2⟩]) ++ chA s (p + (Utf8.decode s p).2) := by rw [hd1, hch]; simp
      have hdl2 : dn.length < (chs s).length := by rw [hd1, hch]; simp
      have F3 : Frm (fun j => j = it) wr (wr.iterAt it s (p + (Utf8.decode s p).2)) := (Frm.refl (fun j => j = it) wr).iterAt (F := fun j => j = it) rfl s _
      have hI3 := Lib.iterAt_heap wr it s p (p + (Utf8.decode s p).2) hI
      have I3 : Rw crC 4 (wr.iterAt it s (p + (Utf8.decode s p).2)) (it + 1) 90 u3 (dn.map rcP) := I.frm F3 (fun j e => by have := (I.lt j e).1; omega)
      have a3 : Aft w (wr.iterAt it s (p + (Utf8.decode s p).2)) := Lib.below_iterAt a1 (k := it) (by have := HIT.out; omega) s _
      have hs3 : (wr.iterAt it s (p + (Utf8.decode s p).2)).heap.size = wr.heap.size := Lib.iterAt_size _ _ _ _
      have HDN := Lib.hid hdn'
      have HS3 := Lib.hid hs3
      clear hch hd1 hdn' F3 I hI hs3
      go_wp2_with (at_builtin; go_must (refine wpList_appR encC etC rfl rfl rfl (I3.alloc _) (y := ⟨p, 0, (Utf8.decode s p).1, false⟩) rfl (Blk.new _ _ _) rfl ?_ ?_ ?_ ?_))
      · unfold maxLen; simp; omega
      · simp; omega
      · rw [World.size_alloc]; have := HS3.out; omega
      intro g cap w8 I8 g8 hg8
      have hlt8 : it < ((wr.iterAt it s (p + (Utf8.decode s p).2)).alloc (.cells #[.int .i64 p, .int .i64 0, .int .i32 ((Utf8.decode s p).1 : Int), .bool false] 90)).heap.size := by rw [World.size_alloc]; have := HS3.out; omega
      have hI8 : w8.heap[it]? = some (.stringIter s (p + (Utf8.decode s p).2)) := (g8.block it hlt8 (fun e => by have := (I3.lt _ e.symm).1; omega)).trans ((Lib.alloc_old _ _ _ (by have := HS3.out; omega)).trans hI3)
      have a8 : Aft w w8 := (a3.alloc _).grown g8 (fun j e => by have := (I3.lt j e).1; have := HIT.out; omega)
      go_wp2
      go_roundw
      case rel => exact ⟨p + (Utf8.decode s p).2, dn ++ [⟨(Utf8.decode s p).1, p, (Utf8.decode s p).2⟩], HDN.out, by rw [List.map_append]; exact I8, hI8, a8⟩
      case measure =>
        have : w8.iterPos it = p + (Utf8.decode s p).2 := by simp [World.iterPos, hI8]
        rw [this, hip]; omega
    · have hnx : ∀ ty, (Instr.next (.pointer (some ⟨it, 0, none⟩)) true ty).run Tryd.prog wr = _ := fun ty => Lib.run_next_end_at wr it s p ty hI hp
      have hke : dn = chs s := by rw [hd1, chA_end hp, List.append_nil]
      subst hke
      have I9 := I.base (B' := w.heap.size) (fun j e => by have := (I.lt j e).1; have := HIT.out; omega)
      clear hd1 I
      have hr0 : List.map rcP (chs s) = rcT (chs s) 0 := by unfold rcT; simp
      rw [hr0] at I9
      obtain ⟨A, cap, rfl, hcap, hcap2, -⟩ := I9.val
      rw [rcT_len] at hcap
      go_wp2
      go_loopg [6] (chs s).length (fun gk iv wq => ∃ k : Nat, k + gk = (chs s).length ∧ iv = .int .i64 k ∧ Rw crC 4 wq w.heap.size 90 (.slice A (rcT (chs s) 0).length cap) (rcT (chs s) k) ∧ Aft w wq)
      case atStart => exact ⟨0, by omega, rfl, I9, a1⟩
      case round =>
        clear I9 a1
        obtain ⟨k, hk, rfl, J, b1⟩ := hrel
        rw [rcT_len] at *
        by_cases hkl : k < (chs s).length
        · have hA : ∃ g, A = some ⟨g, 0, none⟩ := by
            rcases J.cases' with ⟨_, e⟩ | ⟨g, cap', e, _⟩
            · have := rcT_len (chs s) k; rw [e] at this; simp at this; omega
            · injection e with e _ _; exact ⟨g, e⟩
          obtain ⟨g, rfl⟩ := hA
          obtain ⟨-, -, -, hgB, hgS, hfr, hat⟩ := J.at_ encC
          have h0 : wr.cell? ⟨g, k * 4, none⟩ = some (.int .i64 ((chs s).getD k default).b) := hat k _ (rcT_at _ hkl) 0 _ rfl
          have hf1 := hfr (k * 4 + 1)
          have hf3 := hfr (k * 4 + 3)
          have h2 : wr.cell? ⟨g, k * 4 + 2, none⟩ = some (.int .i32 ((chs s).getD k default).r) := hat k _ (rcT_at _ hkl) 2 _ rfl
          have hnx : k + 1 < (chs s).length → wr.cell? ⟨g, (k + 1) * 4, none⟩ = some (.int .i64 ((chs s).getD (k + 1) default).b) := fun h => hat (k + 1) _ (rcT_next _ h) 0 _ rfl
          have hn := chA_next s 0 k hkl
          have J1 := J.set encC (j := 1) (y := ⟨((chs s).getD k default).b, ((chs s).getD k default).n, ((chs s).getD k default).r, false⟩) (u := .int .i64 ((chs s).getD k default).n) (rcT_at _ hkl) (by omega) rfl
          have J2 := J1.set encC (i := k) (j := 3) (x := ⟨((chs s).getD k default).b, ((chs s).getD k default).n, ((chs s).getD k default).r, false⟩) (y := rcF ((chs s).getD k default)) (u := .bool (isQ ((chs s).getD k default))) (by rw [List.getElem?_set_self (by rw [rcT_len]; exact hkl)]) (by omega) rfl
          rw [rcT_succ _ hkl] at J2
          have hbn : (((if k + 1 < (chs s).length then (((chs s).getD (k + 1) default).b : Int) else s.size) - (((chs s).getD k default).b : Int)) : Int) = (((chs s).getD k default).n : Int) := by
            unfold chs at *
            split at hn <;> rename_i hh
            · rw [if_pos hh]; omega
            · rw [if_neg hh]; omega
          have b2 : Aft w ((wr.setCell ⟨g, k * 4 + 1, none⟩ (.int .i64 ((chs s).getD k default).n)).setCell ⟨g, k * 4 + 3, none⟩ (.bool (isQ ((chs s).getD k default)))) := (b1.setCell (by exact hgB) _).setCell (by exact hgB) _
          have c0 : wr.cell? ⟨g, k * 4 + 1, none⟩ = some (.int .i64 0) := hat k _ (rcT_at _ hkl) 1 _ rfl
          have c2 : (wr.setCell ⟨g, k * 4 + 1, none⟩ (.int .i64 ((chs s).getD k default).n)).cell? ⟨g, k * 4 + 2, none⟩ = some (.int .i32 ((chs s).getD k default).r) := by
            rw [cell_ne (by simp)]; exact h2
          have c1 : (wr.setCell ⟨g, k * 4 + 1, none⟩ (.int .i64 ((chs s).getD k default).n)).cell? ⟨g, k * 4 + 1, none⟩ = some (.int .i64 ((chs s).getD k default).n) := cell_eq c0
          have c3 : wr.cell? ⟨g, k * 4 + 3, none⟩ = some (.bool false) := hat k _ (rcT_at _ hkl) 3 _ rfl
          have c4 : (wr.setCell ⟨g, k * 4 + 1, none⟩ (.int .i64 ((chs s).getD k default).n)).cell? ⟨g, k * 4 + 3, none⟩ = some (.bool false) := by
            rw [cell_ne (by simp)]; exact c3
          have hb9 : ((chs s).getD k default).b + ((chs s).getD k default).n ≤ s.size := by
            have := chA_mem s 0 ((chs s).getD k default) (getD_mem0 _ hkl)
            omega
          have hQ : isQ ((chs s).getD k default) = (((((chs s).getD k default).r : Int) != 65533) || ((((chs s).getD k default).n : Int) == 3)) := rfl
          generalize isQ ((chs s).getD k default) = q at *
          generalize ((chs s).getD k default).b = cb at *
          generalize ((chs s).getD k default).n = cn at *
          generalize ((chs s).getD k default).r = cr at *
          generalize ((chs s).getD (k + 1) default).b = cb2 at *
          clear hat J1 hn J
          by_cases hk2 : k + 1 < (chs s).length
          · have hnx := hnx hk2
            rw [if_pos hk2] at hbn
            go_wp2
            · have hq : q = ((cn : Int) == 3) := by rw [hQ]; simp [*]
              go_roundg ((chs s).length - (k + 1))
              case rel => exact ⟨k + 1, by omega, by go_num, by simpa [hq] using J2, by simpa [hq] using b2⟩
              case measure => omega
            · have hq : q = true := by rw [hQ]; simp [*]
              go_roundg ((chs s).length - (k + 1))
              case rel => exact ⟨k + 1, by omega, by go_num, by simpa [hq] using J2, by simpa [hq] using b2⟩
              case measure => omega
          · rw [if_neg hk2] at hbn
            clear hnx
            go_wp2
            · have hq : q = ((cn : Int) == 3) := by rw [hQ]; simp [*]
              go_roundg ((chs s).length - (k + 1))
              case rel => exact ⟨k + 1, by omega, by go_num, by simpa [hq] using J2, by simpa [hq] using b2⟩
              case measure => omega
            · have hq : q = true := by rw [hQ]; simp [*]
              go_roundg ((chs s).length - (k + 1))
              case rel => exact ⟨k + 1, by omega, by go_num, by simpa [hq] using J2, by simpa [hq] using b2⟩
              case measure => omega
        · have hke : k = (chs s).length := by omega
          subst hke
          have hend : rcT (chs s) (chs s).length = rcL s := by unfold rcT rcL; simp
          rw [hend] at J
          have hrl : (rcL s).length = (chs s).length := by simp [rcL]
          go_wp2
          go_ret
          exact ⟨_, rfl, J, b1⟩
end Go.Proofs.YtaekdnfpgkfjkaaDoor
