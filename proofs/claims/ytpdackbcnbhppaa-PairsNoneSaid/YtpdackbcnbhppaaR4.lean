/- Backward over a row of opening brackets: what the iterator tells. -/
import Derived.Test.YtpdackbcnbhppaaR3
import Derived.Test.YtpdackbcnbhppaaT2
namespace Go.Proofs.Ytpdackbcnbhppaa
open Go.RowKit
attribute [local go_sem] Oper.semAt_some

/-- The last place ahead of k whose key it is. -/
def scanK (l : List (Int × Int)) (key : Int) : Nat → Option Nat
  | 0 => none
  | k + 1 => if (l.getD k (0, 0)).2 = key then some k else scanK l key k
theorem scanK_lt {l : List (Int × Int)} {key : Int} : ∀ {k j : Nat}, scanK l key k = some j → j < k
  | 0, j, h => by cases h
  | k + 1, j, h => by
    unfold scanK at h
    split at h
    · injection h with h; omega
    · have := scanK_lt h; omega

set_option maxRecDepth 100000 in
set_option maxHeartbeats 1000000 in
theorem BackO_ok {w : World} {A : Option Addr} {n c : Nat} :
    Calls Try.prog 74 #[.slice A n c] w fun r w' => r = .returned (.func (.func 93) #[] #[.pointer (some ⟨w.heap.size, 0, none⟩)]) ∧ Blk w' w.heap.size 138 #[.slice A n c] ∧ Below w.heap.size w w' := by
  go_enter Try.func74, Try.ntmps74
  go_wp2
  go_ret
  exact ⟨rfl, Blk.new w 138 _, (Below.refl _ w).alloc (Nat.le_refl _) _⟩

def opEnc (k : Nat) (x : Int × Int) : Array Value := #[.int .i64 k, .agg #[.int .i64 x.1, .int .i32 x.2]]

set_option maxRecDepth 100000 in
set_option maxHeartbeats 2000000 in
theorem bwdO_ok {W1 : World} {bx yb n c B : Nat} {A : Option Addr} {l : List (Int × Int)} (hn : n = l.length) (hm : n ≤ 4611686018427387904)
    {J : Nat → World → Prop} (h0 : J n W1) (hJ : ∀ k W, J k W → Blk W bx 138 #[.slice A n c] ∧ RdR opC 2 W B A l) {Jx : World → Prop} {d : Nat} (hd : 1 ≤ d)
    (hY : ∀ k W, k < n → J (k + 1) W → YieldAt Fence.wide (d - 1) Try.prog yb (opEnc k (l.getD k (0, 0))) W fun e W' =>
      (e = .returned (.bool true) ∧ J k W') ∨ (e = .returned (.bool false) ∧ Jx W')) :
    CallsIn Fence.wide d Try.prog 93 #[.func (.yield yb) #[] #[], .pointer (some ⟨bx, 0, none⟩)] W1 fun e W' => (∃ v, e = .returned v) ∧ (J 0 W' ∨ Jx W') := by
  have HN := Lib.hid hn
  clear hn
  obtain ⟨x0, xf, xl⟩ := (hJ n W1 h0).1.c1
  refine callsIn_of_wp Try.func93 rfl trivial ?_ rfl
  simp only [Try.ntmps93, List.size_toArray, List.length_cons, List.length_nil, Nat.reduceAdd, Nat.reduceSub, Array.replicate_succ, Array.replicate_zero, List.push_toArray, List.append_toArray, List.nil_append, List.cons_append]
  gi_wp2
  gi_loopw [3] (fun kv wr => ∃ k : Nat, kv = .int .i64 ((k : Int) - 1) ∧ k ≤ n ∧ J k wr) (fun kv _ => (intOf kv + 1).toNat)
  case atStart => exact ⟨n, by go_num, Nat.le_refl _, h0⟩
  case round =>
    clear h0 x0 xf xl
    obtain ⟨k, rfl, hk, hJk⟩ := hrel
    rcases k with _ | k
    · gi_wp2
      go_end0
      exact ⟨⟨_, rfl⟩, .inl hJk⟩
    · have e1 : (((k + 1 : Nat) : Int) - 1) = (k : Int) := by omega
      rw [e1]
      obtain ⟨hb, hr⟩ := hJ _ _ hJk
      obtain ⟨x0, xf, xl⟩ := hb.c1
      obtain ⟨x, hx⟩ : ∃ x, l.getD k (0, 0) = x := ⟨_, rfl⟩
      have hx2 : l[k]? = some x := by rw [← hx, List.getD_eq_getElem?_getD, List.getElem?_eq_getElem (by have := HN.out; omega)]; rfl
      obtain ⟨ab, off, rfl, ha1, ha2, hc⟩ := hr.at_ encO hx2 (by omega)
      have c0 := hc 0 _ rfl
      have c1 := hc 1 _ rfl
      rw [Nat.add_zero] at c0
      rw [← Nat.add_assoc] at c1
      have hkn : k < n := by omega
      obtain ⟨fn, tmps, assign, body, hy, hR⟩ := hY k wr hkn hJk
      rw [hx] at hy
      unfold opEnc at hy
      have hR2 : RoundIn Fence.wide (d - 1) Try.prog yb fn tmps assign body wr (fun e W' => ∃ bb, e = .returned (.bool bb) ∧ ((bb = true ∧ J k W') ∨ (bb = false ∧ Jx W'))) := hR.mono (fun e W' h => by
          rcases h with ⟨h1, h2⟩ | ⟨h1, h2⟩
          · exact ⟨true, h1, .inl ⟨rfl, h2⟩⟩
          · exact ⟨false, h1, .inr ⟨rfl, h2⟩⟩)
      clear hR hc hb hr hx hx2 e1
      gi_wp2
      refine hR2.mono ?_
      rintro e3 W3 ⟨bb, rfl, hbb⟩
      rcases hbb with ⟨rfl, hJ4⟩ | ⟨rfl, hx⟩
      · gi_wp2
        go_roundw
        case rel => exact ⟨k, by go_num, by omega, hJ4⟩
        case measure => simp [intOf]
      · gi_wp2
        refine bodyPost_ret (results_none (by kernel_rfl) _ _ _) rfl ?_
        exact ⟨⟨_, rfl⟩, .inr hx⟩
set_option maxRecDepth 100000 in
set_option maxHeartbeats 1000000 in
theorem BackC_ok {w : World} {A : Option Addr} {n c : Nat} :
    Calls Try.prog 98 #[.slice A n c] w fun r w' => r = .returned (.func (.func 107) #[] #[.pointer (some ⟨w.heap.size, 0, none⟩)]) ∧ Blk w' w.heap.size 24 #[.slice A n c] ∧ Below w.heap.size w w' := by
  go_enter Try.func98, Try.ntmps98
  go_wp2
  go_ret
  exact ⟨rfl, Blk.new w 24 _, (Below.refl _ w).alloc (Nat.le_refl _) _⟩

def clEnc (k : Nat) (x : Int) : Array Value := #[.int .i64 k, .int .u8 x]

set_option maxRecDepth 100000 in
set_option maxHeartbeats 2000000 in
theorem bwdC_ok {W1 : World} {bx yb n c B : Nat} {A : Option Addr} {l : List Int} (hn : n = l.length) (hm : n ≤ 4611686018427387904)
    {J : Nat → World → Prop} (h0 : J n W1) (hJ : ∀ k W, J k W → Blk W bx 24 #[.slice A n c] ∧ RdInts W B .u8 A l) {Jx : World → Prop} {d : Nat} (hd : 1 ≤ d)
    (hY : ∀ k W, k < n → J (k + 1) W → YieldAt Fence.wide (d - 1) Try.prog yb (clEnc k (l.getD k 0)) W fun e W' =>
      (e = .returned (.bool true) ∧ J k W') ∨ (e = .returned (.bool false) ∧ Jx W')) :
    CallsIn Fence.wide d Try.prog 107 #[.func (.yield yb) #[] #[], .pointer (some ⟨bx, 0, none⟩)] W1 fun e W' => (∃ v, e = .returned v) ∧ (J 0 W' ∨ Jx W') := by
  have HN := Lib.hid hn
  clear hn
  obtain ⟨x0, xf, xl⟩ := (hJ n W1 h0).1.c1
  refine callsIn_of_wp Try.func107 rfl trivial ?_ rfl
  simp only [Try.ntmps107, List.size_toArray, List.length_cons, List.length_nil, Nat.reduceAdd, Nat.reduceSub, Array.replicate_succ, Array.replicate_zero, List.push_toArray, List.append_toArray, List.nil_append, List.cons_append]
  gi_wp2
  gi_loopw [3] (fun kv wr => ∃ k : Nat, kv = .int .i64 ((k : Int) - 1) ∧ k ≤ n ∧ J k wr) (fun kv _ => (intOf kv + 1).toNat)
  case atStart => exact ⟨n, by go_num, Nat.le_refl _, h0⟩
  case round =>
    clear h0 x0 xf xl
    obtain ⟨k, rfl, hk, hJk⟩ := hrel
    rcases k with _ | k
    · gi_wp2
      go_end0
      exact ⟨⟨_, rfl⟩, .inl hJk⟩
    · have e1 : (((k + 1 : Nat) : Int) - 1) = (k : Int) := by omega
      rw [e1]
      obtain ⟨hb, hr⟩ := hJ _ _ hJk
      obtain ⟨x0, xf, xl⟩ := hb.c1
      obtain ⟨x, hx⟩ : ∃ x, l.getD k 0 = x := ⟨_, rfl⟩
      obtain ⟨ab, off, rfl, ha1, ha2, c0⟩ := hr.at_ (i := k) (by have := HN.out; omega)
      rw [hx] at c0
      have hkn : k < n := by omega
      obtain ⟨fn, tmps, assign, body, hy, hR⟩ := hY k wr hkn hJk
      rw [hx] at hy
      unfold clEnc at hy
      have hR2 : RoundIn Fence.wide (d - 1) Try.prog yb fn tmps assign body wr (fun e W' => ∃ bb, e = .returned (.bool bb) ∧ ((bb = true ∧ J k W') ∨ (bb = false ∧ Jx W'))) := hR.mono (fun e W' h => by
          rcases h with ⟨h1, h2⟩ | ⟨h1, h2⟩
          · exact ⟨true, h1, .inl ⟨rfl, h2⟩⟩
          · exact ⟨false, h1, .inr ⟨rfl, h2⟩⟩)
      clear hR hb hr hx e1
      gi_wp2
      refine hR2.mono ?_
      rintro e3 W3 ⟨bb, rfl, hbb⟩
      rcases hbb with ⟨rfl, hJ4⟩ | ⟨rfl, hx⟩
      · gi_wp2
        go_roundw
        case rel => exact ⟨k, by go_num, by omega, hJ4⟩
        case measure => simp [intOf]
      · gi_wp2
        refine bodyPost_ret (results_none (by kernel_rfl) _ _ _) rfl ?_
        exact ⟨⟨_, rfl⟩, .inr hx⟩
end Go.Proofs.Ytpdackbcnbhppaa
