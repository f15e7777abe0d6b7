/- FoldsBegins walked. -/
import Derived.Test.YthifeccmbojcdaaF26
import Derived.Test.YthifeccmbojcdaaF27
import Derived.Test.YthifeccmbojcdaaF6
namespace Go.Proofs.Ythifeccmbojcdaa
open Go.RowKit

theorem rClusters_n {w : World} {B : Nat} {A : Option Addr} {n c : Nat} {l : List Int} (hn : l.length = n) (h : RdInts w B .u8 A (l.map clsC)) (hl : n ≤ 1048576) :
    Calls Try.prog 17 #[.slice A n c] w fun r w' => ∃ v, r = .returned v ∧ Ints w' w.heap.size 3 .i64 v (clusL l) ∧ Below w.heap.size w w' := by
  subst hn
  have := rClusters_ok (c := c) h (by simpa using hl)
  rwa [clusL_map, List.length_map] at this
theorem rBreaks_n {w : World} {B : Nat} {A : Option Addr} {n c : Nat} {l : List Int} (hn : l.length = n) (h : RdInts w B .u8 A (l.map clsC)) (hl : n ≤ 1048576) :
    Calls Try.prog 19 #[.slice A n c] w fun r w' => ∃ v, r = .returned v ∧ Ints w' w.heap.size 3 .i64 v (brkL l) ∧ Below w.heap.size w w' := by
  subst hn
  have := rBreaks_ok (c := c) h (by simpa using hl)
  rwa [brkL_map, List.length_map] at this

set_option maxRecDepth 100000 in
set_option maxHeartbeats 4000000 in
theorem begins_walk {w : World} {A : Option Addr} {c : Nat} {l : List Int} (h : RdInts w w.heap.size .u8 A l) (hl : l.length ≤ 1048576) :
    Calls Try.prog 3 #[.slice A l.length c] w fun e w' => e = .returned (.bool true) ∧ Below w.heap.size w w' := by
  have hcll := clusL_length l
  have hbl : (brkL l).length ≤ (clusL l).length := brkT_length l (clusL l) _
  have hcl : (l.map clsC).length = l.length := List.length_map _
  have HCL := Lib.hid hcl
  clear hcl
  go_enter Try.func3, Try.ntmps3
  go_upto_region 2 with (go_at_call 14; refine (lent_ok h (by omega)).mono ?_; rintro r1 w1 ⟨g, cap, rfl, I1, b1⟩)
  have rl : RdInts w1 w1.heap.size .u8 (some ⟨g, 0, none⟩) l := RdInts.pre I1.rd
  have hs1 := b1.size
  go_upto_region 3 with (first
    | (have t := b2; go_at_call 15; refine (Clusters_ok (rl.below b2 (.inr (Nat.le_refl _))) hl).mono ?_; rintro r3 w3 ⟨vb, rfl, J2, b3⟩; obtain ⟨A3, c3, rfl, -, -, -⟩ := J2.val)
    | (go_at_call 15; refine (Clusters_ok rl hl).mono ?_; rintro r2 w2 ⟨va, rfl, J1, b2⟩; obtain ⟨A2, c2, rfl, -, -, -⟩ := J1.val))
  have b23 := b2.trans (b3.mono b2.size)
  have rl3 := rl.below b23 (.inr (Nat.le_refl _))
  have hs2 := b2.size
  have hs3 := b3.size
  go_upto_region 4 with (first
    | (have t := b4; go_at_call 16; refine (Breaks_ok (rl3.below b4 (.inr (Nat.le_refl _))) hl).mono ?_; rintro r5 w5 ⟨vd, rfl, J4, b5⟩; obtain ⟨A5, c5, rfl, -, -, -⟩ := J4.val)
    | (go_at_call 16; refine (Breaks_ok rl3 hl).mono ?_; rintro r4 w4 ⟨vc, rfl, J3, b4⟩; obtain ⟨A4, c4, rfl, -, -, -⟩ := J3.val))
  have b45 := b4.trans (b5.mono b4.size)
  have b15 := b23.trans (b45.mono b23.size)
  have hs4 := b4.size
  have hs5 := b5.size
  have q5 := h.below (b1.trans (b15.mono hs1)) (.inr (Nat.le_refl _))
  go_upto_region 5 with (first
    | (have t := b8; go_at_call 19; refine (rBreaks_n rfl rd8 hl).mono ?_; rintro r9 w9 ⟨vy, rfl, J6, b9⟩; obtain ⟨A9, c9, rfl, -, -, -⟩ := J6.val)
    | (have t := b7; go_at_call 18; refine (rClasses_ok (q5.below (b6.trans (b7.mono b6.size)) (.inr (Nat.le_refl _))) hl).mono ?_; rintro r8 w8 ⟨v8, rfl, I8, b8⟩; obtain ⟨A8, c8, rfl, -, -, rd8⟩ := I8.val; rw [HCL.out])
    | (have t := b6; go_at_call 17; refine (rClusters_n rfl rd6 hl).mono ?_; rintro r7 w7 ⟨vx, rfl, J5, b7⟩; obtain ⟨A7, c7, rfl, -, -, -⟩ := J5.val)
    | (go_at_call 18; refine (rClasses_ok q5 hl).mono ?_; rintro r6 w6 ⟨v6, rfl, I6, b6⟩; obtain ⟨A6, c6, rfl, -, -, rd6⟩ := I6.val; rw [HCL.out]))
  have b67 := b6.trans (b7.mono b6.size)
  have b68 := b67.trans (b8.mono b67.size)
  have b69 := b68.trans (b9.mono b68.size)
  have b79 : Below w7.heap.size w7 w9 := b8.trans (b9.mono b8.size)
  have hs67 := b67.size
  have hs6 := b6.size
  have hs7 := b7.size
  have hs8 := b8.size
  have hs9 := b9.size
  have o1 := J1.lt
  have o2 := J2.lt
  have o3 := J3.lt
  have o4 := J4.lt
  have o5 := J5.lt
  have o6 := J6.lt
  have K1 := ((J1.below b3 (Nat.le_refl _)).below b45 (Nat.le_refl _)).below b69 (Nat.le_refl _)
  have K2 := (J2.below b45 (Nat.le_refl _)).below b69 (Nat.le_refl _)
  have K3 := (J3.below b5 (Nat.le_refl _)).below b69 (Nat.le_refl _)
  have K4 := J4.below b69 (Nat.le_refl _)
  have K5 := J5.below b79 (Nat.le_refl _)
  have K6 := J6
  have b19 := b15.trans (b69.mono b15.size)
  have L1 := I1.below b19 (Nat.le_refl _)
  have q9 := h.below (b1.trans (b19.mono hs1)) (.inr (Nat.le_refl _))
  have b09 := b1.trans (b19.mono hs1)
  have gl := I1.lt g rfl
  clear J1 J2 J3 J4 J5 J6 I1 I6 I8 rd6 rd8 rl rl3 q5 b2 b3 b4 b5 b6 b7 b8 b9 b23 b45 b15 b67 b68 b69 b79 b19 b1
  have hc1 : (clusL l).length ≤ 1048576 := by omega
  have hc2 : (brkL l).length ≤ 1048576 := by omega
  generalize clusL l = X at *
  generalize brkL l = Y at *
  have R1 := K1.rd
  have R3 := K3.rd
  have R5 := K5.rd
  have R6 := K6.rd
  go_wp2_with (first
    | (have t := F13; go_at_call 22; refine (kept_ok M1 qk (by omega)).mono ?_; rintro r14 w14 ⟨rfl, b14⟩)
    | (have t := F12; go_at_call 21; refine (grown_ok (c2 := c5) (c3 := c9) N3 rfl (by omega) rfl rfl rfl N4.rd N6.rd hc2 (fun x off e he => by have h1 := o3 x he; have h2 := o4 x (by rw [e]; rfl); omega) (fun x off e he => by have h1 := o3 x he; have h2 := o6 x (by rw [e]; rfl); omega)).mono ?_; rintro r13 w13 ⟨rfl, F13⟩
       have M1 := (((L1.below b10 (Nat.le_refl _)).below b11 (Nat.le_refl _)).frm F12 (fun j hj e => by have h1 : g = j := (by simpa [Value.ownBlock] using hj); have h2 := o1 _ e; omega)).frm F13 (fun j hj e => by have h1 : g = j := (by simpa [Value.ownBlock] using hj); have h2 := o3 _ e; omega)
       have b013 := (b011.trans (F12.below (B := w.heap.size) b011.size (fun j hj e => by have h2 := o1 _ e; omega))).trans (F13.below (B := w.heap.size) (by have := b011.size; have := F12.size; omega) (fun j hj e => by have h2 := o3 _ e; omega))
       have qk := h.below b013 (.inr (Nat.le_refl _)))
    | (have t := b11; go_at_call 21; refine (grown_ok (c2 := c3) (c3 := c7) ((K1.below b10 (Nat.le_refl _)).below b11 (Nat.le_refl _)) rfl (by have := b10.size; have := b11.size; omega) rfl rfl rfl ((K2.below b10 (Nat.le_refl _)).below b11 (Nat.le_refl _)).rd ((K5.below b10 (Nat.le_refl _)).below b11 (Nat.le_refl _)).rd hc1 (fun x off e he => by have h1 := o1 x he; have h2 := o2 x (by rw [e]; rfl); omega) (fun x off e he => by have h1 := o1 x he; have h2 := o5 x (by rw [e]; rfl); omega)).mono ?_; rintro r12 w12 ⟨rfl, F12⟩
       have b011 := (b09.trans (b10.mono b09.size)).trans (b11.mono (by have := b09.size; have := b10.size; omega))
       have hsz := b10.size
       have hsz1 := b11.size
       have hsz2 := F12.size
       have N3 := ((K3.below b10 (Nat.le_refl _)).below b11 (Nat.le_refl _)).frm F12 (fun j hj e => by have h1 := o3 _ hj; have h2 := o1 _ e; omega)
       have N4 := ((K4.below b10 (Nat.le_refl _)).below b11 (Nat.le_refl _)).frm F12 (fun j hj e => by have h1 := o4 _ hj; have h2 := o1 _ e; omega)
       have N6 := ((K6.below b10 (Nat.le_refl _)).below b11 (Nat.le_refl _)).frm F12 (fun j hj e => by have h1 := o6 _ hj; have h2 := o1 _ e; omega))
    | (have t := b10; go_at_call 20; refine (numbers_ok rfl rfl (R3.below b10 (.inr (Nat.le_refl _))) (R6.below b10 (.inr (Nat.le_refl _))) (by omega)).mono ?_; rintro r11 w11 ⟨rfl, b11⟩)
    | (go_at_call 20; refine (numbers_ok rfl rfl R1 R5 (by omega)).mono ?_; rintro r10 w10 ⟨rfl, b10⟩)
    | (go_at_call 23; refine (awake_ok _).mono ?_; rintro r15 w15 ⟨rfl, b15⟩))
  go_ret
  have b014 := b013.trans (b14.mono b013.size)
  exact ⟨rfl, b014.trans (b15.mono b014.size)⟩
end Go.Proofs.Ythifeccmbojcdaa
