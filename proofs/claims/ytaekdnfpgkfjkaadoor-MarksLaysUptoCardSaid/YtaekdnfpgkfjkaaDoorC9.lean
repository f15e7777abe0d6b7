/- The reference's Strip and Places walked; two lists alike. -/
import Derived.Test.YtaekdnfpgkfjkaaDoorC8
import Derived.Test.YtaekdnfpgkfjkaaDoorC6
namespace Go.Proofs.YtaekdnfpgkfjkaaDoor
open Go.RowKit
attribute [local go_sem] Oper.semAt_some

theorem txt_app (l : List UInt8) (s : ByteArray) (c : Ch) : txt l ++ s.extract c.b (c.b + c.n) = txt (l ++ cut s c) := by
  apply ByteArray.ext
  unfold txt cut
  simp
theorem rcL_at {s : ByteArray} {k : Nat} (h : k < (chs s).length) : (rcL s)[k]? = some (rcF ((chs s).getD k default)) := by
  unfold rcL
  rw [List.getElem?_map, List.getElem?_eq_getElem h, List.getD_eq_getElem?_getD, List.getElem?_eq_getElem h]
  rfl
theorem rcL_len (s : ByteArray) : (rcL s).length = (chs s).length := by simp [rcL]
theorem getD_at {α : Type} (d : α) {l : List α} {k : Nat} (h : k < l.length) : l[k] = l.getD k d := by rw [List.getD_eq_getElem?_getD, List.getElem?_eq_getElem h]; rfl

set_option maxRecDepth 100000 in
set_option maxHeartbeats 4000000 in
theorem rStrip_ok {w : World} {s : ByteArray} (hs : s.size ≤ 1099511627776) :
    Calls Tryd.prog 21 #[.string s] w fun r w' => r = .returned (.tuple #[.string (txt (stripL s)), .int .i64 (cntM (chs s))]) ∧ Aft w w' := by
  have hcl := chs_len s
  go_enter Tryd.func21, Tryd.ntmps21
  go_upto_region 4 with (go_at_call 44; refine (Chars_ok hs).mono ?_; rintro r1 w1 ⟨v, rfl, I, a1⟩; obtain ⟨A, cap, rfl, hcap, hcap2, hR⟩ := I.val)
  rw [rcL_len] at hcap ⊢
  obtain ⟨n, hn⟩ : ∃ n, (chs s).length = n := ⟨_, rfl⟩
  rw [hn] at hcap hcl ⊢
  have HN := Lib.hid hn
  clear hn I
  go_loopg [4, 5, 11] n (fun gk sv nv iv wr => ∃ k : Nat, k + gk = n ∧ iv = .int .i64 k ∧ sv = .string (txt (keptM s ((chs s).take k))) ∧ nv = .int .i64 (cntM ((chs s).take k)) ∧ Aft w1 wr)
  case atStart => exact ⟨0, by omega, rfl, rfl, rfl, Aft.refl _⟩
  case round =>
    obtain ⟨k, hk, rfl, rfl, rfl, b1⟩ := hrel
    by_cases hkn : k < n
    · have hkl : k < (chs s).length := by have := HN.out; omega
      have hRr := hR.below b1 (.inl (Nat.le_refl _))
      obtain ⟨b, off, rfl, hb1, hb2, hc⟩ := hRr.at_ encC (rcL_at hkl) (by omega)
      obtain ⟨c, hcc⟩ : ∃ c, (chs s).getD k default = c := ⟨_, rfl⟩
      rw [hcc] at hc
      have c0 := hc 0 _ rfl
      have c1 := hc 1 _ rfl
      have c2 := hc 2 _ rfl
      have c3 := hc 3 _ rfl
      rw [Nat.add_zero] at c0
      rw [← Nat.add_assoc] at c1 c2 c3
      have hm := chA_mem s 0 c (by rw [← hcc]; exact getD_mem0 _ hkl)
      have ht : (chs s).take (k + 1) = (chs s).take k ++ [c] := by rw [take_snoc hkl, getD_at default hkl, hcc]
      have hcnt : cntM ((chs s).take k) ≤ k := Nat.le_trans (cntM_le _) (by rw [List.length_take]; omega)
      have hkm := keptM_len s k
      have hkm2 := keptM_snoc s ((chs s).take k) c
      have hcm2 := cntM_snoc ((chs s).take k) c
      rw [← ht] at hkm2 hcm2
      have hIs := fun (W : World) => rIs_ok W (c.r : Int)
      obtain ⟨m, hmm⟩ : ∃ m, isM (c.r : Int) = m := ⟨_, rfl⟩
      rw [hmm] at hIs hkm2 hcm2
      have HKM := Lib.hid hkm2
      have HCM := Lib.hid hcm2
      have hbn := hm.2.2.2.2.2
      have hta := txt_app (keptM s ((chs s).take k)) s c
      have HTA := Lib.hid hta
      have htz : (txt (keptM s ((chs s).take k))).size ≤ 1099511627776 := by rw [txt_size]; omega
      clear hc hcc ht hmm hRr hkm2 hcm2 hta hm
      obtain ⟨cr, cb, cn⟩ := c
      simp only [rcF] at c0 c1 c2 c3 hIs hbn
      obtain ⟨q, hq⟩ : ∃ q, isQ ⟨cr, cb, cn⟩ = q := ⟨_, rfl⟩
      rw [hq] at c3
      clear hq
      obtain ⟨W1, hW1⟩ : ∃ W1, wr.alloc (.cells #[.int .i64 cb, .int .i64 cn, .int .i32 cr, .bool q] 90) = W1 := ⟨_, rfl⟩
      have X1 : Blk W1 wr.heap.size 90 #[.int .i64 cb, .int .i64 cn, .int .i32 cr, .bool q] := by rw [← hW1]; exact Blk.new wr 90 _
      have b2 : Aft w1 W1 := by rw [← hW1]; exact b1.alloc _
      rcases m with _ | _
      · go_upto_region 6 with (fail)
        clear hW1
        obtain ⟨z0, z1, z2, z3, zf, zl⟩ := X1.c4
        go_wp2_with (go_at_call 15; refine (hIs _).mono ?_; rintro r5 w5 ⟨rfl, b5⟩; have X5 := X1.below b5 (by omega); obtain ⟨y0, y1, y2, y3, yf, yl⟩ := X5.c4)
        rw [HTA.out]
        go_roundg (n - (k + 1))
        case rel => exact ⟨k + 1, by omega, by go_num, by rw [HKM.out]; rfl, by rw [HCM.out]; rfl, b2.trans b5⟩
        case measure => omega
      · go_upto_region 6 with (fail)
        clear hW1
        obtain ⟨z0, z1, z2, z3, zf, zl⟩ := X1.c4
        go_wp2_with (go_at_call 15; refine (hIs _).mono ?_; rintro r5 w5 ⟨rfl, b5⟩; have X5 := X1.below b5 (by omega); obtain ⟨y0, y1, y2, y3, yf, yl⟩ := X5.c4)
        go_roundg (n - (k + 1))
        case rel => exact ⟨k + 1, by omega, by go_num, by rw [HKM.out]; simp, by rw [HCM.out]; go_num, b2.trans b5⟩
        case measure => omega
    · have hke : k = (chs s).length := by have := HN.out; omega
      subst hke
      rw [List.take_length]
      go_wp2
      go_ret2
      exact ⟨rfl, a1.trans b1⟩

set_option maxRecDepth 100000 in
set_option maxHeartbeats 4000000 in
theorem rPlaces_ok {w : World} {s : ByteArray} (hs : s.size ≤ 1099511627776) :
    Calls Tryd.prog 23 #[.string s] w fun r w' => ∃ v, r = .returned v ∧ Ints w' w.heap.size 3 .i64 v (plT (chs s) (chs s).length) ∧ Aft w w' := by
  have hcl := chs_len s
  go_enter Tryd.func23, Tryd.ntmps23
  go_upto_region 3 with (go_at_call 44; refine (Chars_ok hs).mono ?_; rintro r1 w1 ⟨v, rfl, I, a1⟩; obtain ⟨A, cap, rfl, hcap, hcap2, hR⟩ := I.val)
  rw [rcL_len] at hcap ⊢
  obtain ⟨n, hn⟩ : ∃ n, (chs s).length = n := ⟨_, rfl⟩
  rw [hn] at hcap hcl ⊢
  have HN := Lib.hid hn
  clear hn I
  have hw1 : w.heap.size ≤ w1.heap.size := a1.size
  go_loopg [3, 9] n (fun gk lv iv wr => ∃ k : Nat, k + gk = n ∧ iv = .int .i64 k ∧ Ints wr w1.heap.size 3 .i64 lv (plT (chs s) k) ∧ Aft w1 wr)
  case atStart => exact ⟨0, by omega, rfl, Ints.nil _ _ _ _, Aft.refl _⟩
  case round =>
    obtain ⟨k, hk, rfl, I, b1⟩ := hrel
    have hpl := plT_len (chs s) k
    by_cases hkn : k < n
    · have hkl : k < (chs s).length := by have := HN.out; omega
      have hRr := hR.below b1 (.inl (Nat.le_refl _))
      obtain ⟨b, off, rfl, hb1, hb2, hc⟩ := hRr.at_ encC (rcL_at hkl) (by omega)
      have hpT : plT (chs s) (k + 1) = if isM ((chs s).getD k default).r = true then plT (chs s) k else plT (chs s) k ++ [(k : Int)] := rfl
      obtain ⟨c, hcc⟩ : ∃ c, (chs s).getD k default = c := ⟨_, rfl⟩
      rw [hcc] at hc hpT
      have c0 := hc 0 _ rfl
      have c1 := hc 1 _ rfl
      have c2 := hc 2 _ rfl
      have c3 := hc 3 _ rfl
      rw [Nat.add_zero] at c0
      rw [← Nat.add_assoc] at c1 c2 c3
      have hIs := fun (W : World) => rIs_ok W (c.r : Int)
      obtain ⟨m, hmm⟩ : ∃ m, isM (c.r : Int) = m := ⟨_, rfl⟩
      rw [hmm] at hIs hpT
      have HPT := Lib.hid hpT
      clear hc hcc hmm hRr hpT
      obtain ⟨cr, cb, cn⟩ := c
      simp only [rcF] at c0 c1 c2 c3 hIs
      obtain ⟨q, hq⟩ : ∃ q, isQ ⟨cr, cb, cn⟩ = q := ⟨_, rfl⟩
      rw [hq] at c3
      clear hq
      obtain ⟨W1, hW1⟩ : ∃ W1, wr.alloc (.cells #[.int .i64 cb, .int .i64 cn, .int .i32 cr, .bool q] 90) = W1 := ⟨_, rfl⟩
      have X1 : Blk W1 wr.heap.size 90 #[.int .i64 cb, .int .i64 cn, .int .i32 cr, .bool q] := by rw [← hW1]; exact Blk.new wr 90 _
      have b2 : Aft w1 W1 := by rw [← hW1]; exact b1.alloc _
      have I2 : Ints W1 w1.heap.size 3 .i64 u3 (plT (chs s) k) := by rw [← hW1]; exact I.alloc _
      have hsz : wr.heap.size < W1.heap.size := X1.lt
      have hw2 : w1.heap.size ≤ wr.heap.size := b1.size
      rcases m with _ | _
      · go_upto_region 5 with (fail)
        clear hW1
        obtain ⟨z0, z1, z2, z3, zf, zl⟩ := X1.c4
        go_wp2_with (first
          | (go_at_call 15; refine (hIs _).mono ?_; rintro r5 w5 ⟨rfl, b5⟩; have I5 := I2.below b5 (Nat.le_refl _); have h5 : W1.heap.size ≤ w5.heap.size := b5.size)
          | (at_builtin; go_must (refine wpList_appI eiI rfl rfl rfl (I5.alloc _) rfl (Blk.new _ _ _) ?_ ?_ ?_ ?_)))
        · unfold maxLen; omega
        · omega
        · rw [World.size_alloc]; omega
        intro g cap w8 I8 g8 hg8
        have a8 : Aft w1 w8 := ((b2.trans b5).alloc _).grown g8 (fun j e => by have := (I2.lt j e).1; omega)
        go_wp2
        go_roundg (n - (k + 1))
        case rel => exact ⟨k + 1, by omega, by go_num, by rw [HPT.out]; simpa using I8, a8⟩
        case measure => omega
      · go_upto_region 5 with (fail)
        clear hW1
        obtain ⟨z0, z1, z2, z3, zf, zl⟩ := X1.c4
        go_wp2_with (go_at_call 15; refine (hIs _).mono ?_; rintro r5 w5 ⟨rfl, b5⟩; have I5 := I2.below b5 (Nat.le_refl _))
        go_roundg (n - (k + 1))
        case rel => exact ⟨k + 1, by omega, by go_num, by rw [HPT.out]; simpa using I5, b2.trans b5⟩
        case measure => omega
    · have hke : k = (chs s).length := by have := HN.out; omega
      subst hke
      go_wp2
      go_ret
      exact ⟨_, rfl, I.base (fun j e => by have := (I.lt j e).1; omega), a1.trans b1⟩
end Go.Proofs.YtaekdnfpgkfjkaaDoor
