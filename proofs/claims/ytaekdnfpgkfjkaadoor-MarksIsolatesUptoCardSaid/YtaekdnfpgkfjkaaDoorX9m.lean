/- Any bytes isolated, or the error, by both: true, for bytes within the second form (arguments of bulk at most 1048576). -/
import Derived.Test.YtaekdnfpgkfjkaaDoorN4
import Derived.Test.YtaekdnfpgkfjkaaDoorN8
import Derived.Test.YtaekdnfpgkfjkaaDoorShelf
import Derived.Test.YtaekdnfpgkfjkaaDoorCards
import Derived.Test.YtaekdnfpgkfjkaaDoorTie
import Derived.WalkKit
import Derived.ProofKit
import Derived.OpenShut
import Derived.Deep.DeepHandedRow
import Derived.Deep.DeepWitnessRowRef
import Derived.Lib.LaidIn
import Derived.Lib.LaidU8T
import Derived.Test.YtaekdnfpgkfjkaaDoorRows
import Derived.ShutString
import Derived.ChangeOld
import Derived.Below
import Derived.SizedLaws
section
namespace Go.Proofs.YtaekdnfpgkfjkaaDoor
open Go.RowKit
attribute [local go_sem] Oper.semAt_some

theorem any_take {α : Type} {p : α → Bool} {l : List α} {i : Nat} (d : α) (h : i < l.length) (h1 : (l.take i).any p = false) (h2 : p (l.getD i d) = false) : (l.take (i + 1)).any p = false := by
  rw [List.take_succ_eq_append_getElem h, List.any_append, h1, getD_at d h, List.any_cons, h2]
  rfl
theorem any_yes {α : Type} {p : α → Bool} {l : List α} {i : Nat} (d : α) (h : i < l.length) (h2 : p (l.getD i d) = true) : l.any p = true :=
  List.any_eq_true.2 ⟨_, getD_mem0 d h, h2⟩

set_option maxRecDepth 100000 in
set_option maxHeartbeats 4000000 in
theorem rIsolate_ok {w : World} {s : ByteArray} {b : Int} (hs : s.size ≤ 68719476736) :
    Calls Tryd.prog 27 #[.string s, .int .i8 b] w fun r w' => r = .returned (.tuple #[.string (txt (isoF s b).1), .int .i64 (isoF s b).2]) ∧ Aft w w' := by
  have CL := fun W => rClose_ok (w := W) hs
  have hcz := closeL_size s
  obtain ⟨res, hres⟩ : ∃ x, isoF s b = x := ⟨_, rfl⟩
  rw [hres]
  by_cases hb : b ≠ -1 ∧ b ≠ 0 ∧ b ≠ 1
  · have hr0 : res = ([], 2) := by rw [← hres]; unfold isoF; rw [if_pos hb]
    subst hr0
    have k1 : (b == -1) = false := by simp; omega
    have k2 : (b == 0) = false := by simp; omega
    have k3 : (b == 1) = false := by simp; omega
    clear hres
    go_enter Tryd.func27, Tryd.ntmps27
    go_wp2
    go_ret2
    exact ⟨rfl, Aft.refl _⟩
  have hres2 : res = if (hasE s || hasE (closeL s)) = true then ([], 241) else (encB (if b = 0 then 8294 else if b = 1 then 8295 else 8296) ++ (closeL s).data.toList ++ encB 8297, 0) := by rw [← hres]; unfold isoF; rw [if_neg hb]
  obtain ⟨cl, hcl⟩ : ∃ c, closeL s = c := ⟨_, rfl⟩
  rw [hcl] at CL hcz hres2
  have hz1 : s.size ≤ 1099511627776 := by omega
  have hz2 : cl.size ≤ 1099511627776 := by omega
  have hl1 := rcL_len s
  have hl2 := rcL_len cl
  have hl3 := chs_len s
  have hl4 := chs_len cl
  obtain ⟨R, hR⟩ : ∃ R, rcL s ++ rcL cl = R := ⟨_, rfl⟩
  have hany : (hasE s || hasE cl) = R.any (fun x => endC x.r) := by rw [← hR, List.any_append, cr_any, cr_any]
  have hRl : (rcL s).length + (rcL cl).length = R.length := by rw [← hR, List.length_append]
  rw [hany] at hres2
  obtain ⟨mk, hmk⟩ : ∃ m : Int, (if b = 0 then 8294 else if b = 1 then 8295 else 8296) = m := ⟨_, rfl⟩
  rw [hmk] at hres2
  obtain ⟨mt, hmt⟩ : ∃ m, txt (encB mk) = m := ⟨_, rfl⟩
  have hout : mt ++ cl ++ ⟨#[226, 129, 169]⟩ = txt (encB mk ++ cl.data.toList ++ encB 8297) := by rw [← hmt, ← enc97, ← txt_of cl, txt_cat, txt_cat, txt_list]
  have hmz : mt.size ≤ 4 := by rw [← hmt, txt_size]; exact encB_len _
  obtain ⟨n, hn⟩ : ∃ n, R.length = n := ⟨_, rfl⟩
  rw [hn] at hRl
  have hnz : n ≤ 1099511627776 := by omega
  have HRES := Lib.hid hres2
  have HOUT := Lib.hid hout
  have HRR := Lib.hid hR
  have HN := Lib.hid hn
  have HL := Lib.hid hRl
  clear hcl hres hres2 hout hR hn hRl hany hl1 hl2 hl3 hl4
  have hmt3 : (b = -1 ∧ mt = ⟨#[226, 129, 168]⟩) ∨ (b = 0 ∧ mt = ⟨#[226, 129, 166]⟩) ∨ (b = 1 ∧ mt = ⟨#[226, 129, 167]⟩) := by
    have h3 : b = -1 ∨ b = 0 ∨ b = 1 := by omega
    rcases h3 with rfl | rfl | rfl
    · left; rw [← hmt, ← hmk, ← enc96]; exact ⟨rfl, rfl⟩
    · right; left; rw [← hmt, ← hmk, ← enc94]; exact ⟨rfl, rfl⟩
    · right; right; rw [← hmt, ← hmk, ← enc95]; exact ⟨rfl, rfl⟩
  clear hmt hmk hb
  rcases hmt3 with ⟨rfl, rfl⟩ | ⟨rfl, rfl⟩ | ⟨rfl, rfl⟩
  all_goals
    go_enter Tryd.func27, Tryd.ntmps27
    go_upto_region 11 with (go_at_call 19; refine (CL _).mono ?_; rintro r1 w1 ⟨rfl, b1⟩)
    go_upto_region 12 with (first
      | (go_at_call 44; refine (Chars_ok (by assumption)).mono ?_; rintro r3 w3 ⟨v3, rfl, I3, b3⟩; first
          | (have I4 := J1.below b3 (Nat.le_refl _); obtain ⟨A3, cap3, rfl, hca3, hcb3, R3⟩ := I3.val; have hz4 := b3.size)
          | (have J1 := I3; have b2 := b3; have hz3 := b3.size))
      | (at_builtin; go_must (refine wpList_appRs encC etC rfl rfl rfl I4 rfl rfl R3 ?_ ?_ ?_ ?_)))
    · unfold maxLen; have := HL.out; omega
    · have := HL.out; omega
    · omega
    intro v8 w8 I8 g8 hg8
    have a8 : Aft w1 w8 := (b2.trans b3).grown g8 (fun j e => (J1.lt j e).1)
    rw [HRR.out] at I8
    obtain ⟨A8, cap8, rfl, hca8, hcb8, R8⟩ := I8.val
    rw [HN.out] at hca8 ⊢
    clear I3 I4 J1 R3 I8 g8 hg8
    have a9 := b1.trans a8
    go_upto_region 12 with (fail)
    go_loopg [25] n (fun gk iv wr => ∃ k : Nat, k + gk = n ∧ iv = .int .i64 k ∧ (R.take k).any (fun x => endC x.r) = false ∧ Aft w8 wr)
    case atStart => exact ⟨0, by omega, rfl, rfl, Aft.refl _⟩
    case round =>
      obtain ⟨k, hk, rfl, hno, b9⟩ := hrel
      by_cases hkn : k < n
      · have hkl : k < R.length := by have := HN.out; omega
        have hRr := R8.below b9 (.inl (Nat.le_refl _))
        obtain ⟨x, hx⟩ : ∃ x, R[k] = x := ⟨_, rfl⟩
        have hgx : R[k]? = some x := by rw [List.getElem?_eq_getElem hkl, hx]
        obtain ⟨b', off, rfl, hb1, hb2, hc⟩ := hRr.at_ encC hgx (by omega)
        have c0 := hc 0 _ rfl
        have c1 := hc 1 _ rfl
        have c2 := hc 2 _ rfl
        have c3 := hc 3 _ rfl
        rw [Nat.add_zero] at c0
        rw [← Nat.add_assoc] at c1 c2 c3
        have hstep := fun h : endC x.r = false => any_take (p := fun x : RC => endC x.r) x hkl hno (by rw [← getD_at x hkl, hx]; exact h)
        have hyes := fun h : endC x.r = true => any_yes (p := fun x : RC => endC x.r) x hkl (by rw [← getD_at x hkl, hx]; exact h)
        obtain ⟨xb, xn, xr, xq⟩ := x
        simp only at c0 c1 c2 c3 hstep hyes
        have CE := fun W => rEnds_ok W xr
        obtain ⟨e, he⟩ : ∃ e, endC xr = e := ⟨_, rfl⟩
        rw [he] at CE hstep hyes
        have HST := Lib.hid hstep
        have HY := Lib.hid hyes
        clear hstep hyes he hgx hx hc hRr hno
        obtain ⟨W1, hW1⟩ : ∃ W1, wr.alloc (.cells #[.int .i64 xb, .int .i64 xn, .int .i32 xr, .bool xq] 90) = W1 := ⟨_, rfl⟩
        have X1 : Blk W1 wr.heap.size 90 #[.int .i64 xb, .int .i64 xn, .int .i32 xr, .bool xq] := by rw [← hW1]; exact Blk.new wr 90 _
        have b10 : Aft w8 W1 := by rw [← hW1]; exact b9.alloc _
        go_upto_region 14 with (fail)
        clear hW1
        obtain ⟨z0, z1, z2, z3, zf, zl⟩ := X1.c4
        rcases e with _ | _
        · go_wp2_with (go_at_call 53; refine (CE _).mono ?_; rintro r5 w5 ⟨rfl, h5⟩; replace h5 := h5.symm; subst h5)
          go_roundg (n - (k + 1))
          case rel => exact ⟨k + 1, by omega, by go_num, HST.out trivial, b10⟩
          case measure => omega
        · have hr0 : res = ([], 241) := by rw [HRES.out, HY.out rfl, if_pos rfl]
          subst hr0
          go_wp2_with (go_at_call 53; refine (CE _).mono ?_; rintro r5 w5 ⟨rfl, h5⟩; replace h5 := h5.symm; subst h5)
          go_ret2
          exact ⟨rfl, a9.trans b10⟩
      · have hke : R.take k = R := List.take_of_length_le (by have := HN.out; omega)
        rw [hke] at hno
        have hr0 : res = (encB mk ++ cl.data.toList ++ encB 8297, 0) := by rw [HRES.out, hno, if_neg (by decide)]
        subst hr0
        clear hno hke
        have hkk : k = n := by omega
        clear hk
        subst hkk
        go_wp2
        rw [HOUT.out]
        go_ret2
        exact ⟨by simp, a9.trans b9⟩
end Go.Proofs.YtaekdnfpgkfjkaaDoor
end
section
namespace Go.Proofs.YtaekdnfpgkfjkaaDoor
open Go.RowKit
attribute [local go_sem] Oper.semAt_some

/-- No end ahead of byte p. -/
def NoE (s : ByteArray) (p : Nat) : Prop := hasE s = (chA s p).any (fun c => endC c.r)
theorem noE_zero (s : ByteArray) : NoE s 0 := rfl
theorem noE_end {s : ByteArray} {p : Nat} (h : NoE s p) (hp : ¬ p < s.size) : hasE s = false := by
  unfold NoE at h
  rw [h, chA_end hp]; rfl
theorem noE_yes {s : ByteArray} {p : Nat} (h : NoE s p) (hp : p < s.size) (he : endC ((Utf8.decode s p).1 : Int) = true) : hasE s = true := by
  unfold NoE at h
  rw [h, chA_go hp, List.any_cons]
  simp only
  rw [he]; rfl
theorem noE_no {s : ByteArray} {p : Nat} (h : NoE s p) (hp : p < s.size) (he : endC ((Utf8.decode s p).1 : Int) = false) : NoE s (p + (Utf8.decode s p).2) := by
  unfold NoE at h ⊢
  rw [h, chA_go hp, List.any_cons]
  simp only
  rw [he, Bool.false_or]

set_option maxRecDepth 100000 in
set_option maxHeartbeats 4000000 in
theorem Isolate_ok {w : World} {s : ByteArray} {b : Int} (hT : Lib.Utf8Tabs 0 1 w) (h2 : 2 ≤ w.heap.size) (hs : s.size ≤ 549755813888) :
    Calls Tryd.prog 26 #[.string s, .int .i8 b] w fun r w' => r = .returned (.tuple #[.string (txt (isoF s b).1), .int .i64 (isoF s b).2]) ∧ Aft w w' := by
  have CL := Close_ok hT h2 hs
  have hcz := closeL_size s
  obtain ⟨res, hres⟩ : ∃ x, isoF s b = x := ⟨_, rfl⟩
  rw [hres]
  by_cases hb : b ≠ -1 ∧ b ≠ 0 ∧ b ≠ 1
  · have hr0 : res = ([], 2) := by rw [← hres]; unfold isoF; rw [if_pos hb]
    subst hr0
    have k1 : (b == -1) = false := by simp; omega
    have k2 : (b == 0) = false := by simp; omega
    have k3 : (b == 1) = false := by simp; omega
    clear hres CL
    go_enter Tryd.func26, Tryd.ntmps26
    go_wp2
    go_ret2
    exact ⟨rfl, Aft.refl _⟩
  have hres2 : res = if (hasE s || hasE (closeL s)) = true then ([], 241) else (encB (if b = 0 then 8294 else if b = 1 then 8295 else 8296) ++ (closeL s).data.toList ++ encB 8297, 0) := by rw [← hres]; unfold isoF; rw [if_neg hb]
  obtain ⟨cl, hcl⟩ : ∃ c, closeL s = c := ⟨_, rfl⟩
  rw [hcl] at CL hcz hres2
  obtain ⟨mk, hmk⟩ : ∃ m : Int, (if b = 0 then 8294 else if b = 1 then 8295 else 8296) = m := ⟨_, rfl⟩
  rw [hmk] at hres2
  have hout : Utf8.encode mk ++ cl ++ Utf8.encode 8297 = txt (encB mk ++ cl.data.toList ++ encB 8297) := by rw [← txt_enc, ← txt_enc, ← txt_of cl, txt_cat, txt_cat, txt_list]
  have he1 := encode_size_le mk
  have he2 := encode_size_le 8297
  have h3 : (b = -1 ∧ mk = 8296) ∨ (b = 0 ∧ mk = 8294) ∨ (b = 1 ∧ mk = 8295) := by
    have h3 : b = -1 ∨ b = 0 ∨ b = 1 := by omega
    rcases h3 with rfl | rfl | rfl
    · left; exact ⟨rfl, by rw [← hmk]; rfl⟩
    · right; left; exact ⟨rfl, by rw [← hmk]; rfl⟩
    · right; right; exact ⟨rfl, by rw [← hmk]; rfl⟩
  have HRES := Lib.hid hres2
  have HOUT := Lib.hid hout
  clear hcl hres hres2 hout hmk hb
  obtain ⟨mb, hmb⟩ : ∃ x, encB mk = x := ⟨_, rfl⟩
  rw [hmb] at HRES HOUT
  clear hmb
  rcases h3 with ⟨rfl, rfl⟩ | ⟨rfl, rfl⟩ | ⟨rfl, rfl⟩
  all_goals
    go_enter Tryd.func26, Tryd.ntmps26
    go_upto_region 10 with (go_at_call 18; refine CL.mono ?_; rintro r1 w1 ⟨rfl, b1⟩)
    go_upto_region 11 with (fail)
    obtain ⟨B1, hB1⟩ : ∃ x, w1.heap.size = x := ⟨_, rfl⟩
    rw [hB1]
    obtain ⟨W1, hW1⟩ : ∃ W1, w1.alloc (.cells #[.string s, .string cl] 9) = W1 := ⟨_, rfl⟩
    have X1 : Blk W1 B1 9 #[.string s, .string cl] := by rw [← hW1, ← hB1]; exact Blk.new w1 9 _
    have a1 : Aft w W1 := by rw [← hW1]; exact b1.alloc _
    have hxl : B1 < W1.heap.size := X1.lt
    have hwz := a1.size
    rw [hW1]
    clear hW1 hB1
    go_loopg [25] 2 (fun gk iv wr => ∃ k : Nat, k + gk = 2 ∧ iv = .int .i64 k ∧ (∀ j, j < k → hasE (if j = 0 then s else cl) = false) ∧ Aft W1 wr)
    case atStart => exact ⟨0, rfl, rfl, fun j hj => absurd hj (Nat.not_lt_zero _), Aft.refl _⟩
    case round =>
      obtain ⟨k, hk, rfl, hno, b2⟩ := hrel
      by_cases hk2 : k < 2
      · obtain ⟨t, ht⟩ : ∃ t, (if k = 0 then s else cl) = t := ⟨_, rfl⟩
        have hck : wr.cell? ⟨B1, k, none⟩ = some (.string t) := by
          rw [(X1.aft b2).cell, ← ht]
          have : k = 0 ∨ k = 1 := by omega
          rcases this with rfl | rfl <;> rfl
        have htz : t.size ≤ 1099511627776 := by
          rw [← ht]; split <;> omega
        have hbl : B1 < wr.heap.size := Nat.lt_of_lt_of_le hxl b2.size
        have hall : hasE t = false → ∀ j, j < k + 1 → hasE (if j = 0 then s else cl) = false := fun h j hj => by
          by_cases e : j = k
          · subst e; rw [ht]; exact h
          · exact hno j (by omega)
        have hyes : hasE t = true → res = ([], 241) := fun h => by
          rw [HRES.out, if_pos]
          have : k = 0 ∨ k = 1 := by omega
          rcases this with rfl | rfl
          · rw [if_pos rfl] at ht; rw [ht, h]; rfl
          · rw [if_neg (by decide)] at ht; rw [ht, h, Bool.or_true]
        have HALL := Lib.hid hall
        have HY := Lib.hid hyes
        clear hall hyes hno ht
        have hkd : decide ((k : Int) < 2) = true := decide_eq_true (by omega)
        go_upto_region 14 with (fail)
        obtain ⟨it, hit⟩ : ∃ it, wr.heap.size = it := ⟨_, rfl⟩
        have a0 : Aft W1 (wr.iter t 0) := b2.alloc _
        have hI0 : (wr.iter t 0).heap[it]? = some (.stringIter t 0) := by rw [← hit]; exact World.iter_heap wr t 0
        rw [hit]
        generalize wr.iter t 0 = Wi at *
        have hits : W1.heap.size ≤ it := by rw [← hit]; exact b2.size
        clear hit hck hbl b2
        have HK := Lib.hid hk
        clear hk
        go_loopw [] (fun wq => ∃ p : Nat, NoE t p ∧ wq.heap[it]? = some (.stringIter t p) ∧ Aft W1 wq) (fun wq => t.size - wq.iterPos it)
        case atStart => exact ⟨0, noE_zero t, hI0, a0⟩
        case round =>
          obtain ⟨p, hp0, hI, a2⟩ := hrel
          clear hI0 a0
          by_cases hp : p < t.size
          · have hnx : ∀ ty, (Instr.next (.pointer (some ⟨it, 0, none⟩)) true ty).run Tryd.prog wr = _ := fun ty => Lib.run_next_any_at wr it t p ty hI hp
            have hK1 := dec_pos hp
            have hip : wr.iterPos it = p := by simp [World.iterPos, hI]
            have hI3 := Lib.iterAt_heap wr it t p (p + (Utf8.decode t p).2) hI
            have a3 : Aft W1 (wr.iterAt it t (p + (Utf8.decode t p).2)) := Lib.below_iterAt a2 (k := it) hits t _
            have hye := noE_yes hp0 hp
            have hne := noE_no hp0 hp
            have CE := fun W => ends_ok W ((Utf8.decode t p).1 : Int)
            obtain ⟨e, he⟩ : ∃ e, endC ((Utf8.decode t p).1 : Int) = e := ⟨_, rfl⟩
            rw [he] at CE hye hne
            have HYE := Lib.hid hye
            have HNE := Lib.hid hne
            clear hye hne he hI
            rcases e with _ | _
            · go_wp2_with (go_at_call 51; refine (CE _).mono ?_; rintro r5 w5 ⟨rfl, h5⟩; replace h5 := h5.symm; subst h5)
              go_roundw
              case rel => exact ⟨p + (Utf8.decode t p).2, HNE.out trivial, hI3, a3⟩
              case measure =>
                have : (wr.iterAt it t (p + (Utf8.decode t p).2)).iterPos it = p + (Utf8.decode t p).2 := by simp [World.iterPos, hI3]
                rw [this, hip]; omega
            · have hr0 := HY.out (HYE.out rfl)
              subst hr0
              go_wp2_with (go_at_call 51; refine (CE _).mono ?_; rintro r5 w5 ⟨rfl, h5⟩; replace h5 := h5.symm; subst h5)
              go_ret2
              exact ⟨rfl, a1.trans a3⟩
          · have hnx : ∀ ty, (Instr.next (.pointer (some ⟨it, 0, none⟩)) true ty).run Tryd.prog wr = _ := fun ty => Lib.run_next_end_at wr it t p ty hI hp
            have hal := HALL.out (noE_end hp0 hp)
            have HAL := Lib.hid hal
            clear hal
            go_wp2
            go_roundg (2 - (k + 1))
            case rel => exact ⟨k + 1, by omega, by go_num, HAL.out, a2⟩
            case measure => have := HK.out; omega
      · have hr0 : res = (mb ++ cl.data.toList ++ encB 8297, 0) := by
          have h1 := hno 0 (by omega)
          have h2 := hno 1 (by omega)
          rw [if_pos rfl] at h1
          rw [if_neg (by decide)] at h2
          rw [HRES.out, h1, h2, if_neg (by decide)]
        subst hr0
        clear hno
        have hkk : k = 2 := by omega
        clear hk
        subst hkk
        go_wp2_with (go_at_call 52; first
          | (refine (Encode_ok (r := 8297) (by exact (Blk.at_ (cs := #[_]) (by simp)).c1.1)).mono ?_; rintro r6 w6 ⟨rfl, rfl⟩)
          | (refine (Encode_ok (r := 8296) (by exact (Blk.new _ _ #[_]).c1.1)).mono ?_; rintro r5 w5 ⟨rfl, rfl⟩)
          | (refine (Encode_ok (r := 8295) (by exact (Blk.new _ _ #[_]).c1.1)).mono ?_; rintro r5 w5 ⟨rfl, rfl⟩)
          | (refine (Encode_ok (r := 8294) (by exact (Blk.new _ _ #[_]).c1.1)).mono ?_; rintro r5 w5 ⟨rfl, rfl⟩))
        rw [HOUT.out]
        go_ret2
        exact ⟨by simp, ((a1.trans b2).alloc _).alloc _⟩
end Go.Proofs.YtaekdnfpgkfjkaaDoor
end
section
namespace Go.Proofs.YtaekdnfpgkfjkaaDoor
open Go.RowKit
attribute [local go_sem] Oper.semAt_some

theorem eq_same {α : Type} [BEq α] [ReflBEq α] (x : α) : (x == x) = true := beq_self_eq_true x
set_option maxRecDepth 100000 in
set_option maxHeartbeats 1000000 in
theorem isolates_walk {w : World} {s : ByteArray} {b : Int} (hT : Lib.Utf8Tabs 0 1 w) (h2 : 2 ≤ w.heap.size) (hs : s.size ≤ 68719476736) :
    Calls Tryd.prog 9 #[.string s, .int .i8 b] w fun e w' => e = .returned (.bool true) ∧ Aft w w' := by
  have C1 := Isolate_ok (b := b) hT h2 (Nat.le_trans hs (by omega))
  have C2 := fun W => rIsolate_ok (w := W) (b := b) hs
  have CA : ∀ W, Aft w W → Calls Tryd.prog 11 #[] W fun e w' => e = .returned (.bool true) ∧ Aft W w' := fun W hW => awake_ok (tabs_aft hT hW) (by have := hW.size; omega)
  obtain ⟨c, hc⟩ : ∃ c, txt (isoF s b).1 = c := ⟨_, rfl⟩
  obtain ⟨e, he⟩ : ∃ e, (isoF s b).2 = e := ⟨_, rfl⟩
  rw [hc, he] at C1 C2
  clear hc he
  go_enter Tryd.func9, Tryd.ntmps9
  go_wp2_with (first
    | (go_at_call 26; refine C1.mono ?_; rintro r1 w1 ⟨rfl, b1⟩)
    | (go_at_call 27; refine (C2 _).mono ?_; rintro r2 w2 ⟨rfl, b2⟩; have a2 := b1.trans b2; have CA2 := CA _ a2)
    | (go_at_call 11; refine CA2.mono ?_; rintro r3 w3 ⟨rfl, b3⟩))
  go_ret
  exact ⟨rfl, a2.trans b3⟩
end Go.Proofs.YtaekdnfpgkfjkaaDoor
end
section
namespace Go.Proofs.YtaekdnfpgkfjkaaDoor
open Go.ChangeShapes Go.WideShapes Go.ChangeAt Go.RowKit Go.Lib

theorem own24 : ownKnob Tryd.prog.godebug = none := by kernel_rfl
def laid24 : List (String × DataW Unit) := [("unicode/utf8.acceptRanges", Rows.laid_unicode_utf8_acceptRanges), ("unicode/utf8.first", Rows.laid_unicode_utf8_first)]
theorem data_acc : (Rows.laid_unicode_utf8_acceptRanges : DataW Unit) = acceptData := by kernel_rfl
theorem data_first : Rows.laid_unicode_utf8_first = firstData := by kernel_rfl
theorem tabs_of_laid {W : World} (h : laidMet Tryd.prog laid24 W) : Lib.Utf8Tabs 0 1 W :=
  utf8Tabs_of_readsT (ρ := Tryd.lays197_ren) { Tryd.lays197 with } ⟨by kernel_rfl, by kernel_rfl, by kernel_rfl, by kernel_rfl, by kernel_rfl, by kernel_rfl, by kernel_rfl⟩
    (Lib.laidMet.reads h (by rw [← data_first]; exact .tail _ (.head _))) (Lib.laidMet.reads h (by rw [← data_acc]; exact .head _))
theorem size_of_tabs {W : World} (h : Lib.Utf8Tabs 0 1 W) : 2 ≤ W.heap.size := by
  have h1 := (h.2 0 (by decide)).1
  rcases Nat.lt_or_ge 1 W.heap.size with hlt | hge
  · exact hlt
  · unfold World.cell? at h1
    rw [Array.getElem?_eq_none hge] at h1
    cases h1

/-- A world for the witness. -/
noncomputable def laidWorld (os : Os) (o : Array Obj) : World :=
  let w0 := World.holding Tryd.prog os ⟨o, #[], []⟩
  let put (h : Array Obj) (g : Nat) (cs : Array Value) : Array Obj := h.modify g fun
    | .cells _ t frozen => .cells cs t frozen
    | o => o
  let h1 := put w0.heap 0 (Lib.firstTab.map fun z => Value.int .u8 z).toArray
  let h2 := put h1 1 ((List.range 16).flatMap fun i => [Value.int .u8 (Lib.accLo i), Value.int .u8 (Lib.accHi i)]).toArray
  { w0 with heap := h2 }
theorem laid_met (os : Os) (args : Array Value) : laidMet Tryd.prog laid24 ((laidWorld os #[]).forCall (fun _ _ => 0) ⟨#[], args, []⟩).memory :=
  (LaidIn.of_run [1, 0] 8 (by kernel_rfl) (by kernel_rfl) (by kernel_rfl) (by kernel_rfl)).met
end Go.Proofs.YtaekdnfpgkfjkaaDoor
end
section
namespace Go.Proofs.YtaekdnfpgkfjkaaDoor

theorem bulk_one {H : Type} (d : DataW H) : 1 ≤ Rows.uptoBulk d := by
  cases d with
  | lit l => cases l <;> simp [Rows.uptoBulk]
  | _ => simp [Rows.uptoBulk]
theorem bulk_mem {H : Type} {d : DataW H} : ∀ {l : List (DataW H)}, d ∈ l → Rows.uptoBulk d ≤ Rows.uptoBulkAll l
  | x :: r, h => by
    simp only [Rows.uptoBulkAll]
    rcases List.mem_cons.1 h with rfl | h
    · omega
    · have := bulk_mem h; omega
theorem bulk_len {H : Type} : ∀ l : List (DataW H), l.length ≤ Rows.uptoBulkAll l
  | [] => by simp [Rows.uptoBulkAll]
  | x :: r => by
    have h1 := bulk_one x
    have h2 := bulk_len r
    simp only [Rows.uptoBulkAll, List.length_cons]; omega
theorem str_small {H : Type} {ds : List (DataW H)} {d : DataW H} {b : List UInt8} (hk : Rows.uptoSmall H ds = true) (hd : d ∈ ds) (he : d = .lit (.string b)) : b.length ≤ 1048576 := by
  have h1 : Rows.uptoBulkAll ds ≤ 1048576 := by simpa [Rows.uptoSmall] using hk
  have h2 := bulk_mem hd
  subst he
  simp only [Rows.uptoBulk] at h2
  omega
theorem str_small' {H : Type} {ds : List (DataW H)} {s : ByteArray} (hk : Rows.uptoSmall H ds = true) (hd : .lit (.string s.data.toList) ∈ ds) : s.size ≤ 1048576 := by
  have h1 := str_small hk hd rfl
  rwa [Array.length_toList] at h1
end Go.Proofs.YtaekdnfpgkfjkaaDoor
end
section
namespace Go.Proofs.YtaekdnfpgkfjkaaDoor.marksIsolates
open Go.ChangeShapes Go.WideShapes Go.ChangeAt Go.RowKit
open Go.ChangeMaps (open_string shut_string)

theorem laidOut : laidOutB Tryd.prog = true := by kernel_rfl

set_option maxRecDepth 100000 in
theorem contract (H : Type) (enc : TypeId × Value → H) (W : World) (base : Nat) (args : Array Value) (ds gs : List (DataW H)) (before : List MemPlace)
    (hval : ∀ (j : Nat) t v, Tryd.f9.params[j]? = some t → args[j]? = some v → Value.okWide Tryd.prog W .any base t v)
    (hW : DataW.Whole enc Tryd.prog Tryd.f9.params.toList Rows.marksIsolatesSpec.vars false W args.toList ds gs before) (hk : Rows.uptoSmall H (ds ++ gs) = true)
    (hsz0 : (DataW.weightsEach Tryd.prog (Tryd.f9.params.toList ++ Rows.marksIsolatesSpec.plain.varTypes Tryd.prog) (ds ++ gs)).all (· ≤ reachBytes) = true) (hL : laidMetH Tryd.prog Rows.marksIsolatesUptoRow.laid W) :
    Calls Tryd.prog 9 args W fun e W' => ∃ v, e = .returned v ∧ Rows.marksIsolatesSpec.post enc Tryd.prog Tryd.f9 false true false false W args v W' := by
  have hT := tabs_of_laid hL
  have h2 := size_of_tabs hT
  have hsz := hsz0
  clear hsz0
  have hW' := hW
  obtain ⟨p, q, hA0, hV, rfl, hfz, hnd⟩ := hW
  have hA : DataW.TrodAll enc Tryd.prog W 0 (fun _ => true) true Tryd.f9.params.toList args.toList ds p := hA0
  rw [Tryd.params9] at hA hval hsz
  obtain ⟨v0, vs0, d0, ds0, p0, q0, hargs, rfl, rfl, h0, r0⟩ := trodAll_cons hA
  obtain ⟨v1, vs1, d1, ds1, p1, q1, rfl, rfl, rfl, h1, r1⟩ := trodAll_cons r0
  obtain ⟨rfl, rfl, rfl⟩ := trodAll_nil r1
  obtain rfl : args = #[v0, v1] := by cases args; simp_all
  obtain ⟨rfl, rfl⟩ := trodVars_none hV
  clear hA0
  have k0 := h0
  have lt0 : ∀ x ∈ p0, x.block < W.heap.size := by obtain ⟨m, hm⟩ := k0; exact DataW.trod_lt m _ _ _ hm
  obtain ⟨s0, rfl, rfl, rfl, ws0⟩ := open_string Tryd.underlying9 (hval 0 9 v0 rfl rfl) h0
  have hs0 : s0.size ≤ 1048576 := str_small' hk (by simp)
  have k1 := h1
  have lt1 : ∀ x ∈ p1, x.block < W.heap.size := by obtain ⟨m, hm⟩ := k1; exact DataW.trod_lt m _ _ _ hm
  obtain ⟨z1, rfl, rfl, rfl, wz1⟩ := open_int Tryd.underlying47 (hval 1 47 v1 rfl rfl) h1
  clear hval
  refine (isolates_walk hT h2 (by omega)).mono fun e W' ⟨he, bel⟩ => ?_
  subst he
  exact ⟨_, rfl, _, _, _, [], _, [], hW', trodAll_mk1 (shut_bool Tryd.underlying4 _), trodAll_cons_mk (Below.trod laidOut (by kernel_rfl) (of_decide_eq_true (by kernel_rfl)) k0 bel lt0) (trodAll_cons_mk (Below.trod laidOut (by kernel_rfl) (of_decide_eq_true (by kernel_rfl)) k1 bel lt1) (trodAll_mk0)), rfl, bel.frame _, fun h => by cases h⟩

theorem reads (os : Os) {H : Type} (enc : TypeId × Value → H) : ∃ places, DataW.whole enc Tryd.prog ((laidWorld os #[]).forCall (fun _ _ => 0) ⟨#[], #[.string ⟨#[]⟩, .int .i8 0], []⟩).memory Tryd.f9.params.toList Rows.marksIsolatesSpec.vars false (#[.string ⟨#[]⟩, .int .i8 0] : Array Value).toList 8 = some ([.lit (.string []), .lit (.int .i8 0)], [], places) :=
  ⟨[], by kernel_rfl⟩

set_option maxRecDepth 100000 in
theorem lifted (os : Os) (started : os.Started) (H : Type) (enc : TypeId × Value → H) (F : Stop.Interp) :
    ReturnsInHanded {} Tryd.checked os 9 .any ((Rows.OpenSpec.upto Rows.marksIsolatesSpec).preRow enc Tryd.prog Tryd.f9 Rows.marksIsolatesUptoRow.domain false Rows.marksIsolatesUptoRow.laid) (((Rows.OpenSpec.upto Rows.marksIsolatesSpec).at F).post enc Tryd.prog Tryd.f9 false true false false) := by
  obtain ⟨places, hx⟩ := reads os enc
  refine returnsInHanded_of_row (C := Tryd.checked) (s := (Rows.OpenSpec.upto Rows.marksIsolatesSpec)) own24 started (by kernel_rfl) Tryd.func9
    (witness_row_at (enc := enc) (C := Tryd.checked) false (laidWorld os #[]) #[.string ⟨#[]⟩, .int .i8 0] rfl (by kernel_rfl) (by kernel_rfl) (by kernel_rfl)
      (OpenSpec.preRow_of_cond 8 hx (by kernel_rfl) (fun k hk => by cases hk; kernel_rfl) (by kernel_rfl) (laid_met os _))) ?_
  intro W base args ds gs before hval hW _ hcond hsz hL _ _
  exact contract H enc W base args ds gs before hval hW (hcond _ rfl) hsz hL

theorem said : Rows.MarksIsolatesUptoSaid :=
  OpenClaim.holds_of_cond 9 Tryd.f9 rfl rfl rfl rfl rfl rfl rfl ⟨rfl, rfl, rfl, rfl, rfl⟩ rfl rfl rfl rfl rfl (by kernel_rfl) Tryd.func9 (by kernel_rfl)
    (of_decide_eq_true (by kernel_rfl)) (by unfold Func.isWrapper; first | (rw [if_pos (by decide +kernel)]; kernel_rfl) | (rw [if_neg (by decide +kernel)]; exact ⟨rfl, rfl⟩))
    (fun os started H enc _ F => by rw [OpenClaim.pre_eq_preRow]; exact lifted os started H enc F)

theorem plain (f : FuncId) (fn : Func) (hf : Tryd.pinned.checked.prog.funcNamed "furrow/furrowlaw24.MarksIsolates" = some f) (hfn : Tryd.pinned.checked.prog.funcs[f]? = some fn) :
    false = Tryd.pinned.checked.prog.looks [] ∧ ∀ (j : Nat) t, fn.params[j]? = some t → Tryd.pinned.checked.prog.wantsStandIn t = false := by
  obtain rfl : f = 9 := Option.some.inj ((show Tryd.prog.funcNamed "furrow/furrowlaw24.MarksIsolates" = some 9 by kernel_rfl).symm.trans hf) |>.symm
  obtain rfl : fn = Tryd.f9 := (Option.some.inj (Tryd.func9.symm.trans hfn)).symm
  refine ⟨by kernel_rfl, fun j t ht => ?_⟩
  rw [Tryd.params9] at ht
  have ht2 : t = 9 ∨ t = 47 := by simpa using Array.mem_of_getElem? ht
  rcases ht2 with rfl | rfl
  · exact (show Tryd.prog.wantsStandIn 9 = false by kernel_rfl)
  · exact (show Tryd.prog.wantsStandIn 47 = false by kernel_rfl)

/-- The statement. -/
theorem proved : Rows.MarksIsolatesUptoCardSaid :=
  Claim7.holds_tied_plain_at .later [] _ _ _ _ said (fun _ h => by cases h) (by kernel_rfl) (fun _ h => by cases h) marksIsolatesUpto_row_tie rfl ⟨rfl, rfl⟩ (by kernel_rfl) rfl plain (by kernel_rfl)
#print axioms proved
end Go.Proofs.YtaekdnfpgkfjkaaDoor.marksIsolates
end
