/- Which levels can be had: the small functions, reached. -/
import Derived.Test.YtaekdnfpgkfjkaaDoorC10
import Derived.WalkMore
namespace Go.Proofs.YtaekdnfpgkfjkaaDoor
open Go.RowKit
attribute [local go_sem] Oper.semAt_some

def frmC (c : Int) : Bool := c == 11 || (decide (15 ≤ c) && decide (c ≤ 23))
def ownC (c b : Int) : Bool := if c = 5 ∨ c = 6 ∨ c = 8 ∨ c = 9 ∨ c = 12 ∨ c = 13 ∨ c = 14 then true else if c = 1 ∨ c = 4 then b == 0 else if c = 2 ∨ c = 3 then b == 1 else false

set_option maxRecDepth 100000 in
set_option maxHeartbeats 2000000 in
theorem plain_ok (w : World) (c : Int) : Calls Tryd.prog 37 #[.int .u8 c] w fun r w' => r = .returned (.bool (!frmC c)) ∧ w' = w := by
  go_enter Tryd.func37, Tryd.ntmps37
  go_wp2
  all_goals (go_ret; refine ⟨congrArg (fun z => Ending.returned (Value.bool z)) ?_, rfl⟩; simp only [beq_iff_eq, beq_eq_false_iff_ne, ne_eq] at *; rw [Bool.eq_iff_iff]; simp [frmC]; omega)
set_option maxRecDepth 100000 in
set_option maxHeartbeats 2000000 in
theorem formats_ok (w : World) (c : Int) : Calls Tryd.prog 61 #[.int .u8 c] w fun r w' => r = .returned (.bool (frmC c)) ∧ w' = w := by
  go_enter Tryd.func61, Tryd.ntmps61
  go_wp2
  all_goals (go_ret; refine ⟨congrArg (fun z => Ending.returned (Value.bool z)) ?_, rfl⟩; simp only [beq_iff_eq, beq_eq_false_iff_ne, ne_eq] at *; rw [Bool.eq_iff_iff]; simp [frmC]; omega)
set_option maxRecDepth 100000 in
set_option maxHeartbeats 2000000 in
theorem own_ok (w : World) (c b : Int) : Calls Tryd.prog 57 #[.int .u8 c, .int .i8 b] w fun r w' => r = .returned (.bool (ownC c b)) ∧ w' = w := by
  go_enter Tryd.func57, Tryd.ntmps57
  go_wp2
  all_goals (go_ret; refine ⟨congrArg (fun z => Ending.returned (Value.bool z)) ?_, rfl⟩; simp only [beq_iff_eq, beq_eq_false_iff_ne, ne_eq] at *; unfold ownC; (repeat' split) <;> first | rfl | (exfalso; omega))
set_option maxRecDepth 100000 in
set_option maxHeartbeats 2000000 in
theorem base_ok (w : World) (c b : Int) : Calls Tryd.prog 62 #[.int .u8 c, .int .i8 b] w fun r w' => r = .returned (.bool (ownC c b)) ∧ w' = w := by
  go_enter Tryd.func62, Tryd.ntmps62
  go_wp2
  all_goals (go_ret; refine ⟨congrArg (fun z => Ending.returned (Value.bool z)) ?_, rfl⟩; simp only [beq_iff_eq, beq_eq_false_iff_ne, ne_eq] at *; unfold ownC; (repeat' split) <;> first | rfl | (exfalso; omega))

def trE : List Int → Bool
  | [] => true
  | c :: cs => if c = 10 ∨ c = 13 then trE cs else c == 12
def hadC (b c l : Int) (e : Bool) : Bool := if c = 10 then l == -1 else (decide (b ≤ l) && decide (l ≤ 125) && (l != b || ownC c b) && (!e || l == b))
def hadO (b : Int) : List Int → List Int → Bool
  | c :: cs, l :: ls => hadC b c l (trE (c :: cs)) && hadO b cs ls
  | _, _ => true
theorem drop_at {l : List Int} {i : Nat} (h : i < l.length) : l.drop i = l.getD i 0 :: l.drop (i + 1) := by
  rw [List.drop_eq_getElem_cons h, List.getD_eq_getElem?_getD, List.getElem?_eq_getElem h]
  rfl
theorem trE_at {cs : List Int} {i : Nat} (h : i < cs.length) : trE (cs.drop i) = if cs.getD i 0 = 10 ∨ cs.getD i 0 = 13 then trE (cs.drop (i + 1)) else cs.getD i 0 == 12 := by
  rw [drop_at h]; rfl
theorem hadO_at {b : Int} {cs ls : List Int} {i : Nat} (h : i < cs.length) (h2 : cs.length = ls.length) : hadO b (cs.drop i) (ls.drop i) = (hadC b (cs.getD i 0) (ls.getD i 0) (trE (cs.drop i)) && hadO b (cs.drop (i + 1)) (ls.drop (i + 1))) := by
  rw [drop_at h, drop_at (l := ls) (by omega)]; rfl
theorem hadO_no {b : Int} {cs ls : List Int} (h2 : cs.length = ls.length) : ∀ (i : Nat), hadO b (cs.drop i) (ls.drop i) = false → hadO b cs ls = false
  | 0, h => h
  | i + 1, h => by
    by_cases hi : i < cs.length
    · refine hadO_no h2 i ?_
      rw [hadO_at hi h2, h, Bool.and_false]
    · rw [List.drop_eq_nil_of_le (by omega)] at h
      cases h

set_option maxRecDepth 100000 in
set_option maxHeartbeats 4000000 in
theorem reached_ok {w : World} {B B2 n m c1 c2 : Nat} {A A2 : Option Addr} {cs ls : List Int} {b : Int} (hR : RdInts w B .u8 A cs) (hL : RdInts w B2 .i8 A2 ls) (hn : n = cs.length) (hm : m = ls.length) (hnm : n = m) (hl : n ≤ 1099511627776) :
    Calls Tryd.prog 38 #[.slice A n c1, .int .i8 b, .slice A2 m c2] w fun e w' => e = .returned (.bool (hadO b cs ls)) ∧ Aft w w' := by
  subst hnm
  have HN := Lib.hid hn
  have HM := Lib.hid hm
  clear hn hm
  obtain ⟨ok, hok⟩ : ∃ o, hadO b cs ls = o := ⟨_, rfl⟩
  rw [hok]
  have HOK := Lib.hid hok
  clear hok
  go_enter Tryd.func38, Tryd.ntmps38
  go_wp2
  go_step3
  go_wp2
  go_step3
  go_wp2
  go_loopg [7, 8] n (fun gk ev iv wr => iv = .int .i64 ((gk : Int) - 1) ∧ gk ≤ n ∧ ev = .bool (trE (cs.drop gk)) ∧ hadO b (cs.drop gk) (ls.drop gk) = true ∧ Aft w wr)
  case atStart => exact ⟨by go_num, Nat.le_refl _, by rw [List.drop_eq_nil_of_le (by have := HN.out; omega)]; rfl, by rw [List.drop_eq_nil_of_le (by have := HN.out; omega)]; rfl, Aft.refl _⟩
  case round =>
    obtain ⟨rfl, hgn, rfl, hho, b1⟩ := hrel
    rcases gk with _ | i
    · have hk0 : ok = true := by rw [← HOK.out]; exact hho
      subst hk0
      go_wp2
      try rw [Exit.noGoto_ret]
      go_ret
      exact ⟨rfl, b1⟩
    · have hii : (((i + 1 : Nat) : Int) - 1) = (i : Int) := by omega
      rw [hii]
      have hi1 : i < cs.length := by have := HN.out; omega
      have hi2 : i < ls.length := by have := HM.out; omega
      have htr := trE_at (cs := cs) hi1
      have hha := hadO_at (b := b) (cs := cs) (ls := ls) hi1 (by have := HN.out; have := HM.out; omega)
      have hno := hadO_no (b := b) (cs := cs) (ls := ls) (by have := HN.out; have := HM.out; omega) i
      rw [hho, Bool.and_true] at hha
      rw [hha] at hno
      rw [HOK.out] at hno
      obtain ⟨b', off, rfl, hb1, hb2, k1⟩ := hR.at_ hi1
      obtain ⟨b2', off2, rfl, hb3, hb4, k2⟩ := hL.at_ hi2
      have c1 : wr.cell? ⟨b', off + i, none⟩ = _ := (b1.cell hb2).trans k1
      have c2 : wr.cell? ⟨b2', off2 + i, none⟩ = _ := (b1.cell hb4).trans k2
      obtain ⟨c, hc⟩ : ∃ c, cs.getD i 0 = c := ⟨_, rfl⟩
      obtain ⟨l, hl⟩ : ∃ c, ls.getD i 0 = c := ⟨_, rfl⟩
      obtain ⟨e, he⟩ : ∃ c, trE (cs.drop (i + 1)) = c := ⟨_, rfl⟩
      rw [hc] at c1 htr hha hno
      rw [hl] at c2 hha hno
      rw [he] at htr ⊢
      have CO := fun W => own_ok W c b
      obtain ⟨o, ho⟩ : ∃ o, ownC c b = o := ⟨_, rfl⟩
      rw [ho] at CO
      have HTR := Lib.hid htr
      have HHA := Lib.hid hha
      have HNO := Lib.hid hno
      have HO := Lib.hid ho
      clear htr hha hno ho hc hl he hho k1 k2
      go_wp2
      go_quiet (fail)
      rename_i nq
      have b2 : Aft w (wr.drewN nq) := below_drewN b1 nq
      generalize wr.drewN nq = wq at *
      clear c1 c2 hL hR
      rcases e with _ | _ <;> rcases o with _ | _
      all_goals go_wp2_with (go_at_call 57; refine (CO _).mono ?_; rintro r5 w5 ⟨rfl, rfl⟩)
      all_goals simp only [beq_iff_eq, beq_eq_false_iff_ne, bne_iff_ne, bne_eq_false_iff_eq, ne_eq] at *
      all_goals first
        | (go_roundg i
           case rel =>
             have h2 := HHA.out
             rw [HTR.out] at h2
             unfold hadC at h2
             rw [HO.out] at h2
             refine ⟨by first | rfl | go_num, by omega, ?_, ?_, b2⟩
             · rw [HTR.out]
               refine congrArg Value.bool ?_
               rw [Bool.eq_iff_iff]
               clear h2
               split <;> simp <;> omega
             · rw [h2]
               clear h2
               split <;> (try split) <;> simp <;> omega
           case measure => omega)
        | (have hok0 : ok = false := by
             refine HNO.out ?_
             rw [HTR.out]
             unfold hadC
             rw [HO.out]
             split <;> (try split) <;> simp <;> omega
           subst hok0
           try rw [Exit.noGoto_ret]
           go_ret
           exact ⟨rfl, b2⟩)
end Go.Proofs.YtaekdnfpgkfjkaaDoor
