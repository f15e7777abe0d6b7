/- SpansEach: the plain law. -/
import Derived.Test.YtpdackbcnbhppaaX4
namespace Go.Proofs.Ytpdackbcnbhppaa
open Go.RowKit

theorem wayL_edge {v : Int} (h0 : 0 ≤ v) (h1 : v ≤ 126) : edgeI (wayL v) = true := by
  unfold wayL
  rw [if_neg (by omega), if_neg (by omega)]
  split <;> rfl
theorem clsP_get (nw ps : List Int) {k : Nat} (h : k < ps.length) : (clsP nw ps).getD k 0 = clsC (lvAt nw (ps.getD k 0)) := by
  unfold clsP
  rw [List.getD_eq_getElem?_getD, List.getElem?_map, List.getElem?_eq_getElem h, List.getD_eq_getElem?_getD, List.getElem?_eq_getElem h]
  rfl

structure Ech (cl nw lv : List Int) (ss : List Sq) : Prop where
  chk : ∀ s ∈ ss, chkL s = 0
  first : ss.Pairwise fun s s' => s.pl.getD 0 0 < s'.pl.getD 0 0
  place : ∀ s ∈ ss, 0 < s.pl.length ∧ s.cs.length = s.pl.length ∧ ∀ k, k < s.pl.length → ∃ a : Nat, s.pl.getD k 0 = a ∧ a < cl.length ∧ lv.getD a 0 = s.lv ∧ s.cs.getD k 0 = nw.getD a 0
  gap : ∀ s ∈ ss, Lnk (GapR cl) s.pl
  perm : (ss.flatMap Sq.pl).Perm (keptL cl)

section
variable {base : Int} (hb : base = 0 ∨ base = 1) (cl : List Int)
include hb
theorem lvK_ok (k : Int) : 0 ≤ lvK (txtOf cl (exC base cl) (exL base cl) base) k ∧ lvK (txtOf cl (exC base cl) (exL base cl) base) k ≤ 125 := by
  unfold lvK
  split
  · show 0 ≤ base ∧ base ≤ 125; omega
  · split
    · show 0 ≤ base ∧ base ≤ 125; omega
    · rename_i h1 h2
      show 0 ≤ lvAt (exL base cl) ((keptL cl).getD k.toNat 0) ∧ lvAt (exL base cl) ((keptL cl).getD k.toNat 0) ≤ 125
      have h3 : k.toNat < (keptL cl).length := by
        have : ¬ ((keptL cl).length : Int) ≤ k := h2
        omega
      obtain ⟨a, ea, la, ra⟩ := keptL_mem.1 (getD_mem0 (0 : Int) h3)
      rw [ea]
      have := ex_ok hb cl la ra
      show 0 ≤ (exL base cl).getD ((a : Int)).toNat 0 ∧ (exL base cl).getD ((a : Int)).toNat 0 ≤ 125
      rw [Int.toNat_natCast]; omega
theorem behindL_ok (p : Int) : 0 ≤ behindL (txtOf cl (exC base cl) (exL base cl) base) p ∧ behindL (txtOf cl (exC base cl) (exL base cl) base) p ≤ 125 := by
  unfold behindL
  split
  · show 0 ≤ base ∧ base ≤ 125; omega
  · exact lvK_ok hb cl _
theorem rn_lv {i : Nat} (h : i < (rnL (exL base cl) cl).length) : 0 ≤ ((rnL (exL base cl) cl).getD i default).v ∧ ((rnL (exL base cl) cl).getD i default).v ≤ 125 := by
  obtain ⟨a, b, ea, eb, la, _, _, m0, _, _, _, hv⟩ := first_last h
  obtain ⟨a', e', _, ra⟩ := (grps (exL base cl) cl).kept (grpAt_mem h) m0
  have e2 : a = a' := by omega
  subst e2
  have := ex_ok hb cl la ra
  rw [hv]
  show 0 ≤ (exL base cl).getD ((a : Int)).toNat 0 ∧ (exL base cl).getD ((a : Int)).toNat 0 ≤ 125
  rw [Int.toNat_natCast]; omega
theorem sqL_place {i : Nat} (h : i < (rnL (exL base cl) cl).length) {k : Nat} (hk : k < (plL (exL base cl) cl i).length) :
    ∃ a : Nat, (plL (exL base cl) cl i).getD k 0 = a ∧ a < cl.length ∧ remC (cl.getD a 0) = false ∧ (exL base cl).getD a 0 = ((rnL (exL base cl) cl).getD i default).v ∧ (sqL cl (exC base cl) (exL base cl) base i).cs.getD k 0 = (exC base cl).getD a 0 := by
  have hm := getD_mem0 (0 : Int) hk
  obtain ⟨a, ea, la, ra, _⟩ := plL_at h hm
  have hl := plL_level (ex_match hb cl) h hm
  rw [ea] at hl
  have ho := ex_ok hb cl la ra
  refine ⟨a, ea, la, ra, hl, ?_⟩
  show (clsP (exC base cl) (plL (exL base cl) cl i)).getD k 0 = _
  rw [clsP_get _ _ hk, ea]
  show clsC ((exC base cl).getD ((a : Int)).toNat 0) = _
  rw [Int.toNat_natCast]
  unfold clsC
  rw [if_neg (by omega), if_neg (by omega)]
theorem sqL_chk {i : Nat} (h : i < (rnL (exL base cl) cl).length) : chkL (sqL cl (exC base cl) (exL base cl) base i) = 0 := by
  have hlv := rn_lv hb cl h
  obtain ⟨t, ht⟩ := plL_ne h
  have hpos : 0 < (plL (exL base cl) cl i).length := by rw [ht]; simp
  unfold chkL
  have hpl : (sqL cl (exC base cl) (exL base cl) base i).pl = plL (exL base cl) cl i := rfl
  have hlv2 : (sqL cl (exC base cl) (exL base cl) base i).lv = ((rnL (exL base cl) cl).getD i default).v := rfl
  have hcs : (sqL cl (exC base cl) (exL base cl) base i).cs.length = (plL (exL base cl) cl i).length := clsP_length _ _
  have hso : edgeI (sqL cl (exC base cl) (exL base cl) base i).so = true := by
    refine wayL_edge ?_ ?_
    · have := (lvK_ok hb cl (lvAt (txtOf cl (exC base cl) (exL base cl) base).ix ((plL (exL base cl) cl i).getD 0 0) - 1)).1; omega
    · have := (lvK_ok hb cl (lvAt (txtOf cl (exC base cl) (exL base cl) base).ix ((plL (exL base cl) cl i).getD 0 0) - 1)).2; omega
  have heo : edgeI (sqL cl (exC base cl) (exL base cl) base i).eo = true := by
    refine wayL_edge ?_ ?_
    · have := (behindL_ok hb cl ((plL (exL base cl) cl i).getD ((plL (exL base cl) cl i).length - 1) 0)).1; omega
    · have := (behindL_ok hb cl ((plL (exL base cl) cl i).getD ((plL (exL base cl) cl i).length - 1) 0)).2; omega
  rw [if_neg]
  · rw [if_neg]
    simp only [List.any_eq_true, List.mem_range, not_exists, not_and]
    intro k hk
    rw [hpl] at hk
    obtain ⟨a, ea, la, ra, _, hc⟩ := sqL_place hb cl h hk
    have ho := ex_ok hb cl la ra
    unfold chkAt
    rw [hc, ho.2.2.2.2, hpl, ea]
    have e1 : clsC ((exC base cl).getD a 0) = (exC base cl).getD a 0 := by unfold clsC; rw [if_neg (by omega), if_neg (by omega)]
    rw [e1]
    have e2 : ¬ ((a : Int) ≤ lastAt (plL (exL base cl) cl i) k) := by
      unfold lastAt
      split
      · omega
      · rename_i hk0
        have := (plL_lnk h (k - 1) (by omega)).1
        have e : k - 1 + 1 = k := by omega
        rw [e, ea] at this
        omega
    simp [e2]
  · rw [hpl, hlv2, hcs, hso, heo]
    simp only [not_or]
    refine ⟨by omega, by simp, by omega, by omega, by simp, by simp⟩
theorem each_ok : Ech cl (exC base cl) (exL base cl) ((leads (rnL (exL base cl) cl).length (nxQ (exL base cl) cl)).map (sqL cl (exC base cl) (exL base cl) base)) := by
  refine ⟨fun s hs => ?_, ?_, fun s hs => ?_, fun s hs => ?_, ?_⟩
  · obtain ⟨i, hi, rfl⟩ := List.mem_map.1 hs
    exact sqL_chk hb cl (leads_mem.1 hi).1
  · rw [List.pairwise_map]
    refine List.Pairwise.imp_of_mem ?_ leads_pw
    intro i j hi hj hij
    have him := (leads_mem.1 hi).1
    have hjm := (leads_mem.1 hj).1
    obtain ⟨t, ht⟩ := plL_ne him
    obtain ⟨t', ht'⟩ := plL_ne hjm
    show (plL (exL base cl) cl i).getD 0 0 < (plL (exL base cl) cl j).getD 0 0
    rw [ht, ht']
    exact grp_lt hij hjm (getD_mem0 _ (List.length_pos_iff.2 ((grps (exL base cl) cl).ne _ (grpAt_mem him)))) (getD_mem0 _ (List.length_pos_iff.2 ((grps (exL base cl) cl).ne _ (grpAt_mem hjm))))
  · obtain ⟨i, hi, rfl⟩ := List.mem_map.1 hs
    have him := (leads_mem.1 hi).1
    obtain ⟨t, ht⟩ := plL_ne him
    refine ⟨by show 0 < (plL (exL base cl) cl i).length; rw [ht]; simp, clsP_length _ _, fun k hk => ?_⟩
    obtain ⟨a, ea, la, _, hl, hc⟩ := sqL_place hb cl him hk
    exact ⟨a, ea, la, hl, hc⟩
  · obtain ⟨i, hi, rfl⟩ := List.mem_map.1 hs
    exact plL_lnk (leads_mem.1 hi).1
  · rw [List.flatMap_map]
    exact places_perm
theorem seqs_ok : seqsL cl (exC base cl) (exL base cl) base = ((leads (rnL (exL base cl) cl).length (nxQ (exL base cl) cl)).map (sqL cl (exC base cl) (exL base cl) base), 0) := by
  obtain ⟨h1, h2⟩ := runS_len base cl (auP cl) cl.length
  unfold seqsL
  have e1 : (exC base cl).length = cl.length := h2
  have e2 : (exL base cl).length = cl.length := h1
  rw [if_neg (by rw [e1, e2]; omega), if_neg, seqsOf_eq]
  simp only [List.any_eq_true, not_exists, not_and]
  intro x hx
  obtain ⟨a, rfl, la, ra⟩ := keptL_mem.1 hx
  have ho := ex_ok hb cl la ra
  unfold badK
  have e3 : lvAt (exL base cl) (a : Int) = (exL base cl).getD a 0 := by unfold lvAt; rw [Int.toNat_natCast]
  have e4 : lvAt (exC base cl) (a : Int) = (exC base cl).getD a 0 := by unfold lvAt; rw [Int.toNat_natCast]
  rw [e3, e4, ho.2.2.2.2, decide_eq_false (by omega), decide_eq_false (by omega)]
  decide
end
end Go.Proofs.Ytpdackbcnbhppaa
